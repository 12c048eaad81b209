/- Walks of the laws on counts of keys at drawn values: each returns true. No conditions. -/
import Derived.Test.YtjdjhfdjafdhoaaCountP
import Derived.Test.YtjdjhfdjafdhoaaDrawK
namespace Go.Proofs.Ytjdjhfdjafdhoaa
open Go.ChangeShapes Go.WideShapes Go.ChangeAt Go.RowKit
theorem cb_yes {ks : List (Int × Int)} {b : Int} (h : cbOk ks b = true) : ∃ B : Nat, b = (B : Int) ∧ 1 ≤ B ∧ B ≤ 16 ∧ kaB ks = true ∧ cbL ks b = cntL ks B := by
  obtain ⟨h1, h2, h3⟩ := cbOk_iff.1 h
  obtain ⟨B, rfl⟩ := Int.eq_ofNat_of_zero_le (show 0 ≤ b by omega)
  exact ⟨B, rfl, by omega, by omega, h1, by rw [cbL, if_pos h]; rfl⟩
theorem cb_no {ks : List (Int × Int)} {b : Int} (h : cbOk ks b = false) : cbL ks b = [] := by simp [cbL, h]
theorem law_FnLongestBucket (w : World) (ao : Option Addr) (len cap : Nat) (h : CodeIn w ao len cap) : Calls Try.prog 6 #[.slice ao len cap] w fun r w' => r = .returned (.bool true) ∧ Below w.heap.size w w' := by
  have HC := Lib.hid h
  clear h
  by_cases hl : 1048576 < len
  · go_enter Try.func6, Try.ntmps6
    go_wp2
    go_ret
    exact ⟨rfl, by (repeat' (first | with_reducible exact Below.refl _ _ | (with_reducible refine balloc ?_ _) | (with_reducible refine bset ?_ ?_ _) | (with_reducible refine bdrew ?_) | (with_reducible refine bdrewN ?_ _) | (with_reducible refine bstep ?_ (by with_reducible assumption)) | (with_reducible refine bgrow ?_ (by with_reducible assumption) (by omega)) | (simp; done) | (simp; omega)))⟩
  have hl' : len ≤ 1048576 := by omega
  clear hl
  go_enter Try.func6, Try.ntmps6
  go_wp2_with (fail)
  refine (spec_DrawLongestBucket _ _ _ _ HC.out).mono ?_
  rintro e w1 ⟨A, c, ks, b, rfl, hk, hc1, hc2, hs1, hb1⟩
  have HS := Lib.hid hs1
  clear hs1
  have IK := fun (lo hi : Nat) (w : World) (h : Sl w lo hi 31 2 A ks.length (kcells ks)) => impl_LongestBucket A ks.length c lo hi b ks w h (by omega)
  have SK := fun (lo hi : Nat) (w : World) (h : Sl w lo hi 31 2 A ks.length (kcells ks)) => spec_LongestBucket A ks.length c lo hi b ks w h (by omega)
  have i1 : (ks.length : Int) ≤ 12 := by omega
  by_cases hok : cbOk ks b = true
  · obtain ⟨B, rfl, hB1, hB2, hka, hL⟩ := cb_yes hok
    rw [hL, hok] at IK SK
    obtain ⟨r1, r2⟩ := mx_range ks B
    obtain ⟨r3, r4⟩ := mx_range ks (2 * B)
    obtain ⟨q1, q2⟩ := mx_half (ks := ks) hB1
    have IK2 := fun (lo hi : Nat) (w : World) (h : Sl w lo hi 31 2 A ks.length (kcells ks)) => impl_LongestBucket A ks.length c lo hi (2 * (B : Int)) ks w h (by omega)
    by_cases h8 : B ≤ 8
    · have ok2 : cbOk ks (2 * (B : Int)) = true := cbOk_iff.2 ⟨hka, by omega, by omega⟩
      have e2 : cbL ks (2 * (B : Int)) = cntL ks (2 * B) := by rw [cbL, if_pos ok2]; congr 1
      rw [ok2, e2] at IK2
      generalize mxL (cntL ks B) = m at *
      generalize mxL (cntL ks (2 * B)) = m2 at *
      have IH := Lib.hid IK
      have SH := Lib.hid SK
      have IH2 := Lib.hid IK2
      clear IK SK IK2 hok hL ok2 e2 hka
      go_wp2_with (fail)
      refine (IH.out _ _ w1 HS.out).mono ?_
      rintro e w2 ⟨rfl, hb2⟩
      go_wp2_with (fail)
      refine (SH.out _ _ w2 (HS.out.below hb2)).mono ?_
      rintro e w3 ⟨rfl, hb3⟩
      go_wp2_with (fail)
      refine (IH2.out _ _ w3 ((HS.out.below hb2).below hb3)).mono ?_
      rintro e w4 ⟨rfl, hb4⟩
      have hB4 := bstep (bstep (bstep hb1 hb2) hb3) hb4
      clear hb1 hb2 hb3 hb4
      have d1 : decide (m2 ≤ m) = true := by simpa using q1
      have d2 : decide (m ≤ 2 * m2) = true := by simpa using q2
      go_wp2
      all_goals (go_ret; exact ⟨rfl, hB4⟩)
    · have ok2 : cbOk ks (2 * (B : Int)) = false := by
        rcases hq : cbOk ks (2 * (B : Int)) with _ | _
        · rfl
        · have := (cbOk_iff.1 hq).2.2; omega
      rw [ok2] at IK2
      generalize mxL (cntL ks B) = m at *
      generalize mxL (cbL ks (2 * (B : Int))) = m2 at *
      have IH := Lib.hid IK
      have SH := Lib.hid SK
      have IH2 := Lib.hid IK2
      clear IK SK IK2 hok hL ok2 hka
      go_wp2_with (fail)
      refine (IH.out _ _ w1 HS.out).mono ?_
      rintro e w2 ⟨rfl, hb2⟩
      go_wp2_with (fail)
      refine (SH.out _ _ w2 (HS.out.below hb2)).mono ?_
      rintro e w3 ⟨rfl, hb3⟩
      go_wp2_with (fail)
      refine (IH2.out _ _ w3 ((HS.out.below hb2).below hb3)).mono ?_
      rintro e w4 ⟨rfl, hb4⟩
      have hB4 := bstep (bstep (bstep hb1 hb2) hb3) hb4
      clear hb1 hb2 hb3 hb4
      go_wp2
      all_goals (go_ret; exact ⟨rfl, hB4⟩)
  · have hok' : cbOk ks b = false := by simpa using hok
    have e0 : mxL (cbL ks b) = 0 := by rw [cb_no hok']; rfl
    rw [hok', e0] at IK SK
    have IH := Lib.hid IK
    have SH := Lib.hid SK
    clear IK SK hok hok' e0
    go_wp2_with (fail)
    refine (IH.out _ _ w1 HS.out).mono ?_
    rintro e w2 ⟨rfl, hb2⟩
    go_wp2_with (fail)
    refine (SH.out _ _ w2 (HS.out.below hb2)).mono ?_
    rintro e w3 ⟨rfl, hb3⟩
    have hB4 := bstep (bstep hb1 hb2) hb3
    clear hb1 hb2 hb3
    go_wp2
    all_goals (go_ret; exact ⟨rfl, hB4⟩)
theorem law_FnCountBuckets (w : World) (ao : Option Addr) (len cap : Nat) (h : CodeIn w ao len cap) : Calls Try.prog 7 #[.slice ao len cap] w fun r w' => r = .returned (.bool true) ∧ Below w.heap.size w w' := by
  have HC := Lib.hid h
  clear h
  by_cases hl : 1048576 < len
  · go_enter Try.func7, Try.ntmps7
    go_wp2
    go_ret
    exact ⟨rfl, by (repeat' (first | with_reducible exact Below.refl _ _ | (with_reducible refine balloc ?_ _) | (with_reducible refine bset ?_ ?_ _) | (with_reducible refine bdrew ?_) | (with_reducible refine bdrewN ?_ _) | (with_reducible refine bstep ?_ (by with_reducible assumption)) | (with_reducible refine bgrow ?_ (by with_reducible assumption) (by omega)) | (simp; done) | (simp; omega)))⟩
  have hl' : len ≤ 1048576 := by omega
  clear hl
  go_enter Try.func7, Try.ntmps7
  go_wp2_with (fail)
  refine (spec_DrawCountBuckets _ _ _ _ HC.out).mono ?_
  rintro e w1 ⟨A, c, ks, b, rfl, hk, hc1, hc2, hs1, hb1⟩
  have HS := Lib.hid hs1
  clear hs1
  have IK := fun (lo hi : Nat) (w : World) (h : Sl w lo hi 31 2 A ks.length (kcells ks)) => impl_CountBuckets A ks.length c lo hi b ks w h (by omega)
  have SK := fun (lo hi : Nat) (w : World) (h : Sl w lo hi 31 2 A ks.length (kcells ks)) => spec_CountBuckets A ks.length c lo hi b ks w h (by omega)
  have i1 : (ks.length : Int) ≤ 12 := by omega
  by_cases hok : cbOk ks b = true
  · obtain ⟨B, rfl, hB1, hB2, hka, hL⟩ := cb_yes hok
    have LK := fun (lo hi : Nat) (w : World) (h : Sl w lo hi 31 2 A ks.length (kcells ks)) => impl_LongestBucket A ks.length c lo hi (B : Int) ks w h (by omega)
    rw [hL, hok] at IK SK LK
    have hsum := cnt_sum ks B hB1
    obtain ⟨q1, q2⟩ := mx_sum ks B hB1
    have q3 := (mx_range ks B).1
    have hts := take_sum (cntL ks B) (cntL_pos ks B)
    have hll := cntL_len ks B
    have q4 : 0 ≤ mxL (cntL ks B) * (B : Int) := Int.mul_nonneg q3 (by omega)
    have q5 : mxL (cntL ks B) * (B : Int) ≤ 12 * 16 := Int.mul_le_mul (by omega) (by omega) (by omega) (by omega)
    rw [hsum] at hts
    generalize mxL (cntL ks B) = m at *
    generalize cntL ks B = L at *
    subst hll
    have IH := Lib.hid IK
    have SH := Lib.hid SK
    have LH := Lib.hid LK
    have HSum := Lib.hid hsum
    have HTS := Lib.hid hts
    clear IK SK LK hok hL hsum hts hka
    go_wp2_with (fail)
    refine (IH.out _ _ w1 HS.out).mono ?_
    rintro e w2 ⟨A2, c2, rfl, hc21, hc22, hs2, hb2⟩
    go_wp2_with (fail)
    refine (SH.out _ _ w2 (HS.out.below hb2)).mono ?_
    rintro e w3 ⟨A3, c3, rfl, hc31, hc32, hs3, hb3⟩
    go_wp2_with (fail)
    refine (laws_ipInts A2 A3 _ _ _ _ _ _ _ L w3 (hs2.below hb3) hs3 (by omega)).mono ?_
    rintro e w4 ⟨rfl, hb4⟩
    have HS4 := Lib.hid (((HS.out.below hb2).below hb3).below hb4)
    have HC4 := Lib.hid ((hs2.below hb3).below hb4)
    have hB4 := bstep (bstep (bstep hb1 hb2) hb3) hb4
    clear hs2 hs3 hb1 hb2 hb3 hb4
    go_wp2_with (fail)
    go_loopw [9, 10] (fun v i wr => ∃ k : Nat, k ≤ L.length ∧ i = .int .i64 k ∧ v = .int .i64 ((L.take k).sum) ∧ Below w4.heap.size w4 wr) (fun _ i _ => L.length - (intOf i).toNat)
    case atStart => exact ⟨0, by omega, rfl, rfl, Below.refl _ _⟩
    case round =>
      obtain ⟨k, hk', rfl, rfl, hb⟩ := hrel
      obtain ⟨p1, p2⟩ := HTS.out k
      by_cases hlt : k < L.length
      · obtain ⟨g, rfl, _, _, hg1, hg2, _⟩ := (HC4.out.below hb).int hlt
        obtain ⟨p3, p4⟩ := HTS.out (k + 1)
        have hsn : (L.take (k + 1)).sum = (L.take k).sum + L.getD k 0 := by rw [take_snoc' L 0 k hlt, List.sum_append]; simp
        generalize L.getD k 0 = z at *
        generalize (L.take k).sum = s0 at *
        have HSN := Lib.hid hsn
        have p5 : s0 + z ≤ 12 := by omega
        have p6 : 0 ≤ s0 + z := by omega
        have i2 : (0 : Int) ≤ (k : Int) := by omega
        have i3 : (k : Int) < (L.length : Int) := by omega
        clear hsn p3 p4
        go_wp2
        go_roundw
        case rel => exact ⟨k + 1, by omega, by go_num, by rw [HSN.out], hb⟩
        case measure => simp [intOf]; omega
      · obtain rfl : k = L.length := by omega
        have hsum := HSum.out
        rw [List.take_length, hsum] at *
        clear p1 p2
        go_wp2_with (fail)
        refine (LH.out _ _ wr (HS4.out.below hb)).mono ?_
        rintro e w6 ⟨rfl, hb6⟩
        have hB6 := bstep (bstep hB4 hb) hb6
        have d1 : decide ((ks.length : Int) ≤ m * (L.length : Int)) = true := by simpa using q1
        have d2 : decide (m ≤ (ks.length : Int)) = true := by simpa using q2
        have d3 : ((ks.length : Int) == (ks.length : Int)) = true := by simp
        clear hsum hb hb6
        go_wp2
        all_goals (go_ret; exact ⟨rfl, hB6⟩)
  · have hok' : cbOk ks b = false := by simpa using hok
    have e0 := cb_no hok'
    rw [hok', e0] at IK SK
    have IH := Lib.hid IK
    have SH := Lib.hid SK
    clear IK SK hok hok' e0
    go_wp2_with (fail)
    refine (IH.out _ _ w1 HS.out).mono ?_
    rintro e w2 ⟨A2, c2, rfl, hc21, hc22, hs2, hb2⟩
    go_wp2_with (fail)
    refine (SH.out _ _ w2 (HS.out.below hb2)).mono ?_
    rintro e w3 ⟨A3, c3, rfl, hc31, hc32, hs3, hb3⟩
    go_wp2_with (fail)
    refine (laws_ipInts A2 A3 _ _ _ _ _ _ _ [] w3 (hs2.below hb3) hs3 (by simp)).mono ?_
    rintro e w4 ⟨rfl, hb4⟩
    go_wp2_with (fail)
    refine (laws_ipInts A2 A3 _ _ _ _ _ _ _ [] w4 ((hs2.below hb3).below hb4) (hs3.below hb4) (by simp)).mono ?_
    rintro e w5 ⟨rfl, hb5⟩
    have hB := bstep (bstep (bstep (bstep hb1 hb2) hb3) hb4) hb5
    clear hs2 hs3 hb1 hb2 hb3 hb4
    go_wp2
    all_goals (go_ret; exact ⟨rfl, hB⟩)
theorem law_FnBestBuckets (w : World) (ao : Option Addr) (len cap : Nat) (h : CodeIn w ao len cap) : Calls Try.prog 11 #[.slice ao len cap] w fun r w' => r = .returned (.bool true) ∧ Below w.heap.size w w' := by
  have HC := Lib.hid h
  clear h
  by_cases hl : 1048576 < len
  · go_enter Try.func11, Try.ntmps11
    go_wp2
    go_ret
    exact ⟨rfl, by (repeat' (first | with_reducible exact Below.refl _ _ | (with_reducible refine balloc ?_ _) | (with_reducible refine bset ?_ ?_ _) | (with_reducible refine bdrew ?_) | (with_reducible refine bdrewN ?_ _) | (with_reducible refine bstep ?_ (by with_reducible assumption)) | (with_reducible refine bgrow ?_ (by with_reducible assumption) (by omega)) | (simp; done) | (simp; omega)))⟩
  have hl' : len ≤ 1048576 := by omega
  clear hl
  go_enter Try.func11, Try.ntmps11
  go_wp2_with (fail)
  refine (spec_DrawBestBuckets _ _ _ _ HC.out).mono ?_
  rintro e w1 ⟨A, c, ks, rfl, hk, hc1, hc2, hs1, hb1⟩
  have HS := Lib.hid hs1
  clear hs1
  have IK := fun (lo hi : Nat) (w : World) (h : Sl w lo hi 31 2 A ks.length (kcells ks)) => impl_BestBuckets A ks.length c lo hi ks w h (by omega)
  have SK := fun (lo hi : Nat) (w : World) (h : Sl w lo hi 31 2 A ks.length (kcells ks)) => spec_BestBuckets A ks.length c lo hi ks w h (by omega)
  have i1 : (ks.length : Int) ≤ 12 := by omega
  by_cases hka : kaB ks = true
  · have e2 : bbN ks = (bst ks 16 : Int) := by simp [bbN, hka]
    rw [e2, hka] at IK SK
    obtain ⟨b1, b2⟩ := bst_range ks 16
    have hbest := bst_best ks 16
    have LK := fun (B : Nat) (q1 : 1 ≤ B) (q2 : B ≤ 16) (lo hi : Nat) (w : World) (h : Sl w lo hi 31 2 A ks.length (kcells ks)) => impl_LongestBucket A ks.length c lo hi (B : Int) ks w h (by omega)
    have LK2 : ∀ (B : Nat) (q1 : 1 ≤ B) (q2 : B ≤ 16) (lo hi : Nat) (w : World) (h : Sl w lo hi 31 2 A ks.length (kcells ks)), Calls Try.prog 20 #[.slice A ks.length c, .int .i64 (B : Int)] w (RetIB (mxL (cntL ks B)) true w) := by
      intro B q1 q2 lo hi w h
      have ok : cbOk ks (B : Int) = true := cbOk_iff.2 ⟨hka, by omega, by omega⟩
      have e : cbL ks (B : Int) = cntL ks B := by rw [cbL, if_pos ok]; rfl
      have := LK B q1 q2 lo hi w h
      rw [ok, e] at this
      exact this
    generalize bst ks 16 = t at *
    obtain ⟨m3, m4⟩ := mx_range ks t
    have IH := Lib.hid IK
    have SH := Lib.hid SK
    have LH := Lib.hid LK2
    have HBest := Lib.hid hbest
    clear IK SK LK LK2 hbest e2
    go_wp2_with (fail)
    refine (IH.out _ _ w1 HS.out).mono ?_
    rintro e w2 ⟨rfl, hb2⟩
    go_wp2_with (fail)
    refine (SH.out _ _ w2 (HS.out.below hb2)).mono ?_
    rintro e w3 ⟨rfl, hb3⟩
    go_wp2_with (fail)
    refine (LH.out t (by omega) (by omega) _ _ w3 ((HS.out.below hb2).below hb3)).mono ?_
    rintro e w4 ⟨rfl, hb4⟩
    have HS4 := Lib.hid (((HS.out.below hb2).below hb3).below hb4)
    have hB4 := bstep (bstep (bstep hb1 hb2) hb3) hb4
    clear hb1 hb2 hb3 hb4
    go_wp2
    go_loopw [10] (fun i wr => ∃ k : Nat, 1 ≤ k ∧ k ≤ 17 ∧ i = .int .i64 k ∧ Below w4.heap.size w4 wr) (fun i _ => 17 - (intOf i).toNat)
    case atStart => exact ⟨1, by omega, by omega, rfl, Below.refl _ _⟩
    case round =>
      obtain ⟨k, hk1, hk2, rfl, hb⟩ := hrel
      by_cases hlt : k ≤ 16
      · obtain ⟨f1, f2⟩ := HBest.out k hk1 hlt
        obtain ⟨g1, g2⟩ := mx_range ks k
        have hlk := LH.out k hk1 hlt
        generalize mxL (cntL ks k) = mk at *
        generalize mxL (cntL ks t) = mt at *
        have HLK := Lib.hid hlk
        have d1 : decide (mk < mt) = false := by simp; omega
        clear hlk
        by_cases hkt : k < t
        · have f3 := f2 hkt
          have d2 : (mk == mt) = false := by simp; omega
          clear f2
          go_wp2_with (fail)
          refine (HLK.out _ _ wr (HS4.out.below hb)).mono ?_
          rintro e w6 ⟨rfl, hb6⟩
          have hb7 := bstep hb hb6
          clear hb6
          go_wp2
          go_roundw
          case rel => exact ⟨k + 1, by omega, by omega, by go_num, hb7⟩
          case measure => simp [intOf]; omega
        · have d2 : decide ((k : Int) < (t : Int)) = false := by simp; omega
          clear f2
          go_wp2_with (fail)
          refine (HLK.out _ _ wr (HS4.out.below hb)).mono ?_
          rintro e w6 ⟨rfl, hb6⟩
          have hb7 := bstep hb hb6
          clear hb6
          go_wp2
          go_roundw
          case rel => exact ⟨k + 1, by omega, by omega, by go_num, hb7⟩
          case measure => simp [intOf]; omega
      · have hB5 := bstep hB4 hb
        go_wp2
        go_ret
        exact ⟨rfl, hB5⟩
  · have hka' : kaB ks = false := by simpa using hka
    have e2 : bbN ks = 0 := by simp [bbN, hka']
    rw [e2, hka'] at IK SK
    have IH := Lib.hid IK
    have SH := Lib.hid SK
    clear IK SK hka e2
    go_wp2_with (fail)
    refine (IH.out _ _ w1 HS.out).mono ?_
    rintro e w2 ⟨rfl, hb2⟩
    go_wp2_with (fail)
    refine (SH.out _ _ w2 (HS.out.below hb2)).mono ?_
    rintro e w3 ⟨rfl, hb3⟩
    have hB4 := bstep (bstep hb1 hb2) hb3
    clear hb1 hb2 hb3
    go_wp2
    all_goals (go_ret; exact ⟨rfl, hB4⟩)
theorem law_FnBestOne (w : World) (ao : Option Addr) (len cap : Nat) (h : CodeIn w ao len cap) : Calls Try.prog 8 #[.slice ao len cap] w fun r w' => r = .returned (.bool true) ∧ Below w.heap.size w w' := by
  have HC := Lib.hid h
  clear h
  by_cases hl : 1048576 < len
  · go_enter Try.func8, Try.ntmps8
    go_wp2
    go_ret
    exact ⟨rfl, by (repeat' (first | with_reducible exact Below.refl _ _ | (with_reducible refine balloc ?_ _) | (with_reducible refine bset ?_ ?_ _) | (with_reducible refine bdrew ?_) | (with_reducible refine bdrewN ?_ _) | (with_reducible refine bstep ?_ (by with_reducible assumption)) | (with_reducible refine bgrow ?_ (by with_reducible assumption) (by omega)) | (simp; done) | (simp; omega)))⟩
  have hl' : len ≤ 1048576 := by omega
  clear hl
  go_enter Try.func8, Try.ntmps8
  go_wp2_with (fail)
  refine (spec_DrawBestBuckets _ _ _ _ HC.out).mono ?_
  rintro e w1 ⟨A, c, ks, rfl, hk, hc1, hc2, hs1, hb1⟩
  have HS := Lib.hid hs1
  clear hs1
  have IK := fun (lo hi : Nat) (w : World) (h : Sl w lo hi 31 2 A ks.length (kcells ks)) => impl_BestBuckets A ks.length c lo hi ks w h (by omega)
  have SK := fun (lo hi : Nat) (w : World) (h : Sl w lo hi 31 2 A ks.length (kcells ks)) => spec_BestBuckets A ks.length c lo hi ks w h (by omega)
  have i1 : (ks.length : Int) ≤ 12 := by omega
  unfold maxLen at hc2
  by_cases hka : kaB ks = true
  · have e2 : bbN ks = (bst ks 16 : Int) := by simp [bbN, hka]
    rw [e2, hka] at IK SK
    obtain ⟨b1, b2⟩ := bst_range ks 16
    by_cases hl1 : 1 < ks.length
    · have hl2 : (ks.take 1).length ≤ 1 := by simp; omega
      have hka1 := kaB_take hka 1
      have IK1 := fun (lo hi : Nat) (w : World) (h : Sl w lo hi 31 2 A 1 (kcells (ks.take 1))) => impl_BestBuckets A 1 c lo hi (ks.take 1) w h (by omega)
      have e3 : bbN (ks.take 1) = 1 := by rw [bbN, if_pos hka1, bst_single hl2]; rfl
      rw [e3, hka1] at IK1
      generalize bst ks 16 = t at *
      have IH := Lib.hid IK
      have SH := Lib.hid SK
      have IH1 := Lib.hid IK1
      clear IK SK IK1 e2 e3 hka1 hl2
      go_wp2_with (fail)
      refine (IH.out _ _ w1 HS.out).mono ?_
      rintro e w2 ⟨rfl, hb2⟩
      go_wp2_with (fail)
      refine (SH.out _ _ w2 (HS.out.below hb2)).mono ?_
      rintro e w3 ⟨rfl, hb3⟩
      go_wp2_with (fail)
      refine (IH1.out _ _ w3 (((HS.out.below hb2).below hb3).pre (by omega))).mono ?_
      rintro e w4 ⟨rfl, hb4⟩
      have hB4 := bstep (bstep (bstep hb1 hb2) hb3) hb4
      clear hb1 hb2 hb3 hb4
      have d1 : decide ((1 : Int) ≤ (t : Int)) = true := by simp; omega
      have d2 : decide ((t : Int) ≤ 16) = true := by simp; omega
      go_wp2
      all_goals (go_ret; exact ⟨rfl, hB4⟩)
    · have e3 := bst_single (ks := ks) (by omega) 16
      rw [e3] at IK SK
      have IH := Lib.hid IK
      have SH := Lib.hid SK
      clear IK SK e2 e3 b1 b2
      have i2 : (ks.length : Int) ≤ 1 := by omega
      go_wp2_with (fail)
      refine (IH.out _ _ w1 HS.out).mono ?_
      rintro e w2 ⟨rfl, hb2⟩
      go_wp2_with (fail)
      refine (SH.out _ _ w2 (HS.out.below hb2)).mono ?_
      rintro e w3 ⟨rfl, hb3⟩
      have hB4 := bstep (bstep hb1 hb2) hb3
      clear hb1 hb2 hb3
      go_wp2
      all_goals (go_ret; exact ⟨rfl, hB4⟩)
  · have hka' : kaB ks = false := by simpa using hka
    have e2 : bbN ks = 0 := by simp [bbN, hka']
    rw [e2, hka'] at IK SK
    have IH := Lib.hid IK
    have SH := Lib.hid SK
    clear IK SK hka e2
    go_wp2_with (fail)
    refine (IH.out _ _ w1 HS.out).mono ?_
    rintro e w2 ⟨rfl, hb2⟩
    go_wp2_with (fail)
    refine (SH.out _ _ w2 (HS.out.below hb2)).mono ?_
    rintro e w3 ⟨rfl, hb3⟩
    have hB4 := bstep (bstep hb1 hb2) hb3
    clear hb1 hb2 hb3
    go_wp2
    all_goals (go_ret; exact ⟨rfl, hB4⟩)
theorem law_FnCountOrder (w : World) (ao : Option Addr) (len cap : Nat) (h : CodeIn w ao len cap) : Calls Try.prog 3 #[.slice ao len cap] w fun r w' => r = .returned (.bool true) ∧ Below w.heap.size w w' := by
  have HC := Lib.hid h
  clear h
  by_cases hl : 1048576 < len
  · go_enter Try.func3, Try.ntmps3
    go_wp2
    go_ret
    exact ⟨rfl, by (repeat' (first | with_reducible exact Below.refl _ _ | (with_reducible refine balloc ?_ _) | (with_reducible refine bset ?_ ?_ _) | (with_reducible refine bdrew ?_) | (with_reducible refine bdrewN ?_ _) | (with_reducible refine bstep ?_ (by with_reducible assumption)) | (with_reducible refine bgrow ?_ (by with_reducible assumption) (by omega)) | (simp; done) | (simp; omega)))⟩
  have hl' : len ≤ 1048576 := by omega
  clear hl
  go_enter Try.func3, Try.ntmps3
  go_wp2_with (fail)
  refine (spec_DrawCountBuckets _ _ _ _ HC.out).mono ?_
  rintro e w1 ⟨A, c, ks, b, rfl, hk, hc1, hc2, hs1, hb1⟩
  have HS := Lib.hid hs1
  clear hs1
  have IK := fun (lo hi : Nat) (w : World) (h : Sl w lo hi 31 2 A ks.length (kcells ks)) => impl_CountBuckets A ks.length c lo hi b ks w h (by omega)
  have SK := fun (lo hi : Nat) (w : World) (h : Sl w lo hi 31 2 A ks.length (kcells ks)) => spec_CountBuckets A ks.length c lo hi b ks w h (by omega)
  have i1 : (ks.length : Int) ≤ 12 := by omega
  have hll := cbL_len ks b
  by_cases hok : cbOk ks b = true
  · have RK : ∀ (A : Option Addr) (c lo hi : Nat) (w : World) (h : Sl w lo hi 31 2 A ks.length (kcells ks.reverse)), Calls Try.prog 13 #[.slice A ks.length c, .int .i64 b] w (SlB (cbL ks b) true w) := by
      intro A c lo hi w h
      have := impl_CountBuckets A ks.length c lo hi b ks.reverse w h (by omega)
      rw [(cb_reverse ks b).1, (cb_reverse ks b).2, hok] at this
      exact this
    rw [hok] at IK SK
    generalize cbL ks b = L at *
    have IH := Lib.hid IK
    have SH := Lib.hid SK
    have RH := Lib.hid RK
    clear IK SK RK hok
    obtain ⟨i0, hi0, hz0, hz1, hz2⟩ := info_parts key_info
    go_wp2_with (fail)
    refine (IH.out _ _ w1 HS.out).mono ?_
    rintro e w2 ⟨A2, c2, rfl, hc21, hc22, hs2, hb2⟩
    go_wp2_with (fail)
    refine (SH.out _ _ w2 (HS.out.below hb2)).mono ?_
    rintro e w3 ⟨A3, c3, rfl, hc31, hc32, hs3, hb3⟩
    go_wp2_with (fail)
    refine (laws_ipInts A2 A3 _ _ _ _ _ _ _ L w3 (hs2.below hb3) hs3 (by omega)).mono ?_
    rintro e w4 ⟨rfl, hb4⟩
    have HS4 := Lib.hid (((HS.out.below hb2).below hb3).below hb4)
    have HC4 := Lib.hid ((hs2.below hb3).below hb4)
    have hB4 := bstep (bstep (bstep hb1 hb2) hb3) hb4
    clear hs2 hs3 hb1 hb2 hb3 hb4
    have hz4 := HS4.out
    have hown0 : (w4.alloc (.cells #[] 31)).ownsRow w4.heap.size 31 2 (.slice (some ⟨w4.heap.size, 0, none⟩) 0 0) (ks.length - ks.length) (kcells (ks.drop ks.length).reverse) := by
      rw [List.drop_length, Nat.sub_self]; exact World.ownsRow_lit w4 #[] 0 (Nat.le_refl _) (by unfold maxLen; omega) rfl
    have HO0 := Lib.hid hown0
    clear hz4 hown0
    go_wp2
    go_loopw [9, 10] (fun v i wr => ∃ j : Nat, j ≤ ks.length ∧ i = .int .i64 ((j : Int) - 1) ∧ wr.ownsRow w4.heap.size 31 2 v (ks.length - j) (kcells (ks.drop j).reverse) ∧ Below w4.heap.size w4 wr) (fun _ i _ => (intOf i + 1).toNat)
    case atStart => exact ⟨ks.length, Nat.le_refl _, rfl, HO0.out, Joins.below_alloc1 _ _⟩
    case round =>
      obtain ⟨j, hj, rfl, hown, hb⟩ := hrel
      have HO := Lib.hid hown
      have hsz := hb.size
      clear hown
      by_cases hlt : 0 < j
      · obtain ⟨q, rfl⟩ : ∃ q, j = q + 1 := ⟨j - 1, by omega⟩
        obtain ⟨g, rfl, _, _, hg1, hg2, hg3, _⟩ := (HS4.out.below hb).key (k := q) (by omega)
        have hdr : (ks.drop q).reverse = (ks.drop (q + 1)).reverse ++ [ks.getD q (0, 0)] := by
          rw [List.drop_eq_getElem_cons (by omega), List.reverse_cons]; simp [List.getD_eq_getElem?_getD, show q < ks.length by omega]
        have hdl : ks.length - (q + 1) + 1 = ks.length - q := by omega
        generalize ks.getD q (0, 0) = z at *
        obtain ⟨z1, z2⟩ := z
        simp only [] at hg2 hg3
        have HD := Lib.hid hdr
        have HDL := Lib.hid hdl
        have i2 : (0 : Int) ≤ (q : Int) := by omega
        have i3 : (q : Int) < (ks.length : Int) := by omega
        rw [show ((q + 1 : Nat) : Int) - 1 = (q : Int) by omega]
        clear hdr hdl
        go_wp2_with (at_builtin; refine wpList_append_own _ rfl _ _ 23 rfl w4.heap.size 31 i0 _ 2 16 Try.underlying23 hi0 hz0 hz1 hz2 rfl (by decide) _ _ _ rfl (HO.out.alloc (.cells #[.int .i64 z1, .int .i64 z2] 31)) _ _ _ [.int .i64 z1, .int .i64 z2] rfl rfl ?c1 ?c2 ?c3 ?c4 ?c5 ?_)
        case c1 => exact cells_new2 (by simp)
        case c2 => intro u hu; simp at hu; rcases hu with rfl | rfl <;> rfl
        case c3 => unfold maxLen; omega
        case c4 => omega
        case c5 => simp; omega
        intro v' w6 hown' hgrow _
        have hb6 : Below w4.heap.size w4 w6 := below_app (hb.alloc hsz _) (by simp; omega) (HO.out.alloc _) hgrow
        rw [kcells_snoc, ← HD.out, HDL.out] at hown'
        have R := Lib.hid (And.intro hown' hb6)
        clear hown' hb6 hgrow
        go_wp2
        go_roundw
        case rel => exact ⟨q, by omega, by go_num, R.out.1, R.out.2⟩
        case measure => first | (simp [intOf]; done) | (simp [intOf]; omega)
      · obtain rfl : j = 0 := by omega
        rw [List.drop_zero, Nat.sub_zero] at HO
        obtain ⟨A6, c6, rfl, hc61, hc62, hs6⟩ := Sl.own HO.out
        go_wp2_with (fail)
        refine (RH.out A6 c6 _ _ wr hs6).mono ?_
        rintro e w7 ⟨A7, c7, rfl, hc71, hc72, hs7, hb7⟩
        go_wp2_with (fail)
        refine (laws_ipInts A2 A7 _ _ _ _ _ _ _ L w7 ((HC4.out.below hb).below hb7) hs7 (by omega)).mono ?_
        rintro e w8 ⟨rfl, hb8⟩
        have hB8 := bstep (bstep (bstep hB4 hb) hb7) hb8
        clear hs6 hs7 hb hb7 hb8
        go_wp2
        all_goals (go_ret; exact ⟨rfl, hB8⟩)
  · have hok' : cbOk ks b = false := by simpa using hok
    have e0 := cb_no hok'
    rw [hok', e0] at IK SK
    have IH := Lib.hid IK
    have SH := Lib.hid SK
    clear IK SK hok hok' e0
    go_wp2_with (fail)
    refine (IH.out _ _ w1 HS.out).mono ?_
    rintro e w2 ⟨A2, c2, rfl, hc21, hc22, hs2, hb2⟩
    go_wp2_with (fail)
    refine (SH.out _ _ w2 (HS.out.below hb2)).mono ?_
    rintro e w3 ⟨A3, c3, rfl, hc31, hc32, hs3, hb3⟩
    go_wp2_with (fail)
    refine (laws_ipInts A2 A3 _ _ _ _ _ _ _ [] w3 (hs2.below hb3) hs3 (by simp)).mono ?_
    rintro e w4 ⟨rfl, hb4⟩
    go_wp2_with (fail)
    refine (laws_ipInts A2 A3 _ _ _ _ _ _ _ [] w4 ((hs2.below hb3).below hb4) (hs3.below hb4) (by simp)).mono ?_
    rintro e w5 ⟨rfl, hb5⟩
    have hB := bstep (bstep (bstep (bstep hb1 hb2) hb3) hb4) hb5
    clear hs2 hs3 hb1 hb2 hb3 hb4
    go_wp2
    all_goals (go_ret; exact ⟨rfl, hB⟩)
theorem law_FnCountOne (w : World) (ao : Option Addr) (len cap : Nat) (h : CodeIn w ao len cap) : Calls Try.prog 4 #[.slice ao len cap] w fun r w' => r = .returned (.bool true) ∧ Below w.heap.size w w' := by
  have HC := Lib.hid h
  clear h
  by_cases hl : 1048576 < len
  · go_enter Try.func4, Try.ntmps4
    go_wp2
    go_ret
    exact ⟨rfl, by (repeat' (first | with_reducible exact Below.refl _ _ | (with_reducible refine balloc ?_ _) | (with_reducible refine bset ?_ ?_ _) | (with_reducible refine bdrew ?_) | (with_reducible refine bdrewN ?_ _) | (with_reducible refine bstep ?_ (by with_reducible assumption)) | (with_reducible refine bgrow ?_ (by with_reducible assumption) (by omega)) | (simp; done) | (simp; omega)))⟩
  have hl' : len ≤ 1048576 := by omega
  clear hl
  go_enter Try.func4, Try.ntmps4
  go_wp2_with (fail)
  refine (spec_DrawCountBuckets _ _ _ _ HC.out).mono ?_
  rintro e w1 ⟨A, c, ks, b, rfl, hk, hc1, hc2, hs1, hb1⟩
  have HS := Lib.hid hs1
  clear hs1
  have IK := fun (lo hi : Nat) (w : World) (h : Sl w lo hi 31 2 A ks.length (kcells ks)) => impl_CountBuckets A ks.length c lo hi b ks w h (by omega)
  have SK := fun (lo hi : Nat) (w : World) (h : Sl w lo hi 31 2 A ks.length (kcells ks)) => spec_CountBuckets A ks.length c lo hi b ks w h (by omega)
  have i1 : (ks.length : Int) ≤ 12 := by omega
  have hll := cbL_len ks b
  unfold maxLen at hc2
  by_cases hok : cbOk ks b = true
  · by_cases hl0 : 0 < ks.length
    · obtain ⟨B, rfl, hB1, hB2, hka, hL⟩ := cb_yes hok
      have DK : ∀ (lo hi : Nat) (w : World) (h : Sl w lo hi 31 2 A ks.length (kcells ks)), Calls Try.prog 13 #[.slice A (ks.length - 1) c, .int .i64 (B : Int)] w (SlB (cntL (ks.take (ks.length - 1)) B) true w) := by
        intro lo hi w h
        have ok : cbOk (ks.take (ks.length - 1)) (B : Int) = true := cbOk_iff.2 ⟨kaB_take hka _, by omega, by omega⟩
        have e : cbL (ks.take (ks.length - 1)) (B : Int) = cntL (ks.take (ks.length - 1)) B := by rw [cbL, if_pos ok]; rfl
        have := impl_CountBuckets A (ks.length - 1) c lo hi B (ks.take (ks.length - 1)) w (h.pre (by omega)) (by omega)
        rw [ok, e] at this
        exact this
      have hlast := cnt_last hl0 (B : Int)
      have hkv := kaB_valid hka (ks.getD (ks.length - 1) (0, 0)) (by rw [List.getD_eq_getElem?_getD, List.getElem?_eq_getElem (by omega)]; exact List.getElem_mem _)
      have hcl := cnt_le (ks.take (ks.length - 1)) (B : Int)
      have htl : (ks.take (ks.length - 1)).length ≤ 12 := by simp; omega
      rw [hL, hok] at IK SK
      have IH := Lib.hid IK
      have SH := Lib.hid SK
      have DH := Lib.hid DK
      have HLast := Lib.hid hlast
      clear IK SK DK hok hL hll hlast
      obtain ⟨n, hn⟩ : ∃ n, ks.length = n + 1 := ⟨ks.length - 1, by omega⟩
      have HN := Lib.hid hn
      obtain ⟨ga, hA, _, _, hga, hg2, hg3, _⟩ := HS.out.key (k := ks.length - 1) (by omega)
      subst hA
      clear hn
      go_wp2_with (fail)
      refine (IH.out _ _ w1 HS.out).mono ?_
      rintro e w2 ⟨A2, c2, rfl, hc21, hc22, hs2, hb2⟩
      go_wp2_with (fail)
      refine (SH.out _ _ w2 (HS.out.below hb2)).mono ?_
      rintro e w3 ⟨A3, c3, rfl, hc31, hc32, hs3, hb3⟩
      go_wp2_with (fail)
      refine (laws_ipInts A2 A3 _ _ _ _ _ _ _ _ w3 (hs2.below hb3) hs3 (by rw [cntL_len]; omega)).mono ?_
      rintro e w4 ⟨rfl, hb4⟩
      have HS4 := Lib.hid (((HS.out.below hb2).below hb3).below hb4)
      have HC4 := Lib.hid ((hs2.below hb3).below hb4)
      have hB4 := bstep (bstep (bstep hb1 hb2) hb3) hb4
      clear hs2 hs3 hb1 hb2 hb3 hb4
      go_wp2_with (fail)
      refine (DH.out _ _ w4 HS4.out).mono ?_
      rintro e w5 ⟨A5, c5, rfl, hc51, hc52, hs5, hb5⟩
      have HS5 := Lib.hid (HS4.out.below hb5)
      have HC5 := Lib.hid (HC4.out.below hb5)
      have HD5 := Lib.hid hs5
      have hB5 := bstep hB4 hb5
      clear hs5 hb5 hg2 hg3 hga
      obtain ⟨ga', e, _, _, hga, hg2, hg3, _⟩ := HS5.out.key (k := ks.length - 1) (by omega)
      obtain rfl : ga = ga' := by simpa using e
      generalize ks.getD (ks.length - 1) (0, 0) = z at *
      obtain ⟨z1, z2⟩ := z
      simp only [] at hg2 hg3 hkv
      clear e
      obtain ⟨q1, q2⟩ := hashN_range (s := z1) (p := z2) (b := (B : Int)) (by omega)
      obtain ⟨x, hx⟩ := Int.eq_ofNat_of_zero_le q1
      have hkc : ∀ w : World, Calls Try.prog 16 #[.agg #[.int .i64 z1, .int .i64 z2], .int .i64 (B : Int)] w fun r w' => r = .returned (.tuple #[.int .i64 (x : Int), .bool true]) ∧ Below w.heap.size w w' := by
        intro w
        have ok : hkOk z1 z2 B = true := by unfold hkOk; rw [hkv, Bool.true_and, withinB_iff]; omega
        have := impl_HashKey z1 z2 B w
        rw [ok, show hkN z1 z2 B = (x : Int) by rw [hkN, if_pos ok]; exact hx] at this
        exact this
      have hla : ∀ j : Nat, cnt ks (B : Int) j = cnt (ks.take (ks.length - 1)) (B : Int) j + (if x = j then 1 else 0) := by
        intro j
        have h := HLast.out j
        simp only [hx] at h
        rw [h]
        congr 1
        by_cases e : x = j
        · rw [if_pos (by omega), if_pos e]
        · rw [if_neg (by omega), if_neg e]
      have HKC := Lib.hid hkc
      have HLA := Lib.hid hla
      have hxB : x < B := by omega
      clear hkc hla hx q1 q2 hkv
      go_wp2_with (fail)
      refine (HKC.out _).mono ?_
      rintro e w6 ⟨rfl, hb6⟩
      have hcL := cntL_len ks B
      have hdL := cntL_len (ks.take (ks.length - 1)) B
      have HC6 := Lib.hid (HC5.out.below hb6)
      have HD6 := Lib.hid (HD5.out.below hb6)
      have hB6 := bstep hB5 hb6
      have HCL := Lib.hid hcL
      have HDL := Lib.hid hdL
      rw [hcL] at HC6
      rw [hdL] at HD6
      rw [hcL, hdL]
      clear hb6 hcL hdL
      go_wp2
      go_loopw [14] (fun i wr => ∃ k : Nat, k ≤ B ∧ i = .int .i64 k ∧ Below w6.heap.size w6 wr) (fun i _ => B - (intOf i).toNat)
      case atStart => exact ⟨0, by omega, rfl, Below.refl _ _⟩
      case round =>
        obtain ⟨k, hk', rfl, hb⟩ := hrel
        by_cases hlt : k < B
        · obtain ⟨g, hA2, _, _, hgc, hg4, _⟩ := (HC6.out.below hb).int hlt
          obtain ⟨g', hA5, _, _, hgd, hg5, _⟩ := (HD6.out.below hb).int hlt
          subst hA2
          subst hA5
          rw [cntL_at _ hlt] at hg4 hg5
          have hl := HLA.out k
          have h1 := hcl k
          generalize cnt ks (B : Int) k = y1 at *
          generalize cnt (ks.take (ks.length - 1)) (B : Int) k = y2 at *
          have i2 : (0 : Int) ≤ (k : Int) := by omega
          have i3 : (k : Int) < (B : Int) := by omega
          by_cases hkx : x = k
          · subst hkx
            rw [if_pos rfl] at hl
            subst hl
            have i4 : ((x : Int) == (x : Int)) = true := by simp
            have i5 : ((y2 + 1 : Nat) : Int) = (y2 : Int) + 1 := by omega
            rw [i5] at hg4
            clear i5
            have i6 : IntKind.i64.wrap ((y2 : Int) + 1) = (y2 : Int) + 1 := IntWalk.i64_in _ (by omega)
            go_wp2
            go_quiet (fail)
            clear i6
            go_wp2
            go_roundw
            case rel => exact ⟨x + 1, by omega, by go_num, by (repeat' (first | with_reducible exact Below.refl _ _ | (with_reducible refine balloc ?_ _) | (with_reducible refine bset ?_ ?_ _) | (with_reducible refine bdrew ?_) | (with_reducible refine bdrewN ?_ _) | (with_reducible refine bstep ?_ (by with_reducible assumption)) | (with_reducible refine bgrow ?_ (by with_reducible assumption) (by omega)) | (simp; done) | (simp; omega)))⟩
            case measure => simp [intOf]; omega
          · rw [if_neg hkx, Nat.add_zero] at hl
            subst hl
            have i4 : ((k : Int) == (x : Int)) = false := by simp; omega
            have i6 : IntKind.i64.wrap ((y1 : Int) + 0) = (y1 : Int) := by rw [Int.add_zero]; exact IntWalk.i64_in _ (by omega)
            have i7 : IntKind.i64.wrap (y1 : Int) = (y1 : Int) := IntWalk.i64_in _ (by omega)
            go_wp2
            go_quiet (fail)
            clear i6 i7
            go_wp2
            go_roundw
            case rel => exact ⟨k + 1, by omega, by go_num, by (repeat' (first | with_reducible exact Below.refl _ _ | (with_reducible refine balloc ?_ _) | (with_reducible refine bset ?_ ?_ _) | (with_reducible refine bdrew ?_) | (with_reducible refine bdrewN ?_ _) | (with_reducible refine bstep ?_ (by with_reducible assumption)) | (with_reducible refine bgrow ?_ (by with_reducible assumption) (by omega)) | (simp; done) | (simp; omega)))⟩
            case measure => simp [intOf]; omega
        · have hB7 := bstep hB6 hb
          go_wp2
          all_goals (go_ret; exact ⟨rfl, hB7⟩)
    · have hl1 : ks = [] := List.eq_nil_of_length_eq_zero (by omega)
      subst hl1
      rw [hok] at IK SK
      generalize cbL [] b = L at *
      have IH := Lib.hid IK
      have SH := Lib.hid SK
      clear IK SK hok hl0
      go_wp2_with (fail)
      refine (IH.out _ _ w1 HS.out).mono ?_
      rintro e w2 ⟨A2, c2, rfl, hc21, hc22, hs2, hb2⟩
      go_wp2_with (fail)
      refine (SH.out _ _ w2 (HS.out.below hb2)).mono ?_
      rintro e w3 ⟨A3, c3, rfl, hc31, hc32, hs3, hb3⟩
      go_wp2_with (fail)
      refine (laws_ipInts A2 A3 _ _ _ _ _ _ _ L w3 (hs2.below hb3) hs3 (by omega)).mono ?_
      rintro e w4 ⟨rfl, hb4⟩
      go_wp2_with (fail)
      refine (laws_ipInts A2 A3 _ _ _ _ _ _ _ L w4 ((hs2.below hb3).below hb4) (hs3.below hb4) (by omega)).mono ?_
      rintro e w5 ⟨rfl, hb5⟩
      have hB := bstep (bstep (bstep (bstep hb1 hb2) hb3) hb4) hb5
      clear hs2 hs3 hb1 hb2 hb3 hb4
      go_wp2
      all_goals (go_ret; exact ⟨rfl, hB⟩)
  · have hok' : cbOk ks b = false := by simpa using hok
    have e0 := cb_no hok'
    rw [hok', e0] at IK SK
    have IH := Lib.hid IK
    have SH := Lib.hid SK
    clear IK SK hok hok' e0
    go_wp2_with (fail)
    refine (IH.out _ _ w1 HS.out).mono ?_
    rintro e w2 ⟨A2, c2, rfl, hc21, hc22, hs2, hb2⟩
    go_wp2_with (fail)
    refine (SH.out _ _ w2 (HS.out.below hb2)).mono ?_
    rintro e w3 ⟨A3, c3, rfl, hc31, hc32, hs3, hb3⟩
    go_wp2_with (fail)
    refine (laws_ipInts A2 A3 _ _ _ _ _ _ _ [] w3 (hs2.below hb3) hs3 (by simp)).mono ?_
    rintro e w4 ⟨rfl, hb4⟩
    go_wp2_with (fail)
    refine (laws_ipInts A2 A3 _ _ _ _ _ _ _ [] w4 ((hs2.below hb3).below hb4) (hs3.below hb4) (by simp)).mono ?_
    rintro e w5 ⟨rfl, hb5⟩
    have hB := bstep (bstep (bstep (bstep hb1 hb2) hb3) hb4) hb5
    clear hs2 hs3 hb1 hb2 hb3 hb4
    go_wp2
    all_goals (go_ret; exact ⟨rfl, hB⟩)
end Go.Proofs.Ytjdjhfdjafdhoaa
