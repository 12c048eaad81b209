/- Walks of the laws on KeysIn: each returns true. No conditions. -/
import Derived.Test.YthehcknkehmkkaaKeysIn
import Derived.Test.YthehcknkehmkkaaInts
import Derived.Test.YthehcknkehmkkaaDraw2
namespace Go.Proofs.Ythehcknkehmkkaa
open Go.ChangeShapes Go.WideShapes Go.ChangeAt Go.RowKit
theorem law_FnExactKeysIn (s : Int) (_ : (Lit.int .i64 s).wf = true) (b : Int) (_ : (Lit.int .i64 b).wf = true) (n : Int) (_ : (Lit.int .i64 n).wf = true) (w : World) : Calls Try.prog 11 #[.int .i64 s, .int .i64 b, .int .i64 n] w fun r w' => r = .returned (.bool true) ∧ Below w.heap.size w w' := by
  have hl := kiL_len s b n
  have IK := fun w => impl_KeysIn s b n w
  have SK := fun w => spec_KeysIn s b n w
  generalize kiL s b n = L at *
  generalize kiOk s b n = ok at *
  have i0 : (0 : Int) ≤ (L.length : Int) := by omega
  have i1 : (L.length : Int) ≤ 256 := by omega
  have IH := Lib.hid IK
  have SH := Lib.hid SK
  clear IK SK
  go_enter Try.func11, Try.ntmps11
  go_wp2_with (fail)
  refine (SH.out _).mono ?_
  rintro e w1 ⟨A, c, rfl, hc1, hc2, hs1, hb1⟩
  go_wp2_with (fail)
  refine (IH.out _).mono ?_
  rintro e w2 ⟨A2, c2, rfl, hc21, hc22, hs2, hb2⟩
  go_wp2_with (fail)
  refine (laws_eqIntS A2 A _ _ _ _ _ _ _ L w2 hs2 (hs1.below hb2) (by omega)).mono ?_
  rintro e w3 ⟨rfl, hb3⟩
  go_wp2_with (fail)
  refine (laws_markIntS A2 _ _ _ _ 1 L w3 (hs2.below hb3) (by omega) (by omega) (by omega)).mono ?_
  rintro e w4 ⟨rfl, hs4, ho4⟩
  have hsA := ((((hs1.below hb2).below hb3).only ho4 (.inl (Nat.le_refl _))))
  have hB4 : Below w.heap.size w w4 := bonly (bstep (bstep hb1 hb2) hb3) ho4 hb1.size (bstep (bstep hb1 hb2) hb3).size
  clear hs1 hs2 ho4 hb1 hb2 hb3
  go_wp2_with (fail)
  refine (laws_heldIntS A2 _ _ _ _ 1 w4 hs4 (by omega) (by omega) (by omega)).mono ?_
  rintro e w5 ⟨rfl, hb5⟩
  go_wp2_with (fail)
  refine (IH.out _).mono ?_
  rintro e w6 ⟨A6, c6, rfl, hc61, hc62, hs6, hb6⟩
  go_wp2_with (fail)
  refine (laws_eqIntS A6 A _ _ _ _ _ _ _ L w6 hs6 ((hsA.below hb5).below hb6) (by omega)).mono ?_
  rintro e w7 ⟨rfl, hb7⟩
  go_wp2_with (fail)
  refine (laws_heldIntS A2 _ _ _ _ 1 w7 (((hs4.below hb5).below hb6).below hb7) (by omega) (by omega) (by omega)).mono ?_
  rintro e w8 ⟨rfl, hb8⟩
  have hB8 := bstep (bstep (bstep (bstep hB4 hb5) hb6) hb7) hb8
  clear hsA hs4 hs6 hb5 hb6 hb7 hb8 hB4
  go_wp2
  all_goals (go_ret; exact ⟨rfl, hB8⟩)
theorem kiF_sorted (s b n : Int) (k : Nat) : (kiF s b n k).Pairwise (· < ·) := by
  unfold kiF
  rw [List.pairwise_map]
  refine List.Pairwise.imp ?_ ((List.pairwise_lt_range (n := k)).filter _)
  intro a b h; omega
theorem kiF_one (s : Int) (k : Nat) : (kiF s 0 1 k).length = k := by
  unfold kiF
  rw [List.filter_eq_self.2]
  · simp
  · intro p _
    have := hashN_range (s := s) (p := (p : Int)) (b := 1) (by omega)
    simp; omega
theorem sorted_at {zs : List Int} (h : zs.Pairwise (· < ·)) {k : Nat} (hk : k + 1 < zs.length) : zs.getD k 0 < zs.getD (k + 1) 0 := by
  have := List.pairwise_iff_getElem.1 h k (k + 1) (by omega) hk (by omega)
  simpa [List.getD_eq_getElem?_getD, hk, show k < zs.length by omega] using this
theorem law_FnKeysSpaces (w : World) (ao : Option Addr) (len cap : Nat) (h : CodeIn w ao len cap) : Calls Try.prog 12 #[.slice ao len cap] w fun r w' => r = .returned (.bool true) ∧ Below w.heap.size w w' := by
  have HC := Lib.hid h
  clear h
  by_cases hl : 1048576 < len
  · go_enter Try.func12, Try.ntmps12
    go_wp2
    go_ret
    exact ⟨rfl, by (repeat' (first | with_reducible exact Below.refl _ _ | (with_reducible refine balloc ?_ _) | (with_reducible refine bset ?_ ?_ _) | (with_reducible refine bdrew ?_) | (with_reducible refine bdrewN ?_ _) | (with_reducible refine bstep ?_ (by with_reducible assumption)) | (with_reducible refine bgrow ?_ (by with_reducible assumption) (by omega)) | (simp; done) | (simp; omega)))⟩
  have hl' : len ≤ 1048576 := by omega
  clear hl
  go_enter Try.func12, Try.ntmps12
  go_wp2_with (fail)
  refine (spec_DrawKeysIn _ _ _ _ HC.out).mono ?_
  rintro e w1 ⟨s, b, n, rfl, hb1⟩
  have hl := kiL_len s b n
  have IK := fun w => impl_KeysIn s b n w
  have SK := fun w => spec_KeysIn s b n w
  by_cases hok : kiOk s b n = true
  · obtain ⟨⟨hs1, hs2⟩, ⟨hn1, hn2⟩, hb1', hb2'⟩ := kiOk_iff.1 hok
    have hsort : (kiL s b n).Pairwise (· < ·) := by rw [kiL, if_pos hok]; exact kiF_sorted _ _ _ _
    have ok1 : kiOk s 0 1 = true := kiOk_iff.2 ⟨⟨hs1, hs2⟩, ⟨by omega, by omega⟩, by omega, by omega⟩
    have len1 : (kiL s 0 1).length = 256 := by rw [kiL, if_pos ok1]; exact kiF_one s 256
    have IK1 := fun w => impl_KeysIn s 0 1 w
    rw [ok1] at IK1
    rw [hok] at IK SK
    generalize kiL s b n = L at *
    generalize kiL s 0 1 = L1 at *
    have IH := Lib.hid IK
    have SH := Lib.hid SK
    have IH1 := Lib.hid IK1
    have LH1 := Lib.hid len1
    have SO := Lib.hid hsort
    clear IK SK IK1 len1 hsort hok ok1
    go_wp2_with (fail)
    refine (IH.out _).mono ?_
    rintro e w2 ⟨A, c, rfl, hc1, hc2, hs2, hb2⟩
    go_wp2_with (fail)
    refine (SH.out _).mono ?_
    rintro e w3 ⟨A3, c3, rfl, hc31, hc32, hs3, hb3⟩
    go_wp2_with (fail)
    refine (laws_ipInts A A3 _ _ _ _ _ _ _ L w3 (hs2.below hb3) hs3 (by omega)).mono ?_
    rintro e w4 ⟨rfl, hb4⟩
    have HS := Lib.hid ((hs2.below hb3).below hb4)
    have hB := bstep (bstep (bstep hb1 hb2) hb3) hb4
    clear hs2 hs3 hb1 hb2 hb3 hb4
    go_wp2_with (fail)
    go_loopw [10] (fun i wr => ∃ k : Nat, 1 ≤ k ∧ (k ≤ L.length ∨ k = 1) ∧ i = .int .i64 k ∧ Below w4.heap.size w4 wr) (fun i _ => L.length - (intOf i).toNat)
    case atStart => exact ⟨1, by omega, .inr rfl, rfl, Below.refl _ _⟩
    case round =>
      obtain ⟨k, hk1, hk2, rfl, hbr⟩ := hrel
      by_cases hlt : k < L.length
      · obtain ⟨q, rfl⟩ : ∃ q, k = q + 1 := ⟨k - 1, by omega⟩
        obtain ⟨g, rfl, _, _, hg1, hg2, _⟩ := (HS.out.below hbr).int (k := q) (by omega)
        obtain ⟨g', e, _, _, _, hg3, _⟩ := (HS.out.below hbr).int hlt
        obtain rfl : g = g' := by simpa using e
        have hs := sorted_at SO.out hlt
        generalize L.getD q 0 = x at *
        generalize L.getD (q + 1) 0 = y at *
        have i1 : (0 : Int) ≤ (q : Int) := by omega
        have i2 : (q : Int) + 1 < (L.length : Int) := by omega
        have i3 : (q : Int) < (L.length : Int) := by omega
        have i4 : IntKind.i64.wrap ((q : Int) + 1 - 1) = (q : Int) := by rw [Int.add_sub_cancel]; exact IntWalk.i64_in _ (by omega)
        have hd : decide (y ≤ x) = false := by simp; omega
        clear e
        go_wp2
        go_quiet (fail)
        clear i4
        go_wp2
        go_roundw
        case rel => exact ⟨q + 2, by omega, by omega, by go_num, by (repeat' (first | with_reducible exact Below.refl _ _ | (with_reducible refine balloc ?_ _) | (with_reducible refine bset ?_ ?_ _) | (with_reducible refine bdrew ?_) | (with_reducible refine bdrewN ?_ _) | (with_reducible refine bstep ?_ (by with_reducible assumption)) | (with_reducible refine bgrow ?_ (by with_reducible assumption) (by omega)) | (simp; done) | (simp; omega)))⟩
        case measure => simp [intOf]; omega
      · go_wp2_with (fail)
        refine (IH1.out _).mono ?_
        rintro e w6 ⟨A6, c6, rfl, hc61, hc62, hs6, hb6⟩
        have l1 := LH1.out
        rw [l1]
        have l2 : decide ((L.length : Int) ≤ 256) = true := by simp; omega
        have hB6 := bstep (bstep hB hbr) hb6
        clear hs6 hb6
        go_wp2
        all_goals (go_ret; exact ⟨rfl, hB6⟩)
  · have hok' : kiOk s b n = false := by simpa using hok
    have hL : kiL s b n = [] := by simp [kiL, hok']
    rw [hok', hL] at IK SK
    have IH := Lib.hid IK
    have SH := Lib.hid SK
    clear IK SK hok hL hok' hl
    go_wp2_with (fail)
    refine (IH.out _).mono ?_
    rintro e w2 ⟨A, c, rfl, hc1, hc2, hs2, hb2⟩
    go_wp2_with (fail)
    refine (SH.out _).mono ?_
    rintro e w3 ⟨A3, c3, rfl, hc31, hc32, hs3, hb3⟩
    go_wp2_with (fail)
    refine (laws_ipInts A A3 _ _ _ _ _ _ _ [] w3 (hs2.below hb3) hs3 (by simp)).mono ?_
    rintro e w4 ⟨rfl, hb4⟩
    go_wp2_with (fail)
    refine (laws_ipInts A A3 _ _ _ _ _ _ _ [] w4 ((hs2.below hb3).below hb4) (hs3.below hb4) (by simp)).mono ?_
    rintro e w5 ⟨rfl, hb5⟩
    have hB := bstep (bstep (bstep (bstep hb1 hb2) hb3) hb4) hb5
    clear hs2 hs3 hb1 hb2 hb3 hb4
    go_wp2
    all_goals (go_ret; exact ⟨rfl, hB⟩)
def ltN (s n : Int) (b : Nat) : Nat := ((List.range 256).filter fun (p : Nat) => decide (hashN s (p : Int) n < (b : Int))).length
theorem filt_step {α : Type} (f : α → Int) (b : Int) : ∀ l : List α, (l.filter fun x => decide (f x < b + 1)).length = (l.filter fun x => decide (f x < b)).length + (l.filter fun x => f x == b).length
  | [] => rfl
  | x :: l => by
    have ih := filt_step f b l
    simp only [List.filter_cons]
    rcases (show f x < b ∨ f x = b ∨ b < f x from by omega) with h | h | h
    · simp [h, show f x < b + 1 by omega, show ¬ f x = b by omega]; omega
    · simp [h, show b < b + 1 by omega]; omega
    · simp [show ¬ f x < b by omega, show ¬ f x < b + 1 by omega, show ¬ f x = b by omega]; omega
theorem ltN_succ (s n : Int) (b : Nat) : ltN s n (b + 1) = ltN s n b + (kiF s b n 256).length := by
  unfold ltN kiF
  have := filt_step (fun (p : Nat) => hashN s (p : Int) n) b (List.range 256)
  rw [List.length_map]
  rw [← this]
  congr 1
theorem ltN_zero (s n : Int) (hn : 1 ≤ n) : ltN s n 0 = 0 := by
  unfold ltN
  rw [List.length_eq_zero_iff, List.filter_eq_nil_iff]
  intro p _
  have := (hashN_range (s := s) (p := (p : Int)) hn).1
  simp; omega
theorem ltN_all (s : Int) (n : Nat) (hn : 1 ≤ n) : ltN s n n = 256 := by
  unfold ltN
  rw [List.filter_eq_self.2]
  · simp
  · intro p _
    have := (hashN_range (s := s) (p := (p : Int)) (b := n) (by omega)).2
    simp; omega
theorem ltN_le (s n : Int) (b : Nat) : ltN s n b ≤ 256 := by
  unfold ltN
  have := List.length_filter_le (fun (p : Nat) => decide (hashN s (p : Int) n < (b : Int))) (List.range 256)
  simpa using this
theorem kiL_mem {s b n : Int} {k : Nat} (hk : k < (kiL s b n).length) : kiOk s b n = true ∧ 0 ≤ (kiL s b n).getD k 0 ∧ (kiL s b n).getD k 0 < 256 ∧ hashN s ((kiL s b n).getD k 0) n = b := by
  by_cases hok : kiOk s b n = true
  · have hm : (kiL s b n).getD k 0 ∈ kiL s b n := by simp [List.getD_eq_getElem?_getD, hk]
    refine ⟨hok, ?_⟩
    generalize (kiL s b n).getD k 0 = x at *
    rw [kiL, if_pos hok] at hm
    unfold kiF at hm
    simp only [List.mem_map, List.mem_filter, List.mem_range] at hm
    obtain ⟨p, ⟨h1, h2⟩, rfl⟩ := hm
    exact ⟨by omega, by omega, by simpa using h2⟩
  · have : kiL s b n = [] := by simp [kiL, hok]
    rw [this] at hk; simp at hk
theorem law_FnKeysIn (w : World) (ao : Option Addr) (len cap : Nat) (h : CodeIn w ao len cap) : Calls Try.prog 13 #[.slice ao len cap] w fun r w' => r = .returned (.bool true) ∧ Below w.heap.size w w' := by
  have HC := Lib.hid h
  clear h
  by_cases hl : 1048576 < len
  · go_enter Try.func13, Try.ntmps13
    go_wp2
    go_ret
    exact ⟨rfl, by (repeat' (first | with_reducible exact Below.refl _ _ | (with_reducible refine balloc ?_ _) | (with_reducible refine bset ?_ ?_ _) | (with_reducible refine bdrew ?_) | (with_reducible refine bdrewN ?_ _) | (with_reducible refine bstep ?_ (by with_reducible assumption)) | (with_reducible refine bgrow ?_ (by with_reducible assumption) (by omega)) | (simp; done) | (simp; omega)))⟩
  have hl' : len ≤ 1048576 := by omega
  clear hl
  go_enter Try.func13, Try.ntmps13
  go_wp2_with (fail)
  refine (spec_DrawKeysIn _ _ _ _ HC.out).mono ?_
  rintro e w1 ⟨s, b, n, rfl, hb1⟩
  have hl := kiL_len s b n
  have IK := fun w => impl_KeysIn s b n w
  have SK := fun w => spec_KeysIn s b n w
  by_cases hok : kiOk s b n = true
  · obtain ⟨⟨hs1, hs2⟩, ⟨hn1, hn2⟩, hb1', hb2'⟩ := kiOk_iff.1 hok
    obtain ⟨N, rfl⟩ := Int.eq_ofNat_of_zero_le (show 0 ≤ n by omega)
    have hmem : ∀ k, k < (kiL s b N).length → 0 ≤ (kiL s b N).getD k 0 ∧ (kiL s b N).getD k 0 < 256 ∧ hkOk s ((kiL s b N).getD k 0) N = true ∧ hkN s ((kiL s b N).getD k 0) N = b := by
      intro k hk
      obtain ⟨_, m1, m2, m3⟩ := kiL_mem hk
      have hh : hkOk s ((kiL s b N).getD k 0) N = true := by
        unfold hkOk; rw [Bool.and_eq_true, kvB_iff, withinB_iff]; exact ⟨⟨⟨hs1, hs2⟩, m1, m2⟩, by omega, by omega⟩
      exact ⟨m1, m2, hh, by unfold hkN; rw [if_pos hh]; exact m3⟩
    have IKA : ∀ (q : Nat) (w : World), q < N → Calls Try.prog 33 #[.int .i64 s, .int .i64 (q : Int), .int .i64 (N : Int)] w (SlB (kiL s q N) true w) := by
      intro q w hq
      have := impl_KeysIn s q N w
      rwa [kiOk_iff.2 ⟨⟨hs1, hs2⟩, ⟨hn1, hn2⟩, by omega, by omega⟩] at this
    have hstep : ∀ q : Nat, q < N → ltN s N (q + 1) = ltN s N q + (kiL s q N).length := by
      intro q hq
      rw [ltN_succ, kiL, if_pos (kiOk_iff.2 ⟨⟨hs1, hs2⟩, ⟨hn1, hn2⟩, by omega, by omega⟩)]
    have h0 := ltN_zero s N (by omega)
    have hall := ltN_all s N (by omega)
    rw [hok] at IK SK
    have IHA := Lib.hid IKA
    have STEP := Lib.hid hstep
    have LZ := Lib.hid h0
    have LA := Lib.hid hall
    have HM := Lib.hid hmem
    clear IKA hstep h0 hall hmem
    generalize kiL s b N = L at *
    have IH := Lib.hid IK
    have SH := Lib.hid SK
    clear IK SK hok
    go_wp2_with (fail)
    refine (IH.out _).mono ?_
    rintro e w2 ⟨A, c, rfl, hc1, hc2, hs2, hb2⟩
    go_wp2_with (fail)
    refine (SH.out _).mono ?_
    rintro e w3 ⟨A3, c3, rfl, hc31, hc32, hs3, hb3⟩
    go_wp2_with (fail)
    refine (laws_ipInts A A3 _ _ _ _ _ _ _ L w3 (hs2.below hb3) hs3 (by omega)).mono ?_
    rintro e w4 ⟨rfl, hb4⟩
    have HS := Lib.hid ((hs2.below hb3).below hb4)
    have hB := bstep (bstep (bstep hb1 hb2) hb3) hb4
    clear hs2 hs3 hb1 hb2 hb3 hb4
    go_wp2_with (fail)
    go_loopw [10, 11] (fun v i wr => ∃ q : Nat, q ≤ N ∧ i = .int .i64 q ∧ v = .int .i64 (ltN s N q : Nat) ∧ Below w4.heap.size w4 wr) (fun _ i _ => N - (intOf i).toNat)
    case atStart => exact ⟨0, by omega, rfl, by rw [LZ.out]; rfl, Below.refl _ _⟩
    case round =>
      obtain ⟨q, hq, rfl, rfl, hbr⟩ := hrel
      have q1 := ltN_le s N q
      by_cases hlt : q < N
      · have q2 := kiL_len s q N
        have st := STEP.out q hlt
        have hc := fun w => IHA.out q w hlt
        generalize kiL s q N = Lq at *
        have HC := Lib.hid hc
        have ST := Lib.hid st
        clear hc st
        go_wp2_with (fail)
        refine (HC.out _).mono ?_
        rintro e w6 ⟨A6, c6, rfl, hc61, hc62, hs6, hb6⟩
        have hb7 := bstep hbr hb6
        clear hs6 hb6
        go_wp2
        go_roundw
        case rel => exact ⟨q + 1, by omega, by go_num, by rw [ST.out]; go_num, hb7⟩
        case measure => simp [intOf]; omega
      · obtain rfl : q = N := by omega
        rw [LA.out]
        have hB6 := bstep hB hbr
        have HS6 := Lib.hid (HS.out.below hbr)
        clear hbr q1
        go_wp2_with (fail)
        go_loopw [14] (fun i w5 => ∃ q : Nat, q ≤ L.length ∧ i = .int .i64 q ∧ Below wr.heap.size wr w5) (fun i _ => L.length - (intOf i).toNat)
        case atStart => exact ⟨0, by omega, rfl, Below.refl _ _⟩
        case round =>
          obtain ⟨q', hq', rfl, hbr'⟩ := hrel
          by_cases hlt : q' < L.length
          · obtain ⟨g, rfl, _, _, hg1, hg2, _⟩ := (HS6.out.below hbr').int hlt
            obtain ⟨m1, m2, m3, m4⟩ := HM.out q' hlt
            generalize L.getD q' 0 = x at *
            have i1 : (0 : Int) ≤ (q' : Int) := by omega
            have i3 : (q' : Int) < (L.length : Int) := by omega
            go_wp2_with (fail)
            refine (impl_HashKey _ _ _ _).mono ?_
            rintro e w7 ⟨rfl, hb7⟩
            have hb8 := bstep hbr' hb7
            clear hb7
            go_wp2
            go_roundw
            case rel => first | exact ⟨q' + 1, by omega, by go_num, hb8⟩ | ((repeat apply Exists.intro); exact ⟨⟨q' + 1, by omega, by go_num, hb8⟩, rfl⟩)
            case measure => simp [intOf]; omega
          · have hB7 := bstep hB6 hbr'
            go_wp2
            all_goals (go_ret; exact ⟨rfl, hB7⟩)
  · have hok' : kiOk s b n = false := by simpa using hok
    have hL : kiL s b n = [] := by simp [kiL, hok']
    rw [hok', hL] at IK SK
    have IH := Lib.hid IK
    have SH := Lib.hid SK
    clear IK SK hok hL hok' hl
    go_wp2_with (fail)
    refine (IH.out _).mono ?_
    rintro e w2 ⟨A, c, rfl, hc1, hc2, hs2, hb2⟩
    go_wp2_with (fail)
    refine (SH.out _).mono ?_
    rintro e w3 ⟨A3, c3, rfl, hc31, hc32, hs3, hb3⟩
    go_wp2_with (fail)
    refine (laws_ipInts A A3 _ _ _ _ _ _ _ [] w3 (hs2.below hb3) hs3 (by simp)).mono ?_
    rintro e w4 ⟨rfl, hb4⟩
    go_wp2_with (fail)
    refine (laws_ipInts A A3 _ _ _ _ _ _ _ [] w4 ((hs2.below hb3).below hb4) (hs3.below hb4) (by simp)).mono ?_
    rintro e w5 ⟨rfl, hb5⟩
    have hB := bstep (bstep (bstep (bstep hb1 hb2) hb3) hb4) hb5
    clear hs2 hs3 hb1 hb2 hb3 hb4
    go_wp2
    all_goals (go_ret; exact ⟨rfl, hB⟩)
end Go.Proofs.Ythehcknkehmkkaa
