/- LongestBucket and BestBuckets of the program and of the reference return what the plain functions say. Asked: at most 1048576 keys. -/
import Derived.Test.YtjdjhfdjafdhoaaCount
namespace Go.Proofs.Ytjdjhfdjafdhoaa
open Go.ChangeShapes Go.WideShapes Go.ChangeAt Go.RowKit
def mxL (zs : List Int) : Int := zs.foldl max 0
theorem mxL_snoc (l : List Int) (z : Int) : mxL (l ++ [z]) = max (mxL l) z := by simp [mxL]
theorem fold_max (l : List Int) : ∀ a : Int, a ≤ l.foldl max a ∧ (∀ x ∈ l, x ≤ l.foldl max a) ∧ (l.foldl max a = a ∨ l.foldl max a ∈ l) := by
  induction l with
  | nil => intro a; simp
  | cons z l ih =>
    intro a
    obtain ⟨h1, h2, h3⟩ := ih (max a z)
    simp only [List.foldl_cons]
    refine ⟨by omega, fun x hx => ?_, ?_⟩
    · rcases List.mem_cons.1 hx with rfl | hx
      · omega
      · exact h2 x hx
    · rcases h3 with h3 | h3
      · rw [h3]
        rcases Int.le_total z a with h4 | h4
        · left; omega
        · right; rw [Int.max_eq_right h4]; exact List.mem_cons_self
      · right; exact List.mem_cons_of_mem _ h3
theorem mxL_ge (l : List Int) : 0 ≤ mxL l ∧ ∀ x ∈ l, x ≤ mxL l := ⟨(fold_max l 0).1, (fold_max l 0).2.1⟩
theorem mxL_mem (l : List Int) : mxL l = 0 ∨ mxL l ∈ l := (fold_max l 0).2.2
theorem max_ints (A : Option Addr) (n c lo hi : Nat) (zs : List Int) (w : World) (h : Sl w lo hi 3 1 A n (ints zs)) (hn : n ≤ 1048576) (h1 : 1 ≤ n) (hz : ∀ x ∈ zs, 0 ≤ x) :
    Calls Try.prog 42 #[.slice A n c] w fun e w' => e = .returned (.int .i64 (mxL zs)) ∧ Below w.heap.size w w' := by
  have hzl : zs.length = n := by have := h.1; rw [ints_len] at this; omega
  have H := Lib.hid h
  have HL := Lib.hid hzl
  have HZ := Lib.hid hz
  clear h hzl hz
  obtain ⟨g, rfl, _, _, hg1, hg2, _⟩ := H.out.int (k := 0) (by omega)
  have h0 : mxL (zs.take 1) = zs.getD 0 0 := by
    rw [take_snoc' zs 0 0 (by rw [HL.out]; omega)]
    have := HZ.out (zs.getD 0 0) (by simp [List.getD_eq_getElem?_getD, show 0 < zs.length by rw [HL.out]; omega])
    simp only [List.take_zero, List.nil_append, mxL, List.foldl_cons, List.foldl_nil]
    omega
  generalize zs.getD 0 0 = z0 at *
  have H0 := Lib.hid h0
  clear h0
  go_enter Try.func42, Try.ntmps42
  go_wp2
  go_loopw [3, 4] (fun v i wr => ∃ k : Nat, 1 ≤ k ∧ k ≤ n ∧ i = .int .i64 k ∧ v = .int .i64 (mxL (zs.take k)) ∧ Below w.heap.size w wr) (fun _ i _ => n - (intOf i).toNat)
  case atStart => exact ⟨1, Nat.le_refl _, h1, rfl, by rw [H0.out], Below.refl _ _⟩
  case round =>
    obtain ⟨k, hk1, hk, rfl, rfl, hb⟩ := hrel
    by_cases hlt : k < n
    · obtain ⟨g', e, _, _, _, hg3, _⟩ := (H.out.below hb).int hlt
      obtain rfl : g = g' := by simpa using e
      have hsn := take_snoc' zs 0 k (by rw [HL.out]; exact hlt)
      have hmx := mxL_snoc (zs.take k) (zs.getD k 0)
      rw [← hsn] at hmx
      generalize zs.getD k 0 = z at *
      generalize mxL (zs.take k) = m at *
      have HM := Lib.hid hmx
      have i1 : (0 : Int) ≤ (k : Int) := by omega
      have i2 : (k : Int) < (n : Int) := by omega
      clear hsn hmx e
      go_wp2
      go_roundw
      case rel => exact ⟨k + 1, by omega, by omega, by go_num, by rw [HM.out]; congr 1; split <;> omega, hb⟩
      case measure => simp [intOf]; omega
    · obtain rfl : k = n := by omega
      rw [List.take_of_length_le (by rw [HL.out]; exact Nat.le_refl _)]
      go_wp2
      go_ret
      exact ⟨rfl, hb⟩
theorem cntL_pos (ks : List (Int × Int)) (b : Nat) : ∀ x ∈ cntL ks b, 0 ≤ x := by
  intro x hx
  unfold cntL at hx
  obtain ⟨j, _, rfl⟩ := List.mem_map.1 hx
  omega
theorem cntL_le (ks : List (Int × Int)) (b : Nat) : ∀ x ∈ cntL ks b, x ≤ ks.length := by
  intro x hx
  unfold cntL at hx
  obtain ⟨j, _, rfl⟩ := List.mem_map.1 hx
  have := cnt_le ks b j
  omega
theorem cbL_range (ks : List (Int × Int)) (b : Int) : ∀ x ∈ cbL ks b, 0 ≤ x ∧ x ≤ 64 := by
  intro x hx
  unfold cbL at hx
  split at hx
  · rename_i h
    have h1 := cntL_pos _ _ x hx
    have h2 := cntL_le _ _ x hx
    have h3 := kaB_len (cbOk_iff.1 h).1
    omega
  · simp at hx
def RetIB (x : Int) (ok : Bool) (w : World) (e : Ending) (w' : World) : Prop := e = .returned (.tuple #[.int .i64 x, .bool ok]) ∧ Below w.heap.size w w'
theorem spec_LongestBucket (A : Option Addr) (n c lo hi : Nat) (b : Int) (ks : List (Int × Int)) (w : World) (h : Sl w lo hi 31 2 A n (kcells ks)) (hn : n ≤ 1048576) :
    Calls Try.prog 18 #[.slice A n c, .int .i64 b] w (RetIB (mxL (cbL ks b)) (cbOk ks b) w) := by
  have H := Lib.hid h
  have hr := cbL_range ks b
  have hl := cbL_len ks b
  have hc := fun w h => spec_CountBuckets A n c lo hi b ks w h hn
  clear h
  generalize cbL ks b = zs at *
  generalize cbOk ks b = ok at *
  have HR := Lib.hid hr
  have HC := Lib.hid hc
  clear hr hc
  go_enter Try.func18, Try.ntmps18
  go_wp2_with (fail)
  refine (HC.out w H.out).mono ?_
  rintro e w1 ⟨A2, c2, rfl, hc1, hc2, hs2, hb2⟩
  have HS := Lib.hid hs2
  clear hs2
  go_wp2
  go_loopw [8, 9] (fun v i wr => ∃ k : Nat, k ≤ zs.length ∧ i = .int .i64 k ∧ v = .int .i64 (mxL (zs.take k)) ∧ Below w1.heap.size w1 wr) (fun _ i _ => zs.length - (intOf i).toNat)
  case atStart => exact ⟨0, by omega, rfl, rfl, Below.refl _ _⟩
  case round =>
    obtain ⟨k, hk, rfl, rfl, hb⟩ := hrel
    by_cases hlt : k < zs.length
    · obtain ⟨g, rfl, _, _, hg1, hg2, _⟩ := (HS.out.below hb).int hlt
      have hsn := take_snoc' zs 0 k hlt
      have hmx := mxL_snoc (zs.take k) (zs.getD k 0)
      rw [← hsn] at hmx
      generalize zs.getD k 0 = z at *
      generalize mxL (zs.take k) = m at *
      have HM := Lib.hid hmx
      have i1 : (0 : Int) ≤ (k : Int) := by omega
      have i2 : (k : Int) < (zs.length : Int) := by omega
      clear hsn hmx
      rcases (show m < z ∨ z ≤ m from by omega) with hmz | hmz
      · go_wp2
        go_roundw
        case rel => exact ⟨k + 1, by omega, by go_num, by rw [HM.out, Int.max_eq_right (by omega)], hb⟩
        case measure => simp [intOf]; omega
      · go_wp2
        go_roundw
        case rel => exact ⟨k + 1, by omega, by go_num, by rw [HM.out, Int.max_eq_left (by omega)], hb⟩
        case measure => simp [intOf]; omega
    · obtain rfl : k = zs.length := by omega
      rw [List.take_length]
      go_wp2
      go_ret2
      exact ⟨rfl, bstep hb2 hb⟩
theorem impl_LongestBucket (A : Option Addr) (n c lo hi : Nat) (b : Int) (ks : List (Int × Int)) (w : World) (h : Sl w lo hi 31 2 A n (kcells ks)) (hn : n ≤ 1048576) :
    Calls Try.prog 20 #[.slice A n c, .int .i64 b] w (RetIB (mxL (cbL ks b)) (cbOk ks b) w) := by
  have H := Lib.hid h
  clear h
  by_cases hka : kaB ks = true
  · by_cases hb : withinB (b - 1) 16 = true
    · obtain ⟨b1, b2⟩ := withinB_iff.1 hb
      obtain ⟨B, rfl⟩ := Int.eq_ofNat_of_zero_le (show 0 ≤ b by omega)
      have e1 : cbOk ks B = true := by simp [cbOk, hka, hb]
      have e2 : cbL ks B = cntL ks B := by rw [cbL, if_pos e1]; rfl
      rw [e1, e2]
      clear e1 e2
      go_enter Try.func20, Try.ntmps20
      go_wp2_with (fail)
      refine (impl_keysAccepted A n c lo hi ks w H.out hn).mono ?_
      rintro e w1 ⟨rfl, hb1⟩
      go_wp2_with (go_at_call 34; refine (impl_bucketsValid _ _).mono ?_; rintro e w' ⟨rfl, rfl⟩)
      refine (impl_count A n c lo hi B ks w1 (H.out.below hb1) hn (kaB_valid hka) (by omega) (by omega)).mono ?_
      rintro e w2 ⟨A2, c2, rfl, h1, h2, hs2, hb2⟩
      have HS := Lib.hid hs2
      clear hs2
      go_wp2_with (fail)
      refine (max_ints A2 _ c2 _ _ (cntL ks B) w2 HS.out (by rw [cntL_len]; omega) (by rw [cntL_len]; omega) (cntL_pos _ _)).mono ?_
      rintro e w3 ⟨rfl, hb3⟩
      go_wp2
      go_ret2
      exact ⟨rfl, by (repeat' (first | with_reducible exact Below.refl _ _ | (with_reducible refine balloc ?_ _) | (with_reducible refine bset ?_ ?_ _) | (with_reducible refine bdrew ?_) | (with_reducible refine bdrewN ?_ _) | (with_reducible refine bstep ?_ (by with_reducible assumption)) | (with_reducible refine bgrow ?_ (by with_reducible assumption) (by omega)) | (simp; done) | (simp; omega)))⟩
    · have hb' : withinB (b - 1) 16 = false := by simpa using hb
      have e1 : cbOk ks b = false := by simp [cbOk, hb']
      have e2 : cbL ks b = [] := by simp [cbL, e1]
      rw [e1, e2]
      clear e1 e2 hb
      go_enter Try.func20, Try.ntmps20
      go_wp2_with (fail)
      refine (impl_keysAccepted A n c lo hi ks w H.out hn).mono ?_
      rintro e w1 ⟨rfl, hb1⟩
      go_wp2_with (go_at_call 34; refine (impl_bucketsValid _ _).mono ?_; rintro e w' ⟨rfl, rfl⟩)
      go_ret2
      exact ⟨rfl, hb1⟩
  · have hka' : kaB ks = false := by simpa using hka
    have e1 : cbOk ks b = false := by simp [cbOk, hka']
    have e2 : cbL ks b = [] := by simp [cbL, e1]
    rw [e1, e2]
    clear e1 e2 hka
    go_enter Try.func20, Try.ntmps20
    go_wp2_with (fail)
    refine (impl_keysAccepted A n c lo hi ks w H.out hn).mono ?_
    rintro e w1 ⟨rfl, hb1⟩
    go_wp2_with (go_at_call 34; refine (impl_bucketsValid _ _).mono ?_; rintro e w' ⟨rfl, rfl⟩)
    go_ret2
    exact ⟨rfl, hb1⟩
/-- the best of 1 .. k buckets -/
def bst (ks : List (Int × Int)) : Nat → Nat
  | 0 => 1
  | k + 1 => if mxL (cntL ks (k + 1)) < mxL (cntL ks (bst ks k)) then k + 1 else bst ks k
theorem bst_range (ks : List (Int × Int)) (k : Nat) : 1 ≤ bst ks k ∧ (bst ks k ≤ k ∨ bst ks k = 1) := by
  induction k with
  | zero => simp [bst]
  | succ k ih => unfold bst; split <;> omega
def bbN (ks : List (Int × Int)) : Int := if kaB ks = true then (bst ks 16 : Int) else 0
theorem mx_range (ks : List (Int × Int)) (b : Nat) : 0 ≤ mxL (cntL ks b) ∧ mxL (cntL ks b) ≤ ks.length := by
  refine ⟨(mxL_ge _).1, ?_⟩
  rcases mxL_mem (cntL ks b) with h | h
  · omega
  · exact cntL_le _ _ _ h
theorem impl_BestBuckets (A : Option Addr) (n c lo hi : Nat) (ks : List (Int × Int)) (w : World) (h : Sl w lo hi 31 2 A n (kcells ks)) (hn : n ≤ 1048576) :
    Calls Try.prog 24 #[.slice A n c] w (RetIB (bbN ks) (kaB ks) w) := by
  have H := Lib.hid h
  clear h
  by_cases hka : kaB ks = true
  · have e2 : bbN ks = (bst ks 16 : Int) := by simp [bbN, hka]
    rw [e2]
    have HV := Lib.hid (kaB_valid hka)
    have E := Lib.hid hka
    clear e2
    go_enter Try.func24, Try.ntmps24
    go_wp2_with (fail)
    refine (impl_keysAccepted A n c lo hi ks w H.out hn).mono ?_
    rintro e w1 ⟨rfl, hb1⟩
    go_wp2_with (fail)
    go_loopw [4, 5] (fun v i wr => ∃ k : Nat, 1 ≤ k ∧ k ≤ 16 ∧ i = .int .i64 ((k + 1 : Nat) : Int) ∧ v = .int .i64 (bst ks k : Nat) ∧ Below w1.heap.size w1 wr) (fun _ i _ => 17 - (intOf i).toNat)
    case atStart => exact ⟨1, by omega, by omega, rfl, by simp [bst], Below.refl _ _⟩
    case round =>
      obtain ⟨k, hk1, hk, rfl, rfl, hb⟩ := hrel
      by_cases hlt : k < 16
      · obtain ⟨b1, b2⟩ := bst_range ks k
        have hcc := fun (B : Nat) (w : World) (h : Sl w lo hi 31 2 A n (kcells ks)) (q1 : 1 ≤ B) (q2 : B ≤ 16) => impl_count A n c lo hi B ks w h hn HV.out q1 q2
        have hdef : bst ks (k + 1) = if mxL (cntL ks (k + 1)) < mxL (cntL ks (bst ks k)) then k + 1 else bst ks k := rfl
        obtain ⟨m1, m2⟩ := mx_range ks (k + 1)
        obtain ⟨m3, m4⟩ := mx_range ks (bst ks k)
        have HD := Lib.hid hdef
        have HCC := Lib.hid hcc
        clear hcc hdef
        generalize bst ks k = t at *
        go_wp2_with (fail)
        refine (HCC.out (k + 1) wr ((H.out.below hb1).below hb) (by omega) (by omega)).mono ?_
        rintro e w2 ⟨A2, c2, rfl, h1, h2, hs2, hb2⟩
        have HS2 := Lib.hid hs2
        clear hs2
        go_wp2_with (fail)
        refine (max_ints A2 _ c2 _ _ (cntL ks (k + 1)) w2 HS2.out (by rw [cntL_len]; omega) (by rw [cntL_len]; omega) (cntL_pos _ _)).mono ?_
        rintro e w3 ⟨rfl, hb3⟩
        go_wp2_with (fail)
        refine (HCC.out t w3 ((((H.out.below hb1).below hb).below hb2).below hb3) (by omega) (by omega)).mono ?_
        rintro e w4 ⟨A4, c4, rfl, h41, h42, hs4, hb4⟩
        have HS4 := Lib.hid hs4
        clear hs4
        go_wp2_with (fail)
        refine (max_ints A4 _ c4 _ _ (cntL ks t) w4 HS4.out (by rw [cntL_len]; omega) (by rw [cntL_len]; omega) (cntL_pos _ _)).mono ?_
        rintro e w5 ⟨rfl, hb5⟩
        have hb6 := bstep (bstep (bstep (bstep hb hb2) hb3) hb4) hb5
        clear hb2 hb3 hb4 hb5 HS2 HS4
        rcases (show mxL (cntL ks (k + 1)) < mxL (cntL ks t) ∨ mxL (cntL ks t) ≤ mxL (cntL ks (k + 1)) from by omega) with hm | hm
        · go_wp2
          go_roundw
          case rel => exact ⟨k + 1, by omega, by omega, by go_num, by rw [HD.out, if_pos hm]; go_num, hb6⟩
          case measure => simp [intOf]; omega
        · go_wp2
          go_roundw
          case rel => exact ⟨k + 1, by omega, by omega, by go_num, by rw [HD.out, if_neg (by omega)], hb6⟩
          case measure => simp [intOf]; omega
      · obtain rfl : k = 16 := by omega
        go_wp2
        go_ret2
        exact ⟨by rw [E.out]; rfl, bstep hb1 hb⟩
  · have hka' : kaB ks = false := by simpa using hka
    have e2 : bbN ks = 0 := by simp [bbN, hka']
    rw [e2]
    clear e2 hka
    go_enter Try.func24, Try.ntmps24
    go_wp2_with (fail)
    refine (impl_keysAccepted A n c lo hi ks w H.out hn).mono ?_
    rintro e w1 ⟨rfl, hb1⟩
    go_wp2
    go_ret2
    exact ⟨by rw [hka']; rfl, hb1⟩
theorem spec_BestBuckets (A : Option Addr) (n c lo hi : Nat) (ks : List (Int × Int)) (w : World) (h : Sl w lo hi 31 2 A n (kcells ks)) (hn : n ≤ 1048576) :
    Calls Try.prog 25 #[.slice A n c] w (RetIB (bbN ks) (kaB ks) w) := by
  have H := Lib.hid h
  clear h
  by_cases hka : kaB ks = true
  · have e2 : bbN ks = (bst ks 16 : Int) := by simp [bbN, hka]
    rw [e2]
    have hlb : ∀ (B : Nat) (w : World), Sl w lo hi 31 2 A n (kcells ks) → 1 ≤ B → B ≤ 16 → Calls Try.prog 18 #[.slice A n c, .int .i64 (B : Int)] w fun e w' => e = .returned (.tuple #[.int .i64 (mxL (cntL ks B)), .bool true]) ∧ Below w.heap.size w w' := by
      intro B w h q1 q2
      have e1 : cbOk ks B = true := cbOk_iff.2 ⟨hka, by omega, by omega⟩
      have e2 : cbL ks B = cntL ks B := by rw [cbL, if_pos e1]; rfl
      have := spec_LongestBucket A n c lo hi B ks w h hn
      rw [e1, e2] at this
      exact this
    have HLB := Lib.hid hlb
    have E := Lib.hid hka
    clear e2 hlb
    go_enter Try.func25, Try.ntmps25
    go_wp2
    go_loopw [4, 5, 6] (fun v l i wr => ∃ k : Nat, k ≤ 16 ∧ i = .int .i64 ((k + 1 : Nat) : Int) ∧ ((k = 0 ∧ v = .int .i64 0 ∧ l = .int .i64 0) ∨ (1 ≤ k ∧ v = .int .i64 (bst ks k : Nat) ∧ l = .int .i64 (mxL (cntL ks (bst ks k))))) ∧ Below w.heap.size w wr) (fun _ _ i _ => 17 - (intOf i).toNat)
    case atStart => exact ⟨0, by omega, rfl, .inl ⟨rfl, rfl, rfl⟩, Below.refl _ _⟩
    case round =>
      obtain ⟨k, hk, rfl, hst, hb⟩ := hrel
      by_cases hlt : k < 16
      · have hdef : bst ks (k + 1) = if mxL (cntL ks (k + 1)) < mxL (cntL ks (bst ks k)) then k + 1 else bst ks k := rfl
        obtain ⟨m1, m2⟩ := mx_range ks (k + 1)
        have HD := Lib.hid hdef
        clear hdef
        rcases hst with ⟨rfl, rfl, rfl⟩ | ⟨hk1, rfl, rfl⟩
        · have hb1 : bst ks 1 = 1 := by simp [bst]
          have HB1 := Lib.hid hb1
          clear hb1
          go_wp2_with (fail)
          refine (spec_l2Keys A n c lo hi ks wr (H.out.below hb) hn).mono ?_
          rintro e w2 ⟨rfl, hb2⟩
          go_wp2_with (fail)
          refine (HLB.out 1 w2 ((H.out.below hb).below hb2) (by omega) (by omega)).mono ?_
          rintro e w3 ⟨rfl, hb3⟩
          have hb6 := bstep (bstep hb hb2) hb3
          clear hb2 hb3
          go_wp2
          go_roundw
          case rel => exact ⟨1, by omega, by go_num, .inr ⟨by omega, by rw [HB1.out]; go_num, by rw [HB1.out]⟩, hb6⟩
          case measure => simp [intOf]
        · obtain ⟨b1, b2⟩ := bst_range ks k
          obtain ⟨m3, m4⟩ := mx_range ks (bst ks k)
          generalize bst ks k = t at *
          have ht0 : ((t : Int) == 0) = false := by simp; omega
          go_wp2_with (fail)
          refine (spec_l2Keys A n c lo hi ks wr (H.out.below hb) hn).mono ?_
          rintro e w2 ⟨rfl, hb2⟩
          go_wp2_with (fail)
          refine (HLB.out (k + 1) w2 ((H.out.below hb).below hb2) (by omega) (by omega)).mono ?_
          rintro e w3 ⟨rfl, hb3⟩
          have hb6 := bstep (bstep hb hb2) hb3
          clear hb2 hb3
          rcases (show mxL (cntL ks (k + 1)) < mxL (cntL ks t) ∨ mxL (cntL ks t) ≤ mxL (cntL ks (k + 1)) from by omega) with hm | hm
          · go_wp2
            go_roundw
            case rel => exact ⟨k + 1, by omega, by go_num, .inr ⟨by omega, by rw [HD.out, if_pos hm]; go_num, by rw [HD.out, if_pos hm]⟩, hb6⟩
            case measure => simp [intOf]; omega
          · go_wp2
            go_roundw
            case rel => exact ⟨k + 1, by omega, by go_num, .inr ⟨by omega, by rw [HD.out, if_neg (by omega)], by rw [HD.out, if_neg (by omega)]⟩, hb6⟩
            case measure => simp [intOf]; omega
      · obtain rfl : k = 16 := by omega
        obtain ⟨b1, b2⟩ := bst_range ks 16
        rcases hst with ⟨h, _⟩ | ⟨hk1, rfl, rfl⟩
        · omega
        · generalize bst ks 16 = t at *
          go_wp2
          go_ret2
          exact ⟨by rw [E.out]; simp; omega, hb⟩
  · have hka' : kaB ks = false := by simpa using hka
    have e2 : bbN ks = 0 := by simp [bbN, hka']
    rw [e2]
    clear e2 hka
    go_enter Try.func25, Try.ntmps25
    go_wp2
    refine wp_loop_rounds 1 ?_
    rw [rounds_succ]
    go_wp2_with (fail)
    refine (spec_l2Keys A n c lo hi ks w H.out hn).mono ?_
    rintro e w2 ⟨rfl, hb2⟩
    go_wp2
    go_ret2
    exact ⟨by rw [hka']; rfl, hb2⟩
end Go.Proofs.Ytjdjhfdjafdhoaa
