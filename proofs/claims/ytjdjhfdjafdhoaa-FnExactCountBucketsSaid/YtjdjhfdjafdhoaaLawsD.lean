/- Walks of the laws on counts of keys: each returns true. No conditions. -/
import Derived.Test.YtjdjhfdjafdhoaaCountP
import Derived.Test.YtjdjhfdjafdhoaaDrawK
namespace Go.Proofs.Ytjdjhfdjafdhoaa
open Go.ChangeShapes Go.WideShapes Go.ChangeAt Go.RowKit
theorem law_FnExactLongestBucket (w : World) (A : Option Addr) (n c : Nat) (h : ArgKeys w A n c) (b : Int) (_ : (Lit.int .i64 b).wf = true) : Calls Try.prog 5 #[.slice A n c, .int .i64 b] w fun r w' => r = .returned (.bool true) ∧ Below w.heap.size w w' := by
  obtain ⟨⟨ks, hk⟩, hc1, hc2⟩ := h
  have hnm : n ≤ maxLen := Nat.le_trans hc1 hc2
  have H := Lib.hid hk
  have HM := Lib.hid hnm
  clear hk hnm hc1 hc2
  by_cases hl : 1048576 < n
  · have e1 : (if (1048576 : Int) < (n : Int) then (-1 : Int) else 1048576 - n) = -1 := if_pos (by omega)
    have SZ := laws_szKeyS A n c 1048576 w HM.out (by omega) (by omega)
    rw [e1] at SZ
    have SZH := Lib.hid SZ
    clear SZ e1
    go_enter Try.func5, Try.ntmps5
    go_wp2_with (fail)
    refine (SZH.out).mono ?_
    rintro e w' ⟨rfl, rfl⟩
    go_wp2
    go_ret
    exact ⟨rfl, Below.refl _ _⟩
  have hl' : n ≤ 1048576 := by omega
  have e1 : (if (1048576 : Int) < (n : Int) then (-1 : Int) else 1048576 - n) = 1048576 - n := if_neg (by omega)
  have SZ := laws_szKeyS A n c 1048576 w HM.out (by omega) (by omega)
  rw [e1] at SZ
  have SZH := Lib.hid SZ
  clear SZ e1 hl
  have SK := fun (A : Option Addr) (c lo hi : Nat) (w : World) (h : Sl w lo hi 31 2 A n (kcells ks)) => spec_LongestBucket A n c lo hi b ks w h hl'
  have IK := fun (A : Option Addr) (c lo hi : Nat) (w : World) (h : Sl w lo hi 31 2 A n (kcells ks)) => impl_LongestBucket A n c lo hi b ks w h hl'
  generalize mxL (cbL ks b) = mx at *
  generalize cbOk ks b = ok at *
  have SKH := Lib.hid SK
  have IKH := Lib.hid IK
  clear SK IK
  go_enter Try.func5, Try.ntmps5
  go_wp2_with (fail)
  refine (SZH.out).mono ?_
  rintro e w' ⟨rfl, rfl⟩
  go_wp2_with (fail)
  refine (laws_toKeyS A n c ks w H.out hl').mono ?_
  rintro e w1 ⟨g1, rfl, hs1, hb1⟩
  go_wp2_with (fail)
  refine (SKH.out _ _ _ _ w1 hs1).mono ?_
  rintro e w2 ⟨rfl, hb2⟩
  have hB2 := bstep hb1 hb2
  clear hs1 hb1 hb2
  go_wp2_with (fail)
  refine (laws_toKeyS A n c ks w2 (H.out.below hB2) hl').mono ?_
  rintro e w3 ⟨g3, rfl, hs3, hb3⟩
  have HS3 := Lib.hid hs3
  clear hs3
  go_wp2_with (fail)
  refine (IKH.out _ _ _ _ w3 HS3.out).mono ?_
  rintro e w4 ⟨rfl, hb4⟩
  have hB4 := bstep (bstep hB2 hb3) hb4
  go_wp2_with (fail)
  refine (laws_toKeyS A n c ks w4 (H.out.below hB4) hl').mono ?_
  rintro e w5 ⟨g5, rfl, hs5, hb5⟩
  go_wp2_with (fail)
  refine (laws_eqKeyS _ _ _ _ _ _ _ _ _ ks w5 ((HS3.out.below hb4).below hb5) hs5 hl').mono ?_
  rintro e w6 ⟨rfl, hb6⟩
  have hB6 := bstep (bstep hB4 hb5) hb6
  clear hs5 hb3 hb4 hb5 hb6
  go_wp2
  all_goals (go_ret; exact ⟨rfl, hB6⟩)
theorem law_FnExactBestBuckets (w : World) (A : Option Addr) (n c : Nat) (h : ArgKeys w A n c) : Calls Try.prog 10 #[.slice A n c] w fun r w' => r = .returned (.bool true) ∧ Below w.heap.size w w' := by
  obtain ⟨⟨ks, hk⟩, hc1, hc2⟩ := h
  have hnm : n ≤ maxLen := Nat.le_trans hc1 hc2
  have H := Lib.hid hk
  have HM := Lib.hid hnm
  clear hk hnm hc1 hc2
  by_cases hl : 1048576 < n
  · have e1 : (if (1048576 : Int) < (n : Int) then (-1 : Int) else 1048576 - n) = -1 := if_pos (by omega)
    have SZ := laws_szKeyS A n c 1048576 w HM.out (by omega) (by omega)
    rw [e1] at SZ
    have SZH := Lib.hid SZ
    clear SZ e1
    go_enter Try.func10, Try.ntmps10
    go_wp2_with (fail)
    refine (SZH.out).mono ?_
    rintro e w' ⟨rfl, rfl⟩
    go_wp2
    go_ret
    exact ⟨rfl, Below.refl _ _⟩
  have hl' : n ≤ 1048576 := by omega
  have e1 : (if (1048576 : Int) < (n : Int) then (-1 : Int) else 1048576 - n) = 1048576 - n := if_neg (by omega)
  have SZ := laws_szKeyS A n c 1048576 w HM.out (by omega) (by omega)
  rw [e1] at SZ
  have SZH := Lib.hid SZ
  clear SZ e1 hl
  have SK := fun (A : Option Addr) (c lo hi : Nat) (w : World) (h : Sl w lo hi 31 2 A n (kcells ks)) => spec_BestBuckets A n c lo hi ks w h hl'
  have IK := fun (A : Option Addr) (c lo hi : Nat) (w : World) (h : Sl w lo hi 31 2 A n (kcells ks)) => impl_BestBuckets A n c lo hi ks w h hl'
  generalize bbN ks = mx at *
  generalize kaB ks = ok at *
  have SKH := Lib.hid SK
  have IKH := Lib.hid IK
  clear SK IK
  go_enter Try.func10, Try.ntmps10
  go_wp2_with (fail)
  refine (SZH.out).mono ?_
  rintro e w' ⟨rfl, rfl⟩
  go_wp2_with (fail)
  refine (laws_toKeyS A n c ks w H.out hl').mono ?_
  rintro e w1 ⟨g1, rfl, hs1, hb1⟩
  go_wp2_with (fail)
  refine (SKH.out _ _ _ _ w1 hs1).mono ?_
  rintro e w2 ⟨rfl, hb2⟩
  have hB2 := bstep hb1 hb2
  clear hs1 hb1 hb2
  go_wp2_with (fail)
  refine (laws_toKeyS A n c ks w2 (H.out.below hB2) hl').mono ?_
  rintro e w3 ⟨g3, rfl, hs3, hb3⟩
  have HS3 := Lib.hid hs3
  clear hs3
  go_wp2_with (fail)
  refine (IKH.out _ _ _ _ w3 HS3.out).mono ?_
  rintro e w4 ⟨rfl, hb4⟩
  have hB4 := bstep (bstep hB2 hb3) hb4
  go_wp2_with (fail)
  refine (laws_toKeyS A n c ks w4 (H.out.below hB4) hl').mono ?_
  rintro e w5 ⟨g5, rfl, hs5, hb5⟩
  go_wp2_with (fail)
  refine (laws_eqKeyS _ _ _ _ _ _ _ _ _ ks w5 ((HS3.out.below hb4).below hb5) hs5 hl').mono ?_
  rintro e w6 ⟨rfl, hb6⟩
  have hB6 := bstep (bstep hB4 hb5) hb6
  clear hs5 hb3 hb4 hb5 hb6
  go_wp2
  all_goals (go_ret; exact ⟨rfl, hB6⟩)
theorem law_FnExactCountBuckets (w : World) (A : Option Addr) (n c : Nat) (h : ArgKeys w A n c) (b : Int) (_ : (Lit.int .i64 b).wf = true) : Calls Try.prog 9 #[.slice A n c, .int .i64 b] w fun r w' => r = .returned (.bool true) ∧ Below w.heap.size w w' := by
  obtain ⟨⟨ks, hk⟩, hc1, hc2⟩ := h
  have hnm : n ≤ maxLen := Nat.le_trans hc1 hc2
  have H := Lib.hid hk
  have HM := Lib.hid hnm
  clear hk hnm hc1 hc2
  by_cases hl : 1048576 < n
  · have e1 : (if (1048576 : Int) < (n : Int) then (-1 : Int) else 1048576 - n) = -1 := if_pos (by omega)
    have SZ := laws_szKeyS A n c 1048576 w HM.out (by omega) (by omega)
    rw [e1] at SZ
    have SZH := Lib.hid SZ
    clear SZ e1
    go_enter Try.func9, Try.ntmps9
    go_wp2_with (fail)
    refine (SZH.out).mono ?_
    rintro e w' ⟨rfl, rfl⟩
    go_wp2
    go_ret
    exact ⟨rfl, Below.refl _ _⟩
  have hl' : n ≤ 1048576 := by omega
  have e1 : (if (1048576 : Int) < (n : Int) then (-1 : Int) else 1048576 - n) = 1048576 - n := if_neg (by omega)
  have SZ := laws_szKeyS A n c 1048576 w HM.out (by omega) (by omega)
  rw [e1] at SZ
  have SZH := Lib.hid SZ
  clear SZ e1 hl
  have SK := fun (A : Option Addr) (c lo hi : Nat) (w : World) (h : Sl w lo hi 31 2 A n (kcells ks)) => spec_CountBuckets A n c lo hi b ks w h hl'
  have IK := fun (A : Option Addr) (c lo hi : Nat) (w : World) (h : Sl w lo hi 31 2 A n (kcells ks)) => impl_CountBuckets A n c lo hi b ks w h hl'
  have hcl := cbL_len ks b
  generalize cbL ks b = L at *
  generalize cbOk ks b = ok at *
  have SKH := Lib.hid SK
  have IKH := Lib.hid IK
  clear SK IK
  have i0 : (0 : Int) ≤ (L.length : Int) := by omega
  have i1 : (L.length : Int) ≤ 16 := by omega
  go_enter Try.func9, Try.ntmps9
  go_wp2_with (fail)
  refine (SZH.out).mono ?_
  rintro e w' ⟨rfl, rfl⟩
  go_wp2_with (fail)
  refine (laws_toKeyS A n c ks w H.out hl').mono ?_
  rintro e w1 ⟨g1, rfl, hs1, hb1⟩
  go_wp2_with (fail)
  refine (SKH.out _ _ _ _ w1 hs1).mono ?_
  rintro e w2 ⟨A2, c2, rfl, hc21, hc22, hs2, hb2⟩
  have hB2 := bstep hb1 hb2
  have HW := Lib.hid (hs2.more hb1.size (Nat.le_refl _))
  clear hs1 hb1 hb2 hs2
  go_wp2_with (fail)
  refine (laws_toKeyS A n c ks w2 (H.out.below hB2) hl').mono ?_
  rintro e w3 ⟨g3, rfl, hs3, hb3⟩
  have HS3 := Lib.hid hs3
  clear hs3
  go_wp2_with (fail)
  refine (IKH.out _ _ _ _ w3 HS3.out).mono ?_
  rintro e w4 ⟨A4, c4, rfl, hc41, hc42, hs4, hb4⟩
  have HS4 := Lib.hid hs4
  clear hs4
  have hB4 := bstep (bstep hB2 hb3) hb4
  go_wp2_with (fail)
  refine (laws_eqIntS A4 A2 _ _ _ _ _ _ _ L w4 HS4.out ((HW.out.below hb3).below hb4) (by omega)).mono ?_
  rintro e w5 ⟨rfl, hb5⟩
  go_wp2_with (fail)
  refine (laws_toKeyS A n c ks w5 (H.out.below (bstep hB4 hb5)) hl').mono ?_
  rintro e w6 ⟨g6, rfl, hs6, hb6⟩
  go_wp2_with (fail)
  refine (laws_eqKeyS _ _ _ _ _ _ _ _ _ ks w6 (((HS3.out.below hb4).below hb5).below hb6) hs6 hl').mono ?_
  rintro e w7 ⟨rfl, hb7⟩
  have hB7 := bstep (bstep (bstep hB4 hb5) hb6) hb7
  have HX7 := Lib.hid ((((HS3.out.below hb4).below hb5).below hb6).below hb7)
  have HG7 := Lib.hid (((HS4.out.below hb5).below hb6).below hb7)
  have HW7 := Lib.hid (((((HW.out.below hb3).below hb4).below hb5).below hb6).below hb7)
  have z0 := hB2.size
  have z1 := hb3.size
  have z2 := hb4.size
  have z3 := hB7.size
  clear hs6 hb3 hb4 hb5 hb6 hb7 HS3 HS4 HW hB4
  go_wp2_with (fail)
  refine (laws_markKeyS _ _ _ _ _ 1 ks w7 HX7.out hl' (by omega) (by omega)).mono ?_
  rintro e w8 ⟨rfl, ho8⟩
  have hB8 := bonly hB7 ho8 z0 z3
  have HW8 := Lib.hid (HW7.out.only ho8 (.inl (Nat.le_refl _)))
  have HG8 := Lib.hid (HG7.out.only ho8 (.inr (Nat.le_refl _)))
  clear ho8 HX7 HG7 HW7 hB7
  go_wp2_with (fail)
  refine (laws_eqIntS A4 A2 _ _ _ _ _ _ _ L w8 HG8.out HW8.out (by omega)).mono ?_
  rintro e w9 ⟨rfl, hb9⟩
  have hB9 := bstep hB8 hb9
  go_wp2_with (fail)
  refine (laws_markIntS A4 _ _ _ _ 1 L w9 (HG8.out.below hb9) (by omega) (by omega) (by omega)).mono ?_
  rintro e w10 ⟨rfl, hs10, ho10⟩
  have hB10 := bonly hB9 ho10 (by omega) hB9.size
  have HG10 := Lib.hid hs10
  have HW10 := Lib.hid ((HW8.out.below hb9).only ho10 (.inl z1))
  clear hs10 ho10 hb9 hB8 hB9 HG8 HW8
  go_wp2_with (fail)
  refine (laws_heldIntS A4 _ _ _ _ 1 w10 HG10.out (by omega) (by omega) (by omega)).mono ?_
  rintro e w11 ⟨rfl, hb11⟩
  have hB11 := bstep hB10 hb11
  go_wp2_with (fail)
  refine (laws_toKeyS A n c ks w11 (H.out.below hB11) hl').mono ?_
  rintro e w12 ⟨g12, rfl, hs12, hb12⟩
  go_wp2_with (fail)
  refine (IKH.out _ _ _ _ w12 hs12).mono ?_
  rintro e w13 ⟨A13, c13, rfl, hc131, hc132, hs13, hb13⟩
  go_wp2_with (fail)
  refine (laws_eqIntS A13 A2 _ _ _ _ _ _ _ L w13 hs13 (((HW10.out.below hb11).below hb12).below hb13) (by omega)).mono ?_
  rintro e w14 ⟨rfl, hb14⟩
  go_wp2_with (fail)
  refine (laws_heldIntS A4 _ _ _ _ 1 w14 ((((HG10.out.below hb11).below hb12).below hb13).below hb14) (by omega) (by omega) (by omega)).mono ?_
  rintro e w15 ⟨rfl, hb15⟩
  have hB15 := bstep (bstep (bstep (bstep hB11 hb12) hb13) hb14) hb15
  clear hs12 hs13 hb11 hb12 hb13 hb14 hb15 hB11 hB10
  go_wp2
  all_goals (go_ret; exact ⟨rfl, hB15⟩)
end Go.Proofs.Ytjdjhfdjafdhoaa
