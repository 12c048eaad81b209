/- Walk of the law FnExactKeysOf: it returns true where the variable 'free' holds what its initialiser lays. No other conditions. -/
import Derived.Test.YtjdoegekolbdpaaDoorKoI
import Derived.Test.YtjdoegekolbdpaaDoorMkK
import Derived.Test.YtjdoegekolbdpaaDoorDoor
namespace Go.Proofs.YtjdoegekolbdpaaDoor
set_option linter.unusedVariables false
open Go.ChangeShapes Go.WideShapes Go.ChangeAt Go.RowKit
theorem markTabB (A B : Option Addr) (ca cb lo hi : Nat) (q : Int) (bk : List Int) (fs : List Fr) (w : World) (h : Tb w lo hi A B bk fs) (hhi : hi ≤ w.heap.size) (hn : bk.length ≤ 1048576) (hn2 : fs.length ≤ 1048576) (q1 : 0 ≤ q) (q2 : q ≤ 1000) :
    Calls Tryd.prog 34 #[.agg #[.slice A bk.length ca, .slice B fs.length cb], .int .i64 q] w fun e w' => e = .returned (.int .i64 (q + bk.length + 5 * fs.length)) ∧ Only lo hi w w' := (laws_markTable A B ca cb lo hi q bk fs w h hhi hn hn2 q1 q2).mono (fun _ _ ⟨a, _, c⟩ => ⟨a, c⟩)
set_option maxHeartbeats 4000000 in
set_option maxRecDepth 100000 in
theorem law_FnExactKeysOf (w : World) (A : Option Addr) (nb ca : Nat) (B : Option Addr) (nf cb : Nat) (h : ArgTab w A nb ca B nf cb) (hfree : FreeIn w) :
    Calls Tryd.prog 8 #[tabV A nb ca B nf cb] w fun r w' => r = .returned (.bool true) ∧ Below w.heap.size w w' := by
  obtain ⟨⟨bk, fs, ht⟩, ⟨a1, a2⟩, a3, a4⟩ := h
  obtain rfl : bk.length = nb := ht.1.1
  obtain rfl : fs.length = nf := ht.2.1
  have m1 : bk.length ≤ maxLen := by omega
  have m2 : fs.length ≤ maxLen := by omega
  have H := Lib.hid ht
  have HF := Lib.hid hfree
  clear ht a1 a2 a3 a4 hfree
  obtain ⟨z, hz, SZ⟩ := sz_tab A B bk.length ca fs.length cb 1048576 m1 m2 (by omega) (by omega)
  have SZH := Lib.hid SZ
  clear SZ
  unfold tabV
  rcases hz with ⟨rfl, _⟩ | ⟨hz, h5⟩
  · clear m1 m2
    go_enter Tryd.func8, Tryd.ntmps8
    go_wp2_with (fail)
    refine (SZH.out _).mono ?_
    rintro e w1 ⟨rfl, hb1⟩
    go_wp2
    go_ret
    exact ⟨rfl, by (repeat' (first | with_reducible exact Below.refl _ _ | (with_reducible refine balloc ?_ _) | (with_reducible refine bset ?_ ?_ _) | (with_reducible refine bdrew ?_) | (with_reducible refine bdrewN ?_ _) | (with_reducible refine bstep ?_ (by with_reducible assumption)) | (with_reducible refine bgrow ?_ (by with_reducible assumption) (by omega)) | (simp; done) | (simp; omega)))⟩
  have hz0 : 0 ≤ z := by omega
  have c1 : bk.length ≤ 1048576 := by omega
  have c2 : fs.length ≤ 1048576 := by omega
  have hzz : z ≤ 1048576 := by omega
  clear m1 m2 h5 hz
  have SK := Lib.hid (fun (A B : Option Addr) (ca cb lo hi : Nat) (w : World) (h : Tb w lo hi A B bk fs) => spec_KeysOf A B ca cb lo hi bk fs w h c1 c2)
  have IK := Lib.hid (fun (A B : Option Addr) (ca cb lo hi : Nat) (w : World) (hf : FreeIn w) (h : Tb w lo hi A B bk fs) => impl_KeysOf A B ca cb lo hi bk fs w hf h c1 c2)
  have hkl : (ksOf bk fs).length ≤ 1048576 := Nat.le_trans (ksOf_len bk fs) c2
  unfold KsP at SK IK
  generalize ksOf bk fs = ks at *
  go_enter Tryd.func8, Tryd.ntmps8
  go_wp2_with (fail)
  refine (SZH.out _).mono ?_
  rintro e w1 ⟨rfl, hb1⟩
  have hB1 : Below w.heap.size w w1 := by (repeat' (first | with_reducible exact Below.refl _ _ | (with_reducible refine balloc ?_ _) | (with_reducible refine bset ?_ ?_ _) | (with_reducible refine bdrew ?_) | (with_reducible refine bdrewN ?_ _) | (with_reducible refine bstep ?_ (by with_reducible assumption)) | (with_reducible refine bgrow ?_ (by with_reducible assumption) (by omega)) | (simp; done) | (simp; omega)))
  obtain ⟨hc1_a, hf1_a, hz_a⟩ := bel_at hb1 (w.heap.size) (by first | (simp; done) | (simp; omega))
  have v_a_0 : w1.cell? ⟨w.heap.size, 0, none⟩ = some (.slice A bk.length ca) := by rw [hc1_a]; repeat' (first | exact newc (by simp) _ | rw [oldc (by simp)])
  have v_a_1 : w1.cell? ⟨w.heap.size, 1, none⟩ = some (.slice B fs.length cb) := by rw [hc1_a]; repeat' (first | exact newc (by simp) _ | rw [oldc (by simp)])
  have HB1 := Lib.hid hB1
  have hs1 := hB1.size
  clear hc1_a hf1_a hb1 hB1
  go_wp2_with (fail)
  refine (toTabA _ _ _ _ _ _ bk fs _ (H.out.below (by (repeat' (first | (with_reducible assumption) | (with_reducible exact Hid.out (by assumption)) | (with_reducible refine balloc ?_ _))))) c1 c2).mono ?_
  rintro e w2 ⟨ga2, gb2, rfl, ht2, hb2⟩
  have hB2 : Below w1.heap.size w1 w2 := by (repeat' (first | with_reducible exact Below.refl _ _ | (with_reducible refine balloc ?_ _) | (with_reducible refine bset ?_ ?_ _) | (with_reducible refine bdrew ?_) | (with_reducible refine bdrewN ?_ _) | (with_reducible refine bstep ?_ (by with_reducible assumption)) | (with_reducible refine bgrow ?_ (by with_reducible assumption) (by omega)) | (simp; done) | (simp; omega)))
  obtain ⟨hc2_a, hf2_a, hz_a⟩ := bel_at hB2 (w.heap.size) (by omega)
  replace v_a_0 := (hc2_a 0).trans v_a_0
  replace v_a_1 := (hc2_a 1).trans v_a_1
  have HT2 := Lib.hid ht2
  have HB2 := Lib.hid (bstep HB1.out hB2)
  have hs2 := hB2.size
  clear hc2_a hf2_a ht2 hb2 hB2
  go_wp2_with (fail)
  refine (SK.out _ _ _ _ _ _ _ HT2.out).mono ?_
  rintro e w3 ⟨A3, d3, rfl, ⟨_, _⟩, HS3, hb3⟩
  have hB3 : Below w2.heap.size w2 w3 := by (repeat' (first | with_reducible exact Below.refl _ _ | (with_reducible refine balloc ?_ _) | (with_reducible refine bset ?_ ?_ _) | (with_reducible refine bdrew ?_) | (with_reducible refine bdrewN ?_ _) | (with_reducible refine bstep ?_ (by with_reducible assumption)) | (with_reducible refine bgrow ?_ (by with_reducible assumption) (by omega)) | (simp; done) | (simp; omega)))
  obtain ⟨hc3_a, hf3_a, hz_a⟩ := bel_at hB3 (w.heap.size) (by omega)
  replace v_a_0 := (hc3_a 0).trans v_a_0
  replace v_a_1 := (hc3_a 1).trans v_a_1
  replace HT2 := Lib.hid (HT2.out.below hB3)
  have HB3 := Lib.hid (bstep HB2.out hB3)
  have hs3 := hB3.size
  clear hc3_a hf3_a hb3 hB3
  replace HS3 : Hid (Sl w3 w2.heap.size w3.heap.size 44 2 A3 ks.length (kcells ks)) := HS3
  clear HT2
  go_wp2_with (fail)
  refine (toTabA _ _ _ _ _ _ bk fs _ (H.out.below (by (repeat' (first | (with_reducible assumption) | (with_reducible exact Hid.out (by assumption)) | (with_reducible refine balloc ?_ _))))) c1 c2).mono ?_
  rintro e w4 ⟨ga4, gb4, rfl, ht4, hb4⟩
  have hB4 : Below w3.heap.size w3 w4 := by (repeat' (first | with_reducible exact Below.refl _ _ | (with_reducible refine balloc ?_ _) | (with_reducible refine bset ?_ ?_ _) | (with_reducible refine bdrew ?_) | (with_reducible refine bdrewN ?_ _) | (with_reducible refine bstep ?_ (by with_reducible assumption)) | (with_reducible refine bgrow ?_ (by with_reducible assumption) (by omega)) | (simp; done) | (simp; omega)))
  obtain ⟨hc4_a, hf4_a, hz_a⟩ := bel_at hB4 (w.heap.size) (by omega)
  replace v_a_0 := (hc4_a 0).trans v_a_0
  replace v_a_1 := (hc4_a 1).trans v_a_1
  replace HS3 := Lib.hid (HS3.out.below hB4)
  have HT4 := Lib.hid ht4
  have HB4 := Lib.hid (bstep HB3.out hB4)
  have hs4 := hB4.size
  clear hc4_a hf4_a ht4 hb4 hB4
  go_wp2_with (fail)
  refine (IK.out _ _ _ _ _ _ _ (HF.out.below (by (repeat' (first | (with_reducible assumption) | (with_reducible exact Hid.out (by assumption)) | (with_reducible refine balloc ?_ _))))) (HT4.out.alloc _)).mono ?_
  rintro e w5 ⟨A5, d5, rfl, ⟨_, _⟩, HS5, hb5⟩
  have hB5 : Below w4.heap.size w4 w5 := by (repeat' (first | with_reducible exact Below.refl _ _ | (with_reducible refine balloc ?_ _) | (with_reducible refine bset ?_ ?_ _) | (with_reducible refine bdrew ?_) | (with_reducible refine bdrewN ?_ _) | (with_reducible refine bstep ?_ (by with_reducible assumption)) | (with_reducible refine bgrow ?_ (by with_reducible assumption) (by omega)) | (simp; done) | (simp; omega)))
  obtain ⟨hc5_a, hf5_a, hz_a⟩ := bel_at hB5 (w.heap.size) (by omega)
  replace v_a_0 := (hc5_a 0).trans v_a_0
  replace v_a_1 := (hc5_a 1).trans v_a_1
  obtain ⟨hc5_x, hf5_x, hz_x⟩ := bel_at hb5 (w4.heap.size) (by first | (simp; done) | (simp; omega))
  have v_x_0 : w5.cell? ⟨w4.heap.size, 0, none⟩ = some (.slice (some ⟨ga4, 0, none⟩) bk.length bk.length) := by rw [hc5_x]; repeat' (first | exact newc (by simp) _ | rw [oldc (by simp)])
  have v_x_1 : w5.cell? ⟨w4.heap.size, 1, none⟩ = some (.slice (some ⟨gb4, 0, none⟩) fs.length fs.length) := by rw [hc5_x]; repeat' (first | exact newc (by simp) _ | rw [oldc (by simp)])
  replace HS3 := Lib.hid (HS3.out.below hB5)
  replace HT4 := Lib.hid (HT4.out.below hB5)
  have HB5 := Lib.hid (bstep HB4.out hB5)
  have hs5 := hB5.size
  clear hc5_a hf5_a hc5_x hf5_x hb5 hB5
  replace HS5 : Hid (Sl w5 (w4.heap.size + 1) w5.heap.size 44 2 A5 ks.length (kcells ks)) := Lib.hid (HS5.out.more (by simp) (Nat.le_refl _))
  go_wp2_with (fail)
  refine (laws_eqKeyS _ _ _ _ _ _ _ _ _ _ _ HS5.out HS3.out (by omega)).mono ?_
  rintro e w6 ⟨rfl, hb6⟩
  have hB6 : Below w5.heap.size w5 w6 := by (repeat' (first | with_reducible exact Below.refl _ _ | (with_reducible refine balloc ?_ _) | (with_reducible refine bset ?_ ?_ _) | (with_reducible refine bdrew ?_) | (with_reducible refine bdrewN ?_ _) | (with_reducible refine bstep ?_ (by with_reducible assumption)) | (with_reducible refine bgrow ?_ (by with_reducible assumption) (by omega)) | (simp; done) | (simp; omega)))
  obtain ⟨hc6_a, hf6_a, hz_a⟩ := bel_at hB6 (w.heap.size) (by omega)
  replace v_a_0 := (hc6_a 0).trans v_a_0
  replace v_a_1 := (hc6_a 1).trans v_a_1
  obtain ⟨hc6_x, hf6_x, hz_x⟩ := bel_at hB6 (w4.heap.size) (by omega)
  replace v_x_0 := (hc6_x 0).trans v_x_0
  replace v_x_1 := (hc6_x 1).trans v_x_1
  replace HS3 := Lib.hid (HS3.out.below hB6)
  replace HT4 := Lib.hid (HT4.out.below hB6)
  replace HS5 := Lib.hid (HS5.out.below hB6)
  have HB6 := Lib.hid (bstep HB5.out hB6)
  have hs6 := hB6.size
  clear hc6_a hf6_a hc6_x hf6_x hb6 hB6
  go_wp2_with (fail)
  go_region_held3 (fun W' => W'.cell? ⟨w.heap.size, 0, none⟩ = some (.slice A bk.length ca) ∧ W'.cell? ⟨w.heap.size, 1, none⟩ = some (.slice B fs.length cb) ∧ W'.cell? ⟨w4.heap.size, 0, none⟩ = some (.slice (some ⟨ga4, 0, none⟩) bk.length bk.length) ∧ W'.cell? ⟨w4.heap.size, 1, none⟩ = some (.slice (some ⟨gb4, 0, none⟩) fs.length fs.length)) (go_keep)
    (first | (go_at_call 31; refine (toTabA _ _ _ _ _ _ bk fs _ (H.out.below (by have h6 := HB6.out; (repeat' (first | with_reducible exact Below.refl _ _ | (with_reducible refine balloc ?_ _) | (with_reducible refine bset ?_ ?_ _) | (with_reducible refine bdrew ?_) | (with_reducible refine bdrewN ?_ _) | (with_reducible refine bstep ?_ (by with_reducible assumption)) | (with_reducible refine bgrow ?_ (by with_reducible assumption) (by omega)) | (simp; done) | (simp; omega))))) c1 c2).mono ?_; rintro e w7 ⟨ga7, gb7, rfl, ht7, hb7⟩; obtain ⟨qhc7_a, qhf7_a, qhz7_a⟩ := bel_at hb7 (w.heap.size) (by first | omega | (simp; omega)); obtain ⟨qhc7_x, qhf7_x, qhz7_x⟩ := bel_at hb7 (w4.heap.size) (by first | omega | (simp; omega))) | (go_at_call 33; refine (eqTabA _ _ _ _ _ _ _ _ _ _ _ _ bk fs _ (HT4.out.below (show Below w6.heap.size w6 w7 from by (repeat' (first | with_reducible exact Below.refl _ _ | (with_reducible refine balloc ?_ _) | (with_reducible refine bset ?_ ?_ _) | (with_reducible refine bdrew ?_) | (with_reducible refine bdrewN ?_ _) | (with_reducible refine bstep ?_ (by with_reducible assumption)) | (with_reducible refine bgrow ?_ (by with_reducible assumption) (by omega)) | (simp; done) | (simp; omega))))) ht7 c1 c2).mono ?_; rintro e w8 ⟨rfl, hb8⟩; obtain ⟨qhc8_a, qhf8_a, qhz8_a⟩ := bel_at hb8 (w.heap.size) (by first | omega | (simp; omega)); obtain ⟨qhc8_x, qhf8_x, qhz8_x⟩ := bel_at hb8 (w4.heap.size) (by first | omega | (simp; omega))))
  have hb86 : Below w6.heap.size w6 w8 := by (repeat' (first | with_reducible exact Below.refl _ _ | (with_reducible refine balloc ?_ _) | (with_reducible refine bset ?_ ?_ _) | (with_reducible refine bdrew ?_) | (with_reducible refine bdrewN ?_ _) | (with_reducible refine bstep ?_ (by with_reducible assumption)) | (with_reducible refine bgrow ?_ (by with_reducible assumption) (by omega)) | (simp; done) | (simp; omega)))
  obtain ⟨hc8_a, hf8_a, hz_a⟩ := bel_at hb86 (w.heap.size) (by omega)
  replace v_a_0 := (hc8_a 0).trans v_a_0
  replace v_a_1 := (hc8_a 1).trans v_a_1
  obtain ⟨hc8_x, hf8_x, hz_x⟩ := bel_at hb86 (w4.heap.size) (by omega)
  replace v_x_0 := (hc8_x 0).trans v_x_0
  replace v_x_1 := (hc8_x 1).trans v_x_1
  replace HS3 := Lib.hid (HS3.out.below hb86)
  replace HT4 := Lib.hid (HT4.out.below hb86)
  replace HS5 := Lib.hid (HS5.out.below hb86)
  have HB8 := Lib.hid (bstep HB6.out hb86)
  have hs8 := hb86.size
  clear hb86 hb7 hb8 hc8_a hc8_x hf8_a hf8_x ht7 qhc7_a qhc7_x qhf7_a qhf7_x qhc8_a qhc8_x qhf8_a qhf8_x
  go_wp2_with (fail)
  refine (markTabB _ _ _ _ _ _ 1 bk fs _ HT4.out (by omega) c1 c2 (by omega) (by omega)).mono ?_
  rintro e w9 ⟨rfl, ho9⟩
  obtain ⟨hc9_a, hf9_a, hz_a⟩ := only_at ho9 (w.heap.size) (by omega) (.inl (by omega))
  replace v_a_0 := (hc9_a 0).trans v_a_0
  replace v_a_1 := (hc9_a 1).trans v_a_1
  replace HS3 := Lib.hid (HS3.out.only ho9 (.inl (by omega)))
  clear HT4
  replace HS5 := Lib.hid (HS5.out.only ho9 (.inr (by omega)))
  have HB9 := Lib.hid (bonly HB8.out ho9 (by omega) HB8.out.size)
  have hs9 := ho9.size
  clear ho9 hc9_a hf9_a
  go_wp2_with (fail)
  refine (laws_eqKeyS _ _ _ _ _ _ _ _ _ _ _ HS5.out HS3.out (by omega)).mono ?_
  rintro e w10 ⟨rfl, hb10⟩
  have hB10 : Below w9.heap.size w9 w10 := by (repeat' (first | with_reducible exact Below.refl _ _ | (with_reducible refine balloc ?_ _) | (with_reducible refine bset ?_ ?_ _) | (with_reducible refine bdrew ?_) | (with_reducible refine bdrewN ?_ _) | (with_reducible refine bstep ?_ (by with_reducible assumption)) | (with_reducible refine bgrow ?_ (by with_reducible assumption) (by omega)) | (simp; done) | (simp; omega)))
  obtain ⟨hc10_a, hf10_a, hz_a⟩ := bel_at hB10 (w.heap.size) (by omega)
  replace v_a_0 := (hc10_a 0).trans v_a_0
  replace v_a_1 := (hc10_a 1).trans v_a_1
  replace HS3 := Lib.hid (HS3.out.below hB10)
  replace HS5 := Lib.hid (HS5.out.below hB10)
  have HB10 := Lib.hid (bstep HB9.out hB10)
  have hs10 := hB10.size
  clear hc10_a hf10_a hb10 hB10
  go_wp2_with (fail)
  refine (laws_markKeyST _ _ _ _ _ 1 ks _ HS5.out (by omega) (by omega) (by omega)).mono ?_
  rintro e w11 ⟨rfl, ⟨xs, HM, hx⟩, ho11⟩
  obtain ⟨hc11_a, hf11_a, hz_a⟩ := only_at ho11 (w.heap.size) (by omega) (.inl (by omega))
  replace v_a_0 := (hc11_a 0).trans v_a_0
  replace v_a_1 := (hc11_a 1).trans v_a_1
  replace HS3 := Lib.hid (HS3.out.only ho11 (.inl (by omega)))
  clear HS5
  have HX := hx
  have HB11 := Lib.hid (bonly HB10.out ho11 (by omega) HB10.out.size)
  have hs11 := ho11.size
  clear ho11 hc11_a hf11_a hx
  go_wp2_with (fail)
  refine (laws_heldKeyS _ _ _ _ _ 1 xs _ HX.out HM.out (by omega) (by omega) (by omega)).mono ?_
  rintro e w12 ⟨rfl, hb12⟩
  have hB12 : Below w11.heap.size w11 w12 := by (repeat' (first | with_reducible exact Below.refl _ _ | (with_reducible refine balloc ?_ _) | (with_reducible refine bset ?_ ?_ _) | (with_reducible refine bdrew ?_) | (with_reducible refine bdrewN ?_ _) | (with_reducible refine bstep ?_ (by with_reducible assumption)) | (with_reducible refine bgrow ?_ (by with_reducible assumption) (by omega)) | (simp; done) | (simp; omega)))
  obtain ⟨hc12_a, hf12_a, hz_a⟩ := bel_at hB12 (w.heap.size) (by omega)
  replace v_a_0 := (hc12_a 0).trans v_a_0
  replace v_a_1 := (hc12_a 1).trans v_a_1
  replace HS3 := Lib.hid (HS3.out.below hB12)
  replace HX := Lib.hid (HX.out.below hB12)
  have HB12 := Lib.hid (bstep HB11.out hB12)
  have hs12 := hB12.size
  clear hc12_a hf12_a hb12 hB12
  go_wp2_with (fail)
  refine (toTabA _ _ _ _ _ _ bk fs _ (H.out.below (by (repeat' (first | (with_reducible assumption) | (with_reducible exact Hid.out (by assumption)) | (with_reducible refine balloc ?_ _))))) c1 c2).mono ?_
  rintro e w13 ⟨ga13, gb13, rfl, ht13, hb13⟩
  have hB13 : Below w12.heap.size w12 w13 := by (repeat' (first | with_reducible exact Below.refl _ _ | (with_reducible refine balloc ?_ _) | (with_reducible refine bset ?_ ?_ _) | (with_reducible refine bdrew ?_) | (with_reducible refine bdrewN ?_ _) | (with_reducible refine bstep ?_ (by with_reducible assumption)) | (with_reducible refine bgrow ?_ (by with_reducible assumption) (by omega)) | (simp; done) | (simp; omega)))
  obtain ⟨hc13_a, hf13_a, hz_a⟩ := bel_at hB13 (w.heap.size) (by omega)
  replace v_a_0 := (hc13_a 0).trans v_a_0
  replace v_a_1 := (hc13_a 1).trans v_a_1
  replace HS3 := Lib.hid (HS3.out.below hB13)
  replace HX := Lib.hid (HX.out.below hB13)
  have HT13 := Lib.hid ht13
  have HB13 := Lib.hid (bstep HB12.out hB13)
  have hs13 := hB13.size
  clear hc13_a hf13_a ht13 hb13 hB13
  go_wp2_with (fail)
  refine (IK.out _ _ _ _ _ _ _ (HF.out.below (by (repeat' (first | (with_reducible assumption) | (with_reducible exact Hid.out (by assumption)) | (with_reducible refine balloc ?_ _))))) HT13.out).mono ?_
  rintro e w14 ⟨A14, d14, rfl, ⟨_, _⟩, HS14, hb14⟩
  have hB14 : Below w13.heap.size w13 w14 := by (repeat' (first | with_reducible exact Below.refl _ _ | (with_reducible refine balloc ?_ _) | (with_reducible refine bset ?_ ?_ _) | (with_reducible refine bdrew ?_) | (with_reducible refine bdrewN ?_ _) | (with_reducible refine bstep ?_ (by with_reducible assumption)) | (with_reducible refine bgrow ?_ (by with_reducible assumption) (by omega)) | (simp; done) | (simp; omega)))
  obtain ⟨hc14_a, hf14_a, hz_a⟩ := bel_at hB14 (w.heap.size) (by omega)
  replace v_a_0 := (hc14_a 0).trans v_a_0
  replace v_a_1 := (hc14_a 1).trans v_a_1
  replace HS3 := Lib.hid (HS3.out.below hB14)
  replace HX := Lib.hid (HX.out.below hB14)
  replace HT13 := Lib.hid (HT13.out.below hB14)
  have HB14 := Lib.hid (bstep HB13.out hB14)
  have hs14 := hB14.size
  clear hc14_a hf14_a hb14 hB14
  go_wp2_with (fail)
  refine (laws_eqKeyS _ _ _ _ _ _ _ _ _ _ _ HS14.out HS3.out (by omega)).mono ?_
  rintro e w15 ⟨rfl, hb15⟩
  have hB15 : Below w14.heap.size w14 w15 := by (repeat' (first | with_reducible exact Below.refl _ _ | (with_reducible refine balloc ?_ _) | (with_reducible refine bset ?_ ?_ _) | (with_reducible refine bdrew ?_) | (with_reducible refine bdrewN ?_ _) | (with_reducible refine bstep ?_ (by with_reducible assumption)) | (with_reducible refine bgrow ?_ (by with_reducible assumption) (by omega)) | (simp; done) | (simp; omega)))
  obtain ⟨hc15_a, hf15_a, hz_a⟩ := bel_at hB15 (w.heap.size) (by omega)
  replace v_a_0 := (hc15_a 0).trans v_a_0
  replace v_a_1 := (hc15_a 1).trans v_a_1
  replace HS3 := Lib.hid (HS3.out.below hB15)
  replace HX := Lib.hid (HX.out.below hB15)
  replace HT13 := Lib.hid (HT13.out.below hB15)
  replace HS14 := Lib.hid (HS14.out.below hB15)
  have HB15 := Lib.hid (bstep HB14.out hB15)
  have hs15 := hB15.size
  clear hc15_a hf15_a hb15 hB15
  go_wp2_with (fail)
  refine (laws_heldKeyS _ _ _ _ _ 1 xs _ HX.out HM.out (by omega) (by omega) (by omega)).mono ?_
  rintro e w16 ⟨rfl, hb16⟩
  have hB16 : Below w15.heap.size w15 w16 := by (repeat' (first | with_reducible exact Below.refl _ _ | (with_reducible refine balloc ?_ _) | (with_reducible refine bset ?_ ?_ _) | (with_reducible refine bdrew ?_) | (with_reducible refine bdrewN ?_ _) | (with_reducible refine bstep ?_ (by with_reducible assumption)) | (with_reducible refine bgrow ?_ (by with_reducible assumption) (by omega)) | (simp; done) | (simp; omega)))
  obtain ⟨hc16_a, hf16_a, hz_a⟩ := bel_at hB16 (w.heap.size) (by omega)
  replace v_a_0 := (hc16_a 0).trans v_a_0
  replace v_a_1 := (hc16_a 1).trans v_a_1
  replace HS3 := Lib.hid (HS3.out.below hB16)
  replace HX := Lib.hid (HX.out.below hB16)
  replace HT13 := Lib.hid (HT13.out.below hB16)
  replace HS14 := Lib.hid (HS14.out.below hB16)
  have HB16 := Lib.hid (bstep HB15.out hB16)
  have hs16 := hB16.size
  clear hc16_a hf16_a hb16 hB16
  go_wp2
  all_goals (go_ret; exact ⟨rfl, HB16.out⟩)
end Go.Proofs.YtjdoegekolbdpaaDoor
