/- Walk of the law FnExactRehashTable: it returns true where the variable 'free' holds what its initialiser lays. No other conditions. -/
import Derived.Test.YtnbfmnchihckaaaDoorRehS
import Derived.Test.YtnbfmnchihckaaaDoorLawsG3
namespace Go.Proofs.YtnbfmnchihckaaaDoor
set_option linter.unusedVariables false
open Go.ChangeShapes Go.WideShapes Go.ChangeAt Go.RowKit
theorem rhT_len (bk : List Int) (fs : List Fr) (b : Int) : (rhT bk fs b).1.length ≤ 16 ∧ (rhT bk fs b).2.length ≤ 16 := by
  unfold rhT
  split
  · rename_i h
    unfold rhOk at h
    rw [Bool.and_eq_true] at h
    have := ntOk_iff.1 h.2
    obtain ⟨h1, h2⟩ := rhs_len fs b.toNat fs.length
    unfold rT
    rw [h1, h2]
    omega
  · simp
set_option maxHeartbeats 4000000 in
theorem law_FnExactRehashTable (w : World) (A : Option Addr) (nb ca : Nat) (B : Option Addr) (nf cb : Nat) (h : ArgTab w A nb ca B nf cb) (b : Int) (_wb : (Lit.int .i64 b).wf = true) (hfree : FreeIn w) :
    Calls Tryd.prog 10 #[tabV A nb ca B nf cb, .int .i64 b] w fun r w' => r = .returned (.bool true) ∧ Below w.heap.size w w' := by
  obtain ⟨⟨bk, fs, ht⟩, ⟨a1, a2⟩, a3, a4⟩ := h
  obtain rfl : bk.length = nb := ht.1.1
  obtain rfl : fs.length = nf := ht.2.1
  have m1 : bk.length ≤ maxLen := by omega
  have m2 : fs.length ≤ maxLen := by omega
  have H := Lib.hid ht
  have HF := Lib.hid hfree
  clear ht a1 a2 a3 a4 hfree
  obtain ⟨z, hz, SZ⟩ := sz_tab A B bk.length ca fs.length cb 1048576 m1 m2 (by omega) (by omega)
  have SZH := Lib.hid SZ
  clear SZ
  unfold tabV
  rcases hz with ⟨rfl, _⟩ | ⟨hz, h5⟩
  · clear m1 m2
    go_enter Tryd.func10, Tryd.ntmps10
    go_wp2_with (fail)
    refine (SZH.out _).mono ?_
    rintro e w1 ⟨rfl, hb1⟩
    go_wp2
    go_ret
    exact ⟨rfl, by (repeat' (first | with_reducible exact Below.refl _ _ | (with_reducible refine balloc ?_ _) | (with_reducible refine bset ?_ ?_ _) | (with_reducible refine bdrew ?_) | (with_reducible refine bdrewN ?_ _) | (with_reducible refine bstep ?_ (by with_reducible assumption)) | (with_reducible refine bgrow ?_ (by with_reducible assumption) (by omega)) | (simp; done) | (simp; omega)))⟩
  have hz0 : 0 ≤ z := by omega
  have c1 : bk.length ≤ 1048576 := by omega
  have c2 : fs.length ≤ 1048576 := by omega
  have hzz : z ≤ 1048576 := by omega
  clear m1 m2 h5 hz
  have SK := Lib.hid (fun (A B : Option Addr) (ca cb lo hi : Nat) (w : World) (h : Tb w lo hi A B bk fs) => spec_RehashTable A B ca cb lo hi bk fs b w h c1 c2)
  have IK := Lib.hid (fun (A B : Option Addr) (ca cb lo hi : Nat) (w : World) (hf : FreeIn w) (h : Tb w lo hi A B bk fs) => impl_RehashTable A B ca cb lo hi bk fs b w hf h c1 c2)
  obtain ⟨n1, n2⟩ := rhT_len bk fs b
  generalize rhT bk fs b = t at *
  generalize rhOk bk fs b = ok at *
  obtain ⟨bk2, fs2⟩ := t
  simp only [] at n1 n2
  go_enter Tryd.func10, Tryd.ntmps10
  go_wp2_with (fail)
  refine (SZH.out _).mono ?_
  rintro e w1 ⟨rfl, hb1⟩
  obtain ⟨hc1_0, hf1_0, hz1_0⟩ := bel_at hb1 (w.heap.size) (by first | omega | (simp; done) | (simp; omega))
  go_wp2_with (fail)
  refine (toTabA _ _ _ _ _ _ bk fs _ (H.out.below (by (repeat' (first | with_reducible exact Below.refl _ _ | (with_reducible refine balloc ?_ _) | (with_reducible refine bset ?_ ?_ _) | (with_reducible refine bdrew ?_) | (with_reducible refine bdrewN ?_ _) | (with_reducible refine bstep ?_ (by with_reducible assumption)) | (with_reducible refine bgrow ?_ (by with_reducible assumption) (by omega)) | (simp; done) | (simp; omega))))) c1 c2).mono ?_
  rintro e w2 ⟨ga2, gb2, rfl, ht2, hb2⟩
  obtain ⟨hc2_0, hf2_0, hz2_0⟩ := bel_at hb2 (w.heap.size) (by first | omega | (simp; done) | (simp; omega))
  go_wp2_with (fail)
  refine (SK.out _ _ _ _ _ _ _ ht2).mono ?_
  rintro e w3 ⟨A3, c3, B3, d3, rfl, ⟨_, _⟩, ⟨_, _⟩, ht3, hb3⟩
  obtain ⟨hc3_0, hf3_0, hz3_0⟩ := bel_at hb3 (w.heap.size) (by first | omega | (simp; done) | (simp; omega))
  have HW3 := Lib.hid ht3
  have hB3 : Below w.heap.size w w3 := by (repeat' (first | with_reducible exact Below.refl _ _ | (with_reducible refine balloc ?_ _) | (with_reducible refine bset ?_ ?_ _) | (with_reducible refine bdrew ?_) | (with_reducible refine bdrewN ?_ _) | (with_reducible refine bstep ?_ (by with_reducible assumption)) | (with_reducible refine bgrow ?_ (by with_reducible assumption) (by omega)) | (simp; done) | (simp; omega)))
  have z2 : w.heap.size ≤ w2.heap.size := by omega
  clear ht3 ht2
  simp only []
  go_wp2_with (fail)
  refine (toTabA _ _ _ _ _ _ bk fs _ (H.out.below (by (repeat' (first | with_reducible exact Below.refl _ _ | (with_reducible refine balloc ?_ _) | (with_reducible refine bset ?_ ?_ _) | (with_reducible refine bdrew ?_) | (with_reducible refine bdrewN ?_ _) | (with_reducible refine bstep ?_ (by with_reducible assumption)) | (with_reducible refine bgrow ?_ (by with_reducible assumption) (by omega)) | (simp; done) | (simp; omega))))) c1 c2).mono ?_
  rintro e w4 ⟨ga4, gb4, rfl, ht4, hb4⟩
  obtain ⟨hc4_0, hf4_0, hz4_0⟩ := bel_at hb4 (w.heap.size) (by first | omega | (simp; done) | (simp; omega))
  obtain ⟨hc4_1, hf4_1, hz4_1⟩ := bel_at hb4 (w3.heap.size) (by first | omega | (simp; done) | (simp; omega))
  have HT4 := Lib.hid (show Tb w4 (w3.heap.size + 1) w4.heap.size (some ⟨ga4, 0, none⟩) (some ⟨gb4, 0, none⟩) bk fs from ht4.more (by simp) (Nat.le_refl _))
  clear ht4
  have hB4 : Below w.heap.size w w4 := by (repeat' (first | with_reducible exact Below.refl _ _ | (with_reducible refine balloc ?_ _) | (with_reducible refine bset ?_ ?_ _) | (with_reducible refine bdrew ?_) | (with_reducible refine bdrewN ?_ _) | (with_reducible refine bstep ?_ (by with_reducible assumption)) | (with_reducible refine bgrow ?_ (by with_reducible assumption) (by omega)) | (simp; done) | (simp; omega)))
  have HW4 := Lib.hid ((HW3.out.alloc (.cells #[.slice A3 bk2.length c3, .slice B3 fs2.length d3] 25)).below hb4)
  have z3 := hb3.size
  have z4 := hb4.size
  simp at z4
  clear hb2 hb3 HW3 hB3 hb4
  go_wp2_with (fail)
  refine (IK.out _ _ _ _ _ _ _ (HF.out.below (by (repeat' (first | with_reducible exact Below.refl _ _ | (with_reducible refine balloc ?_ _) | (with_reducible refine bset ?_ ?_ _) | (with_reducible refine bdrew ?_) | (with_reducible refine bdrewN ?_ _) | (with_reducible refine bstep ?_ (by with_reducible assumption)) | (with_reducible refine bgrow ?_ (by with_reducible assumption) (by omega)) | (simp; done) | (simp; omega))))) (HT4.out.alloc _)).mono ?_
  rintro e w5 ⟨A5, c5, B5, d5, rfl, ⟨_, _⟩, ⟨_, _⟩, ht5, hb5⟩
  obtain ⟨hc5_0, hf5_0, hz5_0⟩ := bel_at hb5 (w.heap.size) (by first | omega | (simp; done) | (simp; omega))
  obtain ⟨hc5_1, hf5_1, hz5_1⟩ := bel_at hb5 (w3.heap.size) (by first | omega | (simp; done) | (simp; omega))
  obtain ⟨hc5_2, hf5_2, hz5_2⟩ := bel_at hb5 (w4.heap.size) (by first | omega | (simp; done) | (simp; omega))
  have HG5 := Lib.hid (show Tb w5 (w4.heap.size + 1) w5.heap.size A5 B5 bk2 fs2 from ht5.more (by simp) (Nat.le_refl _))
  have HX5 := Lib.hid ((HT4.out.alloc _).below hb5)
  have HW5 := Lib.hid ((HW4.out.alloc _).below hb5)
  have hB5 : Below w.heap.size w w5 := by (repeat' (first | with_reducible exact Below.refl _ _ | (with_reducible refine balloc ?_ _) | (with_reducible refine bset ?_ ?_ _) | (with_reducible refine bdrew ?_) | (with_reducible refine bdrewN ?_ _) | (with_reducible refine bstep ?_ (by with_reducible assumption)) | (with_reducible refine bgrow ?_ (by with_reducible assumption) (by omega)) | (simp; done) | (simp; omega)))
  have z5 := hb5.size
  simp at z5
  clear ht5 HT4 HW4 hb5 hB4
  simp only []
  go_wp2_with (fail)
  refine (eqTabA _ _ _ _ _ _ _ _ _ _ _ _ bk2 fs2 _ (HG5.out.alloc _) (HW5.out.alloc _) (by omega) (by omega)).mono ?_
  rintro e w6 ⟨rfl, hb6⟩
  obtain ⟨hc6_0, hf6_0, hz6_0⟩ := bel_at hb6 (w.heap.size) (by first | omega | (simp; done) | (simp; omega))
  obtain ⟨hc6_1, hf6_1, hz6_1⟩ := bel_at hb6 (w3.heap.size) (by first | omega | (simp; done) | (simp; omega))
  obtain ⟨hc6_2, hf6_2, hz6_2⟩ := bel_at hb6 (w4.heap.size) (by first | omega | (simp; done) | (simp; omega))
  obtain ⟨hc6_3, hf6_3, hz6_3⟩ := bel_at hb6 (w5.heap.size) (by first | omega | (simp; done) | (simp; omega))
  have HG6 := Lib.hid ((HG5.out.alloc (.cells #[.slice A5 bk2.length c5, .slice B5 fs2.length d5] 25)).below hb6)
  have HX6 := Lib.hid ((HX5.out.alloc (.cells #[.slice A5 bk2.length c5, .slice B5 fs2.length d5] 25)).below hb6)
  have HW6 := Lib.hid ((HW5.out.alloc (.cells #[.slice A5 bk2.length c5, .slice B5 fs2.length d5] 25)).below hb6)
  have hB6 : Below w.heap.size w w6 := by (repeat' (first | with_reducible exact Below.refl _ _ | (with_reducible refine balloc ?_ _) | (with_reducible refine bset ?_ ?_ _) | (with_reducible refine bdrew ?_) | (with_reducible refine bdrewN ?_ _) | (with_reducible refine bstep ?_ (by with_reducible assumption)) | (with_reducible refine bgrow ?_ (by with_reducible assumption) (by omega)) | (simp; done) | (simp; omega)))
  have z6 := hb6.size
  simp at z6
  have a0 : w6.cell? ⟨w.heap.size, 0, none⟩ = some (.slice A bk.length ca) := by rw [hc6_0, oldc (by omega), hc5_0, oldc (by omega), hc4_0, oldc (by omega), hc3_0, hc2_0, hc1_0, newc rfl]; rfl
  have a1 : w6.cell? ⟨w.heap.size, 1, none⟩ = some (.slice B fs.length cb) := by rw [hc6_0, oldc (by omega), hc5_0, oldc (by omega), hc4_0, oldc (by omega), hc3_0, hc2_0, hc1_0, newc rfl]; rfl
  have b0 : w6.cell? ⟨w3.heap.size, 0, none⟩ = some (.slice A3 bk2.length c3) := by rw [hc6_1, oldc (by omega), hc5_1, oldc (by omega), hc4_1, newc rfl]; rfl
  have b1 : w6.cell? ⟨w3.heap.size, 1, none⟩ = some (.slice B3 fs2.length d3) := by rw [hc6_1, oldc (by omega), hc5_1, oldc (by omega), hc4_1, newc rfl]; rfl
  have x0 : w6.cell? ⟨w4.heap.size, 0, none⟩ = some (.slice (some ⟨ga4, 0, none⟩) bk.length bk.length) := by rw [hc6_2, oldc (by omega), hc5_2, newc rfl]; rfl
  have x1 : w6.cell? ⟨w4.heap.size, 1, none⟩ = some (.slice (some ⟨gb4, 0, none⟩) fs.length fs.length) := by rw [hc6_2, oldc (by omega), hc5_2, newc rfl]; rfl
  have y0 : w6.cell? ⟨w5.heap.size, 0, none⟩ = some (.slice A5 bk2.length c5) := by rw [hc6_3, newc rfl]; rfl
  have y1 : w6.cell? ⟨w5.heap.size, 1, none⟩ = some (.slice B5 fs2.length d5) := by rw [hc6_3, newc rfl]; rfl
  clear hc1_0 hc2_0 hc3_0 hc4_0 hc4_1 hc5_0 hc5_1 hc5_2 hc6_0 hc6_1 hc6_2 hc6_3
  clear HG5 HX5 HW5 hB5 hb6
  go_wp2_with (fail)
  go_region_held3 (fun W' => W'.cell? ⟨w.heap.size, 0, none⟩ = some (.slice A bk.length ca) ∧ W'.cell? ⟨w.heap.size, 1, none⟩ = some (.slice B fs.length cb) ∧ W'.cell? ⟨w4.heap.size, 0, none⟩ = some (.slice (some ⟨ga4, 0, none⟩) bk.length bk.length) ∧ W'.cell? ⟨w4.heap.size, 1, none⟩ = some (.slice (some ⟨gb4, 0, none⟩) fs.length fs.length)) (go_keep)
    (first | (go_at_call 18; refine (toTabA _ _ _ _ _ _ bk fs _ (H.out.below (by (repeat' (first | with_reducible exact Below.refl _ _ | (with_reducible refine balloc ?_ _) | (with_reducible refine bset ?_ ?_ _) | (with_reducible refine bdrew ?_) | (with_reducible refine bdrewN ?_ _) | (with_reducible refine bstep ?_ (by with_reducible assumption)) | (with_reducible refine bgrow ?_ (by with_reducible assumption) (by omega)) | (simp; done) | (simp; omega))))) (by omega) (by omega)).mono ?_; rintro e w7 ⟨ga7, gb7, rfl, ht7, hb7⟩; obtain ⟨hc7_0, hf7_0, hz7_0⟩ := bel_at hb7 (w.heap.size) (by first | omega | (simp; done) | (simp; omega)); obtain ⟨hc7_1, hf7_1, hz7_1⟩ := bel_at hb7 (w3.heap.size) (by first | omega | (simp; done) | (simp; omega)); obtain ⟨hc7_2, hf7_2, hz7_2⟩ := bel_at hb7 (w4.heap.size) (by first | omega | (simp; done) | (simp; omega)); obtain ⟨hc7_3, hf7_3, hz7_3⟩ := bel_at hb7 (w5.heap.size) (by first | omega | (simp; done) | (simp; omega))) | (go_at_call 13; refine (eqTabA _ _ _ _ _ _ _ _ _ _ _ _ bk fs _ (HX6.out.below (show Below w6.heap.size w6 w7 from by (repeat' (first | with_reducible exact Below.refl _ _ | (with_reducible refine balloc ?_ _) | (with_reducible refine bset ?_ ?_ _) | (with_reducible refine bdrew ?_) | (with_reducible refine bdrewN ?_ _) | (with_reducible refine bstep ?_ (by with_reducible assumption)) | (with_reducible refine bgrow ?_ (by with_reducible assumption) (by omega)) | (simp; done) | (simp; omega))))) ht7 (by omega) (by omega)).mono ?_; rintro e w8 ⟨rfl, hb8⟩; obtain ⟨hc8_0, hf8_0, hz8_0⟩ := bel_at hb8 (w.heap.size) (by first | omega | (simp; done) | (simp; omega)); obtain ⟨hc8_1, hf8_1, hz8_1⟩ := bel_at hb8 (w3.heap.size) (by first | omega | (simp; done) | (simp; omega)); obtain ⟨hc8_2, hf8_2, hz8_2⟩ := bel_at hb8 (w4.heap.size) (by first | omega | (simp; done) | (simp; omega)); obtain ⟨hc8_3, hf8_3, hz8_3⟩ := bel_at hb8 (w5.heap.size) (by first | omega | (simp; done) | (simp; omega))))
  have HG8 := Lib.hid (show Tb w8 _ _ A5 B5 bk2 fs2 from by have h7 : Below w6.heap.size w6 w7 := (by (repeat' (first | with_reducible exact Below.refl _ _ | (with_reducible refine balloc ?_ _) | (with_reducible refine bset ?_ ?_ _) | (with_reducible refine bdrew ?_) | (with_reducible refine bdrewN ?_ _) | (with_reducible refine bstep ?_ (by with_reducible assumption)) | (with_reducible refine bgrow ?_ (by with_reducible assumption) (by omega)) | (simp; done) | (simp; omega)))); exact (HG6.out.below h7).below hb8)
  have HX8 := Lib.hid (show Tb w8 _ _ (some ⟨ga4, 0, none⟩) (some ⟨gb4, 0, none⟩) bk fs from by have h7 : Below w6.heap.size w6 w7 := (by (repeat' (first | with_reducible exact Below.refl _ _ | (with_reducible refine balloc ?_ _) | (with_reducible refine bset ?_ ?_ _) | (with_reducible refine bdrew ?_) | (with_reducible refine bdrewN ?_ _) | (with_reducible refine bstep ?_ (by with_reducible assumption)) | (with_reducible refine bgrow ?_ (by with_reducible assumption) (by omega)) | (simp; done) | (simp; omega)))); exact (HX6.out.below h7).below hb8)
  have HW8 := Lib.hid (show Tb w8 _ _ A3 B3 bk2 fs2 from by have h7 : Below w6.heap.size w6 w7 := (by (repeat' (first | with_reducible exact Below.refl _ _ | (with_reducible refine balloc ?_ _) | (with_reducible refine bset ?_ ?_ _) | (with_reducible refine bdrew ?_) | (with_reducible refine bdrewN ?_ _) | (with_reducible refine bstep ?_ (by with_reducible assumption)) | (with_reducible refine bgrow ?_ (by with_reducible assumption) (by omega)) | (simp; done) | (simp; omega)))); exact (HW6.out.below h7).below hb8)
  have hB8 : Below w.heap.size w w8 := by (repeat' (first | with_reducible exact Below.refl _ _ | (with_reducible refine balloc ?_ _) | (with_reducible refine bset ?_ ?_ _) | (with_reducible refine bdrew ?_) | (with_reducible refine bdrewN ?_ _) | (with_reducible refine bstep ?_ (by with_reducible assumption)) | (with_reducible refine bgrow ?_ (by with_reducible assumption) (by omega)) | (simp; done) | (simp; omega)))
  have z8 : w6.heap.size ≤ w8.heap.size := by have h7 := hb7.size; have h8 := hb8.size; simp at h7; omega
  clear HG6 HX6 HW6 hb7 hb8 ht7 hB6
  go_wp2_with (fail)
  refine (markTabA _ _ _ _ _ _ 1 bk fs w8 HX8.out (by omega) c1 c2 (by omega) (by omega)).mono ?_
  rintro e w9 ⟨rfl, _, ho9⟩
  obtain ⟨hc9_0, hf9_0, hz9_0⟩ := only_at ho9 w.heap.size (by omega) (.inl (by omega))
  obtain ⟨hc9_1, hf9_1, hz9_1⟩ := only_at ho9 w3.heap.size (by omega) (.inl (by omega))
  obtain ⟨hc9_2, hf9_2, hz9_2⟩ := only_at ho9 w5.heap.size (by omega) (.inr (by omega))
  have HG9 := Lib.hid (HG8.out.only ho9 (.inr (by omega)))
  have HW9 := Lib.hid (HW8.out.only ho9 (.inl (by omega)))
  have hB9 := bonly hB8 ho9 (by omega) hB8.size
  have z9 := ho9.size
  clear HG8 HX8 HW8 ho9 hB8
  go_wp2_with (fail)
  refine (eqTabA _ _ _ _ _ _ _ _ _ _ _ _ bk2 fs2 w9 HG9.out HW9.out (by omega) (by omega)).mono ?_
  rintro e w10 ⟨rfl, hb10⟩
  obtain ⟨hc10_0, hf10_0, hz10_0⟩ := bel_at hb10 (w.heap.size) (by first | omega | (simp; done) | (simp; omega))
  obtain ⟨hc10_1, hf10_1, hz10_1⟩ := bel_at hb10 (w3.heap.size) (by first | omega | (simp; done) | (simp; omega))
  obtain ⟨hc10_2, hf10_2, hz10_2⟩ := bel_at hb10 (w5.heap.size) (by first | omega | (simp; done) | (simp; omega))
  have HG10 := Lib.hid (HG9.out.below hb10)
  have HW10 := Lib.hid (HW9.out.below hb10)
  have hB10 := bstep hB9 hb10
  have z10 := hb10.size
  clear HG9 HW9 hb10 hB9
  go_wp2_with (fail)
  refine (markTabA _ _ _ _ _ _ 1 bk2 fs2 w10 HG10.out (by omega) (by omega) (by omega) (by omega) (by omega)).mono ?_
  rintro e w11 ⟨rfl, ht11, ho11⟩
  obtain ⟨hc11_0, hf11_0, hz11_0⟩ := only_at ho11 w.heap.size (by omega) (.inl (by omega))
  obtain ⟨hc11_1, hf11_1, hz11_1⟩ := only_at ho11 w3.heap.size (by omega) (.inl (by omega))
  obtain ⟨hc11_2, hf11_2, hz11_2⟩ := only_at ho11 w5.heap.size (by omega) (.inr (by omega))
  have HG11 := Lib.hid ht11
  have HW11 := Lib.hid (HW10.out.only ho11 (.inl (by omega)))
  have hB11 := bonly hB10 ho11 (by omega) hB10.size
  clear HG10 HW10 ht11 ho11 hB10
  go_wp2_with (fail)
  refine (heldTabA _ _ _ _ _ _ _ _ 1 w11 HG11.out (by omega) (by omega) (by omega) (by omega)).mono ?_
  rintro e w12 ⟨rfl, hb12⟩
  obtain ⟨hc12_0, hf12_0, hz12_0⟩ := bel_at hb12 (w.heap.size) (by first | omega | (simp; done) | (simp; omega))
  obtain ⟨hc12_1, hf12_1, hz12_1⟩ := bel_at hb12 (w3.heap.size) (by first | omega | (simp; done) | (simp; omega))
  obtain ⟨hc12_2, hf12_2, hz12_2⟩ := bel_at hb12 (w5.heap.size) (by first | omega | (simp; done) | (simp; omega))
  have hB12 := bstep hB11 hb12
  go_wp2_with (fail)
  refine (toTabA _ _ _ _ _ _ bk fs _ (H.out.below hB12) c1 c2).mono ?_
  rintro e w13 ⟨ga13, gb13, rfl, ht13, hb13⟩
  obtain ⟨hc13_0, hf13_0, hz13_0⟩ := bel_at hb13 (w.heap.size) (by first | omega | (simp; done) | (simp; omega))
  obtain ⟨hc13_1, hf13_1, hz13_1⟩ := bel_at hb13 (w3.heap.size) (by first | omega | (simp; done) | (simp; omega))
  obtain ⟨hc13_2, hf13_2, hz13_2⟩ := bel_at hb13 (w5.heap.size) (by first | omega | (simp; done) | (simp; omega))
  go_wp2_with (fail)
  refine (IK.out _ _ _ _ _ _ w13 (HF.out.below (bstep hB12 hb13)) ht13).mono ?_
  rintro e w14 ⟨A14, c14, B14, d14, rfl, ⟨_, _⟩, ⟨_, _⟩, ht14, hb14⟩
  obtain ⟨hc14_0, hf14_0, hz14_0⟩ := bel_at hb14 (w.heap.size) (by first | omega | (simp; done) | (simp; omega))
  obtain ⟨hc14_1, hf14_1, hz14_1⟩ := bel_at hb14 (w3.heap.size) (by first | omega | (simp; done) | (simp; omega))
  obtain ⟨hc14_2, hf14_2, hz14_2⟩ := bel_at hb14 (w5.heap.size) (by first | omega | (simp; done) | (simp; omega))
  simp only []
  have hB14 := bstep (bstep hB12 hb13) hb14
  go_wp2_with (fail)
  refine (eqTabA _ _ _ _ _ _ _ _ _ _ _ _ bk2 fs2 _ (ht14.alloc _) ((((HW11.out.below hb12).below hb13).below hb14).alloc _) (by omega) (by omega)).mono ?_
  rintro e w15 ⟨rfl, hb15⟩
  obtain ⟨hc15_0, hf15_0, hz15_0⟩ := bel_at hb15 (w.heap.size) (by first | omega | (simp; done) | (simp; omega))
  obtain ⟨hc15_1, hf15_1, hz15_1⟩ := bel_at hb15 (w3.heap.size) (by first | omega | (simp; done) | (simp; omega))
  obtain ⟨hc15_2, hf15_2, hz15_2⟩ := bel_at hb15 (w5.heap.size) (by first | omega | (simp; done) | (simp; omega))
  have hB15 : Below w.heap.size w w15 := by (repeat' (first | with_reducible exact Below.refl _ _ | (with_reducible refine balloc ?_ _) | (with_reducible refine bset ?_ ?_ _) | (with_reducible refine bdrew ?_) | (with_reducible refine bdrewN ?_ _) | (with_reducible refine bstep ?_ (by with_reducible assumption)) | (with_reducible refine bgrow ?_ (by with_reducible assumption) (by omega)) | (simp; done) | (simp; omega)))
  go_wp2_with (fail)
  refine (heldTabA _ _ _ _ _ _ _ _ 1 w15 (((((HG11.out.below hb12).below hb13).below hb14).alloc _).below hb15) (by omega) (by omega) (by omega) (by omega)).mono ?_
  rintro e w16 ⟨rfl, hb16⟩
  have hB16 := bstep hB15 hb16
  clear ht14 ht13 hb12 hb13 hb14 hb15 hb16 hB12 hB11 hB15 hB14
  go_wp2
  all_goals (go_ret; exact ⟨rfl, hB16⟩)
end Go.Proofs.YtnbfmnchihckaaaDoor
