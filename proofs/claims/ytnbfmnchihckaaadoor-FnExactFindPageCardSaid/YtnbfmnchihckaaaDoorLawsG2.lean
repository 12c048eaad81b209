/- Walks of exact laws on tables: each returns true where the variable 'free' holds what its initialiser lays. No other conditions. -/
import Derived.Test.YtnbfmnchihckaaaDoorFind3
namespace Go.Proofs.YtnbfmnchihckaaaDoor
set_option linter.unusedVariables false
open Go.ChangeShapes Go.WideShapes Go.ChangeAt Go.RowKit
set_option maxHeartbeats 4000000 in
theorem law_FnExactFindPage (w : World) (A : Option Addr) (nb ca : Nat) (B : Option Addr) (nf cb : Nat) (h : ArgTab w A nb ca B nf cb) (s p : Int) (_ws : (Lit.int .i64 s).wf = true) (_wp : (Lit.int .i64 p).wf = true) (hfree : FreeIn w) :
    Calls Tryd.prog 5 #[tabV A nb ca B nf cb, .agg #[.int .i64 s, .int .i64 p]] w fun r w' => r = .returned (.bool true) ∧ Below w.heap.size w w' := by
  obtain ⟨⟨bk, fs, ht⟩, ⟨a1, a2⟩, a3, a4⟩ := h
  obtain rfl : bk.length = nb := ht.1.1
  obtain rfl : fs.length = nf := ht.2.1
  have m1 : bk.length ≤ maxLen := by omega
  have m2 : fs.length ≤ maxLen := by omega
  have H := Lib.hid ht
  have HF := Lib.hid hfree
  clear ht a1 a2 a3 a4 hfree
  obtain ⟨z, hz, SZ⟩ := sz_tab A B bk.length ca fs.length cb 1048576 m1 m2 (by omega) (by omega)
  have SZH := Lib.hid SZ
  clear SZ
  unfold tabV
  rcases hz with ⟨rfl, _⟩ | ⟨hz, h5⟩
  · clear m1 m2
    go_enter Tryd.func5, Tryd.ntmps5
    go_wp2_with (fail)
    refine (SZH.out _).mono ?_
    rintro e w1 ⟨rfl, hb1⟩
    go_wp2
    go_ret
    exact ⟨rfl, by (repeat' (first | with_reducible exact Below.refl _ _ | (with_reducible refine balloc ?_ _) | (with_reducible refine bset ?_ ?_ _) | (with_reducible refine bdrew ?_) | (with_reducible refine bdrewN ?_ _) | (with_reducible refine bstep ?_ (by with_reducible assumption)) | (with_reducible refine bgrow ?_ (by with_reducible assumption) (by omega)) | (simp; done) | (simp; omega)))⟩
  have hz0 : 0 ≤ z := by omega
  have c1 : bk.length ≤ 1048576 := by omega
  have c2 : fs.length ≤ 1048576 := by omega
  have hzz : z ≤ 1048576 := by omega
  clear m1 m2 h5 hz
  have SK := Lib.hid (fun (A B : Option Addr) (ca cb lo hi : Nat) (w : World) (h : Tb w lo hi A B bk fs) => spec_FindPage A B ca cb lo hi bk fs s p w h c1 c2)
  have IK := Lib.hid (fun (A B : Option Addr) (ca cb lo hi : Nat) (w : World) (hf : FreeIn w) (h : Tb w lo hi A B bk fs) => impl_FindPage A B ca cb lo hi bk fs s p w hf h c1 c2)
  generalize fpF bk fs s p = r1 at *
  generalize fpS bk fs s p = r2 at *
  generalize fpOk bk fs s p = r3 at *
  go_enter Tryd.func5, Tryd.ntmps5
  go_wp2_with (fail)
  refine (SZH.out _).mono ?_
  rintro e w1 ⟨rfl, hb1⟩
  obtain ⟨hc1_0, hf1_0, hz1_0⟩ := bel_at hb1 (w.heap.size) (by first | omega | (simp; done) | (simp; omega))
  obtain ⟨hc1_1, hf1_1, hz1_1⟩ := bel_at hb1 (w.heap.size + 1) (by first | omega | (simp; done) | (simp; omega))
  go_wp2_with (fail)
  go_region_held3 (fun W' => W'.cell? ⟨w.heap.size, 0, none⟩ = some (.slice A bk.length ca) ∧ W'.cell? ⟨w.heap.size, 1, none⟩ = some (.slice B fs.length cb) ∧ W'.cell? ⟨w.heap.size + 1, 0, none⟩ = some (.int .i64 s) ∧ W'.cell? ⟨w.heap.size + 1, 1, none⟩ = some (.int .i64 p)) (go_keep)
    (first | (go_at_call 18; refine (toTabA _ _ _ _ _ _ bk fs _ (H.out.below (by (repeat' (first | with_reducible exact Below.refl _ _ | (with_reducible refine balloc ?_ _) | (with_reducible refine bset ?_ ?_ _) | (with_reducible refine bdrew ?_) | (with_reducible refine bdrewN ?_ _) | (with_reducible refine bstep ?_ (by with_reducible assumption)) | (with_reducible refine bgrow ?_ (by with_reducible assumption) (by omega)) | (simp; done) | (simp; omega))))) c1 c2).mono ?_; rintro e w2 ⟨ga2, gb2, rfl, ht2, hb2⟩; obtain ⟨hc2_0, hf2_0, hz2_0⟩ := bel_at hb2 (w.heap.size) (by first | omega | (simp; done) | (simp; omega)); obtain ⟨hc2_1, hf2_1, hz2_1⟩ := bel_at hb2 (w.heap.size + 1) (by first | omega | (simp; done) | (simp; omega))) | (go_at_call 21; refine (laws_toKey _ _ _).mono ?_; rintro e w5 ⟨rfl, hb5⟩; obtain ⟨hc5_0, hf5_0, hz5_0⟩ := bel_at hb5 (w.heap.size) (by first | omega | (simp; done) | (simp; omega)); obtain ⟨hc5_1, hf5_1, hz5_1⟩ := bel_at hb5 (w.heap.size + 1) (by first | omega | (simp; done) | (simp; omega))) | (go_at_call 20; refine (SK.out _ _ _ _ _ _ _ (by first | exact ht2 | exact ht2.below hb5)).mono ?_; rintro e w3 ⟨rfl, hb3⟩; obtain ⟨hc3_0, hf3_0, hz3_0⟩ := bel_at hb3 (w.heap.size) (by first | omega | (simp; done) | (simp; omega)); obtain ⟨hc3_1, hf3_1, hz3_1⟩ := bel_at hb3 (w.heap.size + 1) (by first | omega | (simp; done) | (simp; omega))))
  go_wp2_with (fail)
  refine (toTabA _ _ _ _ _ _ bk fs _ (H.out.below (by (repeat' (first | with_reducible exact Below.refl _ _ | (with_reducible refine balloc ?_ _) | (with_reducible refine bset ?_ ?_ _) | (with_reducible refine bdrew ?_) | (with_reducible refine bdrewN ?_ _) | (with_reducible refine bstep ?_ (by with_reducible assumption)) | (with_reducible refine bgrow ?_ (by with_reducible assumption) (by omega)) | (simp; done) | (simp; omega))))) c1 c2).mono ?_
  rintro e w4 ⟨ga4, gb4, rfl, ht4, hb4⟩
  obtain ⟨l4, h4, hl4, HT4⟩ : ∃ lo hi, hi ≤ w4.heap.size ∧ Hid (Tb w4 lo hi (some ⟨ga4, 0, none⟩) (some ⟨gb4, 0, none⟩) bk fs) := ⟨_, _, Nat.le_refl _, Lib.hid ht4⟩
  clear ht4
  obtain ⟨hc4_0, hf4_0, hz4_0⟩ := bel_at hb4 (w.heap.size) (by first | omega | (simp; done) | (simp; omega))
  obtain ⟨hc4_1, hf4_1, hz4_1⟩ := bel_at hb4 (w.heap.size + 1) (by first | omega | (simp; done) | (simp; omega))
  have hB4 : Below w.heap.size w w4 := by (repeat' (first | with_reducible exact Below.refl _ _ | (with_reducible refine balloc ?_ _) | (with_reducible refine bset ?_ ?_ _) | (with_reducible refine bdrew ?_) | (with_reducible refine bdrewN ?_ _) | (with_reducible refine bstep ?_ (by with_reducible assumption)) | (with_reducible refine bgrow ?_ (by with_reducible assumption) (by omega)) | (simp; done) | (simp; omega)))
  go_wp2_with (fail)
  go_region_held3 (fun W' => W'.cell? ⟨w.heap.size + 1, 0, none⟩ = some (.int .i64 s) ∧ W'.cell? ⟨w.heap.size + 1, 1, none⟩ = some (.int .i64 p) ∧ W'.cell? ⟨w4.heap.size, 0, none⟩ = some (.slice (some ⟨ga4, 0, none⟩) bk.length bk.length) ∧ W'.cell? ⟨w4.heap.size, 1, none⟩ = some (.slice (some ⟨gb4, 0, none⟩) fs.length fs.length)) (go_keep)
    (first | (go_at_call 21; refine (laws_toKey _ _ _).mono ?_; rintro e w6 ⟨rfl, hb6⟩; obtain ⟨hc6_0, hf6_0, hz6_0⟩ := bel_at hb6 (w.heap.size) (by first | omega | (simp; done) | (simp; omega)); obtain ⟨hc6_1, hf6_1, hz6_1⟩ := bel_at hb6 (w.heap.size + 1) (by first | omega | (simp; done) | (simp; omega)); obtain ⟨hc6_2, hf6_2, hz6_2⟩ := bel_at hb6 (w4.heap.size) (by first | omega | (simp; done) | (simp; omega))) | (go_at_call 22; refine (IK.out _ _ _ _ l4 h4 _ (HF.out.below (by (repeat' (first | with_reducible exact Below.refl _ _ | (with_reducible refine balloc ?_ _) | (with_reducible refine bset ?_ ?_ _) | (with_reducible refine bdrew ?_) | (with_reducible refine bdrewN ?_ _) | (with_reducible refine bstep ?_ (by with_reducible assumption)) | (with_reducible refine bgrow ?_ (by with_reducible assumption) (by omega)) | (simp; done) | (simp; omega))))) (by (repeat' (first | (with_reducible assumption) | (with_reducible exact Hid.out (by assumption)) | (with_reducible refine Tb.alloc ?_ _) | (with_reducible refine Tb.drewN ?_ _) | (with_reducible refine Tb.drew ?_) | (with_reducible refine Tb.set_ ?_ (by first | (left; (try simp) <;> omega) | (right; (try simp) <;> omega)) _) | (with_reducible refine Tb.below ?_ (by with_reducible assumption)))))).mono ?_; rintro e w7 ⟨rfl, hb7⟩; obtain ⟨hc7_0, hf7_0, hz7_0⟩ := bel_at hb7 (w.heap.size) (by first | omega | (simp; done) | (simp; omega)); obtain ⟨hc7_1, hf7_1, hz7_1⟩ := bel_at hb7 (w.heap.size + 1) (by first | omega | (simp; done) | (simp; omega)); obtain ⟨hc7_2, hf7_2, hz7_2⟩ := bel_at hb7 (w4.heap.size) (by first | omega | (simp; done) | (simp; omega))))
  have HA7 := Lib.hid (show Tb w7 l4 h4 (some ⟨ga4, 0, none⟩) (some ⟨gb4, 0, none⟩) bk fs from (by (repeat' (first | (with_reducible assumption) | (with_reducible exact Hid.out (by assumption)) | (with_reducible refine Tb.alloc ?_ _) | (with_reducible refine Tb.drewN ?_ _) | (with_reducible refine Tb.drew ?_) | (with_reducible refine Tb.set_ ?_ (by first | (left; (try simp) <;> omega) | (right; (try simp) <;> omega)) _) | (with_reducible refine Tb.below ?_ (by with_reducible assumption))))))
  go_wp2_with (fail)
  go_region_held3 (fun W' => W'.cell? ⟨w.heap.size, 0, none⟩ = some (.slice A bk.length ca) ∧ W'.cell? ⟨w.heap.size, 1, none⟩ = some (.slice B fs.length cb) ∧ W'.cell? ⟨w4.heap.size, 0, none⟩ = some (.slice (some ⟨ga4, 0, none⟩) bk.length bk.length) ∧ W'.cell? ⟨w4.heap.size, 1, none⟩ = some (.slice (some ⟨gb4, 0, none⟩) fs.length fs.length)) (go_keep)
    (first | (go_at_call 18; refine (toTabA _ _ _ _ _ _ bk fs _ (H.out.below (by (repeat' (first | with_reducible exact Below.refl _ _ | (with_reducible refine balloc ?_ _) | (with_reducible refine bset ?_ ?_ _) | (with_reducible refine bdrew ?_) | (with_reducible refine bdrewN ?_ _) | (with_reducible refine bstep ?_ (by with_reducible assumption)) | (with_reducible refine bgrow ?_ (by with_reducible assumption) (by omega)) | (simp; done) | (simp; omega))))) (by omega) (by omega)).mono ?_; rintro e w8 ⟨ga8, gb8, rfl, ht8, hb8⟩; obtain ⟨hc8_0, hf8_0, hz8_0⟩ := bel_at hb8 (w.heap.size) (by first | omega | (simp; done) | (simp; omega)); obtain ⟨hc8_1, hf8_1, hz8_1⟩ := bel_at hb8 (w4.heap.size) (by first | omega | (simp; done) | (simp; omega))) | (go_at_call 13; refine (eqTabA _ _ _ _ _ _ _ _ _ _ _ _ bk fs _ (HA7.out.below (show Below w7.heap.size w7 w8 from by (repeat' (first | with_reducible exact Below.refl _ _ | (with_reducible refine balloc ?_ _) | (with_reducible refine bset ?_ ?_ _) | (with_reducible refine bdrew ?_) | (with_reducible refine bdrewN ?_ _) | (with_reducible refine bstep ?_ (by with_reducible assumption)) | (with_reducible refine bgrow ?_ (by with_reducible assumption) (by omega)) | (simp; done) | (simp; omega))))) ht8 (by omega) (by omega)).mono ?_; rintro e w9 ⟨rfl, hb9⟩; obtain ⟨hc9_0, hf9_0, hz9_0⟩ := bel_at hb9 (w.heap.size) (by first | omega | (simp; done) | (simp; omega)); obtain ⟨hc9_1, hf9_1, hz9_1⟩ := bel_at hb9 (w4.heap.size) (by first | omega | (simp; done) | (simp; omega))))
  go_wp2_with (fail)
  go_ret
  exact ⟨rfl, by (repeat' (first | with_reducible exact Below.refl _ _ | (with_reducible refine balloc ?_ _) | (with_reducible refine bset ?_ ?_ _) | (with_reducible refine bdrew ?_) | (with_reducible refine bdrewN ?_ _) | (with_reducible refine bstep ?_ (by with_reducible assumption)) | (with_reducible refine bgrow ?_ (by with_reducible assumption) (by omega)) | (simp; done) | (simp; omega)))⟩
set_option maxHeartbeats 4000000 in
theorem law_FnExactChainOf (w : World) (A : Option Addr) (nb ca : Nat) (B : Option Addr) (nf cb : Nat) (h : ArgTab w A nb ca B nf cb) (b : Int) (_wb : (Lit.int .i64 b).wf = true) (hfree : FreeIn w) :
    Calls Tryd.prog 6 #[tabV A nb ca B nf cb, .int .i64 b] w fun r w' => r = .returned (.bool true) ∧ Below w.heap.size w w' := by
  obtain ⟨⟨bk, fs, ht⟩, ⟨a1, a2⟩, a3, a4⟩ := h
  obtain rfl : bk.length = nb := ht.1.1
  obtain rfl : fs.length = nf := ht.2.1
  have m1 : bk.length ≤ maxLen := by omega
  have m2 : fs.length ≤ maxLen := by omega
  have H := Lib.hid ht
  have HF := Lib.hid hfree
  clear ht a1 a2 a3 a4 hfree
  obtain ⟨z, hz, SZ⟩ := sz_tab A B bk.length ca fs.length cb 1048576 m1 m2 (by omega) (by omega)
  have SZH := Lib.hid SZ
  clear SZ
  unfold tabV
  rcases hz with ⟨rfl, _⟩ | ⟨hz, h5⟩
  · clear m1 m2
    go_enter Tryd.func6, Tryd.ntmps6
    go_wp2_with (fail)
    refine (SZH.out _).mono ?_
    rintro e w1 ⟨rfl, hb1⟩
    go_wp2
    go_ret
    exact ⟨rfl, by (repeat' (first | with_reducible exact Below.refl _ _ | (with_reducible refine balloc ?_ _) | (with_reducible refine bset ?_ ?_ _) | (with_reducible refine bdrew ?_) | (with_reducible refine bdrewN ?_ _) | (with_reducible refine bstep ?_ (by with_reducible assumption)) | (with_reducible refine bgrow ?_ (by with_reducible assumption) (by omega)) | (simp; done) | (simp; omega)))⟩
  have hz0 : 0 ≤ z := by omega
  have c1 : bk.length ≤ 1048576 := by omega
  have c2 : fs.length ≤ 1048576 := by omega
  have hzz : z ≤ 1048576 := by omega
  clear m1 m2 h5 hz
  have SK := Lib.hid (fun (A B : Option Addr) (ca cb lo hi : Nat) (w : World) (h : Tb w lo hi A B bk fs) => spec_ChainOf A B ca cb lo hi bk fs b w h c1 c2)
  have IK := Lib.hid (fun (A B : Option Addr) (ca cb lo hi : Nat) (w : World) (hf : FreeIn w) (h : Tb w lo hi A B bk fs) => impl_ChainOf A B ca cb lo hi bk fs b w hf h c1 c2)
  have hcl := co_len bk fs b
  generalize coL bk fs b = zs at *
  generalize coOk bk fs b = ok at *
  have i0 : (0 : Int) ≤ (zs.length : Int) := by omega
  have i1 : (zs.length : Int) ≤ 1048576 := by omega
  go_enter Tryd.func6, Tryd.ntmps6
  go_wp2_with (fail)
  refine (SZH.out _).mono ?_
  rintro e w1 ⟨rfl, hb1⟩
  obtain ⟨hc1_0, hf1_0, hz1_0⟩ := bel_at hb1 (w.heap.size) (by first | omega | (simp; done) | (simp; omega))
  go_wp2_with (fail)
  refine (toTabA _ _ _ _ _ _ bk fs _ (H.out.below (by (repeat' (first | with_reducible exact Below.refl _ _ | (with_reducible refine balloc ?_ _) | (with_reducible refine bset ?_ ?_ _) | (with_reducible refine bdrew ?_) | (with_reducible refine bdrewN ?_ _) | (with_reducible refine bstep ?_ (by with_reducible assumption)) | (with_reducible refine bgrow ?_ (by with_reducible assumption) (by omega)) | (simp; done) | (simp; omega))))) c1 c2).mono ?_
  rintro e w2 ⟨ga2, gb2, rfl, ht2, hb2⟩
  obtain ⟨hc2_0, hf2_0, hz2_0⟩ := bel_at hb2 (w.heap.size) (by first | omega | (simp; done) | (simp; omega))
  go_wp2_with (fail)
  refine (SK.out _ _ _ _ _ _ _ ht2).mono ?_
  rintro e w3 ⟨A3, c3, rfl, q31, q32, hs3, hb3⟩
  obtain ⟨hc3_0, hf3_0, hz3_0⟩ := bel_at hb3 (w.heap.size) (by first | omega | (simp; done) | (simp; omega))
  have HW3 := Lib.hid hs3
  have hB3 : Below w.heap.size w w3 := by (repeat' (first | with_reducible exact Below.refl _ _ | (with_reducible refine balloc ?_ _) | (with_reducible refine bset ?_ ?_ _) | (with_reducible refine bdrew ?_) | (with_reducible refine bdrewN ?_ _) | (with_reducible refine bstep ?_ (by with_reducible assumption)) | (with_reducible refine bgrow ?_ (by with_reducible assumption) (by omega)) | (simp; done) | (simp; omega)))
  have z2 : w.heap.size ≤ w2.heap.size := by omega
  clear hs3 ht2
  go_wp2_with (fail)
  refine (toTabA _ _ _ _ _ _ bk fs _ (H.out.below (by (repeat' (first | with_reducible exact Below.refl _ _ | (with_reducible refine balloc ?_ _) | (with_reducible refine bset ?_ ?_ _) | (with_reducible refine bdrew ?_) | (with_reducible refine bdrewN ?_ _) | (with_reducible refine bstep ?_ (by with_reducible assumption)) | (with_reducible refine bgrow ?_ (by with_reducible assumption) (by omega)) | (simp; done) | (simp; omega))))) c1 c2).mono ?_
  rintro e w4 ⟨ga4, gb4, rfl, ht4, hb4⟩
  have HT4 := Lib.hid ht4
  clear ht4
  obtain ⟨hc4_0, hf4_0, hz4_0⟩ := bel_at hb4 (w.heap.size) (by first | omega | (simp; done) | (simp; omega))
  have hB4 := bstep hB3 hb4
  have HW4 := Lib.hid (HW3.out.below hb4)
  have z3 := hb3.size
  have z4 := hb4.size
  clear hb2 hb3 HW3 hB3
  go_wp2_with (fail)
  refine (IK.out _ _ _ _ _ _ _ (HF.out.below (by (repeat' (first | with_reducible exact Below.refl _ _ | (with_reducible refine balloc ?_ _) | (with_reducible refine bset ?_ ?_ _) | (with_reducible refine bdrew ?_) | (with_reducible refine bdrewN ?_ _) | (with_reducible refine bstep ?_ (by with_reducible assumption)) | (with_reducible refine bgrow ?_ (by with_reducible assumption) (by omega)) | (simp; done) | (simp; omega))))) (HT4.out.alloc _)).mono ?_
  rintro e w5 ⟨A5, c5, rfl, q51, q52, hs5, hb5⟩
  obtain ⟨hc5_0, hf5_0, hz5_0⟩ := bel_at hb5 (w.heap.size) (by first | omega | (simp; done) | (simp; omega))
  obtain ⟨hc5_1, hf5_1, hz5_1⟩ := bel_at hb5 (w4.heap.size) (by first | omega | (simp; done) | (simp; omega))
  have HG5 := Lib.hid (show Sl w5 w4.heap.size w5.heap.size 3 1 A5 zs.length (ints zs) from hs5.more (by simp) (Nat.le_refl _))
  have HX5 := Lib.hid ((HT4.out.alloc _).below hb5)
  have HW5 := Lib.hid ((HW4.out.alloc _).below hb5)
  have hB5 : Below w.heap.size w w5 := by (repeat' (first | with_reducible exact Below.refl _ _ | (with_reducible refine balloc ?_ _) | (with_reducible refine bset ?_ ?_ _) | (with_reducible refine bdrew ?_) | (with_reducible refine bdrewN ?_ _) | (with_reducible refine bstep ?_ (by with_reducible assumption)) | (with_reducible refine bgrow ?_ (by with_reducible assumption) (by omega)) | (simp; done) | (simp; omega)))
  have z5 := hb5.size
  simp at z5
  clear hs5 HT4 HW4 hb4 hB4
  go_wp2_with (fail)
  refine (laws_eqIntS A5 A3 _ _ _ _ _ _ _ zs w5 HG5.out HW5.out (by omega)).mono ?_
  rintro e w6 ⟨rfl, hb6⟩
  obtain ⟨hc6_0, hf6_0, hz6_0⟩ := bel_at hb6 (w.heap.size) (by first | omega | (simp; done) | (simp; omega))
  obtain ⟨hc6_1, hf6_1, hz6_1⟩ := bel_at hb6 (w4.heap.size) (by first | omega | (simp; done) | (simp; omega))
  have HG6 := Lib.hid (HG5.out.below hb6)
  have HX6 := Lib.hid (HX5.out.below hb6)
  have HW6 := Lib.hid (HW5.out.below hb6)
  have hB6 := bstep hB5 hb6
  have z6 := hb6.size
  clear HG5 HX5 HW5 hb5 hB5 hb6
  go_wp2_with (fail)
  go_region_held3 (fun W' => W'.cell? ⟨w.heap.size, 0, none⟩ = some (.slice A bk.length ca) ∧ W'.cell? ⟨w.heap.size, 1, none⟩ = some (.slice B fs.length cb) ∧ W'.cell? ⟨w4.heap.size, 0, none⟩ = some (.slice (some ⟨ga4, 0, none⟩) bk.length bk.length) ∧ W'.cell? ⟨w4.heap.size, 1, none⟩ = some (.slice (some ⟨gb4, 0, none⟩) fs.length fs.length)) (go_keep)
    (first | (go_at_call 18; refine (toTabA _ _ _ _ _ _ bk fs _ (H.out.below (by (repeat' (first | with_reducible exact Below.refl _ _ | (with_reducible refine balloc ?_ _) | (with_reducible refine bset ?_ ?_ _) | (with_reducible refine bdrew ?_) | (with_reducible refine bdrewN ?_ _) | (with_reducible refine bstep ?_ (by with_reducible assumption)) | (with_reducible refine bgrow ?_ (by with_reducible assumption) (by omega)) | (simp; done) | (simp; omega))))) (by omega) (by omega)).mono ?_; rintro e w7 ⟨ga7, gb7, rfl, ht7, hb7⟩; obtain ⟨hc7_0, hf7_0, hz7_0⟩ := bel_at hb7 (w.heap.size) (by first | omega | (simp; done) | (simp; omega)); obtain ⟨hc7_1, hf7_1, hz7_1⟩ := bel_at hb7 (w4.heap.size) (by first | omega | (simp; done) | (simp; omega))) | (go_at_call 13; refine (eqTabA _ _ _ _ _ _ _ _ _ _ _ _ bk fs _ (HX6.out.below (show Below w6.heap.size w6 w7 from by (repeat' (first | with_reducible exact Below.refl _ _ | (with_reducible refine balloc ?_ _) | (with_reducible refine bset ?_ ?_ _) | (with_reducible refine bdrew ?_) | (with_reducible refine bdrewN ?_ _) | (with_reducible refine bstep ?_ (by with_reducible assumption)) | (with_reducible refine bgrow ?_ (by with_reducible assumption) (by omega)) | (simp; done) | (simp; omega))))) ht7 (by omega) (by omega)).mono ?_; rintro e w8 ⟨rfl, hb8⟩; obtain ⟨hc8_0, hf8_0, hz8_0⟩ := bel_at hb8 (w.heap.size) (by first | omega | (simp; done) | (simp; omega)); obtain ⟨hc8_1, hf8_1, hz8_1⟩ := bel_at hb8 (w4.heap.size) (by first | omega | (simp; done) | (simp; omega))))
  have HG8 := Lib.hid (show Sl w8 _ _ 3 1 A5 zs.length (ints zs) from by have h7 : Below w6.heap.size w6 w7 := (by (repeat' (first | with_reducible exact Below.refl _ _ | (with_reducible refine balloc ?_ _) | (with_reducible refine bset ?_ ?_ _) | (with_reducible refine bdrew ?_) | (with_reducible refine bdrewN ?_ _) | (with_reducible refine bstep ?_ (by with_reducible assumption)) | (with_reducible refine bgrow ?_ (by with_reducible assumption) (by omega)) | (simp; done) | (simp; omega)))); exact (HG6.out.below h7).below hb8)
  have HX8 := Lib.hid (show Tb w8 _ _ (some ⟨ga4, 0, none⟩) (some ⟨gb4, 0, none⟩) bk fs from by have h7 : Below w6.heap.size w6 w7 := (by (repeat' (first | with_reducible exact Below.refl _ _ | (with_reducible refine balloc ?_ _) | (with_reducible refine bset ?_ ?_ _) | (with_reducible refine bdrew ?_) | (with_reducible refine bdrewN ?_ _) | (with_reducible refine bstep ?_ (by with_reducible assumption)) | (with_reducible refine bgrow ?_ (by with_reducible assumption) (by omega)) | (simp; done) | (simp; omega)))); exact (HX6.out.below h7).below hb8)
  have HW8 := Lib.hid (show Sl w8 _ _ 3 1 A3 zs.length (ints zs) from by have h7 : Below w6.heap.size w6 w7 := (by (repeat' (first | with_reducible exact Below.refl _ _ | (with_reducible refine balloc ?_ _) | (with_reducible refine bset ?_ ?_ _) | (with_reducible refine bdrew ?_) | (with_reducible refine bdrewN ?_ _) | (with_reducible refine bstep ?_ (by with_reducible assumption)) | (with_reducible refine bgrow ?_ (by with_reducible assumption) (by omega)) | (simp; done) | (simp; omega)))); exact (HW6.out.below h7).below hb8)
  have hB8 : Below w.heap.size w w8 := by (repeat' (first | with_reducible exact Below.refl _ _ | (with_reducible refine balloc ?_ _) | (with_reducible refine bset ?_ ?_ _) | (with_reducible refine bdrew ?_) | (with_reducible refine bdrewN ?_ _) | (with_reducible refine bstep ?_ (by with_reducible assumption)) | (with_reducible refine bgrow ?_ (by with_reducible assumption) (by omega)) | (simp; done) | (simp; omega)))
  have z8 : w6.heap.size ≤ w8.heap.size := by have h7 := hb7.size; have h8 := hb8.size; simp at h7; omega
  clear HG6 HX6 HW6 hb7 hb8 ht7 hB6
  go_wp2_with (fail)
  refine (laws_markTable _ _ _ _ _ _ 1 bk fs w8 HX8.out (by omega) c1 c2 (by omega) (by omega)).mono ?_
  rintro e w9 ⟨rfl, _, ho9⟩
  obtain ⟨hc9_0, hf9_0, hz9_0⟩ := only_at ho9 w.heap.size (by omega) (.inl (by omega))
  have HG9 := Lib.hid (HG8.out.only ho9 (.inr (by omega)))
  have HW9 := Lib.hid (HW8.out.only ho9 (.inl (by omega)))
  have hB9 := bonly hB8 ho9 (by omega) hB8.size
  have z9 := ho9.size
  clear HG8 HX8 HW8 ho9 hB8
  go_wp2_with (fail)
  refine (laws_eqIntS A5 A3 _ _ _ _ _ _ _ zs w9 HG9.out HW9.out (by omega)).mono ?_
  rintro e w10 ⟨rfl, hb10⟩
  obtain ⟨hc10_0, hf10_0, hz10_0⟩ := bel_at hb10 (w.heap.size) (by first | omega | (simp; done) | (simp; omega))
  have HG10 := Lib.hid (HG9.out.below hb10)
  have HW10 := Lib.hid (HW9.out.below hb10)
  have hB10 := bstep hB9 hb10
  have z10 := hb10.size
  clear HG9 HW9 hb10 hB9
  go_wp2_with (fail)
  refine (laws_markIntS A5 _ _ _ _ 1 zs w10 HG10.out (by omega) (by omega) (by omega)).mono ?_
  rintro e w11 ⟨rfl, hs11, ho11⟩
  obtain ⟨hc11_0, hf11_0, hz11_0⟩ := only_at ho11 w.heap.size (by omega) (.inl (by omega))
  have HG11 := Lib.hid hs11
  have HW11 := Lib.hid (HW10.out.only ho11 (.inl (by omega)))
  have hB11 := bonly hB10 ho11 (by omega) hB10.size
  clear HG10 HW10 hs11 ho11 hB10
  go_wp2_with (fail)
  refine (laws_heldIntS A5 _ _ _ _ 1 w11 HG11.out (by omega) (by omega) (by omega)).mono ?_
  rintro e w12 ⟨rfl, hb12⟩
  obtain ⟨hc12_0, hf12_0, hz12_0⟩ := bel_at hb12 (w.heap.size) (by first | omega | (simp; done) | (simp; omega))
  have hB12 := bstep hB11 hb12
  go_wp2_with (fail)
  refine (toTabA _ _ _ _ _ _ bk fs _ (H.out.below hB12) c1 c2).mono ?_
  rintro e w13 ⟨ga13, gb13, rfl, ht13, hb13⟩
  go_wp2_with (fail)
  refine (IK.out _ _ _ _ _ _ w13 (HF.out.below (bstep hB12 hb13)) ht13).mono ?_
  rintro e w14 ⟨A14, c14, rfl, _, _, hs14, hb14⟩
  go_wp2_with (fail)
  refine (laws_eqIntS A14 A3 _ _ _ _ _ _ _ zs w14 hs14 (((HW11.out.below hb12).below hb13).below hb14) (by omega)).mono ?_
  rintro e w15 ⟨rfl, hb15⟩
  go_wp2_with (fail)
  refine (laws_heldIntS A5 _ _ _ _ 1 w15 ((((HG11.out.below hb12).below hb13).below hb14).below hb15) (by omega) (by omega) (by omega)).mono ?_
  rintro e w16 ⟨rfl, hb16⟩
  have hB16 := bstep (bstep (bstep (bstep hB12 hb13) hb14) hb15) hb16
  clear hs14 ht13 hb12 hb13 hb14 hb15 hb16 hB12 hB11
  go_wp2
  all_goals (go_ret; exact ⟨rfl, hB16⟩)
end Go.Proofs.YtnbfmnchihckaaaDoor
