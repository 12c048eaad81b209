/- Walk of the law FnExactNewTable: it returns true where the variable 'free' holds what its initialiser lays. No other conditions. -/
import Derived.Test.YtnbfmnchihckaaaDoorNewS
namespace Go.Proofs.YtnbfmnchihckaaaDoor
set_option linter.unusedVariables false
open Go.ChangeShapes Go.WideShapes Go.ChangeAt Go.RowKit
theorem markTabA (A B : Option Addr) (ca cb lo hi : Nat) (q : Int) (bk : List Int) (fs : List Fr) (w : World) (h : Tb w lo hi A B bk fs) (hhi : hi ≤ w.heap.size) (hn : bk.length ≤ 1048576) (hn2 : fs.length ≤ 1048576) (q1 : 0 ≤ q) (q2 : q ≤ 1000) :
    Calls Tryd.prog 14 #[.agg #[.slice A bk.length ca, .slice B fs.length cb], .int .i64 q] w fun e w' => e = .returned (.int .i64 (q + bk.length + 5 * fs.length)) ∧ Tb w' lo hi A B (marks q bk.length) (frMarks (q + bk.length) fs.length) ∧ Only lo hi w w' := laws_markTable A B ca cb lo hi q bk fs w h hhi hn hn2 q1 q2
theorem heldTabA (A B : Option Addr) (ca cb lo hi nb nf : Nat) (q : Int) (w : World) (h : Tb w lo hi A B (marks q nb) (frMarks (q + nb) nf)) (hn : nb ≤ 1048576) (hn2 : nf ≤ 1048576) (q1 : 0 ≤ q) (q2 : q ≤ 1000) :
    Calls Tryd.prog 15 #[.agg #[.slice A nb ca, .slice B nf cb], .int .i64 q] w fun e w' => e = .returned (.int .i64 (q + nb + 5 * nf)) ∧ Below w.heap.size w w' := laws_heldTable A B ca cb lo hi nb nf q w h hn hn2 q1 q2
theorem ntT_len (f b : Int) : (ntT f b).1.length ≤ 16 ∧ (ntT f b).2.length ≤ 16 := by
  unfold ntT
  split
  · rename_i h
    have := ntOk_iff.1 h
    simp [newT]; omega
  · simp
set_option maxHeartbeats 4000000 in
theorem law_FnExactNewTable (f : Int) (_wf : (Lit.int .i64 f).wf = true) (b : Int) (_wb : (Lit.int .i64 b).wf = true) (w : World) (hfree : FreeIn w) :
    Calls Tryd.prog 3 #[.int .i64 f, .int .i64 b] w fun r w' => r = .returned (.bool true) ∧ Below w.heap.size w w' := by
  have SK := Lib.hid (fun (w : World) => spec_NewTable f b w)
  have IK := Lib.hid (fun (w' : World) (hb : Below w.heap.size w w') => impl_NewTable f b w' (hfree.below hb))
  obtain ⟨n1, n2⟩ := ntT_len f b
  clear hfree
  generalize ntT f b = t at *
  generalize ntOk f b = ok at *
  obtain ⟨bk, fs⟩ := t
  simp only [] at n1 n2
  go_enter Tryd.func3, Tryd.ntmps3
  go_wp2_with (fail)
  refine (SK.out _).mono ?_
  rintro e w1 ⟨A1, c1, B1, d1, rfl, ⟨_, _⟩, ⟨_, _⟩, ht1, hb1⟩
  have HT1 := Lib.hid ht1
  clear ht1
  simp only []
  go_wp2_with (fail)
  refine (IK.out _ (by (repeat' (first | with_reducible exact Below.refl _ _ | (with_reducible refine balloc ?_ _) | (with_reducible refine bset ?_ ?_ _) | (with_reducible refine bdrew ?_) | (with_reducible refine bdrewN ?_ _) | (with_reducible refine bstep ?_ (by with_reducible assumption)) | (with_reducible refine bgrow ?_ (by with_reducible assumption) (by omega)) | (simp; done) | (simp; omega))))).mono ?_
  rintro e w2 ⟨A2, c2, B2, d2, rfl, ⟨_, _⟩, ⟨_, _⟩, ht2, hb2⟩
  obtain ⟨hc2_0, hf2_0, hz2_0⟩ := bel_at hb2 (w1.heap.size) (by first | omega | (simp; done) | (simp; omega))
  have hB2 : Below w.heap.size w w2 := by (repeat' (first | with_reducible exact Below.refl _ _ | (with_reducible refine balloc ?_ _) | (with_reducible refine bset ?_ ?_ _) | (with_reducible refine bdrew ?_) | (with_reducible refine bdrewN ?_ _) | (with_reducible refine bstep ?_ (by with_reducible assumption)) | (with_reducible refine bgrow ?_ (by with_reducible assumption) (by omega)) | (simp; done) | (simp; omega)))
  have z2 := hb2.size
  simp at z2
  have z1 := hb1.size
  have HT2 := Lib.hid (show Tb w2 (w1.heap.size + 1) w2.heap.size A2 B2 bk fs from ht2.more (by simp) (Nat.le_refl _))
  have HT1' := Lib.hid (show Tb w2 w.heap.size w1.heap.size A1 B1 bk fs from (HT1.out.alloc _).below hb2)
  clear ht2 HT1 hb1 hb2
  simp only []
  go_wp2_with (fail)
  refine (eqTabA _ _ _ _ _ _ _ _ _ _ _ _ bk fs _ (HT2.out.alloc _) (HT1'.out.alloc _) (by omega) (by omega)).mono ?_
  rintro e w3 ⟨rfl, hb3⟩
  obtain ⟨hc3_0, hf3_0, hz3_0⟩ := bel_at hb3 (w1.heap.size) (by first | omega | (simp; done) | (simp; omega))
  obtain ⟨hc3_1, hf3_1, hz3_1⟩ := bel_at hb3 (w2.heap.size) (by first | omega | (simp; done) | (simp; omega))
  have hB3 : Below w.heap.size w w3 := by (repeat' (first | with_reducible exact Below.refl _ _ | (with_reducible refine balloc ?_ _) | (with_reducible refine bset ?_ ?_ _) | (with_reducible refine bdrew ?_) | (with_reducible refine bdrewN ?_ _) | (with_reducible refine bstep ?_ (by with_reducible assumption)) | (with_reducible refine bgrow ?_ (by with_reducible assumption) (by omega)) | (simp; done) | (simp; omega)))
  have z3 := hb3.size
  simp at z3
  have HG3 := Lib.hid ((HT2.out.alloc (.cells #[.slice A2 bk.length c2, .slice B2 fs.length d2] 25)).below hb3)
  have HW3 := Lib.hid ((HT1'.out.alloc (.cells #[.slice A2 bk.length c2, .slice B2 fs.length d2] 25)).below hb3)
  clear HT2 HT1' hb3 hB2
  go_wp2_with (fail)
  refine (markTabA _ _ _ _ _ _ 1 bk fs w3 HG3.out (by omega) (by omega) (by omega) (by omega) (by omega)).mono ?_
  rintro e w4 ⟨rfl, ht4, ho4⟩
  obtain ⟨hc4_0, hf4_0, hz4_0⟩ := only_at ho4 w1.heap.size (by omega) (.inl (by omega))
  obtain ⟨hc4_1, hf4_1, hz4_1⟩ := only_at ho4 w2.heap.size (by omega) (.inr (by omega))
  have hB4 := bonly hB3 ho4 (by omega) hB3.size
  have HG4 := Lib.hid ht4
  have HW4 := Lib.hid (HW3.out.only ho4 (.inl (by omega)))
  clear ht4 ho4 hB3 HG3 HW3
  go_wp2_with (fail)
  refine (heldTabA _ _ _ _ _ _ _ _ 1 w4 HG4.out (by omega) (by omega) (by omega) (by omega)).mono ?_
  rintro e w5 ⟨rfl, hb5⟩
  obtain ⟨hc5_0, hf5_0, hz5_0⟩ := bel_at hb5 (w1.heap.size) (by first | omega | (simp; done) | (simp; omega))
  obtain ⟨hc5_1, hf5_1, hz5_1⟩ := bel_at hb5 (w2.heap.size) (by first | omega | (simp; done) | (simp; omega))
  have hB5 := bstep hB4 hb5
  go_wp2_with (fail)
  refine (IK.out _ hB5).mono ?_
  rintro e w6 ⟨A6, c6, B6, d6, rfl, ⟨_, _⟩, ⟨_, _⟩, ht6, hb6⟩
  have HT6 := Lib.hid ht6
  clear ht6
  obtain ⟨hc6_0, hf6_0, hz6_0⟩ := bel_at hb6 (w1.heap.size) (by first | omega | (simp; done) | (simp; omega))
  obtain ⟨hc6_1, hf6_1, hz6_1⟩ := bel_at hb6 (w2.heap.size) (by first | omega | (simp; done) | (simp; omega))
  have hB6 := bstep hB5 hb6
  simp only []
  go_wp2_with (fail)
  refine (eqTabA _ _ _ _ _ _ _ _ _ _ _ _ bk fs _ (HT6.out.alloc _) (((HW4.out.below hb5).below hb6).alloc _) (by omega) (by omega)).mono ?_
  rintro e w7 ⟨rfl, hb7⟩
  obtain ⟨hc7_0, hf7_0, hz7_0⟩ := bel_at hb7 (w1.heap.size) (by first | omega | (simp; done) | (simp; omega))
  obtain ⟨hc7_1, hf7_1, hz7_1⟩ := bel_at hb7 (w2.heap.size) (by first | omega | (simp; done) | (simp; omega))
  obtain ⟨hc7_2, hf7_2, hz7_2⟩ := bel_at hb7 (w6.heap.size) (by first | omega | (simp; done) | (simp; omega))
  have hB7 : Below w.heap.size w w7 := by (repeat' (first | with_reducible exact Below.refl _ _ | (with_reducible refine balloc ?_ _) | (with_reducible refine bset ?_ ?_ _) | (with_reducible refine bdrew ?_) | (with_reducible refine bdrewN ?_ _) | (with_reducible refine bstep ?_ (by with_reducible assumption)) | (with_reducible refine bgrow ?_ (by with_reducible assumption) (by omega)) | (simp; done) | (simp; omega)))
  go_wp2_with (fail)
  refine (heldTabA _ _ _ _ _ _ _ _ 1 w7 ((((HG4.out.below hb5).below hb6).alloc _).below hb7) (by omega) (by omega) (by omega) (by omega)).mono ?_
  rintro e w8 ⟨rfl, hb8⟩
  have hB8 := bstep hB7 hb8
  go_wp2
  all_goals (go_ret; exact ⟨rfl, hB8⟩)
end Go.Proofs.YtnbfmnchihckaaaDoor
