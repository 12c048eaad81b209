/- Walks of the exact laws on addresses, keys and rights: each returns true. No conditions. -/
import Derived.Test.YtlkbchhlbplmbaaAddr
import Derived.Test.YtlkbchhlbplmbaaMoveS
import Derived.Test.YtlkbchhlbplmbaaMoveI
import Derived.Test.YtlkbchhlbplmbaaPages
import Derived.Test.YtlkbchhlbplmbaaKeys
import Derived.Test.YtlkbchhlbplmbaaRights
namespace Go.Proofs.Ytlkbchhlbplmbaa
open Go.ChangeShapes Go.WideShapes Go.ChangeAt Go.RowKit
theorem law_FnExactConstants  (w : World) : Calls Try.prog 3 #[] w fun r w' => r = .returned (.bool true) ∧ Below w.heap.size w w' := by
  go_enter Try.func3, Try.ntmps3
  go_wp2_with (first | fail)
  all_goals (go_ret; exact ⟨rfl, by (repeat' (first | exact Below.refl _ _ | (refine balloc ?_ _) | (refine bset ?_ ?_ _) | (refine bdrew ?_) | (refine bdrewN ?_ _) | (refine bstep ?_ (by assumption)) | (simp; done) | (simp; omega)))⟩)
theorem law_FnExactRightsValid (r : Int) (_wr : (Lit.int .i64 r).wf = true) (w : World) : Calls Try.prog 4 #[.int .i64 r] w fun r w' => r = .returned (.bool true) ∧ Below w.heap.size w w' := by
  go_enter Try.func4, Try.ntmps4
  go_wp2_with (first | (go_at_call 15; refine (spec_RightsValid _ _).mono ?_; rintro e w' ⟨rfl, rfl⟩) | (go_at_call 16; refine (impl_RightsValid _ _).mono ?_; rintro e w' ⟨rfl, rfl⟩))
  all_goals (go_ret; exact ⟨rfl, by (repeat' (first | exact Below.refl _ _ | (refine balloc ?_ _) | (refine bset ?_ ?_ _) | (refine bdrew ?_) | (refine bdrewN ?_ _) | (refine bstep ?_ (by assumption)) | (simp; done) | (simp; omega)))⟩)
theorem law_FnExactAllows (r : Int) (_wr : (Lit.int .i64 r).wf = true) (n : Int) (_wn : (Lit.int .i64 n).wf = true) (w : World) : Calls Try.prog 5 #[.int .i64 r, .int .i64 n] w fun r w' => r = .returned (.bool true) ∧ Below w.heap.size w w' := by
  go_enter Try.func5, Try.ntmps5
  go_wp2_with (first | (go_at_call 17; refine (spec_Allows _ _ _).mono ?_; rintro e w' ⟨rfl, rfl⟩) | (go_at_call 18; refine (impl_Allows _ _ _).mono ?_; rintro e w' ⟨rfl, rfl⟩))
  all_goals (go_ret; exact ⟨rfl, by (repeat' (first | exact Below.refl _ _ | (refine balloc ?_ _) | (refine bset ?_ ?_ _) | (refine bdrew ?_) | (refine bdrewN ?_ _) | (refine bstep ?_ (by assumption)) | (simp; done) | (simp; omega)))⟩)
theorem law_FnExactKeyBefore (a b : Int) (_wa : (Lit.int .i64 a).wf = true) (_wb : (Lit.int .i64 b).wf = true) (c d : Int) (_wc : (Lit.int .i64 c).wf = true) (_wd : (Lit.int .i64 d).wf = true) (w : World) : Calls Try.prog 6 #[.agg #[.int .i64 a, .int .i64 b], .agg #[.int .i64 c, .int .i64 d]] w fun r w' => r = .returned (.bool true) ∧ Below w.heap.size w w' := by
  go_enter Try.func6, Try.ntmps6
  go_wp2_with (fail)
  go_region_held3 (fun W' => W'.cell? ⟨w.heap.size, 0, none⟩ = some (.int .i64 a) ∧ W'.cell? ⟨w.heap.size, 1, none⟩ = some (.int .i64 b) ∧ W'.cell? ⟨w.heap.size + 1, 0, none⟩ = some (.int .i64 c) ∧ W'.cell? ⟨w.heap.size + 1, 1, none⟩ = some (.int .i64 d)) (go_keep)
    (first | (go_at_call 20; refine (laws_toKey _ _ _).mono ?_; rintro e w' ⟨rfl, hb⟩; obtain ⟨hc, hf, hz⟩ := bel3 hb; obtain ⟨hc0, hf0, hz0⟩ := bel_at hb (w.heap.size) (by first | omega | (simp; done) | (simp; omega)); obtain ⟨hc1, hf1, hz1⟩ := bel_at hb (w.heap.size + 1) (by first | omega | (simp; done) | (simp; omega))) | (go_at_call 19; refine (spec_KeyBefore_b _ _ _ _ _).mono ?_; rintro e w' ⟨rfl, hb⟩; obtain ⟨hc, hf, hz⟩ := bel3 hb; obtain ⟨hc0, hf0, hz0⟩ := bel_at hb (w.heap.size) (by first | omega | (simp; done) | (simp; omega)); obtain ⟨hc1, hf1, hz1⟩ := bel_at hb (w.heap.size + 1) (by first | omega | (simp; done) | (simp; omega))))
  go_wp2_with (fail)
  go_region_held3 (fun W' => W'.cell? ⟨w.heap.size, 0, none⟩ = some (.int .i64 a) ∧ W'.cell? ⟨w.heap.size, 1, none⟩ = some (.int .i64 b) ∧ W'.cell? ⟨w.heap.size + 1, 0, none⟩ = some (.int .i64 c) ∧ W'.cell? ⟨w.heap.size + 1, 1, none⟩ = some (.int .i64 d)) (go_keep)
    (first | (go_at_call 20; refine (laws_toKey _ _ _).mono ?_; rintro e w' ⟨rfl, hb⟩; obtain ⟨hc, hf, hz⟩ := bel3 hb; obtain ⟨hc0, hf0, hz0⟩ := bel_at hb (w.heap.size) (by first | omega | (simp; done) | (simp; omega)); obtain ⟨hc1, hf1, hz1⟩ := bel_at hb (w.heap.size + 1) (by first | omega | (simp; done) | (simp; omega))) | (go_at_call 21; refine (impl_KeyBefore_b _ _ _ _ _).mono ?_; rintro e w' ⟨rfl, hb⟩; obtain ⟨hc, hf, hz⟩ := bel3 hb; obtain ⟨hc0, hf0, hz0⟩ := bel_at hb (w.heap.size) (by first | omega | (simp; done) | (simp; omega)); obtain ⟨hc1, hf1, hz1⟩ := bel_at hb (w.heap.size + 1) (by first | omega | (simp; done) | (simp; omega))))
  go_wp2
  all_goals (go_ret; exact ⟨rfl, by (repeat' (first | exact Below.refl _ _ | (refine balloc ?_ _) | (refine bset ?_ ?_ _) | (refine bdrew ?_) | (refine bdrewN ?_ _) | (refine bstep ?_ (by assumption)) | (simp; done) | (simp; omega)))⟩)
theorem law_FnExactKeyValid (s p : Int) (_ws : (Lit.int .i64 s).wf = true) (_wp : (Lit.int .i64 p).wf = true) (w : World) : Calls Try.prog 7 #[.agg #[.int .i64 s, .int .i64 p]] w fun r w' => r = .returned (.bool true) ∧ Below w.heap.size w w' := by
  go_enter Try.func7, Try.ntmps7
  go_wp2_with (first | (go_at_call 20; refine (laws_toKey _ _ _).mono ?_; rintro e w' ⟨rfl, hb⟩; obtain ⟨hc, hf, hz⟩ := bel3 hb) | (go_at_call 22; refine (spec_KeyValid _ _ _).mono ?_; rintro e w' ⟨rfl, rfl⟩) | (go_at_call 23; refine (impl_KeyValid _ _ _).mono ?_; rintro e w' ⟨rfl, rfl⟩))
  all_goals (go_ret; exact ⟨rfl, by (repeat' (first | exact Below.refl _ _ | (refine balloc ?_ _) | (refine bset ?_ ?_ _) | (refine bdrew ?_) | (refine bdrewN ?_ _) | (refine bstep ?_ (by assumption)) | (simp; done) | (simp; omega)))⟩)
theorem law_FnExactAddressValid (s p o : Int) (_ws : (Lit.int .i64 s).wf = true) (_wp : (Lit.int .i64 p).wf = true) (_wo : (Lit.int .i64 o).wf = true) (w : World) : Calls Try.prog 8 #[.agg #[.int .i64 s, .int .i64 p, .int .i64 o]] w fun r w' => r = .returned (.bool true) ∧ Below w.heap.size w w' := by
  go_enter Try.func8, Try.ntmps8
  go_wp2_with (first | (go_at_call 25; refine (laws_toAddress _ _ _ _).mono ?_; rintro e w' ⟨rfl, hb⟩; obtain ⟨hc, hf, hz⟩ := bel3 hb) | (go_at_call 24; refine (spec_AddressValid _ _ _ _).mono ?_; rintro e w' ⟨rfl, rfl⟩) | (go_at_call 26; refine (impl_AddressValid _ _ _ _).mono ?_; rintro e w' ⟨rfl, rfl⟩))
  all_goals (go_ret; exact ⟨rfl, by (repeat' (first | exact Below.refl _ _ | (refine balloc ?_ _) | (refine bset ?_ ?_ _) | (refine bdrew ?_) | (refine bdrewN ?_ _) | (refine bstep ?_ (by assumption)) | (simp; done) | (simp; omega)))⟩)
theorem law_FnExactSplitAddress (n : Int) (_wn : (Lit.int .i64 n).wf = true) (w : World) : Calls Try.prog 9 #[.int .i64 n] w fun r w' => r = .returned (.bool true) ∧ Below w.heap.size w w' := by
  go_enter Try.func9, Try.ntmps9
  go_wp2_with (first | (go_at_call 27; refine (spec_SplitAddress _ _).mono ?_; rintro e w' ⟨rfl, hb⟩; obtain ⟨hc, hf, hz⟩ := bel3 hb) | (go_at_call 28; refine (impl_SplitAddress _ _).mono ?_; rintro e w' ⟨rfl, hb⟩; obtain ⟨hc, hf, hz⟩ := bel3 hb) | (go_at_call 29; refine (laws_eqAddress _ _ _ _).mono ?_; rintro e w' ⟨rfl, hb⟩; obtain ⟨hc, hf, hz⟩ := bel3 hb))
  all_goals (go_ret; exact ⟨rfl, by (repeat' (first | exact Below.refl _ _ | (refine balloc ?_ _) | (refine bset ?_ ?_ _) | (refine bdrew ?_) | (refine bdrewN ?_ _) | (refine bstep ?_ (by assumption)) | (simp; done) | (simp; omega)))⟩)
theorem law_FnExactPackAddress (s p o : Int) (_ws : (Lit.int .i64 s).wf = true) (_wp : (Lit.int .i64 p).wf = true) (_wo : (Lit.int .i64 o).wf = true) (w : World) : Calls Try.prog 10 #[.agg #[.int .i64 s, .int .i64 p, .int .i64 o]] w fun r w' => r = .returned (.bool true) ∧ Below w.heap.size w w' := by
  go_enter Try.func10, Try.ntmps10
  go_wp2_with (first | (go_at_call 25; refine (laws_toAddress _ _ _ _).mono ?_; rintro e w' ⟨rfl, hb⟩; obtain ⟨hc, hf, hz⟩ := bel3 hb) | (go_at_call 30; refine (spec_PackAddress _ _ _ _).mono ?_; rintro e w' ⟨rfl, hb⟩; obtain ⟨hc, hf, hz⟩ := bel3 hb) | (go_at_call 31; refine (impl_PackAddress _ _ _ _).mono ?_; rintro e w' ⟨rfl, hb⟩; obtain ⟨hc, hf, hz⟩ := bel3 hb))
  all_goals (go_ret; exact ⟨rfl, by (repeat' (first | exact Below.refl _ _ | (refine balloc ?_ _) | (refine bset ?_ ?_ _) | (refine bdrew ?_) | (refine bdrewN ?_ _) | (refine bstep ?_ (by assumption)) | (simp; done) | (simp; omega)))⟩)
theorem law_FnExactFormatRights (r : Int) (_wr : (Lit.int .i64 r).wf = true) (w : World) : Calls Try.prog 11 #[.int .i64 r] w fun r w' => r = .returned (.bool true) ∧ Below w.heap.size w w' := by
  go_enter Try.func11, Try.ntmps11
  go_wp2_with (first | (go_at_call 32; refine (spec_FormatRights _ _).mono ?_; rintro e w' ⟨rfl, hb⟩; obtain ⟨hc, hf, hz⟩ := bel3 hb) | (go_at_call 33; refine (impl_FormatRights _ _).mono ?_; rintro e w' ⟨rfl, hb⟩; obtain ⟨hc, hf, hz⟩ := bel3 hb))
  all_goals (go_ret; exact ⟨rfl, by (repeat' (first | exact Below.refl _ _ | (refine balloc ?_ _) | (refine bset ?_ ?_ _) | (refine bdrew ?_) | (refine bdrewN ?_ _) | (refine bstep ?_ (by assumption)) | (simp; done) | (simp; omega)))⟩)
theorem law_FnExactHashKey (s p : Int) (_ws : (Lit.int .i64 s).wf = true) (_wp : (Lit.int .i64 p).wf = true) (b : Int) (_wb : (Lit.int .i64 b).wf = true) (w : World) : Calls Try.prog 12 #[.agg #[.int .i64 s, .int .i64 p], .int .i64 b] w fun r w' => r = .returned (.bool true) ∧ Below w.heap.size w w' := by
  go_enter Try.func12, Try.ntmps12
  go_wp2_with (first | (go_at_call 20; refine (laws_toKey _ _ _).mono ?_; rintro e w' ⟨rfl, hb⟩; obtain ⟨hc, hf, hz⟩ := bel3 hb) | (go_at_call 34; refine (spec_HashKey _ _ _ _).mono ?_; rintro e w' ⟨rfl, hb⟩; obtain ⟨hc, hf, hz⟩ := bel3 hb) | (go_at_call 35; refine (impl_HashKey _ _ _ _).mono ?_; rintro e w' ⟨rfl, hb⟩; obtain ⟨hc, hf, hz⟩ := bel3 hb))
  all_goals (go_ret; exact ⟨rfl, by (repeat' (first | exact Below.refl _ _ | (refine balloc ?_ _) | (refine bset ?_ ?_ _) | (refine bdrew ?_) | (refine bdrewN ?_ _) | (refine bstep ?_ (by assumption)) | (simp; done) | (simp; omega)))⟩)
theorem law_FnExactPagesOf (s p o : Int) (_ws : (Lit.int .i64 s).wf = true) (_wp : (Lit.int .i64 p).wf = true) (_wo : (Lit.int .i64 o).wf = true) (b : Int) (_wb : (Lit.int .i64 b).wf = true) (w : World) : Calls Try.prog 13 #[.agg #[.int .i64 s, .int .i64 p, .int .i64 o], .int .i64 b] w fun r w' => r = .returned (.bool true) ∧ Below w.heap.size w w' := by
  go_enter Try.func13, Try.ntmps13
  go_wp2_with (first | (go_at_call 25; refine (laws_toAddress _ _ _ _).mono ?_; rintro e w' ⟨rfl, hb⟩; obtain ⟨hc, hf, hz⟩ := bel3 hb) | (go_at_call 36; refine (spec_PagesOf _ _ _ _ _).mono ?_; rintro e w' ⟨rfl, hb⟩; obtain ⟨hc, hf, hz⟩ := bel3 hb) | (go_at_call 37; refine (impl_PagesOf _ _ _ _ _).mono ?_; rintro e w' ⟨rfl, hb⟩; obtain ⟨hc, hf, hz⟩ := bel3 hb))
  all_goals (go_ret; exact ⟨rfl, by (repeat' (first | exact Below.refl _ _ | (refine balloc ?_ _) | (refine bset ?_ ?_ _) | (refine bdrew ?_) | (refine bdrewN ?_ _) | (refine bstep ?_ (by assumption)) | (simp; done) | (simp; omega)))⟩)
theorem law_FnExactMoveAddress (s p o : Int) (_ws : (Lit.int .i64 s).wf = true) (_wp : (Lit.int .i64 p).wf = true) (_wo : (Lit.int .i64 o).wf = true) (b : Int) (_wb : (Lit.int .i64 b).wf = true) (w : World) : Calls Try.prog 14 #[.agg #[.int .i64 s, .int .i64 p, .int .i64 o], .int .i64 b] w fun r w' => r = .returned (.bool true) ∧ Below w.heap.size w w' := by
  go_enter Try.func14, Try.ntmps14
  go_wp2_with (fail)
  refine (laws_toAddress _ _ _ _).mono ?_
  rintro e w1 ⟨rfl, hb1⟩
  obtain ⟨hc1_0, hf1_0, hz1_0⟩ := bel_at hb1 (w.heap.size) (by first | omega | (simp; done) | (simp; omega))
  go_wp2_with (fail)
  refine (spec_MoveAddress _ _ _ _ _).mono ?_
  rintro e w2 ⟨rfl, hb2⟩
  obtain ⟨hc2_0, hf2_0, hz2_0⟩ := bel_at hb2 (w.heap.size) (by first | omega | (simp; done) | (simp; omega))
  go_wp2_with (fail)
  refine (laws_toAddress _ _ _ _).mono ?_
  rintro e w3 ⟨rfl, hb3⟩
  obtain ⟨hc3_0, hf3_0, hz3_0⟩ := bel_at hb3 (w.heap.size) (by first | omega | (simp; done) | (simp; omega))
  obtain ⟨hc3_1, hf3_1, hz3_1⟩ := bel_at hb3 (w2.heap.size) (by first | omega | (simp; done) | (simp; omega))
  go_wp2_with (fail)
  refine (impl_MoveAddress _ _ _ _ _).mono ?_
  rintro e w4 ⟨rfl, hb4⟩
  obtain ⟨hc4_0, hf4_0, hz4_0⟩ := bel_at hb4 (w.heap.size) (by first | omega | (simp; done) | (simp; omega))
  obtain ⟨hc4_1, hf4_1, hz4_1⟩ := bel_at hb4 (w2.heap.size) (by first | omega | (simp; done) | (simp; omega))
  go_wp2_with (fail)
  refine (laws_eqAddress _ _ _ _).mono ?_
  rintro e w5 ⟨rfl, hb5⟩
  obtain ⟨hc5_0, hf5_0, hz5_0⟩ := bel_at hb5 (w.heap.size) (by first | omega | (simp; done) | (simp; omega))
  obtain ⟨hc5_1, hf5_1, hz5_1⟩ := bel_at hb5 (w2.heap.size) (by first | omega | (simp; done) | (simp; omega))
  obtain ⟨hc5_2, hf5_2, hz5_2⟩ := bel_at hb5 (w4.heap.size) (by first | omega | (simp; done) | (simp; omega))
  go_wp2
  go_ret
  exact ⟨rfl, by (repeat' (first | exact Below.refl _ _ | (refine balloc ?_ _) | (refine bset ?_ ?_ _) | (refine bdrew ?_) | (refine bdrewN ?_ _) | (refine bstep ?_ (by assumption)) | (simp; done) | (simp; omega)))⟩
end Go.Proofs.Ytlkbchhlbplmbaa
