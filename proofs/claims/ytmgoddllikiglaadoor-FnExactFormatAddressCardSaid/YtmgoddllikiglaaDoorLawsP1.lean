/- Walk of the law FnExactFormatAddress: it returns true where the table of powers of ten is laid. No other conditions. -/
import Derived.Test.YtmgoddllikiglaaDoorDoorH
namespace Go.Proofs.YtmgoddllikiglaaDoor
set_option linter.unusedVariables false
open Go.ChangeShapes Go.WideShapes Go.ChangeAt Go.RowKit
set_option maxHeartbeats 1000000 in
theorem law_FnExactFormatAddress (s p o : Int) (_ws : (Lit.int .i64 s).wf = true) (_wp : (Lit.int .i64 p).wf = true) (_wo : (Lit.int .i64 o).wf = true) (w : World) (hfree : TabW w) : Calls Tryd.prog 3 #[.agg #[.int .i64 s, .int .i64 p, .int .i64 o]] w fun r w' => r = .returned (.bool true) ∧ Below w.heap.size w w' := by
  have HT := Lib.hid hfree
  clear hfree
  have SF := Lib.hid (fun (w : World) => spec_FormatAddress s p o w)
  have IF := Lib.hid (fun (w : World) (h : TabW w) => impl_FormatAddress s p o w h)
  generalize fmtS s p o = x at *
  go_enter Tryd.func3, Tryd.ntmps3
  go_wp2_with (fail)
  refine (laws_toAddress _ _ _ _).mono ?_
  rintro e w1 ⟨rfl, hb1⟩
  obtain ⟨hc1, hf1, hz1⟩ := bel_at hb1 (w.heap.size) (by simp)
  go_wp2_with (fail)
  refine (SF.out _).mono ?_
  rintro e w2 ⟨rfl, hb2⟩
  obtain ⟨hc2, hf2, hz2⟩ := bel_at hb2 (w.heap.size) (by omega)
  go_wp2_with (fail)
  refine (laws_toAddress _ _ _ _).mono ?_
  rintro e w3 ⟨rfl, hb3⟩
  go_wp2_with (fail)
  refine (IF.out _ (HT.out.below (by (repeat' (first | with_reducible exact Below.refl _ _ | (with_reducible refine balloc ?_ _) | (with_reducible refine bset ?_ ?_ _) | (with_reducible refine bdrew ?_) | (with_reducible refine bdrewN ?_ _) | (with_reducible refine bstep ?_ (by with_reducible assumption)) | (with_reducible refine bgrow ?_ (by with_reducible assumption) (by omega)) | (simp; done) | (simp; omega)))))).mono ?_
  rintro e w4 ⟨rfl, hb4⟩
  have hB : Below w.heap.size w w4 := by (repeat' (first | with_reducible exact Below.refl _ _ | (with_reducible refine balloc ?_ _) | (with_reducible refine bset ?_ ?_ _) | (with_reducible refine bdrew ?_) | (with_reducible refine bdrewN ?_ _) | (with_reducible refine bstep ?_ (by with_reducible assumption)) | (with_reducible refine bgrow ?_ (by with_reducible assumption) (by omega)) | (simp; done) | (simp; omega)))
  go_wp2
  all_goals (go_ret; exact ⟨rfl, hB⟩)
end Go.Proofs.YtmgoddllikiglaaDoor
