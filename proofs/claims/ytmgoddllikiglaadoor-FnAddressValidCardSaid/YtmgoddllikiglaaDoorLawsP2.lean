/- Walk of the law FnAddressValid: it returns true where the table of powers of ten is laid. No other conditions. -/
import Derived.Test.YtmgoddllikiglaaDoorDoorH
import Derived.Test.YtmgoddllikiglaaDoorDraw
import Derived.Lib.Strings
namespace Go.Proofs.YtmgoddllikiglaaDoor
set_option linter.unusedVariables false
open Go.ChangeShapes Go.WideShapes Go.ChangeAt Go.RowKit
theorem fmtA_ne (a b c : Nat) : (!(fmtA a b c).toList.isEmpty) = true := by
  rw [Lib.toList_data]
  have h : (fmtA a b c).size ≠ 0 := by
    unfold fmtA
    simp only [ByteArray.size_append]
    rw [show (ByteArray.mk #[58]).size = 1 from rfl]
    omega
  rw [Lib.size_eq] at h
  cases hx : (fmtA a b c).data.toList with
  | nil => rw [hx] at h; exact absurd rfl h
  | cons y ys => rfl
set_option maxHeartbeats 1000000 in
theorem law_FnAddressValid (w : World) (ao : Option Addr) (len cap : Nat) (h : CodeIn w ao len cap) (hfree : TabW w) : Calls Tryd.prog 4 #[.slice ao len cap] w fun r w' => r = .returned (.bool true) ∧ Below w.heap.size w w' := by
  have HC := Lib.hid h
  have HT := Lib.hid hfree
  clear h hfree
  by_cases hl : 1048576 < len
  · go_enter Tryd.func4, Tryd.ntmps4
    go_wp2
    go_ret
    exact ⟨rfl, by (repeat' (first | with_reducible exact Below.refl _ _ | (with_reducible refine balloc ?_ _) | (with_reducible refine bset ?_ ?_ _) | (with_reducible refine bdrew ?_) | (with_reducible refine bdrewN ?_ _) | (with_reducible refine bstep ?_ (by with_reducible assumption)) | (with_reducible refine bgrow ?_ (by with_reducible assumption) (by omega)) | (simp; done) | (simp; omega)))⟩
  have hl' : len ≤ 1048576 := by omega
  clear hl
  go_enter Tryd.func4, Tryd.ntmps4
  go_wp2_with (fail)
  refine (spec_DrawAddressValid _ _ _ _ HC.out).mono ?_
  rintro e w1 ⟨s, p, o, rfl, hb1⟩
  have IF := Lib.hid (fun (w : World) (h : TabW w) => impl_FormatAddress s p o w h)
  have hx : (avB s p o = true ∧ (!(fmtS s p o).toList.isEmpty) = true) ∨ (avB s p o = false ∧ (!(fmtS s p o).toList.isEmpty) = false) := by
    unfold fmtS
    by_cases hav : avB s p o = true
    · exact Or.inl ⟨hav, by rw [if_pos hav]; exact fmtA_ne _ _ _⟩
    · exact Or.inr ⟨by simpa using hav, by rw [if_neg hav, Lib.toList_data]; rfl⟩
  generalize fmtS s p o = x at *
  go_wp2_with (fail)
  refine (impl_AddressValid _ _ _ _).mono ?_
  rintro e w2 ⟨rfl, rfl⟩
  go_wp2_with (fail)
  refine (impl_PackAddress _ _ _ _).mono ?_
  rintro e w3 ⟨rfl, hb3⟩
  obtain ⟨hc3_0, hf3_0, hz3_0⟩ := bel_at hb3 (w1.heap.size) (by first | omega | (simp; done) | (simp; omega))
  go_wp2_with (fail)
  refine (spec_AddressValid _ _ _ _).mono ?_
  rintro e w4 ⟨rfl, rfl⟩
  go_wp2_with (fail)
  refine (IF.out _ (HT.out.below (by (repeat' (first | with_reducible exact Below.refl _ _ | (with_reducible refine balloc ?_ _) | (with_reducible refine bset ?_ ?_ _) | (with_reducible refine bdrew ?_) | (with_reducible refine bdrewN ?_ _) | (with_reducible refine bstep ?_ (by with_reducible assumption)) | (with_reducible refine bgrow ?_ (by with_reducible assumption) (by omega)) | (simp; done) | (simp; omega)))))).mono ?_
  rintro e w9 ⟨rfl, hb9⟩
  have hB : Below w.heap.size w w9 := by (repeat' (first | with_reducible exact Below.refl _ _ | (with_reducible refine balloc ?_ _) | (with_reducible refine bset ?_ ?_ _) | (with_reducible refine bdrew ?_) | (with_reducible refine bdrewN ?_ _) | (with_reducible refine bstep ?_ (by with_reducible assumption)) | (with_reducible refine bgrow ?_ (by with_reducible assumption) (by omega)) | (simp; done) | (simp; omega)))
  rcases hx with ⟨hx1, hx2⟩ | ⟨hx1, hx2⟩
  · rw [hx1] at *
    go_wp2
    all_goals ((try rw [hx2]); go_ret; exact ⟨rfl, hB⟩)
  · rw [hx1] at *
    go_wp2
    all_goals ((try rw [hx2]); go_ret; exact ⟨rfl, hB⟩)
end Go.Proofs.YtmgoddllikiglaaDoor
