/- Walk of the law FnExactParseAddress: it returns true where the library's variables are laid. No other conditions. -/
import Derived.Test.YtaoggijepndnmaaDoorDoorP
namespace Go.Proofs.YtaoggijepndnmaaDoor
set_option linter.unusedVariables false
open Go.ChangeShapes Go.WideShapes Go.ChangeAt Go.RowKit
/-- a text is of an address, or of none -/
theorem addr_or (s : ByteArray) : (∃ a b c : Nat, avB (a : Int) (b : Int) (c : Int) = true ∧ s = fmtA a b c) ∨ NoAddr s := by
  by_cases h : ∃ x y z : Int, avB x y z = true ∧ fmtS x y z = s
  · obtain ⟨x, y, z, h1, h2⟩ := h
    have hr := avB_iff.1 h1
    obtain ⟨a, rfl⟩ := Int.eq_ofNat_of_zero_le (show 0 ≤ x by omega)
    obtain ⟨b, rfl⟩ := Int.eq_ofNat_of_zero_le (show 0 ≤ y by omega)
    obtain ⟨c, rfl⟩ := Int.eq_ofNat_of_zero_le (show 0 ≤ z by omega)
    refine Or.inl ⟨a, b, c, h1, ?_⟩
    rw [← h2]
    unfold fmtS
    rw [if_pos h1]
    rfl
  · exact Or.inr fun x y z h1 h2 => h ⟨x, y, z, h1, h2⟩
set_option maxHeartbeats 1000000 in
theorem law_FnExactParseAddress (s : ByteArray) (_ws : s.size ≤ maxLen) (w : World) (hfree : LibW w) : Calls Tryd.prog 3 #[.string s] w fun r w' => r = .returned (.bool true) ∧ Below w.heap.size w w' := by
  have HL := Lib.hid hfree
  clear hfree
  by_cases hs : 1048576 < s.size
  · have hs' : (1048576 : Int) < s.size := by omega
    go_enter Tryd.func3, Tryd.ntmps3
    go_wp2
    go_ret
    exact ⟨rfl, Below.refl _ _⟩
  have hs1 : s.size ≤ 1048576 := by omega
  have hs' : ¬ (1048576 : Int) < s.size := by omega
  obtain ⟨x, y, z, ok, hS, hI⟩ : ∃ (x y z : Int) (ok : Bool), (∀ w : World, Calls Tryd.prog 6 #[.string s] w fun e w' => e = .returned (.tuple #[.agg #[.int .i64 x, .int .i64 y, .int .i64 z], .bool ok]) ∧ Below w.heap.size w w') ∧ (∀ w : World, LibW w → Calls Tryd.prog 7 #[.string s] w fun e w' => e = .returned (.tuple #[.agg #[.int .i64 x, .int .i64 y, .int .i64 z], .bool ok]) ∧ Below w.heap.size w w') := by
    rcases addr_or s with ⟨a, b, c, hv, rfl⟩ | hn
    · exact ⟨_, _, _, _, fun w => spec_Parse_yes a b c hv w, fun w hl => impl_Parse_yes a b c hv w hl⟩
    · exact ⟨_, _, _, _, fun w => spec_Parse_no s hs1 hn w, fun w hl => impl_Parse_no s hs1 hn w hl⟩
  have HS := Lib.hid hS
  have HI := Lib.hid hI
  clear hS hI hs
  go_enter Tryd.func3, Tryd.ntmps3
  go_wp2_with (fail)
  refine (HS.out _).mono ?_
  rintro e w1 ⟨rfl, hb1⟩
  go_wp2_with (fail)
  refine (HI.out _ (HL.out.below (by (repeat' (first | with_reducible exact Below.refl _ _ | (with_reducible refine balloc ?_ _) | (with_reducible refine bset ?_ ?_ _) | (with_reducible refine bdrew ?_) | (with_reducible refine bdrewN ?_ _) | (with_reducible refine bstep ?_ (by with_reducible assumption)) | (with_reducible refine bgrow ?_ (by with_reducible assumption) (by omega)) | (simp; done) | (simp; omega)))))).mono ?_
  rintro e w2 ⟨rfl, hb2⟩
  obtain ⟨hk2, hf2, hz2⟩ := bel_at hb2 (w1.heap.size) (by first | omega | (simp; done) | (simp; omega))
  go_wp2_with (fail)
  refine (laws_eqAddress _ _ _ _).mono ?_
  rintro e w3 ⟨rfl, hb3⟩
  have hB : Below w.heap.size w w3 := by (repeat' (first | with_reducible exact Below.refl _ _ | (with_reducible refine balloc ?_ _) | (with_reducible refine bset ?_ ?_ _) | (with_reducible refine bdrew ?_) | (with_reducible refine bdrewN ?_ _) | (with_reducible refine bstep ?_ (by with_reducible assumption)) | (with_reducible refine bgrow ?_ (by with_reducible assumption) (by omega)) | (simp; done) | (simp; omega)))
  go_wp2
  all_goals (go_ret; exact ⟨rfl, hB⟩)
end Go.Proofs.YtaoggijepndnmaaDoor
