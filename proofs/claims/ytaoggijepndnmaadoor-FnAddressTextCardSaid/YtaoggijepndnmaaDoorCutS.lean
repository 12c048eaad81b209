/- The reference's cut of a text at the first place of a byte. Asked: a text of at most 2 to the 20 bytes. -/
import Derived.Test.YtaoggijepndnmaaDoorBase
import Derived.Deep.QuietTactic
import Derived.Deep.RegionHeld3
import Derived.Lib.Strings
namespace Go.Proofs.YtaoggijepndnmaaDoor
set_option linter.unusedVariables false
open Go.ChangeShapes Go.WideShapes Go.ChangeAt Go.RowKit
/-- the cut at the first place of a byte, as the reference answers -/
def CutS (s : ByteArray) (c : Nat) (x y : ByteArray) (ok : Bool) : Prop :=
  (∃ i, i < s.size ∧ (s.get! i).toNat = c ∧ (∀ j, j < i → (s.get! j).toNat ≠ c) ∧ x = s.extract 0 i ∧ y = s.extract (i + 1) s.size ∧ ok = true) ∨ ((∀ j, j < s.size → (s.get! j).toNat ≠ c) ∧ x = ⟨#[]⟩ ∧ y = ⟨#[]⟩ ∧ ok = false)
theorem get!_of_lt (s : ByteArray) (k : Nat) (h : k < s.size) : s.get! k = s[k]'h := by
  cases s with
  | mk d => exact getElem!_pos d k h
theorem spec_l1Cut (s : ByteArray) (c : Nat) (hc : c < 256) (hs : s.size ≤ 1048576) (w : World) : Calls Tryd.prog 15 #[.string s, .int .u8 (c : Int)] w fun e w' => (∃ x y ok, e = .returned (.tuple #[.string x, .string y, .bool ok]) ∧ CutS s c x y ok) ∧ Below w.heap.size w w' := by
  go_enter Tryd.func15, Tryd.ntmps15
  go_wp2
  go_loopw [7] (fun i wr => ∃ j : Nat, j ≤ s.size ∧ i = .int .i64 j ∧ (∀ i, i < j → (s.get! i).toNat ≠ c) ∧ wr = w) (fun i _ => s.size - (intOf i).toNat)
  case atStart => exact ⟨0, by omega, rfl, fun i hi => absurd hi (Nat.not_lt_zero i), rfl⟩
  case round =>
    obtain ⟨j, hj, rfl, hne, rfl⟩ := hrel
    have HNe := Lib.hid hne
    clear hne
    by_cases hlt : j < s.size
    · have hget : s.get! j = s[j] := get!_of_lt s j hlt
      go_wp2
      case roundEnd hx =>
        refine ⟨⟨j + 1, by omega, by simp, ?_, trivial⟩, by simp [intOf]; omega⟩
        intro i hi
        rcases Nat.lt_or_ge i j with h | h
        · exact HNe.out i h
        · obtain rfl : i = j := by omega
          rw [hget]
          have h2 := ne_of_beq_false hx
          intro h3
          exact h2 (by omega)
      rename_i hx K hK
      have hx' : s[j].toNat = c := by
        have h2 := eq_of_beq hx
        omega
      have c1 : (0 : Int) ≤ ↑j := by omega
      have c2 : (↑j : Int) ≤ ↑s.size := by omega
      have c3 : (0 : Int) ≤ ↑j + 1 := by omega
      have c4 : (↑j + 1 : Int) ≤ ↑s.size := by omega
      go_quiet (fail)
      go_wp2
      all_goals (refine bodyPost_ret (v := .tuple #[.string (s.extract 0 j), .string (s.extract (j + 1) s.size), .bool true]) (by simp [results, Tryd.results15, go_sem, *]) rfl ?_)
      all_goals exact ⟨⟨_, _, _, rfl, Or.inl ⟨j, hlt, by rw [hget]; exact hx', HNe.out, rfl, rfl, rfl⟩⟩, Joins.below_draws _ _ _⟩
    · have hj' : j = s.size := by omega
      go_wp2
      refine bodyPost_ret (v := .tuple #[.string ⟨#[]⟩, .string ⟨#[]⟩, .bool false]) (by simp [results, Tryd.results15, go_sem, *]) rfl ?_
      exact ⟨⟨_, _, _, rfl, Or.inr ⟨fun i hi => HNe.out i (by omega), rfl, rfl, rfl⟩⟩, Below.refl _ _⟩
end Go.Proofs.YtaoggijepndnmaaDoor
