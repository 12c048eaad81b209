/- Both tests of a list of keys (valid, few, each once) return what the plain function says. Asked: at most 1048576 keys. -/
import Derived.Test.YtnbfmnchihckaaaDoorKeyS
import Derived.Test.YtnbfmnchihckaaaDoorSet
import Derived.Deep.DrawnRows
namespace Go.Proofs.YtnbfmnchihckaaaDoor
open Go.ChangeShapes Go.WideShapes Go.ChangeAt Go.RowKit
open Go.Maps (Keyed)
theorem laidOutP : laidOutB Tryd.prog = true := by kernel_rfl
theorem key_law : Keyed Tryd.prog 42 := Keyed.of_law (deep_law_laid laidOutP (m := 3) (by omega) (of_decide_eq_true (by kernel_rfl)) (by kernel_rfl) (by kernel_rfl))
theorem keyOf_key0 : ∀ s : Fin 16, ∀ p : Fin 256, (keyOf Tryd.prog 42 (.agg #[.int .i64 (s.val : Int), .int .i64 (p.val : Int)])).isSome = true := by decide +kernel
theorem keyOf_key (s p : Int) (hs : 0 ≤ s ∧ s < 16) (hp : 0 ≤ p ∧ p < 256) : ∃ kl, keyOf Tryd.prog 42 (.agg #[.int .i64 s, .int .i64 p]) = some kl := by
  obtain ⟨a, rfl⟩ := Int.eq_ofNat_of_zero_le hs.1
  obtain ⟨b, rfl⟩ := Int.eq_ofNat_of_zero_le hp.1
  exact Option.isSome_iff_exists.1 (keyOf_key0 ⟨a, by omega⟩ ⟨b, by omega⟩)
/-- a list of keys that is accepted -/
def kaB (ks : List (Int × Int)) : Bool := decide (ks.length ≤ 64) && ks.all (fun k => kvB k.1 k.2) && decide ks.Nodup
def keyV (k : Int × Int) : Value := .agg #[.int .i64 k.1, .int .i64 k.2]
theorem keyV_inj {a b : Int × Int} (h : keyV a = keyV b) : a = b := by
  unfold keyV at h
  injection h with h
  simp at h
  exact Prod.ext h.1 h.2
theorem mem_keyV (a : Int × Int) (l : List (Int × Int)) : keyV a ∈ (l.map keyV).reverse ↔ a ∈ l := by
  rw [List.mem_reverse, List.mem_map]
  exact ⟨fun ⟨x, hx, e⟩ => keyV_inj e ▸ hx, fun h => ⟨a, h, rfl⟩⟩
theorem take_snoc' {α : Type} (l : List α) (d : α) (k : Nat) (h : k < l.length) : l.take (k + 1) = l.take k ++ [l.getD k d] := by
  rw [List.take_succ_eq_append_getElem h]; simp [List.getD_eq_getElem?_getD, h]
theorem kaB_not_valid {ks : List (Int × Int)} {k : Nat} (hk : k < ks.length) (h : kvB (ks.getD k (0, 0)).1 (ks.getD k (0, 0)).2 = false) : kaB ks = false := by
  have hm : ks.getD k (0, 0) ∈ ks := by simp [List.getD_eq_getElem?_getD, hk]
  rcases hq : kaB ks with _ | _
  · rfl
  · simp only [kaB, Bool.and_eq_true, List.all_eq_true] at hq
    rw [hq.1.2 _ hm] at h; cases h
theorem kaB_twice {ks : List (Int × Int)} {k : Nat} (hk : k < ks.length) (h : ks.getD k (0, 0) ∈ ks.take k) : kaB ks = false := by
  rcases hq : kaB ks with _ | _
  · rfl
  · simp only [kaB, Bool.and_eq_true, decide_eq_true_eq] at hq
    have hn : (ks.take (k + 1)).Nodup := hq.2.sublist (List.take_sublist _ _)
    rw [take_snoc' ks (0, 0) k hk, List.nodup_append] at hn
    exact absurd rfl (hn.2.2 _ h _ (by simp))
theorem zero_bool (w : World) : (zeroValue 4).run Tryd.prog w = .ok (.bool false) w := by kernel_rfl
end Go.Proofs.YtnbfmnchihckaaaDoor
