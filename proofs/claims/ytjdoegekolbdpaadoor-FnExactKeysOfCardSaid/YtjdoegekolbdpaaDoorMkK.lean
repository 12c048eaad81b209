/- Marks on slices of keys: what is laid is found. Asked: at most 1048576 keys. -/
import Derived.Test.YtjdoegekolbdpaaDoorKeyS
namespace Go.Proofs.YtjdoegekolbdpaaDoor
set_option linter.unusedVariables false
open Go.ChangeShapes Go.WideShapes Go.ChangeAt Go.RowKit
/-- the first k keys' cells hold q, q + 1, .. -/
def MkK (q : Int) (k : Nat) (xs : List Value) : Prop := ∀ j : Nat, j < k * 2 → xs[j]? = some (.int .i64 (q + (j : Int)))
theorem MkK.step {q : Int} {k : Nat} {xs : List Value} (h : MkK q k xs) (hk : k * 2 + 1 < xs.length) : MkK q (k + 1) ((xs.set (k * 2) (.int .i64 (q + 2 * k))).set (k * 2 + 1) (.int .i64 (q + 2 * k + 1))) := by
  intro j hj
  rw [List.getElem?_set, List.getElem?_set]
  by_cases h1 : k * 2 + 1 = j
  · subst h1
    rw [if_pos rfl, if_pos (by rw [List.length_set]; omega)]
    exact congrArg some (congrArg (Value.int .i64) (by omega))
  · rw [if_neg h1]
    by_cases h2 : k * 2 = j
    · subst h2
      rw [if_pos rfl, if_pos (by omega)]
      exact congrArg some (congrArg (Value.int .i64) (by omega))
    · rw [if_neg h2]
      exact h j (by omega)
theorem laws_markKeyST (A : Option Addr) (n c l1 h1 : Nat) (q : Int) (ks : List (Int × Int)) (w : World) (h : Sl w l1 h1 44 2 A n (kcells ks)) (hn : n ≤ 1048576) (q1 : 0 ≤ q) (q2 : q ≤ 100000000) :
    Calls Tryd.prog 35 #[.slice A n c, .int .i64 q] w fun e w' => e = .returned (.int .i64 (q + 2 * n)) ∧ (∃ xs, Hid (MkK q n xs) ∧ Hid (Sl w' l1 h1 44 2 A n xs)) ∧ Only l1 h1 w w' := by
  have H := Lib.hid h
  clear h
  go_enter Tryd.func35, Tryd.ntmps35
  go_wp2
  go_loopw [1, 5] (fun v i wr => ∃ (k : Nat) (xs : List Value), k ≤ n ∧ i = .int .i64 k ∧ v = .int .i64 (q + 2 * k) ∧ MkK q k xs ∧ Sl wr l1 h1 44 2 A n xs ∧ Only l1 h1 w wr) (fun _ i _ => n - (intOf i).toNat)
  case atStart => exact ⟨0, _, Nat.zero_le _, rfl, by go_num, fun j hj => by omega, H.out, Only.refl _ _ _⟩
  case round =>
    obtain ⟨k, xs, hk, rfl, rfl, hm, hs, ho⟩ := hrel
    by_cases hlt : k < n
    · have hxl := hs.1
      have HM := Lib.hid (hm.step (by omega))
      obtain ⟨g, rfl, hg0, hg0', hg1, hg2, hg3⟩ := hs.at_ (k := k * 2) (by omega) (by omega)
      obtain ⟨g', e, _, _, _, hg4, hg5⟩ := hs.at_ (k := k * 2 + 1) (by omega) (by omega)
      obtain rfl : g = g' := by simpa using e
      rw [List.getElem?_eq_getElem (by omega)] at hg2 hg4
      generalize xs[k * 2]'(by omega) = u1 at hg2
      generalize xs[k * 2 + 1]'(by omega) = u2 at hg4
      have R := Lib.hid (And.intro ((hs.stored (by omega) (k * 2) (.int .i64 (q + 2 * k))).stored (by omega) (k * 2 + 1) (.int .i64 (q + 2 * k + 1))) ((ho.setCell (p := ⟨g, k * 2, none⟩) hg0 hg0' (.int .i64 (q + 2 * k))).setCell (p := ⟨g, k * 2 + 1, none⟩) hg0 hg0' (.int .i64 (q + 2 * k + 1))))
      clear hs ho e hxl hm
      have i1 : (0 : Int) ≤ (k : Int) := by omega
      have i2 : (k : Int) < (n : Int) := by omega
      go_wp2
      go_roundw
      case rel => exact ⟨k + 1, _, by omega, by go_num, by go_num, HM.out, R.out.1, R.out.2⟩
      case measure => simp [intOf]; omega
    · obtain rfl : k = n := by omega
      have HM := Lib.hid hm
      have HS := Lib.hid hs
      clear hm hs
      go_wp2
      go_ret
      exact ⟨rfl, ⟨xs, HM, HS⟩, ho⟩
theorem laws_heldKeyS (A : Option Addr) (n c l1 h1 : Nat) (q : Int) (xs : List Value) (w : World) (h : Sl w l1 h1 44 2 A n xs) (hm : MkK q n xs) (hn : n ≤ 1048576) (q1 : 0 ≤ q) (q2 : q ≤ 100000000) :
    Calls Tryd.prog 36 #[.slice A n c, .int .i64 q] w fun e w' => e = .returned (.int .i64 (q + 2 * n)) ∧ Below w.heap.size w w' := by
  have H := Lib.hid h
  have HM := Lib.hid hm
  clear h hm
  go_enter Tryd.func36, Tryd.ntmps36
  go_wp2
  go_loopw [1, 5] (fun v i wr => ∃ k : Nat, k ≤ n ∧ i = .int .i64 k ∧ v = .int .i64 (q + 2 * k) ∧ Below w.heap.size w wr) (fun _ i _ => n - (intOf i).toNat)
  case atStart => exact ⟨0, Nat.zero_le _, rfl, by go_num, by (repeat' (first | with_reducible exact Below.refl _ _ | (with_reducible refine balloc ?_ _) | (with_reducible refine bset ?_ ?_ _) | (with_reducible refine bdrew ?_) | (with_reducible refine bdrewN ?_ _) | (with_reducible refine bstep ?_ (by with_reducible assumption)) | (with_reducible refine bgrow ?_ (by with_reducible assumption) (by omega)) | (simp; done) | (simp; omega)))⟩
  case round =>
    obtain ⟨k, hk, rfl, rfl, hb⟩ := hrel
    by_cases hlt : k < n
    · obtain ⟨g, rfl, _, _, hg1, hg2, _⟩ := (H.out.below hb).at_ (k := k * 2) (by omega) (by omega)
      obtain ⟨g', e, _, _, _, hg4, _⟩ := (H.out.below hb).at_ (k := k * 2 + 1) (by omega) (by omega)
      obtain rfl : g = g' := by simpa using e
      rw [HM.out _ (by omega), show q + ((k * 2 : Nat) : Int) = q + 2 * k from by omega] at hg2
      rw [HM.out _ (by omega), show q + ((k * 2 + 1 : Nat) : Int) = q + 2 * k + 1 from by omega] at hg4
      have i1 : (0 : Int) ≤ (k : Int) := by omega
      have i2 : (k : Int) < (n : Int) := by omega
      go_wp2
      go_roundw
      case rel => exact ⟨k + 1, by omega, by go_num, by go_num, by (repeat' (first | with_reducible exact Below.refl _ _ | (with_reducible refine balloc ?_ _) | (with_reducible refine bset ?_ ?_ _) | (with_reducible refine bdrew ?_) | (with_reducible refine bdrewN ?_ _) | (with_reducible refine bstep ?_ (by with_reducible assumption)) | (with_reducible refine bgrow ?_ (by with_reducible assumption) (by omega)) | (simp; done) | (simp; omega)))⟩
      case measure => simp [intOf]; omega
    · obtain rfl : k = n := by omega
      go_wp2
      go_ret
      exact ⟨rfl, hb⟩
end Go.Proofs.YtjdoegekolbdpaaDoor
