/- Contracts of the laws' helpers on slices of ints: equal lists are found equal; what was marked is held. No conditions but lengths of at most 1000000. -/
import Derived.Test.YtnbfmnchihckaaaBase
import Derived.Test.YtnbfmnchihckaaaMem
namespace Go.Proofs.Ytnbfmnchihckaaa
open Go.ChangeShapes Go.WideShapes Go.ChangeAt Go.RowKit

/-- the marks k, k + 1, .. -/
def marks (k : Int) (n : Nat) : List Int := (List.range n).map fun (j : Nat) => k + (j : Int)
theorem marks_len (k : Int) (n : Nat) : (marks k n).length = n := by simp [marks]
theorem marks_at (k : Int) {n j : Nat} (h : j < n) : (marks k n).getD j 0 = k + j := by simp [marks, List.getD_eq_getElem?_getD, h]

/-- two results: a slice of ints in blocks of the call's own, and whether there is one -/
def SlB (zs : List Int) (ok : Bool) (w : World) (e : Ending) (w' : World) : Prop :=
  ∃ A c, e = .returned (.tuple #[.slice A zs.length c, .bool ok]) ∧ zs.length ≤ c ∧ c ≤ maxLen ∧ Sl w' w.heap.size w'.heap.size 3 1 A zs.length (ints zs) ∧ Below w.heap.size w w'

/-- one result: a slice of ints in blocks of the call's own -/
def SlI (zs : List Int) (w : World) (e : Ending) (w' : World) : Prop :=
  ∃ A c, e = .returned (.slice A zs.length c) ∧ zs.length ≤ c ∧ c ≤ maxLen ∧ Sl w' w.heap.size w'.heap.size 3 1 A zs.length (ints zs) ∧ Below w.heap.size w w'
theorem int_info : (Try.prog.info? 3).map (fun i => (i.zero, i.size, i.bytes)) = some (some (.int .i64 0), 1, 8) := by kernel_rfl
theorem ints_made (n : Nat) : (madeCells #[.int .i64 0] (n * 1)).toList = ints (List.replicate n 0) := by
  have h := made_flat #[.int .i64 0] n
  simp only [List.size_toArray, List.length_cons, List.length_nil, Nat.zero_add] at h
  rw [h]
  simp [ints]
theorem laws_eqIntS (A B : Option Addr) (n c d l1 h1 l2 h2 : Nat) (zs : List Int) (w : World) (h : Sl w l1 h1 3 1 A n (ints zs)) (h' : Sl w l2 h2 3 1 B n (ints zs)) (hn : n ≤ 1048576) :
    Calls Try.prog 15 #[.slice A n c, .slice B n d] w fun e w' => e = .returned (.bool true) ∧ Below w.heap.size w w' := by
  have H := Lib.hid h
  have H' := Lib.hid h'
  clear h h'
  go_enter Try.func15, Try.ntmps15
  go_wp2
  go_loopw [5] (fun i wr => ∃ k : Nat, k ≤ n ∧ i = .int .i64 k ∧ Below w.heap.size w wr) (fun i _ => n - (intOf i).toNat)
  case atStart => exact ⟨0, Nat.zero_le _, rfl, by (repeat' (first | with_reducible exact Below.refl _ _ | (with_reducible refine balloc ?_ _) | (with_reducible refine bset ?_ ?_ _) | (with_reducible refine bdrew ?_) | (with_reducible refine bdrewN ?_ _) | (with_reducible refine bstep ?_ (by with_reducible assumption)) | (with_reducible refine bgrow ?_ (by with_reducible assumption) (by omega)) | (simp; done) | (simp; omega)))⟩
  case round =>
    obtain ⟨k, hk, rfl, hb⟩ := hrel
    by_cases hlt : k < n
    · obtain ⟨g, rfl, _, _, hg1, hg2, _⟩ := (H.out.below hb).int hlt
      obtain ⟨g', rfl, _, _, hg3, hg4, _⟩ := (H'.out.below hb).int hlt
      generalize zs.getD k 0 = z at *
      have i1 : (0 : Int) ≤ (k : Int) := by omega
      have i2 : (k : Int) < (n : Int) := by omega
      go_wp2
      go_quiet (fail)
      go_wp2
      go_roundw
      case rel => exact ⟨k + 1, by omega, by go_num, by (repeat' (first | with_reducible exact Below.refl _ _ | (with_reducible refine balloc ?_ _) | (with_reducible refine bset ?_ ?_ _) | (with_reducible refine bdrew ?_) | (with_reducible refine bdrewN ?_ _) | (with_reducible refine bstep ?_ (by with_reducible assumption)) | (with_reducible refine bgrow ?_ (by with_reducible assumption) (by omega)) | (simp; done) | (simp; omega)))⟩
      case measure => simp [intOf]; omega
    · go_wp2
      go_ret
      exact ⟨rfl, hb⟩
end Go.Proofs.Ytnbfmnchihckaaa
