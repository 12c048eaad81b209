/- Contracts of the laws' helpers on slices of ints: equal lists are found equal; what was marked is held. No conditions but lengths of at most 1000000. -/
import Derived.Test.YtjdoegekolbdpaaDoorBase
import Derived.Test.YtjdoegekolbdpaaDoorMem
namespace Go.Proofs.YtjdoegekolbdpaaDoor
open Go.ChangeShapes Go.WideShapes Go.ChangeAt Go.RowKit

/-- the marks k, k + 1, .. -/
def marks (k : Int) (n : Nat) : List Int := (List.range n).map fun (j : Nat) => k + (j : Int)
theorem marks_len (k : Int) (n : Nat) : (marks k n).length = n := by simp [marks]
theorem marks_at (k : Int) {n j : Nat} (h : j < n) : (marks k n).getD j 0 = k + j := by simp [marks, List.getD_eq_getElem?_getD, h]

/-- two results: a slice of ints in blocks of the call's own, and whether there is one -/
def SlB (zs : List Int) (ok : Bool) (w : World) (e : Ending) (w' : World) : Prop :=
  ∃ A c, e = .returned (.tuple #[.slice A zs.length c, .bool ok]) ∧ zs.length ≤ c ∧ c ≤ maxLen ∧ Sl w' w.heap.size w'.heap.size 3 1 A zs.length (ints zs) ∧ Below w.heap.size w w'

/-- one result: a slice of ints in blocks of the call's own -/
def SlI (zs : List Int) (w : World) (e : Ending) (w' : World) : Prop :=
  ∃ A c, e = .returned (.slice A zs.length c) ∧ zs.length ≤ c ∧ c ≤ maxLen ∧ Sl w' w.heap.size w'.heap.size 3 1 A zs.length (ints zs) ∧ Below w.heap.size w w'
theorem int_info : (Tryd.prog.info? 3).map (fun i => (i.zero, i.size, i.bytes)) = some (some (.int .i64 0), 1, 8) := by kernel_rfl
theorem ints_made (n : Nat) : (madeCells #[.int .i64 0] (n * 1)).toList = ints (List.replicate n 0) := by
  have h := made_flat #[.int .i64 0] n
  simp only [List.size_toArray, List.length_cons, List.length_nil, Nat.zero_add] at h
  rw [h]
  simp [ints]
theorem laws_eqIntS (A B : Option Addr) (n c d l1 h1 l2 h2 : Nat) (zs : List Int) (w : World) (h : Sl w l1 h1 3 1 A n (ints zs)) (h' : Sl w l2 h2 3 1 B n (ints zs)) (hn : n ≤ 1048576) :
    Calls Tryd.prog 66 #[.slice A n c, .slice B n d] w fun e w' => e = .returned (.bool true) ∧ Below w.heap.size w w' := by
  have H := Lib.hid h
  have H' := Lib.hid h'
  clear h h'
  go_enter Tryd.func66, Tryd.ntmps66
  go_wp2
  go_loopw [5] (fun i wr => ∃ k : Nat, k ≤ n ∧ i = .int .i64 k ∧ Below w.heap.size w wr) (fun i _ => n - (intOf i).toNat)
  case atStart => exact ⟨0, Nat.zero_le _, rfl, by (repeat' (first | with_reducible exact Below.refl _ _ | (with_reducible refine balloc ?_ _) | (with_reducible refine bset ?_ ?_ _) | (with_reducible refine bdrew ?_) | (with_reducible refine bdrewN ?_ _) | (with_reducible refine bstep ?_ (by with_reducible assumption)) | (with_reducible refine bgrow ?_ (by with_reducible assumption) (by omega)) | (simp; done) | (simp; omega)))⟩
  case round =>
    obtain ⟨k, hk, rfl, hb⟩ := hrel
    by_cases hlt : k < n
    · obtain ⟨g, rfl, _, _, hg1, hg2, _⟩ := (H.out.below hb).int hlt
      obtain ⟨g', rfl, _, _, hg3, hg4, _⟩ := (H'.out.below hb).int hlt
      generalize zs.getD k 0 = z at *
      have i1 : (0 : Int) ≤ (k : Int) := by omega
      have i2 : (k : Int) < (n : Int) := by omega
      go_wp2
      go_quiet (fail)
      go_wp2
      go_roundw
      case rel => exact ⟨k + 1, by omega, by go_num, by (repeat' (first | with_reducible exact Below.refl _ _ | (with_reducible refine balloc ?_ _) | (with_reducible refine bset ?_ ?_ _) | (with_reducible refine bdrew ?_) | (with_reducible refine bdrewN ?_ _) | (with_reducible refine bstep ?_ (by with_reducible assumption)) | (with_reducible refine bgrow ?_ (by with_reducible assumption) (by omega)) | (simp; done) | (simp; omega)))⟩
      case measure => simp [intOf]; omega
    · go_wp2
      go_ret
      exact ⟨rfl, hb⟩
theorem laws_ipInts (A B : Option Addr) (n c d l1 h1 l2 h2 : Nat) (zs : List Int) (w : World) (h : Sl w l1 h1 3 1 A n (ints zs)) (h' : Sl w l2 h2 3 1 B n (ints zs)) (hn : n ≤ 1048576) :
    Calls Tryd.prog 19 #[.slice A n c, .slice B n d] w fun e w' => e = .returned (.bool true) ∧ Below w.heap.size w w' := by
  have H := Lib.hid h
  have H' := Lib.hid h'
  clear h h'
  go_enter Tryd.func19, Tryd.ntmps19
  go_wp2
  go_loopw [5] (fun i wr => ∃ k : Nat, k ≤ n ∧ i = .int .i64 k ∧ Below w.heap.size w wr) (fun i _ => n - (intOf i).toNat)
  case atStart => exact ⟨0, Nat.zero_le _, rfl, by (repeat' (first | with_reducible exact Below.refl _ _ | (with_reducible refine balloc ?_ _) | (with_reducible refine bset ?_ ?_ _) | (with_reducible refine bdrew ?_) | (with_reducible refine bdrewN ?_ _) | (with_reducible refine bstep ?_ (by with_reducible assumption)) | (with_reducible refine bgrow ?_ (by with_reducible assumption) (by omega)) | (simp; done) | (simp; omega)))⟩
  case round =>
    obtain ⟨k, hk, rfl, hb⟩ := hrel
    by_cases hlt : k < n
    · obtain ⟨g, rfl, _, _, hg1, hg2, _⟩ := (H.out.below hb).int hlt
      obtain ⟨g', rfl, _, _, hg3, hg4, _⟩ := (H'.out.below hb).int hlt
      generalize zs.getD k 0 = z at *
      have i1 : (0 : Int) ≤ (k : Int) := by omega
      have i2 : (k : Int) < (n : Int) := by omega
      go_wp2
      go_quiet (fail)
      go_wp2
      go_roundw
      case rel => exact ⟨k + 1, by omega, by go_num, by (repeat' (first | with_reducible exact Below.refl _ _ | (with_reducible refine balloc ?_ _) | (with_reducible refine bset ?_ ?_ _) | (with_reducible refine bdrew ?_) | (with_reducible refine bdrewN ?_ _) | (with_reducible refine bstep ?_ (by with_reducible assumption)) | (with_reducible refine bgrow ?_ (by with_reducible assumption) (by omega)) | (simp; done) | (simp; omega)))⟩
      case measure => simp [intOf]; omega
    · go_wp2
      go_ret
      exact ⟨rfl, hb⟩
def mkd (q : Int) (zs : List Int) : Nat → List Int
  | 0 => zs
  | k + 1 => (mkd q zs k).set k (q + k)
theorem mkd_at (q : Int) (zs : List Int) (k j : Nat) : (mkd q zs k)[j]? = if j < k ∧ j < zs.length then some (q + j) else zs[j]? := by
  have hl : ∀ k, (mkd q zs k).length = zs.length := by intro k; induction k with
    | zero => rfl
    | succ k ih => simp [mkd, ih]
  induction k with
  | zero => simp [mkd]
  | succ k ih =>
    simp only [mkd, List.getElem?_set, hl, ih]
    by_cases h1 : k = j
    · subst h1
      by_cases h2 : k < zs.length
      · simp [h2]
      · simp [h2]
    · simp only [h1, if_false]
      by_cases h2 : j < zs.length
      · by_cases h3 : j < k
        · simp [h2, h3, Nat.lt_succ_of_lt h3]
        · simp [h2, h3, show ¬ j < k + 1 by omega]
      · simp [h2]
theorem mkd_all (q : Int) (zs : List Int) (n : Nat) (h : zs.length = n) : mkd q zs n = marks q n := by
  subst h
  apply List.ext_getElem?
  intro j
  rw [mkd_at]
  by_cases hj : j < zs.length <;> simp [hj, marks]
theorem laws_markIntST (A : Option Addr) (n c l1 h1 : Nat) (q : Int) (zs : List Int) (w : World) (h : Sl w l1 h1 3 1 A n (ints zs)) (hn : n ≤ 1048576) (q1 : 0 ≤ q) (q2 : q ≤ 100000000) :
    Calls Tryd.prog 68 #[.slice A n c, .int .i64 q] w fun e w' => e = .returned (.int .i64 (q + n)) ∧ Sl w' l1 h1 3 1 A n (ints (marks q n)) ∧ Only l1 h1 w w' ∧ KeepT 3 w w' := by
  have H := Lib.hid h
  have hzl : zs.length = n := by have := h.1; rw [ints_len] at this; omega
  have HZ := Lib.hid hzl
  clear h hzl
  go_enter Tryd.func68, Tryd.ntmps68
  go_wp2
  go_loopw [1, 5] (fun v i wr => ∃ k : Nat, k ≤ n ∧ i = .int .i64 k ∧ v = .int .i64 (q + k) ∧ Sl wr l1 h1 3 1 A n (ints (mkd q zs k)) ∧ Only l1 h1 w wr ∧ KeepT 3 w wr) (fun _ i _ => n - (intOf i).toNat)
  case atStart => exact ⟨0, Nat.zero_le _, rfl, by go_num, H.out, Only.refl _ _ _, KeepT.refl _ _⟩
  case round =>
    obtain ⟨k, hk, rfl, rfl, hs, ho, hkt⟩ := hrel
    by_cases hlt : k < n
    · obtain ⟨g, rfl, hg0, hg0', hg1, hg2, hg3⟩ := hs.int hlt
      have hst := hs.stored (by omega) k (.int .i64 (q + k))
      rw [ints_set] at hst
      have ho' := ho.setCell (p := ⟨g, k, none⟩) hg0 hg0' (.int .i64 (q + k))
      have hkt' := hkt.trans (hs.keepT (by omega) k (.int .i64 (q + k)))
      have R := Lib.hid (And.intro hst (And.intro ho' hkt'))
      clear hst ho' hs ho hkt hkt'
      have i1 : (0 : Int) ≤ (k : Int) := by omega
      have i2 : (k : Int) < (n : Int) := by omega
      go_wp2
      go_roundw
      case rel => exact ⟨k + 1, by omega, by go_num, by go_num, R.out.1, R.out.2.1, R.out.2.2⟩
      case measure => simp [intOf]; omega
    · obtain rfl : k = n := by omega
      go_wp2
      go_ret
      exact ⟨rfl, by rw [← mkd_all q zs k HZ.out]; exact hs, ho, hkt⟩
theorem laws_markIntS (A : Option Addr) (n c l1 h1 : Nat) (q : Int) (zs : List Int) (w : World) (h : Sl w l1 h1 3 1 A n (ints zs)) (hn : n ≤ 1048576) (q1 : 0 ≤ q) (q2 : q ≤ 100000000) :
    Calls Tryd.prog 68 #[.slice A n c, .int .i64 q] w fun e w' => e = .returned (.int .i64 (q + n)) ∧ Sl w' l1 h1 3 1 A n (ints (marks q n)) ∧ Only l1 h1 w w' :=
  (laws_markIntST A n c l1 h1 q zs w h hn q1 q2).mono fun _ _ ⟨a, b, c, _⟩ => ⟨a, b, c⟩
end Go.Proofs.YtjdoegekolbdpaaDoor
