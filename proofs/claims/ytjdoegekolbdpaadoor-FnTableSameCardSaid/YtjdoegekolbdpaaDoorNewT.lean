/- NewTable of the program and of the reference returns a table without pages. Asked for the program: the variable 'free' holds what its initialiser lays. -/
import Derived.Test.YtjdoegekolbdpaaDoorRep
import Derived.Test.YtjdoegekolbdpaaDoorTabR
namespace Go.Proofs.YtjdoegekolbdpaaDoor
set_option linter.unusedVariables false
open Go.ChangeShapes Go.WideShapes Go.ChangeAt Go.RowKit
def ntOk (f b : Int) : Bool := decide (1 ≤ f ∧ f ≤ 16) && withinB (b - 1) 16
def ntT (f b : Int) : List Int × List Fr := if ntOk f b = true then newT f.toNat b.toNat else ([], [])
/-- a table and a bool come back -/
def TabB (t : List Int × List Fr) (ok : Bool) (w : World) (e : Ending) (w' : World) : Prop :=
  ∃ A ca B cb, e = .returned (.tuple #[.agg #[.slice A t.1.length ca, .slice B t.2.length cb], .bool ok]) ∧ (t.1.length ≤ ca ∧ ca ≤ maxLen) ∧ (t.2.length ≤ cb ∧ cb ≤ maxLen) ∧ Tb w' w.heap.size w'.heap.size A B t.1 t.2 ∧ Below w.heap.size w w'
theorem TabB.none_ {w w' : World} (hb : Below w.heap.size w w') : TabB ([], []) false w (.returned (.tuple #[.agg #[.slice none 0 0, .slice none 0 0], .bool false])) w' :=
  ⟨none, 0, none, 0, rfl, ⟨Nat.le_refl _, by unfold maxLen; omega⟩, ⟨Nat.le_refl _, by unfold maxLen; omega⟩, ⟨Sl.none_, Sl.none_⟩, hb⟩
theorem cell_drew (w : World) (a : Addr) : w.drew.cell? a = w.cell? a := rfl
theorem newc {W : World} {cs : Array Value} {t : TypeId} {b : Nat} (hb : b = W.heap.size) (j : Nat) : (W.alloc (.cells cs t)).cell? ⟨b, j, none⟩ = cs[j]? := by subst hb; rw [World.cell?_alloc_new]
theorem oldc {W : World} {o : Obj} {b : Nat} (hb : b < W.heap.size) (j : Nat) : (W.alloc o).cell? ⟨b, j, none⟩ = W.cell? ⟨b, j, none⟩ := (Joins.below_alloc1 W o).cell (p := ⟨b, j, none⟩) hb
theorem TabB.new {w w' : World} {nf nb g5 g6 l5 h5 l6 h6 : Nat} (hs5 : Sl w' l5 h5 3 1 (some ⟨g5, 0, none⟩) nb (rep [.int .i64 (-1)] nb)) (hs6 : Sl w' l6 h6 46 5 (some ⟨g6, 0, none⟩) nf (rep (fcell frN) nf)) (h5 : w.heap.size ≤ l5) (h6 : w.heap.size ≤ l6) (n5 : nb ≤ 16) (n6 : nf ≤ 16) (hb : Below w.heap.size w w') :
    TabB (newT nf nb) true w (.returned (.tuple #[.agg #[.slice (some ⟨g5, 0, none⟩) nb nb, .slice (some ⟨g6, 0, none⟩) nf nf], .bool true])) w' := by
  rw [ints_rep] at hs5
  rw [fcells_rep] at hs6
  refine ⟨some ⟨g5, 0, none⟩, nb, some ⟨g6, 0, none⟩, nf, by simp [newT], ⟨by simp [newT], by unfold maxLen; omega⟩, ⟨by simp [newT], by unfold maxLen; omega⟩, ⟨?_, ?_⟩, hb⟩
  · have := (hs5.top).more h5 (Nat.le_refl _)
    simpa [newT] using this
  · have := (hs6.top).more h6 (Nat.le_refl _)
    simpa [newT] using this
theorem ntOk_iff {f b : Int} : ntOk f b = true ↔ (1 ≤ f ∧ f ≤ 16) ∧ 1 ≤ b ∧ b ≤ 16 := by
  unfold ntOk; simp only [Bool.and_eq_true, decide_eq_true_eq, withinB_iff]; omega
theorem nt_no {f b : Int} (h : ntOk f b = false) : ntT f b = ([], []) := by unfold ntT; rw [h]; rfl
theorem free_cells {W' : World} (h : FreeIn W') : W'.cell? ⟨0, 0, none⟩ = some (.bool false) ∧ W'.cell? ⟨0, 1, none⟩ = some (.int .i64 0) ∧ W'.cell? ⟨0, 2, none⟩ = some (.int .i64 0) ∧ W'.cell? ⟨0, 3, none⟩ = some (.int .i64 0) ∧ W'.cell? ⟨0, 4, none⟩ = some (.int .i64 (-1)) := by
  obtain ⟨_, h0, h1, h2, h3, h4⟩ := h
  exact ⟨h0, h1, h2, h3, h4⟩
set_option maxHeartbeats 1000000 in
set_option maxRecDepth 100000 in
theorem impl_NewTable (f b : Int) (w : World) (hf : FreeIn w) : Calls Tryd.prog 11 #[.int .i64 f, .int .i64 b] w (TabB (ntT f b) (ntOk f b) w) := by
  have fin := fun (w' : World) (hb : Below w.heap.size w w') => TabB.none_ hb
  have FIN := Lib.hid fin
  clear fin
  by_cases hok : ntOk f b = true
  · obtain ⟨⟨f1, f2⟩, b1, b2⟩ := ntOk_iff.1 hok
    obtain ⟨nf, rfl⟩ := Int.eq_ofNat_of_zero_le (show 0 ≤ f by omega)
    obtain ⟨nb, rfl⟩ := Int.eq_ofNat_of_zero_le (show 0 ≤ b by omega)
    have e : ntT (nf : Int) (nb : Int) = newT nf nb := by unfold ntT; rw [if_pos hok]; rfl
    rw [e, hok]
    have t1 : withinB ((nb : Int) - 1) 16 = true := withinB_iff.2 ⟨by omega, by omega⟩
    have HFr := Lib.hid hf
    clear hok e hf
    go_enter Tryd.func11, Tryd.ntmps11
    go_wp2_with (go_at_call 40; refine (impl_bucketsValid _ _).mono ?_; rintro e w' ⟨rfl, rfl⟩)
    go_region_held3 (fun W' => W'.cell? ⟨0, 0, none⟩ = some (.bool false) ∧ W'.cell? ⟨0, 1, none⟩ = some (.int .i64 0) ∧ W'.cell? ⟨0, 2, none⟩ = some (.int .i64 0) ∧ W'.cell? ⟨0, 3, none⟩ = some (.int .i64 0) ∧ W'.cell? ⟨0, 4, none⟩ = some (.int .i64 (-1))) ((refine free_cells (HFr.out.below ?_); (repeat' (first | with_reducible exact Below.refl _ _ | (with_reducible refine balloc ?_ _) | (with_reducible refine bset ?_ ?_ _) | (with_reducible refine bdrew ?_) | (with_reducible refine bdrewN ?_ _) | (with_reducible refine bstep ?_ (by with_reducible assumption)) | (with_reducible refine bgrow ?_ (by with_reducible assumption) (by omega)) | (simp; done) | (simp; omega)))))
      (first | (go_at_call 41; refine (rep_ints_ex _ nb [.int .i64 (-1)] _ (by omega) (by omega) rfl (by simp [Value.oneCell']) ?hx1 ?hg1).mono ?_; (case hx1 => (intro j v hj; (try rw [cell_drew]); (try rw [hb5.cell (p := ⟨_, j, none⟩) (by simp)]); (try rw [cell_drew]); first | (rw [newc (by simp)]; simpa [fcell, frN] using hj) | (rw [oldc (by simp), newc (by simp)]; simpa [fcell, frN] using hj))); (case hg1 => (first | (simp; done) | (have h9 := hb5.size; simp at h9 ⊢; omega))); rintro e w5 ⟨g5, rfl, hs5, hb5⟩; obtain ⟨hc5_1, hf5_1, hz5_1⟩ := bel_at hb5 (w.heap.size) (by first | omega | (simp; done) | (simp; omega))) | (go_at_call 42; refine (rep_frames_ex _ nf (fcell frN) _ (by omega) (by omega) rfl (by simp [Value.oneCell', fcell, frN]) ?hx2 ?hg2).mono ?_; (case hx2 => (intro j v hj; (try rw [cell_drew]); (try rw [hb5.cell (p := ⟨_, j, none⟩) (by simp)]); (try rw [cell_drew]); first | (rw [newc (by simp)]; simpa [fcell, frN] using hj) | (rw [oldc (by simp), newc (by simp)]; simpa [fcell, frN] using hj))); (case hg2 => (first | (simp; done) | (have h9 := hb5.size; simp at h9 ⊢; omega))); rintro e w6 ⟨g6, rfl, hs6, hb6⟩; obtain ⟨hc6_1, hf6_1, hz6_1⟩ := bel_at hb6 (w.heap.size) (by first | omega | (simp; done) | (simp; omega))))
    all_goals
      have hz1 := hb5.size
      have hz2 := hb6.size
      simp at hz1 hz2
      obtain ⟨l5, k5, hl5, HS5⟩ : ∃ lo hi, w.heap.size < lo ∧ Hid (Sl w5 lo hi 3 1 (some ⟨g5, 0, none⟩) nb (rep [.int .i64 (-1)] nb)) := ⟨_, _, by (try simp) <;> omega, Lib.hid hs5⟩
      obtain ⟨l6, k6, hl6, HS6⟩ : ∃ lo hi, w.heap.size < lo ∧ Hid (Sl w6 lo hi 46 5 (some ⟨g6, 0, none⟩) nf (rep (fcell frN) nf)) := ⟨_, _, by (try simp) <;> omega, Lib.hid hs6⟩
      have hB6 : Below (w.alloc (.cells #[.slice none 0 0, .slice none 0 0] 28)).heap.size (w.alloc (.cells #[.slice none 0 0, .slice none 0 0] 28)) w6 := by (repeat' (first | with_reducible exact Below.refl _ _ | (with_reducible refine balloc ?_ _) | (with_reducible refine bset ?_ ?_ _) | (with_reducible refine bdrew ?_) | (with_reducible refine bdrewN ?_ _) | (with_reducible refine bstep ?_ (by with_reducible assumption)) | (with_reducible refine bgrow ?_ (by with_reducible assumption) (by omega)) | (simp; done) | (simp; omega)))
      have q0 : w6.cell? ⟨w.heap.size, 0, none⟩ = some (.slice none 0 0) := by rw [hB6.cell (p := ⟨w.heap.size, 0, none⟩) (by simp), newc rfl]; rfl
      have q1 : w6.cell? ⟨w.heap.size, 1, none⟩ = some (.slice none 0 0) := by rw [hB6.cell (p := ⟨w.heap.size, 1, none⟩) (by simp), newc rfl]; rfl
      clear hs5 hs6 hc5_1 hc6_1 hB6
      go_wp2
      refine bodyPost_ret (v := .tuple #[.agg #[.slice (some ⟨g5, 0, none⟩) nb nb, .slice (some ⟨g6, 0, none⟩) nf nf], .bool true]) (by simp [results, Tryd.results11, go_sem, *]) rfl ?_
      exact TabB.new (l5 := l5) (h5 := k5) (l6 := l6) (h6 := k6) (by (repeat' (first | (with_reducible assumption) | (with_reducible exact Hid.out (by assumption)) | (with_reducible refine Sl.alloc ?_ _) | (with_reducible refine Sl.drewN ?_ _) | (with_reducible refine Sl.drew ?_) | (with_reducible refine Sl.set_ ?_ (by first | (left; (try simp) <;> omega) | (right; (try simp) <;> omega)) _) | (with_reducible refine Sl.below ?_ (by with_reducible assumption))))) (by (repeat' (first | (with_reducible assumption) | (with_reducible exact Hid.out (by assumption)) | (with_reducible refine Sl.alloc ?_ _) | (with_reducible refine Sl.drewN ?_ _) | (with_reducible refine Sl.drew ?_) | (with_reducible refine Sl.set_ ?_ (by first | (left; (try simp) <;> omega) | (right; (try simp) <;> omega)) _) | (with_reducible refine Sl.below ?_ (by with_reducible assumption))))) (by omega) (by omega) (by omega) (by omega) (by (repeat' (first | with_reducible exact Below.refl _ _ | (with_reducible refine balloc ?_ _) | (with_reducible refine bset ?_ ?_ _) | (with_reducible refine bdrew ?_) | (with_reducible refine bdrewN ?_ _) | (with_reducible refine bstep ?_ (by with_reducible assumption)) | (with_reducible refine bgrow ?_ (by with_reducible assumption) (by omega)) | (simp; done) | (simp; omega))))
  · have hok' : ntOk f b = false := by simpa using hok
    rw [nt_no hok', hok']
    have hn := mt ntOk_iff.2 hok
    clear hok hok'
    rcases (show f < 1 ∨ 16 < f ∨ ((1 ≤ f ∧ f ≤ 16) ∧ (b < 1 ∨ 16 < b)) from by omega) with h1 | h1 | ⟨⟨h1, h2⟩, h3⟩ <;> clear hn
    · go_enter Tryd.func11, Tryd.ntmps11
      go_wp2
      refine bodyPost_ret (v := .tuple #[.agg #[.slice none 0 0, .slice none 0 0], .bool false]) (by simp [results, Tryd.results11, go_sem, *]) rfl ?_
      exact FIN.out _ (by (repeat' (first | with_reducible exact Below.refl _ _ | (with_reducible refine balloc ?_ _) | (with_reducible refine bset ?_ ?_ _) | (with_reducible refine bdrew ?_) | (with_reducible refine bdrewN ?_ _) | (with_reducible refine bstep ?_ (by with_reducible assumption)) | (with_reducible refine bgrow ?_ (by with_reducible assumption) (by omega)) | (simp; done) | (simp; omega))))
    · have h2 : 1 ≤ f := by omega
      go_enter Tryd.func11, Tryd.ntmps11
      go_wp2
      refine bodyPost_ret (v := .tuple #[.agg #[.slice none 0 0, .slice none 0 0], .bool false]) (by simp [results, Tryd.results11, go_sem, *]) rfl ?_
      exact FIN.out _ (by (repeat' (first | with_reducible exact Below.refl _ _ | (with_reducible refine balloc ?_ _) | (with_reducible refine bset ?_ ?_ _) | (with_reducible refine bdrew ?_) | (with_reducible refine bdrewN ?_ _) | (with_reducible refine bstep ?_ (by with_reducible assumption)) | (with_reducible refine bgrow ?_ (by with_reducible assumption) (by omega)) | (simp; done) | (simp; omega))))
    · have t1 : withinB (b - 1) 16 = false := withinB_not.2 (by omega)
      clear h3
      go_enter Tryd.func11, Tryd.ntmps11
      go_wp2_with (go_at_call 40; refine (impl_bucketsValid _ _).mono ?_; rintro e w' ⟨rfl, rfl⟩)
      refine bodyPost_ret (v := .tuple #[.agg #[.slice none 0 0, .slice none 0 0], .bool false]) (by simp [results, Tryd.results11, go_sem, *]) rfl ?_
      exact FIN.out _ (by (repeat' (first | with_reducible exact Below.refl _ _ | (with_reducible refine balloc ?_ _) | (with_reducible refine bset ?_ ?_ _) | (with_reducible refine bdrew ?_) | (with_reducible refine bdrewN ?_ _) | (with_reducible refine bstep ?_ (by with_reducible assumption)) | (with_reducible refine bgrow ?_ (by with_reducible assumption) (by omega)) | (simp; done) | (simp; omega))))
end Go.Proofs.YtjdoegekolbdpaaDoor
