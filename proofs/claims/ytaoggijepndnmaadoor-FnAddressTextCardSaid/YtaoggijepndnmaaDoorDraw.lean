/- Contracts of the reference's draws of addresses, rights and keys: each returns some value and writes nothing that was there. Asked of a reader: at most 900000 picks so far. -/
import Derived.Test.YtaoggijepndnmaaDoorRd
import Derived.Test.YtaoggijepndnmaaDoorAddr
namespace Go.Proofs.YtaoggijepndnmaaDoor
open Go.ChangeShapes Go.WideShapes Go.ChangeAt Go.RowKit

/-- what the code's bytes are known to be -/
def CodeIn (w : World) (ao : Option Addr) (len cap : Nat) : Prop := CodeAt w w.heap.size ao len ∧ len ≤ cap ∧ cap ≤ maxLen
def small (x : Int) : Prop := -2000000 ≤ x ∧ x ≤ 2000000

def l1DrawPost (rb m : Nat) (w : World) (e : Ending) (w' : World) : Prop :=
  ∃ s p o : Int, (e = .returned (.agg #[.int .i64 s, .int .i64 p, .int .i64 o])) ∧ Hid (s ∈ [(0 : Int), 1, 2, 3, 15, 5]) ∧ Hid (p ∈ [(0 : Int), 1, 7, 255, 100, 3, 9]) ∧ Hid (o ∈ [(0 : Int), 5, 63, 32]) ∧ Rd w' rb (m + 1 + 1 + 1) ∧ w.grownBy w' (some rb)
theorem spec_l1Draw (rb m : Nat) (w : World) (h : Rd w rb m) (hm : m ≤ 999990) : Calls Tryd.prog 21 #[.pointer (some ⟨rb, 0, none⟩)] w (l1DrawPost rb m w) := by
  have hlt := h.lt
  go_enter Tryd.func21, Tryd.ntmps21
  go_wp2_with (fail)
  refine (rd_num rb (m) _ _ [0, 1, 2, 3, 15, 5] _ (by (repeat' (first | (with_reducible assumption) | (with_reducible refine Rd.alloc ?_ _) | (with_reducible refine Rd.drewN ?_ _) | (with_reducible refine Rd.drew ?_) | (with_reducible refine Rd.setCell ?_ (by first | omega | (simp; omega)) _)))) (by omega) rfl (by simp) (by decide) (by decide)).mono ?_
  rintro e w1 ⟨x1, rfl, hl1, hh1, hm1, hR1, hg1⟩
  have hr1 := hR1.lt
  obtain ⟨hc1_0, hf1_0, hz1_0⟩ := gb_at hg1 (w.heap.size) (by first | omega | (simp; done) | (simp; omega)) (by first | omega | (simp; done) | (simp; omega))
  go_wp2_with (fail)
  refine (rd_num rb (m + 1) _ _ [0, 1, 7, 255, 100, 3, 9] _ (by (repeat' (first | (with_reducible assumption) | (with_reducible refine Rd.alloc ?_ _) | (with_reducible refine Rd.drewN ?_ _) | (with_reducible refine Rd.drew ?_) | (with_reducible refine Rd.setCell ?_ (by first | omega | (simp; omega)) _)))) (by omega) rfl (by simp) (by decide) (by decide)).mono ?_
  rintro e w2 ⟨x2, rfl, hl2, hh2, hm2, hR2, hg2⟩
  have hr2 := hR2.lt
  obtain ⟨hc2_0, hf2_0, hz2_0⟩ := gb_at hg2 (w.heap.size) (by first | omega | (simp; done) | (simp; omega)) (by first | omega | (simp; done) | (simp; omega))
  go_wp2_with (fail)
  refine (rd_num rb (m + 1 + 1) _ _ [0, 5, 63, 32] _ (by (repeat' (first | (with_reducible assumption) | (with_reducible refine Rd.alloc ?_ _) | (with_reducible refine Rd.drewN ?_ _) | (with_reducible refine Rd.drew ?_) | (with_reducible refine Rd.setCell ?_ (by first | omega | (simp; omega)) _)))) (by omega) rfl (by simp) (by decide) (by decide)).mono ?_
  rintro e w3 ⟨x3, rfl, hl3, hh3, hm3, hR3, hg3⟩
  have hr3 := hR3.lt
  obtain ⟨hc3_0, hf3_0, hz3_0⟩ := gb_at hg3 (w.heap.size) (by first | omega | (simp; done) | (simp; omega)) (by first | omega | (simp; done) | (simp; omega))
  go_wp2
  refine bodyPost_ret (v := .agg #[.int .i64 x1, .int .i64 x2, .int .i64 x3]) (by simp [results, Tryd.results21, go_sem, *]) rfl ?_
  exact ⟨x1, x2, x3, rfl, hm1, hm2, hm3, by (repeat' (first | (with_reducible assumption) | (with_reducible refine Rd.alloc ?_ _) | (with_reducible refine Rd.drewN ?_ _) | (with_reducible refine Rd.drew ?_) | (with_reducible refine Rd.setCell ?_ (by first | omega | (simp; omega)) _))), by (repeat' (first | with_reducible exact gb_refl _ _ | (with_reducible refine gb_alloc ?_ _) | (with_reducible refine gb_set ?_ ?_ _) | (with_reducible refine gb_drew ?_) | (with_reducible refine gb_drewN ?_ _) | (with_reducible refine gb_step ?_ (by with_reducible assumption)) | (with_reducible refine gb_below ?_ (by with_reducible assumption)) | (simp; done) | (simp; omega)))⟩

def DrawA (w : World) (e : Ending) (w' : World) : Prop := ∃ s p o : Int, e = .returned (.agg #[.int .i64 s, .int .i64 p, .int .i64 o]) ∧ Below w.heap.size w w'
def DrawI (w : World) (e : Ending) (w' : World) : Prop := ∃ x : Int, e = .returned (.int .i64 x) ∧ Below w.heap.size w w'
def DrawII (w : World) (e : Ending) (w' : World) : Prop := ∃ x y : Int, e = .returned (.tuple #[.int .i64 x, .int .i64 y]) ∧ Below w.heap.size w w'
def DrawK (w : World) (e : Ending) (w' : World) : Prop := ∃ s p : Int, e = .returned (.agg #[.int .i64 s, .int .i64 p]) ∧ Below w.heap.size w w'
def DrawKK (w : World) (e : Ending) (w' : World) : Prop := ∃ s p s' p' : Int, e = .returned (.tuple #[.agg #[.int .i64 s, .int .i64 p], .agg #[.int .i64 s', .int .i64 p']]) ∧ Below w.heap.size w w'
def DrawKI (w : World) (e : Ending) (w' : World) : Prop := ∃ s p x : Int, e = .returned (.tuple #[.agg #[.int .i64 s, .int .i64 p], .int .i64 x]) ∧ Below w.heap.size w w'
def DrawAI (w : World) (e : Ending) (w' : World) : Prop := ∃ s p o x : Int, e = .returned (.tuple #[.agg #[.int .i64 s, .int .i64 p, .int .i64 o], .int .i64 x]) ∧ Below w.heap.size w w'

theorem spec_l1Case (ao : Option Addr) (len cap : Nat) (w : World) (h : CodeIn w ao len cap) : Calls Tryd.prog 23 #[.slice ao len cap] w (DrawA w) := by
  obtain ⟨hcode, hcl, hcm⟩ := h
  have HC := Lib.hid hcode
  clear hcode
  go_enter Tryd.func23, Tryd.ntmps23
  go_wp2_with (fail)
  have hcode := HC.out
  refine (rd_open _ _ _ _ (by (refine ⟨?_, by assumption, by assumption⟩; repeat' (first | (with_reducible assumption) | (with_reducible refine CodeAt.alloc ?_ _) | (with_reducible refine CodeAt.below ?_ (by with_reducible assumption)))))).mono ?_
  clear hcode
  rintro e w1 ⟨rb, rfl, hrb, hR1, hb1⟩
  obtain ⟨hc1_0, hf1_0, hz1_0⟩ := bel_at hb1 (w.heap.size) (by simp)
  simp only [World.size_alloc] at hrb
  go_wp2_with (fail)
  refine (spec_l1Draw rb (0) _ (by (repeat' (first | (with_reducible assumption) | (with_reducible refine Rd.alloc ?_ _) | (with_reducible refine Rd.drewN ?_ _) | (with_reducible refine Rd.drew ?_) | (with_reducible refine Rd.setCell ?_ (by first | omega | (simp; omega)) _)))) (by omega)).mono ?_
  rintro e w2 ⟨s, p, o, rfl, hs, hp, ho, hR2, hg2⟩
  have hr2 := hR2.lt
  obtain ⟨hc2_0, hf2_0, hz2_0⟩ := gb_at hg2 (w.heap.size) (by first | omega | (simp; done) | (simp; omega)) (by first | omega | (simp; done) | (simp; omega))
  go_wp2_with (fail)
  refine (rd_pick rb (0 + 1 + 1 + 1) _ _ (by (repeat' (first | (with_reducible assumption) | (with_reducible refine Rd.alloc ?_ _) | (with_reducible refine Rd.drewN ?_ _) | (with_reducible refine Rd.drew ?_) | (with_reducible refine Rd.setCell ?_ (by first | omega | (simp; omega)) _)))) (by omega)).mono ?_
  rintro e w3 ⟨x3, rfl, hl3, hh3, hR3, hg3⟩
  have hr3 := hR3.lt
  obtain ⟨hc3_0, hf3_0, hz3_0⟩ := gb_at hg3 (w.heap.size) (by first | omega | (simp; done) | (simp; omega)) (by first | omega | (simp; done) | (simp; omega))
  obtain ⟨hc3_1, hf3_1, hz3_1⟩ := gb_at hg3 (w2.heap.size) (by first | omega | (simp; done) | (simp; omega)) (by first | omega | (simp; done) | (simp; omega))
  rcases (show x3 = 0 ∨ x3 = 1 ∨ x3 = 2 ∨ 3 ≤ x3 from by omega) with h3 | h3 | h3 | h3
  · subst h3
    go_wp2_with (fail)
    refine (rd_num rb (0 + 1 + 1 + 1 + 1) _ _ [-1, 16] _ (by (repeat' (first | (with_reducible assumption) | (with_reducible refine Rd.alloc ?_ _) | (with_reducible refine Rd.drewN ?_ _) | (with_reducible refine Rd.drew ?_) | (with_reducible refine Rd.setCell ?_ (by first | omega | (simp; omega)) _)))) (by omega) rfl (by simp) (by decide) (by decide)).mono ?_
    rintro e w4 ⟨x4, rfl, hl4, hh4, hm4, hR4, hg4⟩
    have hr4 := hR4.lt
    obtain ⟨hc4_0, hf4_0, hz4_0⟩ := gb_at hg4 (w.heap.size) (by first | omega | (simp; done) | (simp; omega)) (by first | omega | (simp; done) | (simp; omega))
    obtain ⟨hc4_1, hf4_1, hz4_1⟩ := gb_at hg4 (w2.heap.size) (by first | omega | (simp; done) | (simp; omega)) (by first | omega | (simp; done) | (simp; omega))
    go_wp2
    refine bodyPost_ret (v := .agg #[.int .i64 x4, .int .i64 p, .int .i64 o]) (by simp [results, Tryd.results23, go_sem, *]) rfl ?_
    exact ⟨x4, p, o, rfl, by (repeat' (first | with_reducible exact Below.refl _ _ | (with_reducible refine balloc ?_ _) | (with_reducible refine bset ?_ ?_ _) | (with_reducible refine bdrew ?_) | (with_reducible refine bdrewN ?_ _) | (with_reducible refine bstep ?_ (by with_reducible assumption)) | (with_reducible refine bgrow ?_ (by with_reducible assumption) (by omega)) | (simp; done) | (simp; omega)))⟩
  · subst h3
    go_wp2_with (fail)
    refine (rd_num rb (0 + 1 + 1 + 1 + 1) _ _ [-1, 256] _ (by (repeat' (first | (with_reducible assumption) | (with_reducible refine Rd.alloc ?_ _) | (with_reducible refine Rd.drewN ?_ _) | (with_reducible refine Rd.drew ?_) | (with_reducible refine Rd.setCell ?_ (by first | omega | (simp; omega)) _)))) (by omega) rfl (by simp) (by decide) (by decide)).mono ?_
    rintro e w4 ⟨x4, rfl, hl4, hh4, hm4, hR4, hg4⟩
    have hr4 := hR4.lt
    obtain ⟨hc4_0, hf4_0, hz4_0⟩ := gb_at hg4 (w.heap.size) (by first | omega | (simp; done) | (simp; omega)) (by first | omega | (simp; done) | (simp; omega))
    obtain ⟨hc4_1, hf4_1, hz4_1⟩ := gb_at hg4 (w2.heap.size) (by first | omega | (simp; done) | (simp; omega)) (by first | omega | (simp; done) | (simp; omega))
    go_wp2
    refine bodyPost_ret (v := .agg #[.int .i64 s, .int .i64 x4, .int .i64 o]) (by simp [results, Tryd.results23, go_sem, *]) rfl ?_
    exact ⟨s, x4, o, rfl, by (repeat' (first | with_reducible exact Below.refl _ _ | (with_reducible refine balloc ?_ _) | (with_reducible refine bset ?_ ?_ _) | (with_reducible refine bdrew ?_) | (with_reducible refine bdrewN ?_ _) | (with_reducible refine bstep ?_ (by with_reducible assumption)) | (with_reducible refine bgrow ?_ (by with_reducible assumption) (by omega)) | (simp; done) | (simp; omega)))⟩
  · subst h3
    go_wp2_with (fail)
    refine (rd_num rb (0 + 1 + 1 + 1 + 1) _ _ [-1, 64] _ (by (repeat' (first | (with_reducible assumption) | (with_reducible refine Rd.alloc ?_ _) | (with_reducible refine Rd.drewN ?_ _) | (with_reducible refine Rd.drew ?_) | (with_reducible refine Rd.setCell ?_ (by first | omega | (simp; omega)) _)))) (by omega) rfl (by simp) (by decide) (by decide)).mono ?_
    rintro e w4 ⟨x4, rfl, hl4, hh4, hm4, hR4, hg4⟩
    have hr4 := hR4.lt
    obtain ⟨hc4_0, hf4_0, hz4_0⟩ := gb_at hg4 (w.heap.size) (by first | omega | (simp; done) | (simp; omega)) (by first | omega | (simp; done) | (simp; omega))
    obtain ⟨hc4_1, hf4_1, hz4_1⟩ := gb_at hg4 (w2.heap.size) (by first | omega | (simp; done) | (simp; omega)) (by first | omega | (simp; done) | (simp; omega))
    go_wp2
    refine bodyPost_ret (v := .agg #[.int .i64 s, .int .i64 p, .int .i64 x4]) (by simp [results, Tryd.results23, go_sem, *]) rfl ?_
    exact ⟨s, p, x4, rfl, by (repeat' (first | with_reducible exact Below.refl _ _ | (with_reducible refine balloc ?_ _) | (with_reducible refine bset ?_ ?_ _) | (with_reducible refine bdrew ?_) | (with_reducible refine bdrewN ?_ _) | (with_reducible refine bstep ?_ (by with_reducible assumption)) | (with_reducible refine bgrow ?_ (by with_reducible assumption) (by omega)) | (simp; done) | (simp; omega)))⟩
  · go_wp2
    refine bodyPost_ret (v := .agg #[.int .i64 s, .int .i64 p, .int .i64 o]) (by simp [results, Tryd.results23, go_sem, *]) rfl ?_
    exact ⟨s, p, o, rfl, by (repeat' (first | with_reducible exact Below.refl _ _ | (with_reducible refine balloc ?_ _) | (with_reducible refine bset ?_ ?_ _) | (with_reducible refine bdrew ?_) | (with_reducible refine bdrewN ?_ _) | (with_reducible refine bstep ?_ (by with_reducible assumption)) | (with_reducible refine bgrow ?_ (by with_reducible assumption) (by omega)) | (simp; done) | (simp; omega)))⟩
theorem CodeIn.alloc {w : World} {ao : Option Addr} {len cap : Nat} (h : CodeIn w ao len cap) (o : Obj) : CodeIn (w.alloc o) ao len cap := ⟨h.1.alloc o, h.2⟩
theorem CodeIn.below {w w' : World} {ao : Option Addr} {len cap : Nat} (h : CodeIn w ao len cap) (hb : Below w.heap.size w w') : CodeIn w' ao len cap := ⟨h.1.below hb, h.2⟩
theorem spec_DrawFormatAddress (ao : Option Addr) (len cap : Nat) (w : World) (h : CodeIn w ao len cap) : Calls Tryd.prog 11 #[.slice ao len cap] w (DrawA w) := by
  have hc := h
  have HC := Lib.hid hc
  clear hc h
  go_enter Tryd.func11, Tryd.ntmps11
  go_wp2_with (fail)
  refine (spec_l1Case _ _ _ _ (by exact CodeIn.alloc HC.out _)).mono ?_
  rintro e w1 ⟨s, p, o, rfl, hb1⟩
  obtain ⟨hc1_0, hf1_0, hz1_0⟩ := bel_at hb1 (w.heap.size) (by simp)
  go_wp2
  refine bodyPost_ret (v := .agg #[.int .i64 s, .int .i64 p, .int .i64 o]) (by simp [results, Tryd.results11, go_sem, *]) rfl ?_
  exact ⟨s, p, o, rfl, by (repeat' (first | with_reducible exact Below.refl _ _ | (with_reducible refine balloc ?_ _) | (with_reducible refine bset ?_ ?_ _) | (with_reducible refine bdrew ?_) | (with_reducible refine bdrewN ?_ _) | (with_reducible refine bstep ?_ (by with_reducible assumption)) | (with_reducible refine bgrow ?_ (by with_reducible assumption) (by omega)) | (simp; done) | (simp; omega)))⟩
def l2DrawPost (rb m : Nat) (w : World) (e : Ending) (w' : World) : Prop :=
  ∃ s p : Int, (e = .returned (.agg #[.int .i64 s, .int .i64 p])) ∧ Hid (s ∈ [(0 : Int), 1, 2, 3, 1]) ∧ Hid (p ∈ [(0 : Int), 1, 2, 3, 4, 5, 100, 255]) ∧ Rd w' rb (m + 1 + 1) ∧ w.grownBy w' (some rb)
def l2CasePost (rb m : Nat) (w : World) (e : Ending) (w' : World) : Prop :=
  ∃ s p : Int, (e = .returned (.agg #[.int .i64 s, .int .i64 p])) ∧ Rd w' rb (m + 4) ∧ w.grownBy w' (some rb)
end Go.Proofs.YtaoggijepndnmaaDoor
