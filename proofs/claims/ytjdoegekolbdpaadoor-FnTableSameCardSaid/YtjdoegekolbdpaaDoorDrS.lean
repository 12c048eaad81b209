/- Draws of two tables, of a table and a bucket. No conditions. -/
import Derived.Test.YtjdoegekolbdpaaDoorDrL
namespace Go.Proofs.YtjdoegekolbdpaaDoor
set_option linter.unusedVariables false
open Go.ChangeShapes Go.WideShapes Go.ChangeAt Go.RowKit
theorem oldf {W : World} {o : Obj} {b : Nat} (hb : b < W.heap.size) (j : Nat) : (W.alloc o).frozen? ⟨b, j, none⟩ = W.frozen? ⟨b, j, none⟩ := (Joins.below_alloc1 W o).frozen (p := ⟨b, j, none⟩) hb
/-- two drawn tables -/
def DrawTT (w : World) (e : Ending) (w' : World) : Prop :=
  ∃ A ca B cb bk fs A' ca' B' cb' bk' fs', e = .returned (.tuple #[.agg #[.slice A bk.length ca, .slice B fs.length cb], .agg #[.slice A' bk'.length ca', .slice B' fs'.length cb']]) ∧ (bk.length ≤ 10 ∧ fs.length ≤ 8) ∧ (bk'.length ≤ 10 ∧ fs'.length ≤ 8) ∧ Hid (Tb w' w.heap.size w'.heap.size A B bk fs) ∧ Hid (Tb w' w.heap.size w'.heap.size A' B' bk' fs') ∧ Below w.heap.size w w'
set_option maxHeartbeats 2000000 in
set_option maxRecDepth 100000 in
theorem spec_DrawTableSame (ao : Option Addr) (len cap : Nat) (w : World) (h : CodeIn w ao len cap) : Calls Tryd.prog 21 #[.slice ao len cap] w (DrawTT w) := by
  obtain ⟨hcode, hcl, hcm⟩ := h
  have HC := Lib.hid hcode
  clear hcode
  go_enter Tryd.func21, Tryd.ntmps21
  go_wp2_with (fail)
  have hcode := HC.out
  refine (rd_open _ _ _ _ (by (refine ⟨?_, by assumption, by assumption⟩; repeat' (first | (with_reducible assumption) | (with_reducible refine CodeAt.alloc ?_ _) | (with_reducible refine CodeAt.below ?_ (by with_reducible assumption)))))).mono ?_
  rintro e w1 ⟨rb, rfl, hrb, hR1, hb1⟩
  obtain ⟨hc_r, hf_r, hz_r⟩ := bel_at hb1 (w.heap.size) (by first | omega | (simp; done) | (simp; omega))
  have v_r_0 : w1.cell? ⟨w.heap.size, 0, none⟩ = some (.slice none 0 0) := by rw [hc_r]; rw [oldc (by first | (simp; done) | (simp; omega))]; exact newc (by simp) _
  have f_r_0 : w1.frozen? ⟨w.heap.size, 0, none⟩ = false := by rw [hf_r]; exact Joins.unfrozen_of_block (al_keep (heap_new (by simp))) 0
  have v_r_1 : w1.cell? ⟨w.heap.size, 1, none⟩ = some (.slice none 0 0) := by rw [hc_r]; rw [oldc (by first | (simp; done) | (simp; omega))]; exact newc (by simp) _
  have f_r_1 : w1.frozen? ⟨w.heap.size, 1, none⟩ = false := by rw [hf_r]; exact Joins.unfrozen_of_block (al_keep (heap_new (by simp))) 1
  obtain ⟨hc_q, hf_q, hz_q⟩ := bel_at hb1 (w.heap.size + 1) (by first | omega | (simp; done) | (simp; omega))
  have v_q_0 : w1.cell? ⟨w.heap.size + 1, 0, none⟩ = some (.slice none 0 0) := by rw [hc_q]; exact newc (by simp) _
  have f_q_0 : w1.frozen? ⟨w.heap.size + 1, 0, none⟩ = false := by rw [hf_q]; exact Joins.unfrozen_of_block (heap_new (by simp)) 0
  have v_q_1 : w1.cell? ⟨w.heap.size + 1, 1, none⟩ = some (.slice none 0 0) := by rw [hc_q]; exact newc (by simp) _
  have f_q_1 : w1.frozen? ⟨w.heap.size + 1, 1, none⟩ = false := by rw [hf_q]; exact Joins.unfrozen_of_block (heap_new (by simp)) 1
  have hsz1 := hb1.size
  try simp at hsz1
  try simp at hrb
  have hlt1 := hR1.lt
  have HB1 : Hid (Below w.heap.size w w1) := Lib.hid (by (repeat' (first | with_reducible exact Below.refl _ _ | (with_reducible refine balloc ?_ _) | (with_reducible refine bset ?_ ?_ _) | (with_reducible refine bdrew ?_) | (with_reducible refine bdrewN ?_ _) | (with_reducible refine bstep ?_ (by with_reducible assumption)) | (with_reducible refine bgrow ?_ (by with_reducible assumption) (by omega)) | (simp; done) | (simp; omega))))
  clear hb1 hc_r hf_r hc_q hf_q hcode
  go_wp2_with (fail)
  refine (spec_l3Draw rb 0 _ (by (repeat' (first | (with_reducible assumption) | (with_reducible refine Rd.alloc ?_ _) | (with_reducible refine Rd.drewN ?_ _) | (with_reducible refine Rd.drew ?_) | (with_reducible refine Rd.setCell ?_ (by first | omega | (simp; omega)) _)))) (by omega)).mono ?_
  rintro e w2 ⟨A1, c1, B1, d1, bk, fs, rfl, ⟨m1, m2⟩, ⟨m3, m4⟩, m5, m6, HT2, hR2, hg2⟩
  obtain ⟨hc_r, hf_r, hz_r⟩ := gb_at hg2 (w.heap.size) (by first | omega | (simp; done) | (simp; omega)) (by first | omega | (simp; omega))
  replace v_r_0 := (hc_r 0).trans v_r_0
  replace f_r_0 := (hf_r 0).trans f_r_0
  replace v_r_1 := (hc_r 1).trans v_r_1
  replace f_r_1 := (hf_r 1).trans f_r_1
  obtain ⟨hc_q, hf_q, hz_q⟩ := gb_at hg2 (w.heap.size + 1) (by first | omega | (simp; done) | (simp; omega)) (by first | omega | (simp; omega))
  replace v_q_0 := (hc_q 0).trans v_q_0
  replace f_q_0 := (hf_q 0).trans f_q_0
  replace v_q_1 := (hc_q 1).trans v_q_1
  replace f_q_1 := (hf_q 1).trans f_q_1
  have hsz2 := hg2.size
  try simp at hsz2
  have HB2 : Hid (Below w.heap.size w w2) := Lib.hid (bgrow HB1.out hg2 (by omega))
  clear hg2 hc_r hf_r hc_q hf_q hR1
  go_wp2_with (fail)
  refine (rd_pick rb (0 + 60) _ _ (hR2.alloc _) (by omega)).mono ?_
  rintro e w3 ⟨x3, rfl, hl3, hh3, hR3, hg3⟩
  obtain ⟨hc_r, hf_r, hz_r⟩ := gb_at hg3 (w.heap.size) (by first | omega | (simp; done) | (simp; omega)) (by first | omega | (simp; omega))
  replace v_r_0 : w3.cell? ⟨w.heap.size, 0, none⟩ = some (.slice none 0 0) := by rw [hc_r]; rw [oldc (by first | omega | (simp; omega))]; exact v_r_0
  replace f_r_0 : w3.frozen? ⟨w.heap.size, 0, none⟩ = false := by rw [hf_r]; rw [oldf (by first | omega | (simp; omega))]; exact f_r_0
  replace v_r_1 : w3.cell? ⟨w.heap.size, 1, none⟩ = some (.slice none 0 0) := by rw [hc_r]; rw [oldc (by first | omega | (simp; omega))]; exact v_r_1
  replace f_r_1 : w3.frozen? ⟨w.heap.size, 1, none⟩ = false := by rw [hf_r]; rw [oldf (by first | omega | (simp; omega))]; exact f_r_1
  obtain ⟨hc_q, hf_q, hz_q⟩ := gb_at hg3 (w.heap.size + 1) (by first | omega | (simp; done) | (simp; omega)) (by first | omega | (simp; omega))
  replace v_q_0 : w3.cell? ⟨w.heap.size + 1, 0, none⟩ = some (.slice none 0 0) := by rw [hc_q]; rw [oldc (by first | omega | (simp; omega))]; exact v_q_0
  replace f_q_0 : w3.frozen? ⟨w.heap.size + 1, 0, none⟩ = false := by rw [hf_q]; rw [oldf (by first | omega | (simp; omega))]; exact f_q_0
  replace v_q_1 : w3.cell? ⟨w.heap.size + 1, 1, none⟩ = some (.slice none 0 0) := by rw [hc_q]; rw [oldc (by first | omega | (simp; omega))]; exact v_q_1
  replace f_q_1 : w3.frozen? ⟨w.heap.size + 1, 1, none⟩ = false := by rw [hf_q]; rw [oldf (by first | omega | (simp; omega))]; exact f_q_1
  obtain ⟨hc_t, hf_t, hz_t⟩ := gb_at hg3 (w2.heap.size) (by first | omega | (simp; done) | (simp; omega)) (by first | omega | (simp; omega))
  have v_t_0 : w3.cell? ⟨w2.heap.size, 0, none⟩ = some (.slice A1 bk.length c1) := by rw [hc_t]; exact newc (by simp) _
  have f_t_0 : w3.frozen? ⟨w2.heap.size, 0, none⟩ = false := by rw [hf_t]; exact Joins.unfrozen_of_block (heap_new (by simp)) 0
  have v_t_1 : w3.cell? ⟨w2.heap.size, 1, none⟩ = some (.slice B1 fs.length d1) := by rw [hc_t]; exact newc (by simp) _
  have f_t_1 : w3.frozen? ⟨w2.heap.size, 1, none⟩ = false := by rw [hf_t]; exact Joins.unfrozen_of_block (heap_new (by simp)) 1
  have hsz3 := hg3.size
  try simp at hsz3
  have HB3 : Hid (Below w.heap.size w w3) := Lib.hid (bgrow (balloc HB2.out _) hg3 (by omega))
  have HT3 : Hid (Tb w3 w1.heap.size w2.heap.size A1 B1 bk fs) := Lib.hid ((HT2.out.alloc _).grown hg3 (by omega))
  clear hg3 hc_r hf_r hc_q hf_q hc_t hf_t hR2 HT2 hh3
  have n1 : ¬ (w2.heap.size = w.heap.size) := by omega
  have n2 : ¬ (w2.heap.size = w.heap.size + 1) := by omega
  have n3 : ¬ (w.heap.size = w2.heap.size) := by omega
  have n4 : ¬ (w.heap.size + 1 = w2.heap.size) := by omega
  by_cases hx : x3 = 0
  · subst hx
    go_wp2_with (fail)
    go_region_held3 (fun W' => W'.cell? ⟨w2.heap.size, 0, none⟩ = some (.slice A1 bk.length c1) ∧ W'.cell? ⟨w2.heap.size, 1, none⟩ = some (.slice B1 fs.length d1)) (go_keep)
      (first | (go_at_call 53; refine (spec_l3Draw rb (0 + 60 + 1) _ (by first | exact hR3 | exact Rd.drew hR3) (by omega)).mono ?_; rintro e w5 ⟨A5, c5, B5, d5, bk5, fs5, rfl, ⟨n51, n52⟩, ⟨n53, n54⟩, n55, n56, HT5, hR5, hg5⟩; obtain ⟨hc_r, hf_r, hz_r⟩ := gb_at hg5 (w.heap.size) (by first | omega | (simp; done) | (simp; omega)) (by omega); obtain ⟨hc_q, hf_q, hz_q⟩ := gb_at hg5 (w.heap.size + 1) (by first | omega | (simp; done) | (simp; omega)) (by omega); obtain ⟨hc_t, hf_t, hz_t⟩ := gb_at hg5 (w2.heap.size) (by first | omega | (simp; done) | (simp; omega)) (by omega)))
    have HT5t : Hid (Tb w5 w1.heap.size w2.heap.size A1 B1 bk fs) := Lib.hid (Tb.grown (w := w3.drew) HT3.out hg5 (by omega))
    have HB5 : Hid (Below w.heap.size w w5) := Lib.hid (bgrow (bdrew HB3.out) hg5 (by omega))
    have hs5 := hg5.size
    try simp at hs5
    clear hg5
    go_wp2
    refine bodyPost_ret (v := .tuple #[.agg #[.slice A1 bk.length c1, .slice B1 fs.length d1], .agg #[.slice A5 bk5.length c5, .slice B5 fs5.length d5]]) (by simp [results, Tryd.results21, go_sem, *]) rfl ?_
    refine ⟨A1, c1, B1, d1, bk, fs, A5, c5, B5, d5, bk5, fs5, rfl, ⟨by omega, by omega⟩, ⟨by omega, by omega⟩, Lib.hid ?_, Lib.hid ?_, by have h := HB5.out; (repeat' (first | with_reducible exact Below.refl _ _ | (with_reducible refine balloc ?_ _) | (with_reducible refine bset ?_ ?_ _) | (with_reducible refine bdrew ?_) | (with_reducible refine bdrewN ?_ _) | (with_reducible refine bstep ?_ (by with_reducible assumption)) | (with_reducible refine bgrow ?_ (by with_reducible assumption) (by omega)) | (simp; done) | (simp; omega)))⟩
    · have h := HT5t.out
      exact Tb.more (lo := w1.heap.size) (hi := w2.heap.size) (by (repeat' (first | (with_reducible assumption) | (with_reducible exact Hid.out (by assumption)) | (with_reducible refine Tb.alloc ?_ _) | (with_reducible refine Tb.drewN ?_ _) | (with_reducible refine Tb.drew ?_) | (with_reducible refine Tb.set_ ?_ (by first | (left; (try simp) <;> omega) | (right; (try simp) <;> omega)) _) | (with_reducible refine Tb.below ?_ (by with_reducible assumption))))) (by omega) (by simp; omega)
    · have h := HT5.out.more (lo' := w2.heap.size + 1) (by first | omega | (simp; omega)) (Nat.le_refl _)
      exact Tb.more (lo := w2.heap.size + 1) (hi := w5.heap.size) (by (repeat' (first | (with_reducible assumption) | (with_reducible exact Hid.out (by assumption)) | (with_reducible refine Tb.alloc ?_ _) | (with_reducible refine Tb.drewN ?_ _) | (with_reducible refine Tb.drew ?_) | (with_reducible refine Tb.set_ ?_ (by first | (left; (try simp) <;> omega) | (right; (try simp) <;> omega)) _) | (with_reducible refine Tb.below ?_ (by with_reducible assumption))))) (by omega) (by simp)
  · have hx' : (x3 == 0) = false := by simpa using hx
    have HTt := HT3
    have HBt := HB3
    go_wp2_with (fail)
    go_region_held3 (fun W' => W'.cell? ⟨w2.heap.size, 0, none⟩ = some (.slice A1 bk.length c1) ∧ W'.cell? ⟨w2.heap.size, 1, none⟩ = some (.slice B1 fs.length d1)) (go_keep)
      (first | (go_at_call 54; refine (spec_l3Wrong rb _ _ _ _ _ _ _ _ _ _ (by first | exact hR5 | exact hR3 | exact Rd.drew hR3) (by omega) (by first | exact HT5.out | exact HT3.out | exact Tb.drew HT3.out) (by omega) (by omega) (by omega)).mono ?_; rintro e w5 ⟨A5, c5, B5, d5, bk5, fs5, rfl, ⟨n51, n52⟩, n53, n55, n56, HT5, hR5, hg5⟩; obtain ⟨hc_r, hf_r, hz_r⟩ := gb_at hg5 (w.heap.size) (by first | omega | (simp; done) | (simp; omega)) (by omega); obtain ⟨hc_q, hf_q, hz_q⟩ := gb_at hg5 (w.heap.size + 1) (by first | omega | (simp; done) | (simp; omega)) (by omega); obtain ⟨hc_t, hf_t, hz_t⟩ := gb_at hg5 (w2.heap.size) (by first | omega | (simp; done) | (simp; omega)) (by omega); have hrb5 := hR5.lt; have hs5 := hg5.size; (try simp at hs5); replace HBt := Lib.hid (by first | exact bgrow HBt.out hg5 (by omega) | exact bgrow (bdrew HBt.out) hg5 (by omega)); replace HTt := Lib.hid (by first | exact Tb.grown HTt.out hg5 (by omega) | exact Tb.grown (w := w3.drew) HTt.out hg5 (by omega))))
    have HT5t : Hid (Tb w5 w1.heap.size w2.heap.size A1 B1 bk fs) := HTt
    have HB5 : Hid (Below w.heap.size w w5) := HBt
    go_wp2
    refine bodyPost_ret (v := .tuple #[.agg #[.slice A1 bk.length c1, .slice B1 fs.length d1], .agg #[.slice A5 bk5.length c5, .slice B5 fs5.length d5]]) (by simp [results, Tryd.results21, go_sem, *]) rfl ?_
    refine ⟨A1, c1, B1, d1, bk, fs, A5, c5, B5, d5, bk5, fs5, rfl, ⟨by omega, by omega⟩, ⟨by omega, by omega⟩, Lib.hid ?_, Lib.hid ?_, by have h := HB5.out; (repeat' (first | with_reducible exact Below.refl _ _ | (with_reducible refine balloc ?_ _) | (with_reducible refine bset ?_ ?_ _) | (with_reducible refine bdrew ?_) | (with_reducible refine bdrewN ?_ _) | (with_reducible refine bstep ?_ (by with_reducible assumption)) | (with_reducible refine bgrow ?_ (by with_reducible assumption) (by omega)) | (simp; done) | (simp; omega)))⟩
    · have h := HT5t.out
      exact Tb.more (lo := w1.heap.size) (hi := w2.heap.size) (by (repeat' (first | (with_reducible assumption) | (with_reducible exact Hid.out (by assumption)) | (with_reducible refine Tb.alloc ?_ _) | (with_reducible refine Tb.drewN ?_ _) | (with_reducible refine Tb.drew ?_) | (with_reducible refine Tb.set_ ?_ (by first | (left; (try simp) <;> omega) | (right; (try simp) <;> omega)) _) | (with_reducible refine Tb.below ?_ (by with_reducible assumption))))) (by omega) (by simp; omega)
    · have h := HT5.out.more (lo' := w2.heap.size + 1) (by first | omega | (simp; omega)) (Nat.le_refl _)
      exact Tb.more (lo := w2.heap.size + 1) (hi := w5.heap.size) (by (repeat' (first | (with_reducible assumption) | (with_reducible exact Hid.out (by assumption)) | (with_reducible refine Tb.alloc ?_ _) | (with_reducible refine Tb.drewN ?_ _) | (with_reducible refine Tb.drew ?_) | (with_reducible refine Tb.set_ ?_ (by first | (left; (try simp) <;> omega) | (right; (try simp) <;> omega)) _) | (with_reducible refine Tb.below ?_ (by with_reducible assumption))))) (by omega) (by simp)
end Go.Proofs.YtjdoegekolbdpaaDoor
