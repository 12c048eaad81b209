/- Draw of a table and a bucket. No conditions. -/
import Derived.Test.YtjdoegekolbdpaaDoorDrL
namespace Go.Proofs.YtjdoegekolbdpaaDoor
set_option linter.unusedVariables false
open Go.ChangeShapes Go.WideShapes Go.ChangeAt Go.RowKit
theorem frozen_drew (w : World) (a : Addr) : w.drew.frozen? a = w.frozen? a := rfl
theorem oldf2 {W : World} {o : Obj} {b : Nat} (hb : b < W.heap.size) (j : Nat) : (W.alloc o).frozen? ⟨b, j, none⟩ = W.frozen? ⟨b, j, none⟩ := (Joins.below_alloc1 W o).frozen (p := ⟨b, j, none⟩) hb
set_option maxHeartbeats 2000000 in
set_option maxRecDepth 100000 in
theorem spec_DrawChainOf (ao : Option Addr) (len cap : Nat) (w : World) (h : CodeIn w ao len cap) : Calls Tryd.prog 16 #[.slice ao len cap] w (DrawTI w) := by
  obtain ⟨hcode, hcl, hcm⟩ := h
  have HC := Lib.hid hcode
  clear hcode
  go_enter Tryd.func16, Tryd.ntmps16
  go_wp2_with (fail)
  have hcode := HC.out
  refine (rd_open _ _ _ _ (by (refine ⟨?_, by assumption, by assumption⟩; repeat' (first | (with_reducible assumption) | (with_reducible refine CodeAt.alloc ?_ _) | (with_reducible refine CodeAt.below ?_ (by with_reducible assumption)))))).mono ?_
  rintro e w1 ⟨rb, rfl, hrb, hR1, hb1⟩
  obtain ⟨hc_r, hf_r, hz_r⟩ := bel_at hb1 (w.heap.size) (by first | omega | (simp; done) | (simp; omega))
  have v_r_0 : w1.cell? ⟨w.heap.size, 0, none⟩ = some (.slice none 0 0) := by rw [hc_r]; exact newc (by simp) _
  have f_r_0 : w1.frozen? ⟨w.heap.size, 0, none⟩ = false := by rw [hf_r]; exact Joins.unfrozen_of_block (heap_new (by simp)) 0
  have v_r_1 : w1.cell? ⟨w.heap.size, 1, none⟩ = some (.slice none 0 0) := by rw [hc_r]; exact newc (by simp) _
  have f_r_1 : w1.frozen? ⟨w.heap.size, 1, none⟩ = false := by rw [hf_r]; exact Joins.unfrozen_of_block (heap_new (by simp)) 1
  have hsz1 := hb1.size
  try simp at hsz1
  try simp at hrb
  have hlt1 := hR1.lt
  have HB1 : Hid (Below w.heap.size w w1) := Lib.hid (by (repeat' (first | with_reducible exact Below.refl _ _ | (with_reducible refine balloc ?_ _) | (with_reducible refine bset ?_ ?_ _) | (with_reducible refine bdrew ?_) | (with_reducible refine bdrewN ?_ _) | (with_reducible refine bstep ?_ (by with_reducible assumption)) | (with_reducible refine bgrow ?_ (by with_reducible assumption) (by omega)) | (simp; done) | (simp; omega))))
  clear hb1 hc_r hf_r hcode
  go_wp2_with (fail)
  refine (spec_l3Draw rb 0 _ (by (repeat' (first | (with_reducible assumption) | (with_reducible refine Rd.alloc ?_ _) | (with_reducible refine Rd.drewN ?_ _) | (with_reducible refine Rd.drew ?_) | (with_reducible refine Rd.setCell ?_ (by first | omega | (simp; omega)) _)))) (by omega)).mono ?_
  rintro e w2 ⟨A1, c1, B1, d1, bk, fs, rfl, ⟨m1, m2⟩, ⟨m3, m4⟩, m5, m6, HT2, hR2, hg2⟩
  obtain ⟨hc_r, hf_r, hz_r⟩ := gb_at hg2 (w.heap.size) (by first | omega | (simp; done) | (simp; omega)) (by first | omega | (simp; omega))
  replace v_r_0 := (hc_r 0).trans v_r_0
  replace f_r_0 := (hf_r 0).trans f_r_0
  replace v_r_1 := (hc_r 1).trans v_r_1
  replace f_r_1 := (hf_r 1).trans f_r_1
  have hsz2 := hg2.size
  try simp at hsz2
  have HB2 : Hid (Below w.heap.size w w2) := Lib.hid (bgrow HB1.out hg2 (by omega))
  clear hg2 hc_r hf_r hR1
  go_upto_region 3 with (fail)
  generalize hw3 : w2.alloc (.cells #[.slice A1 bk.length c1, .slice B1 fs.length d1] 28) = w3
  have v_t_0 : w3.cell? ⟨w2.heap.size, 0, none⟩ = some (.slice A1 bk.length c1) := by rw [← hw3]; exact newc rfl _
  have v_t_1 : w3.cell? ⟨w2.heap.size, 1, none⟩ = some (.slice B1 fs.length d1) := by rw [← hw3]; exact newc rfl _
  replace v_r_0 : w3.cell? ⟨w.heap.size, 0, none⟩ = some (.slice none 0 0) := by rw [← hw3, oldc (by omega)]; exact v_r_0
  replace v_r_1 : w3.cell? ⟨w.heap.size, 1, none⟩ = some (.slice none 0 0) := by rw [← hw3, oldc (by omega)]; exact v_r_1
  replace f_r_0 : w3.frozen? ⟨w.heap.size, 0, none⟩ = false := by rw [← hw3, (Joins.below_alloc1 w2 _).frozen (p := ⟨w.heap.size, 0, none⟩) (by omega)]; exact f_r_0
  replace f_r_1 : w3.frozen? ⟨w.heap.size, 1, none⟩ = false := by rw [← hw3, (Joins.below_alloc1 w2 _).frozen (p := ⟨w.heap.size, 1, none⟩) (by omega)]; exact f_r_1
  have hR3 : Rd w3 rb (0 + 60) := by rw [← hw3]; exact hR2.alloc _
  have HT3 : Hid (Tb w3 w1.heap.size w2.heap.size A1 B1 bk fs) := by rw [← hw3]; exact HT2.out.alloc _
  have HB3 : Hid (Below w.heap.size w w3) := by rw [← hw3]; exact balloc HB2.out _
  have hs3 : w3.heap.size = w2.heap.size + 1 := by rw [← hw3]; simp
  have HS3 := Lib.hid hs3
  have z2 : w2.heap.size < w3.heap.size := by omega
  have z0 : w.heap.size < w3.heap.size := by omega
  have n1 : ¬ (w2.heap.size = w.heap.size) := by omega
  have n3 : ¬ (w.heap.size = w2.heap.size) := by omega
  have n5 : ¬ (w2.heap.size = w3.heap.size) := by omega
  have n6 : ¬ (w3.heap.size = w2.heap.size) := by omega
  have n7 : ¬ (w.heap.size = w3.heap.size) := by omega
  have n8 : ¬ (w3.heap.size = w.heap.size) := by omega
  have e1 : IntKind.i64.wrap ((bk.length : Int) - 1) = (bk.length : Int) - 1 := IntWalk.i64_in _ (by omega)
  have e2 : IntKind.i64.wrap ((bk.length : Int)) = (bk.length : Int) := IntWalk.i64_in _ (by omega)
  clear hw3 hR2 HT2 HB2 hs3
  go_region_held3 (fun W' => W'.cell? ⟨w2.heap.size, 0, none⟩ = some (.slice A1 bk.length c1) ∧ W'.cell? ⟨w2.heap.size, 1, none⟩ = some (.slice B1 fs.length d1)) (go_keep)
    (first | (go_at_call 54; refine (spec_l3Wrong rb (0 + 60) _ _ _ _ _ _ bk fs _ (by first | exact hR3 | exact Rd.drew hR3 | exact hR3.alloc _ | exact Rd.alloc (Rd.drew hR3) _) (by omega) (by first | exact HT3.out | exact Tb.drew HT3.out | exact HT3.out.alloc _ | exact Tb.alloc (Tb.drew HT3.out) _) (by omega) (by omega) (by omega)).mono ?_; rintro e w9 ⟨A9, c9, B9, d9, bk9, fs9, rfl, ⟨n91, n92⟩, n93, n95, n96, HT9, hR9, hg9⟩; obtain ⟨hc_r, hf_r, hz_r⟩ := gb_at hg9 (w.heap.size) (by first | omega | (simp; done) | (simp; omega)) (by omega); obtain ⟨hc_t, hf_t, hz_t⟩ := gb_at hg9 (w2.heap.size) (by first | omega | (simp; done) | (simp; omega)) (by omega); have hr9 := hR9.lt; have : ¬ (w.heap.size = w9.heap.size) := (by omega); have : ¬ (w9.heap.size = w.heap.size) := (by omega); have : ¬ (w2.heap.size = w9.heap.size) := (by omega); have : ¬ (w9.heap.size = w2.heap.size) := (by omega)) | (go_at_call 39; refine (rd_num_at rb (0 + 60 + 10) _ _ [0, 1, 2, 0, (bk.length : Int) - 1, -1, 16] _ (by (repeat' (first | (with_reducible assumption) | (with_reducible refine Rd.alloc ?_ _) | (with_reducible refine Rd.drewN ?_ _) | (with_reducible refine Rd.drew ?_) | (with_reducible refine Rd.setCell ?_ (by first | omega | (simp; omega)) _)))) (by omega) rfl ?hB1 ?hB2 ?hB3 (by simp) (by intro x hx; simp at hx; omega)).mono ?_; (case hB1 => first | (simp; done) | (simp; omega) | (have z9 := hg9.size; (try simp at z9); (try simp only [World.size_alloc, World.size_drew]); omega) | (have z9 := hg9.size; (try simp at z9); (try simp); omega)); (case hB2 => first | omega | (simp; omega)); (case hB3 => (intro q hq; repeat' (first | exact newL (by first | rfl | (simp; done) | (simp; omega)) [0, 1, 2, 0, (bk.length : Int) - 1, -1, 16] hq | rw [cell_drew] | rw [oldc (by first | omega | (simp; done) | (simp; omega))] | (refine hg9.cell ?_ (by first | omega | (simp; omega)))))); rintro e w10 ⟨x10, rfl, hl10, hh10, _, hR10, hg10⟩; obtain ⟨jc_r, jf_r, jz_r⟩ := gb_at hg10 (w.heap.size) (by first | omega | (simp; done) | (simp; omega)) (by omega); obtain ⟨jc_t, jf_t, jz_t⟩ := gb_at hg10 (w2.heap.size) (by first | omega | (simp; done) | (simp; omega)) (by omega)))
  all_goals (have z9 := hg9.size; have z10 := hg10.size; simp at z9 z10; have y3 := HS3.out)
  all_goals (have hT9' : Tb w9 w3.heap.size w9.heap.size A9 B9 bk9 fs9 := HT9.out.more (by first | exact Nat.le_refl _ | (simp; done) | (simp; omega)) (Nat.le_refl _))
  all_goals (have hT9 : Tb w10 w3.heap.size w9.heap.size A9 B9 bk9 fs9 := by (repeat' (first | (with_reducible assumption) | (with_reducible exact Hid.out (by assumption)) | (with_reducible refine Tb.alloc ?_ _) | (with_reducible refine Tb.drewN ?_ _) | (with_reducible refine Tb.drew ?_) | (with_reducible refine Tb.grown ?_ (by with_reducible assumption) (by omega)) | (with_reducible refine Tb.below ?_ (by with_reducible assumption)))))
  all_goals (replace hT9 := Lib.hid hT9)
  all_goals (have hB10 : Below w.heap.size w w10 := by (repeat' (first | (with_reducible assumption) | (with_reducible exact Hid.out (by assumption)) | (with_reducible refine balloc ?_ _) | (with_reducible refine bdrew ?_) | (with_reducible refine bgrow ?_ (by with_reducible assumption) (by omega)))))
  all_goals (replace hB10 := Lib.hid hB10)
  all_goals (have q0 : w10.cell? ⟨w.heap.size, 0, none⟩ = some (.slice none 0 0) := by rw [jc_r]; first | (rw [hc_r]; exact v_r_0) | (rw [hc_r]; show (World.alloc w3 _).cell? _ = _; rw [oldc z0]; exact v_r_0) | (show (World.alloc w9 _).cell? _ = _; rw [oldc hz_r, hc_r]; exact v_r_0))
  all_goals (have g0 : w10.frozen? ⟨w.heap.size, 0, none⟩ = false := by rw [jf_r]; first | (rw [hf_r]; exact f_r_0) | (rw [hf_r]; show (World.alloc w3 _).frozen? _ = _; rw [oldf2 z0]; exact f_r_0) | (show (World.alloc w9 _).frozen? _ = _; rw [oldf2 hz_r, hf_r]; exact f_r_0))
  all_goals (have q1 : w10.cell? ⟨w.heap.size, 1, none⟩ = some (.slice none 0 0) := by rw [jc_r]; first | (rw [hc_r]; exact v_r_1) | (rw [hc_r]; show (World.alloc w3 _).cell? _ = _; rw [oldc z0]; exact v_r_1) | (show (World.alloc w9 _).cell? _ = _; rw [oldc hz_r, hc_r]; exact v_r_1))
  all_goals (have g1 : w10.frozen? ⟨w.heap.size, 1, none⟩ = false := by rw [jf_r]; first | (rw [hf_r]; exact f_r_1) | (rw [hf_r]; show (World.alloc w3 _).frozen? _ = _; rw [oldf2 z0]; exact f_r_1) | (show (World.alloc w9 _).frozen? _ = _; rw [oldf2 hz_r, hf_r]; exact f_r_1))
  all_goals (clear jc_r jf_r hc_r hf_r jc_t jf_t hc_t hf_t v_r_0 v_r_1 f_r_0 f_r_1)
  all_goals go_wp2
  all_goals (refine bodyPost_ret (v := .tuple #[.agg #[.slice A9 bk9.length c9, .slice B9 fs9.length d9], .int .i64 x10]) (by simp [results, Tryd.results16, go_sem, *]) rfl ?_)
  all_goals (refine ⟨A9, c9, B9, d9, bk9, fs9, x10, rfl, ⟨hl10, hh10⟩, ⟨by omega, by omega⟩, by omega, n95, n96, Lib.hid ?_, by have h := hB10.out; (repeat' (first | with_reducible exact Below.refl _ _ | (with_reducible refine balloc ?_ _) | (with_reducible refine bset ?_ ?_ _) | (with_reducible refine bdrew ?_) | (with_reducible refine bdrewN ?_ _) | (with_reducible refine bstep ?_ (by with_reducible assumption)) | (with_reducible refine bgrow ?_ (by with_reducible assumption) (by omega)) | (simp; done) | (simp; omega)))⟩)
  all_goals (have h := hT9.out; exact Tb.more (lo := w3.heap.size) (hi := w9.heap.size) (by (repeat' (first | (with_reducible assumption) | (with_reducible exact Hid.out (by assumption)) | (with_reducible refine Tb.alloc ?_ _) | (with_reducible refine Tb.drewN ?_ _) | (with_reducible refine Tb.drew ?_) | (with_reducible refine Tb.set_ ?_ (by first | (left; (try simp) <;> omega) | (right; (try simp) <;> omega)) _) | (with_reducible refine Tb.below ?_ (by with_reducible assumption))))) (by omega) (by simp; omega))
end Go.Proofs.YtjdoegekolbdpaaDoor
