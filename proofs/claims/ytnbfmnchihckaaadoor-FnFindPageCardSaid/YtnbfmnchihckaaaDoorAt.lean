/- Draws of a table and a key. Asked: a reader of at most 800000 picks. -/
import Derived.Test.YtnbfmnchihckaaaDoorDrL
import Derived.Test.YtnbfmnchihckaaaDoorKoS
namespace Go.Proofs.YtnbfmnchihckaaaDoor
set_option linter.unusedVariables false
open Go.ChangeShapes Go.WideShapes Go.ChangeAt Go.RowKit
theorem oldf {W : World} {o : Obj} {b : Nat} (hb : b < W.heap.size) (j : Nat) : (W.alloc o).frozen? ⟨b, j, none⟩ = W.frozen? ⟨b, j, none⟩ := (Joins.below_alloc1 W o).frozen (p := ⟨b, j, none⟩) hb
/-- a table and a key -/
def AtPost (rb : Nat) (w : World) (e : Ending) (w' : World) : Prop :=
  ∃ A ca B cb bk fs s p, e = .returned (.tuple #[.agg #[.slice A bk.length ca, .slice B fs.length cb], .agg #[.int .i64 s, .int .i64 p]]) ∧ (1 ≤ bk.length ∧ bk.length ≤ 10) ∧ fs.length ≤ 8 ∧ (bk.length ≤ ca ∧ ca ≤ maxLen) ∧ (fs.length ≤ cb ∧ cb ≤ maxLen) ∧ Hid (Tb w' w.heap.size w'.heap.size A B bk fs) ∧ w.grownBy w' (some rb)
set_option maxHeartbeats 4000000 in
set_option maxRecDepth 100000 in
theorem spec_l3At (rb m : Nat) (w : World) (h : Rd w rb m) (hm : m ≤ 800000) : Calls Tryd.prog 55 #[.pointer (some ⟨rb, 0, none⟩)] w (AtPost rb w) := by
  have hlt := h.lt
  go_enter Tryd.func55, Tryd.ntmps55
  go_wp2_with (fail)
  refine (spec_l3Draw rb m _ (by (repeat' (first | (with_reducible assumption) | (with_reducible refine Rd.alloc ?_ _) | (with_reducible refine Rd.drewN ?_ _) | (with_reducible refine Rd.drew ?_) | (with_reducible refine Rd.setCell ?_ (by first | omega | (simp; omega)) _)))) (by omega)).mono ?_
  rintro e w1 ⟨A1, c1, B1, d1, bk, fs, rfl, ⟨n1, n2⟩, ⟨n3, n4⟩, n5, n6, HT1, hR1, hg1⟩
  obtain ⟨hc_r, hf_r, hz_r⟩ := gb_at hg1 (w.heap.size) (by first | omega | (simp; done) | (simp; omega)) (by first | omega | (simp; omega))
  have v_r_0 : w1.cell? ⟨w.heap.size, 0, none⟩ = some (.slice none 0 0) := by rw [hc_r]; rw [oldc (by first | (simp; done) | (simp; omega))]; exact newc (by simp) _
  have f_r_0 : w1.frozen? ⟨w.heap.size, 0, none⟩ = false := by rw [hf_r]; exact Joins.unfrozen_of_block (al_keep (heap_new (by simp))) 0
  have v_r_1 : w1.cell? ⟨w.heap.size, 1, none⟩ = some (.slice none 0 0) := by rw [hc_r]; rw [oldc (by first | (simp; done) | (simp; omega))]; exact newc (by simp) _
  have f_r_1 : w1.frozen? ⟨w.heap.size, 1, none⟩ = false := by rw [hf_r]; exact Joins.unfrozen_of_block (al_keep (heap_new (by simp))) 1
  obtain ⟨hc_q, hf_q, hz_q⟩ := gb_at hg1 (w.heap.size + 1) (by first | omega | (simp; done) | (simp; omega)) (by first | omega | (simp; omega))
  have v_q_0 : w1.cell? ⟨w.heap.size + 1, 0, none⟩ = some (.int .i64 0) := by rw [hc_q]; exact newc (by simp) _
  have f_q_0 : w1.frozen? ⟨w.heap.size + 1, 0, none⟩ = false := by rw [hf_q]; exact Joins.unfrozen_of_block (heap_new (by simp)) 0
  have v_q_1 : w1.cell? ⟨w.heap.size + 1, 1, none⟩ = some (.int .i64 0) := by rw [hc_q]; exact newc (by simp) _
  have f_q_1 : w1.frozen? ⟨w.heap.size + 1, 1, none⟩ = false := by rw [hf_q]; exact Joins.unfrozen_of_block (heap_new (by simp)) 1
  have hsz1 := hg1.size
  try simp at hsz1
  have HG1 : Hid (w.grownBy w1 (some rb)) := Lib.hid (by (repeat' (first | (with_reducible exact gb_refl _ _) | (with_reducible assumption) | (with_reducible exact Hid.out (by assumption)) | (with_reducible refine gb_alloc ?_ _) | (with_reducible refine gb_set ?_ ?_ _) | (with_reducible refine gb_drew ?_) | (with_reducible refine gb_drewN ?_ _) | (with_reducible refine gb_step ?_ (by with_reducible assumption)) | (with_reducible refine gb_below ?_ (by with_reducible assumption)) | (simp; done) | (simp; omega))))
  have HT1 : Hid (Tb w1 (w.heap.size + 2) w1.heap.size A1 B1 bk fs) := Lib.hid (HT1.out.more (by simp) (Nat.le_refl _))
  clear hg1 hc_r hf_r hc_q hf_q
  go_wp2_with (fail)
  refine (spec_KeysOf _ _ _ _ _ _ bk fs _ (HT1.out.alloc _) (by omega) (by omega)).mono ?_
  rintro e w2 ⟨A2, c2, rfl, ⟨p1, p2⟩, HS2, hb2⟩
  obtain ⟨hc_r, hf_r, hz_r⟩ := bel_at hb2 (w.heap.size) (by first | omega | (simp; done) | (simp; omega))
  replace v_r_0 : w2.cell? ⟨w.heap.size, 0, none⟩ = some (.slice none 0 0) := by rw [hc_r]; rw [oldc (by first | omega | (simp; omega))]; exact v_r_0
  replace f_r_0 : w2.frozen? ⟨w.heap.size, 0, none⟩ = false := by rw [hf_r]; rw [oldf (by first | omega | (simp; omega))]; exact f_r_0
  replace v_r_1 : w2.cell? ⟨w.heap.size, 1, none⟩ = some (.slice none 0 0) := by rw [hc_r]; rw [oldc (by first | omega | (simp; omega))]; exact v_r_1
  replace f_r_1 : w2.frozen? ⟨w.heap.size, 1, none⟩ = false := by rw [hf_r]; rw [oldf (by first | omega | (simp; omega))]; exact f_r_1
  obtain ⟨hc_q, hf_q, hz_q⟩ := bel_at hb2 (w.heap.size + 1) (by first | omega | (simp; done) | (simp; omega))
  replace v_q_0 : w2.cell? ⟨w.heap.size + 1, 0, none⟩ = some (.int .i64 0) := by rw [hc_q]; rw [oldc (by first | omega | (simp; omega))]; exact v_q_0
  replace f_q_0 : w2.frozen? ⟨w.heap.size + 1, 0, none⟩ = false := by rw [hf_q]; rw [oldf (by first | omega | (simp; omega))]; exact f_q_0
  replace v_q_1 : w2.cell? ⟨w.heap.size + 1, 1, none⟩ = some (.int .i64 0) := by rw [hc_q]; rw [oldc (by first | omega | (simp; omega))]; exact v_q_1
  replace f_q_1 : w2.frozen? ⟨w.heap.size + 1, 1, none⟩ = false := by rw [hf_q]; rw [oldf (by first | omega | (simp; omega))]; exact f_q_1
  obtain ⟨hc_t, hf_t, hz_t⟩ := bel_at hb2 (w1.heap.size) (by first | omega | (simp; done) | (simp; omega))
  have v_t_0 : w2.cell? ⟨w1.heap.size, 0, none⟩ = some (.slice A1 bk.length c1) := by rw [hc_t]; exact newc (by simp) _
  have f_t_0 : w2.frozen? ⟨w1.heap.size, 0, none⟩ = false := by rw [hf_t]; exact Joins.unfrozen_of_block (heap_new (by simp)) 0
  have v_t_1 : w2.cell? ⟨w1.heap.size, 1, none⟩ = some (.slice B1 fs.length d1) := by rw [hc_t]; exact newc (by simp) _
  have f_t_1 : w2.frozen? ⟨w1.heap.size, 1, none⟩ = false := by rw [hf_t]; exact Joins.unfrozen_of_block (heap_new (by simp)) 1
  have hsz2 := hb2.size
  try simp at hsz2
  have HT2 : Hid (Tb w2 (w.heap.size + 2) w1.heap.size A1 B1 bk fs) := Lib.hid ((HT1.out.alloc _).below hb2)
  have HG2 : Hid (w.grownBy w2 (some rb)) := Lib.hid (gb_below (gb_alloc HG1.out _) hb2)
  have hR2 : Rd w2 rb _ := (hR1.alloc _).below hb2
  have hkl := ksOf_len bk fs
  generalize ksOf bk fs = ks at *
  clear hb2 hc_r hf_r hc_q hf_q hc_t hf_t hR1 HT1 HG1
  go_wp2_with (fail)
  refine (spec_l2Case rb (m + 60) _ (by (repeat' (first | (with_reducible assumption) | (with_reducible refine Rd.alloc ?_ _) | (with_reducible refine Rd.drewN ?_ _) | (with_reducible refine Rd.drew ?_) | (with_reducible refine Rd.setCell ?_ (by first | omega | (simp; omega)) _)))) (by omega)).mono ?_
  rintro e w3 ⟨s3, p3, rfl, hR3, hg3⟩
  obtain ⟨hc_r, hf_r, hz_r⟩ := gb_at hg3 (w.heap.size) (by first | omega | (simp; done) | (simp; omega)) (by first | omega | (simp; omega))
  replace v_r_0 := (hc_r 0).trans v_r_0
  replace f_r_0 := (hf_r 0).trans f_r_0
  replace v_r_1 := (hc_r 1).trans v_r_1
  replace f_r_1 := (hf_r 1).trans f_r_1
  obtain ⟨hc_q, hf_q, hz_q⟩ := gb_at hg3 (w.heap.size + 1) (by first | omega | (simp; done) | (simp; omega)) (by first | omega | (simp; omega))
  replace v_q_0 := (hc_q 0).trans v_q_0
  replace f_q_0 := (hf_q 0).trans f_q_0
  replace v_q_1 := (hc_q 1).trans v_q_1
  replace f_q_1 := (hf_q 1).trans f_q_1
  obtain ⟨hc_t, hf_t, hz_t⟩ := gb_at hg3 (w1.heap.size) (by first | omega | (simp; done) | (simp; omega)) (by first | omega | (simp; omega))
  replace v_t_0 := (hc_t 0).trans v_t_0
  replace f_t_0 := (hf_t 0).trans f_t_0
  replace v_t_1 := (hc_t 1).trans v_t_1
  replace f_t_1 := (hf_t 1).trans f_t_1
  have hsz3 := hg3.size
  try simp at hsz3
  have HT3 : Hid (Tb w3 (w.heap.size + 2) w1.heap.size A1 B1 bk fs) := Lib.hid (HT2.out.grown hg3 (by omega))
  have HG3 : Hid (w.grownBy w3 (some rb)) := Lib.hid (gb_step HG2.out hg3)
  have HS3 := Lib.hid (HS2.out.grown hg3 (by simp; omega))
  clear hg3 hc_r hf_r hc_q hf_q hc_t hf_t hR2 HT2 HG2 HS2
  by_cases hk : ks.length = 0
  · have hk2 : ¬ (0 : Int) < (ks.length : Int) := by omega
    have hk3 : ¬ 0 < ks.length := by omega
    go_wp2_with (fail)
    generalize hwz : w3.alloc (.cells #[.int .i64 s3, .int .i64 p3] 42) = w4
    replace v_r_0 : w4.cell? ⟨w.heap.size, 0, none⟩ = some (.slice none 0 0) := by rw [← hwz, oldc (by omega)]; exact v_r_0
    replace f_r_0 : w4.frozen? ⟨w.heap.size, 0, none⟩ = false := by rw [← hwz, oldf (by omega)]; exact f_r_0
    replace v_r_1 : w4.cell? ⟨w.heap.size, 1, none⟩ = some (.slice none 0 0) := by rw [← hwz, oldc (by omega)]; exact v_r_1
    replace f_r_1 : w4.frozen? ⟨w.heap.size, 1, none⟩ = false := by rw [← hwz, oldf (by omega)]; exact f_r_1
    replace v_q_0 : w4.cell? ⟨w.heap.size + 1, 0, none⟩ = some (.int .i64 0) := by rw [← hwz, oldc (by omega)]; exact v_q_0
    replace f_q_0 : w4.frozen? ⟨w.heap.size + 1, 0, none⟩ = false := by rw [← hwz, oldf (by omega)]; exact f_q_0
    replace v_q_1 : w4.cell? ⟨w.heap.size + 1, 1, none⟩ = some (.int .i64 0) := by rw [← hwz, oldc (by omega)]; exact v_q_1
    replace f_q_1 : w4.frozen? ⟨w.heap.size + 1, 1, none⟩ = false := by rw [← hwz, oldf (by omega)]; exact f_q_1
    replace v_t_0 : w4.cell? ⟨w1.heap.size, 0, none⟩ = some (.slice A1 bk.length c1) := by rw [← hwz, oldc (by omega)]; exact v_t_0
    replace f_t_0 : w4.frozen? ⟨w1.heap.size, 0, none⟩ = false := by rw [← hwz, oldf (by omega)]; exact f_t_0
    replace v_t_1 : w4.cell? ⟨w1.heap.size, 1, none⟩ = some (.slice B1 fs.length d1) := by rw [← hwz, oldc (by omega)]; exact v_t_1
    replace f_t_1 : w4.frozen? ⟨w1.heap.size, 1, none⟩ = false := by rw [← hwz, oldf (by omega)]; exact f_t_1
    have v_k_0 : w4.cell? ⟨w3.heap.size, 0, none⟩ = some (.int .i64 s3) := by rw [← hwz]; exact newc rfl _
    have v_k_1 : w4.cell? ⟨w3.heap.size, 1, none⟩ = some (.int .i64 p3) := by rw [← hwz]; exact newc rfl _
    have hszz : w4.heap.size = w3.heap.size + 1 := by rw [← hwz]; simp
    have hRz : Rd w4 rb (m + 70) := by rw [← hwz]; exact Rd.mono (hR3.alloc _) (by omega)
    have HTz : Hid (Tb w4 (w.heap.size + 2) w1.heap.size A1 B1 bk fs) := by rw [← hwz]; exact HT3.out.alloc _
    have HGz : Hid (w.grownBy w4 (some rb)) := by rw [← hwz]; exact gb_alloc HG3.out _
    clear hwz
    have hz9r : w.heap.size < w4.heap.size := by omega
    have hz9q : w.heap.size + 1 < w4.heap.size := by omega
    have hz9t : w1.heap.size < w4.heap.size := by omega
    have hz9k : w3.heap.size < w4.heap.size := by omega
    have : ¬ (w1.heap.size = w.heap.size) := by omega
    have : ¬ (w.heap.size = w1.heap.size) := by omega
    have : ¬ (w1.heap.size = w.heap.size + 1) := by omega
    have : ¬ (w.heap.size + 1 = w1.heap.size) := by omega
    have : ¬ (w3.heap.size = w.heap.size) := by omega
    have : ¬ (w.heap.size = w3.heap.size) := by omega
    have : ¬ (w3.heap.size = w.heap.size + 1) := by omega
    have : ¬ (w.heap.size + 1 = w3.heap.size) := by omega
    have : ¬ (w1.heap.size = w3.heap.size) := by omega
    have : ¬ (w3.heap.size = w1.heap.size) := by omega
    go_region_held3 (fun W' => W'.cell? ⟨w1.heap.size, 0, none⟩ = some (.slice A1 bk.length c1) ∧ W'.cell? ⟨w1.heap.size, 1, none⟩ = some (.slice B1 fs.length d1) ∧ W'.cell? ⟨w3.heap.size, 0, none⟩ = some (.int .i64 s3) ∧ W'.cell? ⟨w3.heap.size, 1, none⟩ = some (.int .i64 p3)) (go_keep)
      (first | (go_at_call 57; refine (spec_l3Wrong rb (m + 70) _ _ _ _ _ _ bk fs _ (by first | exact hRz | exact Rd.drew hRz) (by omega) (by first | exact HTz.out | exact Tb.drew HTz.out) (by omega) (by omega) (by omega)).mono ?_; rintro e w9 ⟨A9, c9, B9, d9, bk9, fs9, rfl, ⟨a91, a92⟩, a93, a95, a96, HT9, hR9, hg9⟩; obtain ⟨hc_t, hf_t, hz9_t⟩ := gb_at hg9 (w1.heap.size) (by first | omega | (simp; omega)) (by omega); obtain ⟨hc_k, hf_k, hz9_k⟩ := gb_at hg9 (w3.heap.size) (by first | omega | (simp; omega)) (by omega); obtain ⟨hc_r, hf_r, hz9_r⟩ := gb_at hg9 (w.heap.size) (by first | omega | (simp; omega)) (by omega); obtain ⟨hc_q, hf_q, hz9_q⟩ := gb_at hg9 (w.heap.size + 1) (by first | omega | (simp; omega)) (by omega)))
    have hs9 := hg9.size
    try simp at hs9
    have HG9 : Hid (w.grownBy w9 (some rb)) := Lib.hid (by first | exact gb_step HGz.out hg9 | exact gb_step (gb_drew HGz.out) hg9)
    clear hg9
    go_wp2
    refine bodyPost_ret (v := .tuple #[.agg #[.slice A9 bk9.length c9, .slice B9 fs9.length d9], .agg #[.int .i64 s3, .int .i64 p3]]) (by simp [results, Tryd.results55, go_sem, *]) rfl ?_
    refine ⟨A9, c9, B9, d9, bk9, fs9, s3, p3, rfl, ⟨by omega, by omega⟩, by omega, a95, a96, Lib.hid ?_, by (repeat' (first | (with_reducible exact gb_refl _ _) | (with_reducible assumption) | (with_reducible exact Hid.out (by assumption)) | (with_reducible refine gb_alloc ?_ _) | (with_reducible refine gb_set ?_ ?_ _) | (with_reducible refine gb_drew ?_) | (with_reducible refine gb_drewN ?_ _) | (with_reducible refine gb_step ?_ (by with_reducible assumption)) | (with_reducible refine gb_below ?_ (by with_reducible assumption)) | (simp; done) | (simp; omega)))⟩
    have h := HT9.out.more (lo' := w3.heap.size + 1) (by first | omega | (simp; done) | (simp; omega)) (Nat.le_refl _)
    exact Tb.more (hi := w9.heap.size) (lo := w3.heap.size + 1) (by (repeat' (first | (with_reducible assumption) | (with_reducible exact Hid.out (by assumption)) | (with_reducible refine Tb.alloc ?_ _) | (with_reducible refine Tb.drewN ?_ _) | (with_reducible refine Tb.drew ?_) | (with_reducible refine Tb.set_ ?_ (by first | (left; (try simp) <;> omega) | (right; (try simp) <;> omega)) _) | (with_reducible refine Tb.below ?_ (by with_reducible assumption))))) (by omega) (by simp)
  · have hk2 : (0 : Int) < (ks.length : Int) := by omega
    have hk3 : 0 < ks.length := by omega
    go_wp2_with (fail)
    refine (rd_pick rb (m + 64) _ _ (hR3.alloc _) (by omega)).mono ?_
    rintro e w4 ⟨x4, rfl, hl4, hh4, hR4, hg4⟩
    obtain ⟨hc_r, hf_r, hz_r⟩ := gb_at hg4 (w.heap.size) (by first | omega | (simp; done) | (simp; omega)) (by first | omega | (simp; omega))
    replace v_r_0 : w4.cell? ⟨w.heap.size, 0, none⟩ = some (.slice none 0 0) := by rw [hc_r]; rw [oldc (by first | omega | (simp; omega))]; exact v_r_0
    replace f_r_0 : w4.frozen? ⟨w.heap.size, 0, none⟩ = false := by rw [hf_r]; rw [oldf (by first | omega | (simp; omega))]; exact f_r_0
    replace v_r_1 : w4.cell? ⟨w.heap.size, 1, none⟩ = some (.slice none 0 0) := by rw [hc_r]; rw [oldc (by first | omega | (simp; omega))]; exact v_r_1
    replace f_r_1 : w4.frozen? ⟨w.heap.size, 1, none⟩ = false := by rw [hf_r]; rw [oldf (by first | omega | (simp; omega))]; exact f_r_1
    obtain ⟨hc_q, hf_q, hz_q⟩ := gb_at hg4 (w.heap.size + 1) (by first | omega | (simp; done) | (simp; omega)) (by first | omega | (simp; omega))
    replace v_q_0 : w4.cell? ⟨w.heap.size + 1, 0, none⟩ = some (.int .i64 0) := by rw [hc_q]; rw [oldc (by first | omega | (simp; omega))]; exact v_q_0
    replace f_q_0 : w4.frozen? ⟨w.heap.size + 1, 0, none⟩ = false := by rw [hf_q]; rw [oldf (by first | omega | (simp; omega))]; exact f_q_0
    replace v_q_1 : w4.cell? ⟨w.heap.size + 1, 1, none⟩ = some (.int .i64 0) := by rw [hc_q]; rw [oldc (by first | omega | (simp; omega))]; exact v_q_1
    replace f_q_1 : w4.frozen? ⟨w.heap.size + 1, 1, none⟩ = false := by rw [hf_q]; rw [oldf (by first | omega | (simp; omega))]; exact f_q_1
    obtain ⟨hc_t, hf_t, hz_t⟩ := gb_at hg4 (w1.heap.size) (by first | omega | (simp; done) | (simp; omega)) (by first | omega | (simp; omega))
    replace v_t_0 : w4.cell? ⟨w1.heap.size, 0, none⟩ = some (.slice A1 bk.length c1) := by rw [hc_t]; rw [oldc (by first | omega | (simp; omega))]; exact v_t_0
    replace f_t_0 : w4.frozen? ⟨w1.heap.size, 0, none⟩ = false := by rw [hf_t]; rw [oldf (by first | omega | (simp; omega))]; exact f_t_0
    replace v_t_1 : w4.cell? ⟨w1.heap.size, 1, none⟩ = some (.slice B1 fs.length d1) := by rw [hc_t]; rw [oldc (by first | omega | (simp; omega))]; exact v_t_1
    replace f_t_1 : w4.frozen? ⟨w1.heap.size, 1, none⟩ = false := by rw [hf_t]; rw [oldf (by first | omega | (simp; omega))]; exact f_t_1
    obtain ⟨hc_k, hf_k, hz_k⟩ := gb_at hg4 (w3.heap.size) (by first | omega | (simp; done) | (simp; omega)) (by first | omega | (simp; omega))
    have v_k_0 : w4.cell? ⟨w3.heap.size, 0, none⟩ = some (.int .i64 s3) := by rw [hc_k]; exact newc (by simp) _
    have f_k_0 : w4.frozen? ⟨w3.heap.size, 0, none⟩ = false := by rw [hf_k]; exact Joins.unfrozen_of_block (heap_new (by simp)) 0
    have v_k_1 : w4.cell? ⟨w3.heap.size, 1, none⟩ = some (.int .i64 p3) := by rw [hc_k]; exact newc (by simp) _
    have f_k_1 : w4.frozen? ⟨w3.heap.size, 1, none⟩ = false := by rw [hf_k]; exact Joins.unfrozen_of_block (heap_new (by simp)) 1
    have hsz4 := hg4.size
    try simp at hsz4
    have HT4 : Hid (Tb w4 (w.heap.size + 2) w1.heap.size A1 B1 bk fs) := Lib.hid ((HT3.out.alloc _).grown hg4 (by omega))
    have HG4 : Hid (w.grownBy w4 (some rb)) := Lib.hid (gb_step (gb_alloc HG3.out _) hg4)
    have HS4 := Lib.hid ((HS3.out.alloc _).grown hg4 (by simp; omega))
    clear hg4 hc_r hf_r hc_q hf_q hc_t hf_t hc_k hf_k hR3 HT3 HG3 HS3 hh4
    have : ¬ (w1.heap.size = w.heap.size) := by omega
    have : ¬ (w.heap.size = w1.heap.size) := by omega
    have : ¬ (w1.heap.size = w.heap.size + 1) := by omega
    have : ¬ (w.heap.size + 1 = w1.heap.size) := by omega
    have : ¬ (w3.heap.size = w.heap.size) := by omega
    have : ¬ (w.heap.size = w3.heap.size) := by omega
    have : ¬ (w3.heap.size = w.heap.size + 1) := by omega
    have : ¬ (w.heap.size + 1 = w3.heap.size) := by omega
    have : ¬ (w1.heap.size = w3.heap.size) := by omega
    have : ¬ (w3.heap.size = w1.heap.size) := by omega
    by_cases hx4 : 0 < x4
    · go_wp2_with (fail)
      refine (rd_pick rb (m + 65) _ _ hR4 (by omega)).mono ?_
      rintro e w5 ⟨x5, rfl, hl5, hh5, hR5, hg5⟩
      obtain ⟨hc_r, hf_r, hz_r⟩ := gb_at hg5 (w.heap.size) (by first | omega | (simp; done) | (simp; omega)) (by first | omega | (simp; omega))
      replace v_r_0 := (hc_r 0).trans v_r_0
      replace f_r_0 := (hf_r 0).trans f_r_0
      replace v_r_1 := (hc_r 1).trans v_r_1
      replace f_r_1 := (hf_r 1).trans f_r_1
      obtain ⟨hc_q, hf_q, hz_q⟩ := gb_at hg5 (w.heap.size + 1) (by first | omega | (simp; done) | (simp; omega)) (by first | omega | (simp; omega))
      replace v_q_0 := (hc_q 0).trans v_q_0
      replace f_q_0 := (hf_q 0).trans f_q_0
      replace v_q_1 := (hc_q 1).trans v_q_1
      replace f_q_1 := (hf_q 1).trans f_q_1
      obtain ⟨hc_t, hf_t, hz_t⟩ := gb_at hg5 (w1.heap.size) (by first | omega | (simp; done) | (simp; omega)) (by first | omega | (simp; omega))
      replace v_t_0 := (hc_t 0).trans v_t_0
      replace f_t_0 := (hf_t 0).trans f_t_0
      replace v_t_1 := (hc_t 1).trans v_t_1
      replace f_t_1 := (hf_t 1).trans f_t_1
      obtain ⟨hc_k, hf_k, hz_k⟩ := gb_at hg5 (w3.heap.size) (by first | omega | (simp; done) | (simp; omega)) (by first | omega | (simp; omega))
      replace v_k_0 := (hc_k 0).trans v_k_0
      replace f_k_0 := (hf_k 0).trans f_k_0
      replace v_k_1 := (hc_k 1).trans v_k_1
      replace f_k_1 := (hf_k 1).trans f_k_1
      have hsz5 := hg5.size
      try simp at hsz5
      have HT5 := Lib.hid (HT4.out.grown hg5 (by omega))
      have HG5 := Lib.hid (gb_step HG4.out hg5)
      have HS5 := Lib.hid (HS4.out.grown hg5 (by simp; omega))
      clear hg5 hc_r hf_r hc_q hf_q hc_t hf_t hc_k hf_k hR4 HT4 HG4 HS4
      obtain ⟨n, rfl⟩ := Int.eq_ofNat_of_zero_le hl5
      have hnl : n < ks.length := by omega
      obtain ⟨g, rfl, _, _, hg1, f1, f2, _⟩ := HS5.out.key hnl
      generalize ks.getD n (0, 0) = K at *
      obtain ⟨s6, p6⟩ := K
      simp only [] at f1 f2
      have i3 : (0 : Int) ≤ (n : Int) := by omega
      have i4 : (n : Int) < (ks.length : Int) := by omega
      go_wp2_with (fail)
      generalize hwz : (w5.setCell ⟨w3.heap.size, 0, none⟩ (.int .i64 s6)).setCell ⟨w3.heap.size, 1, none⟩ (.int .i64 p6) = w6
      replace v_r_0 : w6.cell? ⟨w.heap.size, 0, none⟩ = some (.slice none 0 0) := by rw [← hwz, set2o (by omega)]; exact v_r_0
      replace f_r_0 : w6.frozen? ⟨w.heap.size, 0, none⟩ = false := by rw [← hwz, set2f]; exact f_r_0
      replace v_r_1 : w6.cell? ⟨w.heap.size, 1, none⟩ = some (.slice none 0 0) := by rw [← hwz, set2o (by omega)]; exact v_r_1
      replace f_r_1 : w6.frozen? ⟨w.heap.size, 1, none⟩ = false := by rw [← hwz, set2f]; exact f_r_1
      replace v_q_0 : w6.cell? ⟨w.heap.size + 1, 0, none⟩ = some (.int .i64 0) := by rw [← hwz, set2o (by omega)]; exact v_q_0
      replace f_q_0 : w6.frozen? ⟨w.heap.size + 1, 0, none⟩ = false := by rw [← hwz, set2f]; exact f_q_0
      replace v_q_1 : w6.cell? ⟨w.heap.size + 1, 1, none⟩ = some (.int .i64 0) := by rw [← hwz, set2o (by omega)]; exact v_q_1
      replace f_q_1 : w6.frozen? ⟨w.heap.size + 1, 1, none⟩ = false := by rw [← hwz, set2f]; exact f_q_1
      replace v_t_0 : w6.cell? ⟨w1.heap.size, 0, none⟩ = some (.slice A1 bk.length c1) := by rw [← hwz, set2o (by omega)]; exact v_t_0
      replace f_t_0 : w6.frozen? ⟨w1.heap.size, 0, none⟩ = false := by rw [← hwz, set2f]; exact f_t_0
      replace v_t_1 : w6.cell? ⟨w1.heap.size, 1, none⟩ = some (.slice B1 fs.length d1) := by rw [← hwz, set2o (by omega)]; exact v_t_1
      replace f_t_1 : w6.frozen? ⟨w1.heap.size, 1, none⟩ = false := by rw [← hwz, set2f]; exact f_t_1
      have v_kk := set2 v_k_0 v_k_1 (.int .i64 s6) (.int .i64 p6)
      rw [hwz] at v_kk
      replace v_k_0 := v_kk.1
      replace v_k_1 := v_kk.2
      have hRz : Rd w6 rb (m + 70) := by rw [← hwz]; exact Rd.mono ((hR5.setCell (by first | omega | (simp; omega)) _).setCell (by first | omega | (simp; omega)) _) (by omega)
      have HTz : Hid (Tb w6 (w.heap.size + 2) w1.heap.size A1 B1 bk fs) := by rw [← hwz]; exact (HT5.out.set_ (.inl (by simp; omega)) _).set_ (.inl (by simp; omega)) _
      have HGz : Hid (w.grownBy w6 (some rb)) := by rw [← hwz]; exact gb_set (gb_set HG5.out (by simp; omega) _) (by simp; omega) _
      have hszz : w6.heap.size = w5.heap.size := by rw [← hwz]; simp
      clear hwz v_kk f1 f2
      have hz9r : w.heap.size < w6.heap.size := by omega
      have hz9q : w.heap.size + 1 < w6.heap.size := by omega
      have hz9t : w1.heap.size < w6.heap.size := by omega
      have hz9k : w3.heap.size < w6.heap.size := by omega
      go_region_held3 (fun W' => W'.cell? ⟨w1.heap.size, 0, none⟩ = some (.slice A1 bk.length c1) ∧ W'.cell? ⟨w1.heap.size, 1, none⟩ = some (.slice B1 fs.length d1) ∧ W'.cell? ⟨w3.heap.size, 0, none⟩ = some (.int .i64 s6) ∧ W'.cell? ⟨w3.heap.size, 1, none⟩ = some (.int .i64 p6)) (go_keep)
        (first | (go_at_call 57; refine (spec_l3Wrong rb (m + 70) _ _ _ _ _ _ bk fs _ (by first | exact hRz | exact Rd.drew hRz) (by omega) (by first | exact HTz.out | exact Tb.drew HTz.out) (by omega) (by omega) (by omega)).mono ?_; rintro e w9 ⟨A9, c9, B9, d9, bk9, fs9, rfl, ⟨a91, a92⟩, a93, a95, a96, HT9, hR9, hg9⟩; obtain ⟨hc_t, hf_t, hz9_t⟩ := gb_at hg9 (w1.heap.size) (by first | omega | (simp; omega)) (by omega); obtain ⟨hc_k, hf_k, hz9_k⟩ := gb_at hg9 (w3.heap.size) (by first | omega | (simp; omega)) (by omega); obtain ⟨hc_r, hf_r, hz9_r⟩ := gb_at hg9 (w.heap.size) (by first | omega | (simp; omega)) (by omega); obtain ⟨hc_q, hf_q, hz9_q⟩ := gb_at hg9 (w.heap.size + 1) (by first | omega | (simp; omega)) (by omega)))
      have hs9 := hg9.size
      try simp at hs9
      have HG9 : Hid (w.grownBy w9 (some rb)) := Lib.hid (by first | exact gb_step HGz.out hg9 | exact gb_step (gb_drew HGz.out) hg9)
      clear hg9
      go_wp2
      refine bodyPost_ret (v := .tuple #[.agg #[.slice A9 bk9.length c9, .slice B9 fs9.length d9], .agg #[.int .i64 s6, .int .i64 p6]]) (by simp [results, Tryd.results55, go_sem, *]) rfl ?_
      refine ⟨A9, c9, B9, d9, bk9, fs9, s6, p6, rfl, ⟨by omega, by omega⟩, by omega, a95, a96, Lib.hid ?_, by (repeat' (first | (with_reducible exact gb_refl _ _) | (with_reducible assumption) | (with_reducible exact Hid.out (by assumption)) | (with_reducible refine gb_alloc ?_ _) | (with_reducible refine gb_set ?_ ?_ _) | (with_reducible refine gb_drew ?_) | (with_reducible refine gb_drewN ?_ _) | (with_reducible refine gb_step ?_ (by with_reducible assumption)) | (with_reducible refine gb_below ?_ (by with_reducible assumption)) | (simp; done) | (simp; omega)))⟩
      have h := HT9.out.more (lo' := w3.heap.size + 1) (by first | omega | (simp; done) | (simp; omega)) (Nat.le_refl _)
      exact Tb.more (hi := w9.heap.size) (lo := w3.heap.size + 1) (by (repeat' (first | (with_reducible assumption) | (with_reducible exact Hid.out (by assumption)) | (with_reducible refine Tb.alloc ?_ _) | (with_reducible refine Tb.drewN ?_ _) | (with_reducible refine Tb.drew ?_) | (with_reducible refine Tb.set_ ?_ (by first | (left; (try simp) <;> omega) | (right; (try simp) <;> omega)) _) | (with_reducible refine Tb.below ?_ (by with_reducible assumption))))) (by omega) (by simp)
    · have hx4n : ¬ (0 : Int) < x4 := hx4
      go_wp2_with (fail)
      have hRz : Rd w4 rb (m + 70) := Rd.mono hR4 (by omega)
      have HTz := HT4
      have HGz := HG4
      go_region_held3 (fun W' => W'.cell? ⟨w1.heap.size, 0, none⟩ = some (.slice A1 bk.length c1) ∧ W'.cell? ⟨w1.heap.size, 1, none⟩ = some (.slice B1 fs.length d1) ∧ W'.cell? ⟨w3.heap.size, 0, none⟩ = some (.int .i64 s3) ∧ W'.cell? ⟨w3.heap.size, 1, none⟩ = some (.int .i64 p3)) (go_keep)
        (first | (go_at_call 57; refine (spec_l3Wrong rb (m + 70) _ _ _ _ _ _ bk fs _ (by first | exact hRz | exact Rd.drew hRz) (by omega) (by first | exact HTz.out | exact Tb.drew HTz.out) (by omega) (by omega) (by omega)).mono ?_; rintro e w9 ⟨A9, c9, B9, d9, bk9, fs9, rfl, ⟨a91, a92⟩, a93, a95, a96, HT9, hR9, hg9⟩; obtain ⟨hc_t, hf_t, hz9_t⟩ := gb_at hg9 (w1.heap.size) (by first | omega | (simp; omega)) (by omega); obtain ⟨hc_k, hf_k, hz9_k⟩ := gb_at hg9 (w3.heap.size) (by first | omega | (simp; omega)) (by omega); obtain ⟨hc_r, hf_r, hz9_r⟩ := gb_at hg9 (w.heap.size) (by first | omega | (simp; omega)) (by omega); obtain ⟨hc_q, hf_q, hz9_q⟩ := gb_at hg9 (w.heap.size + 1) (by first | omega | (simp; omega)) (by omega)))
      have hs9 := hg9.size
      try simp at hs9
      have HG9 : Hid (w.grownBy w9 (some rb)) := Lib.hid (by first | exact gb_step HGz.out hg9 | exact gb_step (gb_drew HGz.out) hg9)
      clear hg9
      go_wp2
      refine bodyPost_ret (v := .tuple #[.agg #[.slice A9 bk9.length c9, .slice B9 fs9.length d9], .agg #[.int .i64 s3, .int .i64 p3]]) (by simp [results, Tryd.results55, go_sem, *]) rfl ?_
      refine ⟨A9, c9, B9, d9, bk9, fs9, s3, p3, rfl, ⟨by omega, by omega⟩, by omega, a95, a96, Lib.hid ?_, by (repeat' (first | (with_reducible exact gb_refl _ _) | (with_reducible assumption) | (with_reducible exact Hid.out (by assumption)) | (with_reducible refine gb_alloc ?_ _) | (with_reducible refine gb_set ?_ ?_ _) | (with_reducible refine gb_drew ?_) | (with_reducible refine gb_drewN ?_ _) | (with_reducible refine gb_step ?_ (by with_reducible assumption)) | (with_reducible refine gb_below ?_ (by with_reducible assumption)) | (simp; done) | (simp; omega)))⟩
      have h := HT9.out.more (lo' := w3.heap.size + 1) (by first | omega | (simp; done) | (simp; omega)) (Nat.le_refl _)
      exact Tb.more (hi := w9.heap.size) (lo := w3.heap.size + 1) (by (repeat' (first | (with_reducible assumption) | (with_reducible exact Hid.out (by assumption)) | (with_reducible refine Tb.alloc ?_ _) | (with_reducible refine Tb.drewN ?_ _) | (with_reducible refine Tb.drew ?_) | (with_reducible refine Tb.set_ ?_ (by first | (left; (try simp) <;> omega) | (right; (try simp) <;> omega)) _) | (with_reducible refine Tb.below ?_ (by with_reducible assumption))))) (by omega) (by simp)
set_option maxHeartbeats 1000000 in
theorem spec_DrawFindPage (ao : Option Addr) (len cap : Nat) (w : World) (h : CodeIn w ao len cap) : Calls Tryd.prog 28 #[.slice ao len cap] w (DrawTK w) := by
  obtain ⟨hcode, hcl, hcm⟩ := h
  have HC := Lib.hid hcode
  clear hcode
  go_enter Tryd.func28, Tryd.ntmps28
  go_wp2_with (fail)
  have hcode := HC.out
  refine (rd_open _ _ _ _ (by (refine ⟨?_, by assumption, by assumption⟩; repeat' (first | (with_reducible assumption) | (with_reducible refine CodeAt.alloc ?_ _) | (with_reducible refine CodeAt.below ?_ (by with_reducible assumption)))))).mono ?_
  rintro e w1 ⟨rb, rfl, hrb, hR1, hb1⟩
  obtain ⟨hc_r, hf_r, hz_r⟩ := bel_at hb1 (w.heap.size) (by first | omega | (simp; done) | (simp; omega))
  have v_r_0 : w1.cell? ⟨w.heap.size, 0, none⟩ = some (.slice none 0 0) := by rw [hc_r]; rw [oldc (by first | (simp; done) | (simp; omega))]; exact newc (by simp) _
  have f_r_0 : w1.frozen? ⟨w.heap.size, 0, none⟩ = false := by rw [hf_r]; exact Joins.unfrozen_of_block (al_keep (heap_new (by simp))) 0
  have v_r_1 : w1.cell? ⟨w.heap.size, 1, none⟩ = some (.slice none 0 0) := by rw [hc_r]; rw [oldc (by first | (simp; done) | (simp; omega))]; exact newc (by simp) _
  have f_r_1 : w1.frozen? ⟨w.heap.size, 1, none⟩ = false := by rw [hf_r]; exact Joins.unfrozen_of_block (al_keep (heap_new (by simp))) 1
  obtain ⟨hc_q, hf_q, hz_q⟩ := bel_at hb1 (w.heap.size + 1) (by first | omega | (simp; done) | (simp; omega))
  have v_q_0 : w1.cell? ⟨w.heap.size + 1, 0, none⟩ = some (.int .i64 0) := by rw [hc_q]; exact newc (by simp) _
  have f_q_0 : w1.frozen? ⟨w.heap.size + 1, 0, none⟩ = false := by rw [hf_q]; exact Joins.unfrozen_of_block (heap_new (by simp)) 0
  have v_q_1 : w1.cell? ⟨w.heap.size + 1, 1, none⟩ = some (.int .i64 0) := by rw [hc_q]; exact newc (by simp) _
  have f_q_1 : w1.frozen? ⟨w.heap.size + 1, 1, none⟩ = false := by rw [hf_q]; exact Joins.unfrozen_of_block (heap_new (by simp)) 1
  have hsz1 := hb1.size
  try simp at hsz1
  try simp at hrb
  have HB1 : Hid (Below w.heap.size w w1) := Lib.hid (by (repeat' (first | with_reducible exact Below.refl _ _ | (with_reducible refine balloc ?_ _) | (with_reducible refine bset ?_ ?_ _) | (with_reducible refine bdrew ?_) | (with_reducible refine bdrewN ?_ _) | (with_reducible refine bstep ?_ (by with_reducible assumption)) | (with_reducible refine bgrow ?_ (by with_reducible assumption) (by omega)) | (simp; done) | (simp; omega))))
  clear hb1 hc_r hf_r hc_q hf_q hcode
  go_wp2_with (fail)
  refine (spec_l3At rb 0 _ hR1 (by omega)).mono ?_
  rintro e w2 ⟨A2, c2, B2, d2, bk, fs, s, p, rfl, ⟨n1, n2⟩, n3, n4, n5, HT2, hg2⟩
  obtain ⟨hc_r, hf_r, hz_r⟩ := gb_at hg2 (w.heap.size) (by first | omega | (simp; done) | (simp; omega)) (by first | omega | (simp; omega))
  replace v_r_0 := (hc_r 0).trans v_r_0
  replace f_r_0 := (hf_r 0).trans f_r_0
  replace v_r_1 := (hc_r 1).trans v_r_1
  replace f_r_1 := (hf_r 1).trans f_r_1
  obtain ⟨hc_q, hf_q, hz_q⟩ := gb_at hg2 (w.heap.size + 1) (by first | omega | (simp; done) | (simp; omega)) (by first | omega | (simp; omega))
  replace v_q_0 := (hc_q 0).trans v_q_0
  replace f_q_0 := (hf_q 0).trans f_q_0
  replace v_q_1 := (hc_q 1).trans v_q_1
  replace f_q_1 := (hf_q 1).trans f_q_1
  have hsz2 := hg2.size
  try simp at hsz2
  have HB2 : Hid (Below w.heap.size w w2) := Lib.hid (bgrow HB1.out hg2 (by omega))
  clear hg2 hc_r hf_r hc_q hf_q
  go_wp2
  refine bodyPost_ret (v := .tuple #[.agg #[.slice A2 bk.length c2, .slice B2 fs.length d2], .agg #[.int .i64 s, .int .i64 p]]) (by simp [results, Tryd.results28, go_sem, *]) rfl ?_
  refine ⟨A2, c2, B2, d2, bk, fs, s, p, rfl, ⟨n1, n2⟩, n3, n4, n5, Lib.hid ?_, by have h := HB2.out; exact bset (bset (bset (bset h (by simp) _) (by simp) _) (by simp) _) (by simp) _⟩
  exact Tb.more (lo := w1.heap.size) (hi := w2.heap.size) (by (repeat' (first | (with_reducible assumption) | (with_reducible exact Hid.out (by assumption)) | (with_reducible refine Tb.alloc ?_ _) | (with_reducible refine Tb.drewN ?_ _) | (with_reducible refine Tb.drew ?_) | (with_reducible refine Tb.set_ ?_ (by first | (left; (try simp) <;> omega) | (right; (try simp) <;> omega)) _) | (with_reducible refine Tb.below ?_ (by with_reducible assumption))))) (by omega) (by simp)
end Go.Proofs.YtnbfmnchihckaaaDoor
