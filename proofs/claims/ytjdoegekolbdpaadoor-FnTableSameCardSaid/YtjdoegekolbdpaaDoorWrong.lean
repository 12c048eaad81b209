/- Draws of tables: l3Wrong returns a table, sometimes one that is not valid. Asked: 1 to 16 buckets, at most 16 frames; a reader of at most 900000 picks. -/
import Derived.Test.YtjdoegekolbdpaaDoorWro0
import Derived.StillTailTactics
namespace Go.Proofs.YtjdoegekolbdpaaDoor
set_option linter.unusedVariables false
open Go.ChangeShapes Go.WideShapes Go.ChangeAt Go.RowKit
def WPost (rb m : Nat) (nb nf : Nat) (w : World) (e : Ending) (w' : World) : Prop :=
  ∃ A ca B cb bk fs, e = .returned (.agg #[.slice A bk.length ca, .slice B fs.length cb]) ∧ (nb ≤ bk.length ∧ bk.length ≤ nb + 1) ∧ fs.length ≤ nf ∧ (bk.length ≤ ca ∧ ca ≤ maxLen) ∧ (fs.length ≤ cb ∧ cb ≤ maxLen) ∧ Hid (Tb w' w.heap.size w'.heap.size A B bk fs) ∧ Rd w' rb (m + 10) ∧ w.grownBy w' (some rb)
theorem Tb.setT {w : World} {lo hi n : Nat} {T : TypeId} {cs : Array Value} {A B : Option Addr} {bk : List Int} {fs : List Fr} (h : Tb w lo hi A B bk fs) (hb : w.heap[n]? = some (.cells cs T (0, 0))) (h1 : 3 ≠ T) (h2 : 46 ≠ T) (j : Nat) (u : Value) : Tb (w.setCell ⟨n, j, none⟩ u) lo hi A B bk fs :=
  ⟨(KeepT.set_ hb u) _ _ _ _ _ _ _ h1 h.1, (KeepT.set_ hb u) _ _ _ _ _ _ _ h2 h.2⟩
theorem Tb.setNew2 {w : World} {lo hi n : Nat} {A B : Option Addr} {bk : List Int} {fs : List Fr} (h : Tb w lo hi A B bk fs) (u v : Value) (hn : n < lo) : Tb ((w.setCell ⟨n, 0, none⟩ u).setCell ⟨n, 1, none⟩ v) lo hi A B bk fs := (h.set_ (.inr hn) u).set_ (.inr hn) v
set_option maxHeartbeats 4000000 in
set_option maxRecDepth 100000 in
theorem spec_l3Wrong (rb m : Nat) (A B : Option Addr) (ca cb lo hi : Nat) (bk : List Int) (fs : List Fr) (w : World) (hR : Rd w rb m) (hm : m ≤ 900000) (h : Tb w lo hi A B bk fs) (d1 : 1 ≤ bk.length) (d2 : bk.length ≤ 16) (d3 : fs.length ≤ 16) :
    Calls Tryd.prog 54 #[.pointer (some ⟨rb, 0, none⟩), .agg #[.slice A bk.length ca, .slice B fs.length cb]] w (WPost rb m bk.length fs.length w) := by
  have hlt := hR.lt
  have H := Lib.hid h
  clear h
  go_enter Tryd.func54, Tryd.ntmps54
  go_wp2_with (fail)
  refine (spec_l3CopyO _ _ _ _ _ _ bk fs _ (H.out.below (by (repeat' (first | with_reducible exact Below.refl _ _ | (with_reducible refine balloc ?_ _) | (with_reducible refine bset ?_ ?_ _) | (with_reducible refine bdrew ?_) | (with_reducible refine bdrewN ?_ _) | (with_reducible refine bstep ?_ (by with_reducible assumption)) | (with_reducible refine bgrow ?_ (by with_reducible assumption) (by omega)) | (simp; done) | (simp; omega))))) (by omega) (by omega)).mono ?_
  rintro e w2 ⟨A2, c2, B2, e2, zb, rfl, ⟨q1, q2⟩, ⟨q3, q4⟩, HO, ht2, hb2⟩
  have z2 := hb2.size
  simp at z2
  have hB2 : Below w.heap.size w w2 := by (repeat' (first | with_reducible exact Below.refl _ _ | (with_reducible refine balloc ?_ _) | (with_reducible refine bset ?_ ?_ _) | (with_reducible refine bdrew ?_) | (with_reducible refine bdrewN ?_ _) | (with_reducible refine bstep ?_ (by with_reducible assumption)) | (with_reducible refine bgrow ?_ (by with_reducible assumption) (by omega)) | (simp; done) | (simp; omega)))
  have HB2 := Lib.hid hB2
  have R2 : Rd w2 rb m := hR.below hB2
  have r0 : w2.cell? ⟨w.heap.size + 1, 0, none⟩ = some (.slice none 0 0) := by rw [hb2.cell (p := ⟨w.heap.size + 1, 0, none⟩) (by simp), newc (by simp)]; rfl
  have r1 : w2.cell? ⟨w.heap.size + 1, 1, none⟩ = some (.slice none 0 0) := by rw [hb2.cell (p := ⟨w.heap.size + 1, 1, none⟩) (by simp), newc (by simp)]; rfl
  have r2 : w2.frozen? ⟨w.heap.size + 1, 0, none⟩ = false := by rw [hb2.frozen (p := ⟨w.heap.size + 1, 0, none⟩) (by simp)]; exact Joins.unfrozen_of_block (heap_new (by simp)) 0
  have r3 : w2.frozen? ⟨w.heap.size + 1, 1, none⟩ = false := by rw [hb2.frozen (p := ⟨w.heap.size + 1, 1, none⟩) (by simp)]; exact Joins.unfrozen_of_block (heap_new (by simp)) 1
  have HT2 := Lib.hid (show Tb w2 (w.heap.size + 2) w2.heap.size A2 B2 bk fs from ht2.more (by simp) (Nat.le_refl _))
  have HO2 := Lib.hid (show Sl w2 (w.heap.size + 2) w2.heap.size 3 1 A2 c2 zb from HO.out.1.more (by simp) (Nat.le_refl _))
  have HZ := Lib.hid HO.out.2
  clear HO
  have z3 : w.heap.size + 1 < w2.heap.size := by omega
  have z4 : ¬ (w.heap.size + 1 = w2.heap.size) := by omega
  have z5 : ¬ (w2.heap.size = w.heap.size + 1) := by omega
  clear ht2 hb2 hB2 hR H
  simp only []
  by_cases hz : fs.length = 0
  · have hz' : (fs.length : Int) = 0 := by omega
    go_wp2
    refine bodyPost_ret (v := .agg #[.slice A2 bk.length c2, .slice B2 0 e2]) (by simp [results, Tryd.results54, go_sem, *]) rfl ?_
    have hG : w.grownBy w2 (some rb) := gb_below (gb_refl _ _) HB2.out
    refine ⟨A2, c2, B2, e2, bk, fs, by rw [hz], ⟨Nat.le_refl _, by omega⟩, by omega, ⟨q1, q2⟩, ⟨by omega, q4⟩, Lib.hid ?_, ?_, ?_⟩
    · exact Tb.more (lo := w.heap.size + 2) (hi := w2.heap.size) (by (repeat' (first | (with_reducible assumption) | (with_reducible exact Hid.out (by assumption)) | (with_reducible refine Tb.alloc ?_ _) | (with_reducible refine Tb.drewN ?_ _) | (with_reducible refine Tb.drew ?_) | (with_reducible refine Tb.set_ ?_ (by first | (left; (try simp) <;> omega) | (right; (try simp) <;> omega)) _) | (with_reducible refine Tb.below ?_ (by with_reducible assumption))))) (by omega) (by simp)
    · exact Rd.mono (m := m) (by (repeat' (first | (with_reducible assumption) | (with_reducible refine Rd.alloc ?_ _) | (with_reducible refine Rd.drewN ?_ _) | (with_reducible refine Rd.drew ?_) | (with_reducible refine Rd.setCell ?_ (by first | omega | (simp; omega)) _)))) (by omega)
    · exact gb_alloc (gb_set (gb_set hG (by simp) _) (by simp) _) _
  · have hz' : ¬ ((fs.length : Int) = 0) := by omega
    obtain ⟨ga, gb, rfl, rfl, lo1, hi1, lo2, hi2⟩ := HT2.out.addr (show 0 < bk.length by omega) (show 0 < fs.length by omega)
    have hne := HT2.out.ne (show 0 < bk.length by omega) (show 0 < fs.length by omega)
    go_wp2_with (fail)
    refine (rd_pick rb m _ _ (R2.alloc _) (by omega)).mono ?_
    rintro e w3 ⟨x3, rfl, hl3, hh3, hR3, hg3⟩
    obtain ⟨i, rfl⟩ := Int.eq_ofNat_of_zero_le hl3
    have hil : i < fs.length := by omega
    obtain ⟨hc3, hf3, hz3⟩ := gb_at hg3 (w2.heap.size) (by simp) (by omega)
    have o0 : w3.cell? ⟨w2.heap.size, 0, none⟩ = some (.slice (some ⟨ga, 0, none⟩) bk.length c2) := by rw [hc3, newc rfl]; rfl
    have o1 : w3.cell? ⟨w2.heap.size, 1, none⟩ = some (.slice (some ⟨gb, 0, none⟩) fs.length e2) := by rw [hc3, newc rfl]; rfl
    have p0 : w3.frozen? ⟨w2.heap.size, 0, none⟩ = false := by rw [hf3]; exact Joins.unfrozen_of_block (heap_new rfl) 0
    have p1 : w3.frozen? ⟨w2.heap.size, 1, none⟩ = false := by rw [hf3]; exact Joins.unfrozen_of_block (heap_new rfl) 1
    obtain ⟨hd3, he3, hy3⟩ := gb_at hg3 (w.heap.size + 1) (by simp; omega) (by omega)
    have r0 : w3.cell? ⟨w.heap.size + 1, 0, none⟩ = some (.slice none 0 0) := by rw [hd3, oldc (by omega)]; exact r0
    have r1 : w3.cell? ⟨w.heap.size + 1, 1, none⟩ = some (.slice none 0 0) := by rw [hd3, oldc (by omega)]; exact r1
    have r2 : w3.frozen? ⟨w.heap.size + 1, 0, none⟩ = false := by rw [he3]; exact (bel_at (Joins.below_alloc1 w2 _) _ z3).2.1 0 |>.trans r2
    have r3 : w3.frozen? ⟨w.heap.size + 1, 1, none⟩ = false := by rw [he3]; exact (bel_at (Joins.below_alloc1 w2 _) _ z3).2.1 1 |>.trans r3
    have HG3 : Hid (w.grownBy w3 (some rb)) := Lib.hid (gb_step (gb_alloc (gb_below (gb_refl _ _) HB2.out) _) hg3)
    have HT3 := Lib.hid ((HT2.out.alloc _).grown hg3 (by omega))
    have HO3 := Lib.hid ((HO2.out.alloc _).grown hg3 (by omega))
    have OB3 := Lib.hid (show w3.heap[w2.heap.size]? = some (.cells #[.slice (some ⟨ga, 0, none⟩) bk.length c2, .slice (some ⟨gb, 0, none⟩) fs.length e2] 28 (0, 0)) from (hg3.block w2.heap.size (by simp) (by simp; omega)).trans (heap_new rfl))
    clear hc3 hf3 hd3 he3 hl3 hh3
    go_wp2_with (fail)
    refine (rd_pick rb (m + 1) _ _ hR3 (by omega)).mono ?_
    rintro e w4 ⟨x4, rfl, hl4, hh4, hR4, hg4⟩
    obtain ⟨hc4, hf4, hz4⟩ := gb_at hg4 (w2.heap.size) hz3 (by omega)
    have o0 := (hc4 0).trans o0
    have o1 := (hc4 1).trans o1
    have p0 := (hf4 0).trans p0
    have p1 := (hf4 1).trans p1
    obtain ⟨hd4, he4, hy4⟩ := gb_at hg4 (w.heap.size + 1) hy3 (by omega)
    have r0 := (hd4 0).trans r0
    have r1 := (hd4 1).trans r1
    have r2 := (he4 0).trans r2
    have r3 := (he4 1).trans r3
    have HG4 : Hid (w.grownBy w4 (some rb)) := Lib.hid (gb_step HG3.out hg4)
    have HT4 := Lib.hid (HT3.out.grown hg4 (by omega))
    have HO4 := Lib.hid (HO3.out.grown hg4 (by omega))
    have OB4 := Lib.hid ((hg4.block w2.heap.size hz3 (by simp; omega)).trans OB3.out)
    clear hc4 hf4 hd4 he4 hh4 OB3 HT3 HG3 HT2 HB2 R2 hR3 hg3 hg4 HO3 HO2
    obtain ⟨g, ee, _, _, sz1, cb0, fb0⟩ := HT4.out.1.int (show 0 < bk.length by omega)
    cases ee
    obtain ⟨g, ee, _, _, sz2, ⟨v0, v1, v2, v3, v4⟩, ff⟩ := HT4.out.2.frame hil
    cases ee
    have i3 : (0 : Int) ≤ (i : Int) := by omega
    have i4 : (i : Int) < (fs.length : Int) := by omega
    have n1 : ¬ w2.heap.size = gb := by omega
    have n2 : ¬ gb = w2.heap.size := by omega
    have n3 : ¬ ga = w2.heap.size := by omega
    have n4 : ¬ w2.heap.size = ga := by omega
    have n5 : ¬ ga = w.heap.size + 1 := by omega
    have n6 : ¬ w.heap.size + 1 = ga := by omega
    have n7 : ¬ gb = w.heap.size + 1 := by omega
    have n8 : ¬ w.heap.size + 1 = gb := by omega
    rcases (show x4 = 0 ∨ x4 = 1 ∨ x4 = 2 ∨ x4 = 3 ∨ x4 = 4 ∨ x4 = 5 ∨ 6 ≤ x4 from by omega) with h4 | h4 | h4 | h4 | h4 | h4 | h4
    · subst h4
      go_wp2_with (fail)
      go_region_held3 (fun W' => W'.cell? ⟨w2.heap.size, 1, none⟩ = some (.slice (some ⟨gb, 0, none⟩) fs.length e2)) (go_keep)
        (first | (go_at_call 39; refine (rd_num_at rb (m + 2) _ _ [0, (i : Int), 16, -1] _ (by (repeat' (first | (with_reducible assumption) | (with_reducible refine Rd.alloc ?_ _) | (with_reducible refine Rd.drewN ?_ _) | (with_reducible refine Rd.drew ?_) | (with_reducible refine Rd.setCell ?_ (by first | omega | (simp; omega)) _)))) (by omega) rfl (by simp) (by omega) (by intro q hq; exact newL rfl [0, (i : Int), 16, -1] hq) (by simp) (by intro x hx; simp at hx; omega)).mono ?_; rintro e w5 ⟨x5, rfl, _, _, _, hR5, hg5⟩; obtain ⟨hc5, hf5, hz5⟩ := gb_at hg5 (w2.heap.size) (by simp; omega) (by omega); obtain ⟨hd5, he5, hy5⟩ := gb_at hg5 (w.heap.size + 1) (by simp; omega) (by omega); obtain ⟨ha5, hb5, hx5⟩ := gb_at hg5 gb (by simp; omega) (by omega)))
      go_wp2
      refine bodyPost_ret (v := .agg #[.slice (some ⟨ga, 0, none⟩) bk.length c2, .slice (some ⟨gb, 0, none⟩) fs.length e2]) (by simp [results, Tryd.results54, go_sem, *]) rfl ?_
      have hT5 : Tb w5 (w.heap.size + 2) w2.heap.size (some ⟨ga, 0, none⟩) (some ⟨gb, 0, none⟩) bk fs := by (repeat' (first | (with_reducible assumption) | (with_reducible exact Hid.out (by assumption)) | (with_reducible refine Tb.alloc ?_ _) | (with_reducible refine Tb.drewN ?_ _) | (with_reducible refine Tb.drew ?_) | (with_reducible refine Tb.grown ?_ (by with_reducible assumption) (by omega)) | (with_reducible refine Tb.below ?_ (by with_reducible assumption))))
      obtain ⟨fs', hl', hT6⟩ := hT5.storeNx hil x5
      refine ⟨some ⟨ga, 0, none⟩, c2, some ⟨gb, 0, none⟩, e2, bk, fs', by rw [hl'], ⟨Nat.le_refl _, by omega⟩, by omega, ⟨q1, q2⟩, ⟨by omega, by omega⟩, Lib.hid ?_, ?_, ?_⟩
      · exact Tb.more (lo := w.heap.size + 2) (hi := w2.heap.size) (by (repeat' (first | (with_reducible assumption) | (with_reducible exact Hid.out (by assumption)) | (with_reducible refine Tb.alloc ?_ _) | (with_reducible refine Tb.drewN ?_ _) | (with_reducible refine Tb.drew ?_) | (with_reducible refine Tb.set_ ?_ (by first | (left; (try simp) <;> omega) | (right; (try simp) <;> omega)) _) | (with_reducible refine Tb.below ?_ (by with_reducible assumption))))) (by omega) (by simp; omega)
      · exact Rd.mono (m := m + 3) (by (repeat' (first | (with_reducible assumption) | (with_reducible refine Rd.alloc ?_ _) | (with_reducible refine Rd.drewN ?_ _) | (with_reducible refine Rd.drew ?_) | (with_reducible refine Rd.setCell ?_ (by first | omega | (simp; omega)) _)))) (by omega)
      · (repeat' (first | (with_reducible assumption) | (with_reducible exact Hid.out (by assumption)) | (with_reducible refine gb_alloc ?_ _) | (with_reducible refine gb_set ?_ ?_ _) | (with_reducible refine gb_drew ?_) | (with_reducible refine gb_drewN ?_ _) | (with_reducible refine gb_step ?_ (by with_reducible assumption)) | (with_reducible refine gb_below ?_ (by with_reducible assumption)) | (simp; done) | (simp; omega)))
    · subst h4
      generalize hu0 : (fat fs i).u = u0 at *
      go_wp2_with (fail)
      refine wp_region_still_tail 12 (by kernel_rfl) (by kernel_rfl) ?_
      simp only [List.take_succ_cons, List.take_zero, List.drop_succ_cons, List.drop_zero]
      change wpStill _ _ w4.drew (fun a' => wpList _ _ _ _ a' w4.drew) _ _
      repeat still_step
      refine wpStill_nil ?_
      go_wp2
      refine bodyPost_ret (v := .agg #[.slice (some ⟨ga, 0, none⟩) bk.length c2, .slice (some ⟨gb, 0, none⟩) fs.length e2]) (by simp [results, Tryd.results54, go_sem, *]) rfl ?_
      have hT5 : Tb w4 (w.heap.size + 2) w2.heap.size (some ⟨ga, 0, none⟩) (some ⟨gb, 0, none⟩) bk fs := HT4.out
      obtain ⟨fs', hl', hT6⟩ := hT5.storeU hil (!u0)
      refine ⟨some ⟨ga, 0, none⟩, c2, some ⟨gb, 0, none⟩, e2, bk, fs', by rw [hl'], ⟨Nat.le_refl _, by omega⟩, by omega, ⟨q1, q2⟩, ⟨by omega, by omega⟩, Lib.hid ?_, ?_, ?_⟩
      · exact Tb.more (lo := w.heap.size + 2) (hi := w2.heap.size) (by (repeat' (first | (with_reducible assumption) | (with_reducible exact Hid.out (by assumption)) | (with_reducible refine Tb.alloc ?_ _) | (with_reducible refine Tb.drewN ?_ _) | (with_reducible refine Tb.drew ?_) | (with_reducible refine Tb.set_ ?_ (by first | (left; (try simp) <;> omega) | (right; (try simp) <;> omega)) _) | (with_reducible refine Tb.below ?_ (by with_reducible assumption))))) (by omega) (by simp; omega)
      · exact Rd.mono (m := m + 2) (by (repeat' (first | (with_reducible assumption) | (with_reducible refine Rd.alloc ?_ _) | (with_reducible refine Rd.drewN ?_ _) | (with_reducible refine Rd.drew ?_) | (with_reducible refine Rd.setCell ?_ (by first | omega | (simp; omega)) _)))) (by omega)
      · (repeat' (first | (with_reducible assumption) | (with_reducible exact Hid.out (by assumption)) | (with_reducible refine gb_alloc ?_ _) | (with_reducible refine gb_set ?_ ?_ _) | (with_reducible refine gb_drew ?_) | (with_reducible refine gb_drewN ?_ _) | (with_reducible refine gb_step ?_ (by with_reducible assumption)) | (with_reducible refine gb_below ?_ (by with_reducible assumption)) | (simp; done) | (simp; omega)))
    · subst h4
      have j1 : (0 : Int) < (bk.length : Int) := by omega
      have j2 : 0 < bk.length := by omega
      have j3 : ¬ bk = [] := by rintro rfl; simp at j2
      go_wp2_with (fail)
      go_region_held3 (fun W' => W'.cell? ⟨w2.heap.size, 0, none⟩ = some (.slice (some ⟨ga, 0, none⟩) bk.length c2)) (go_keep)
        (first | (go_at_call 39; refine (rd_num_at rb (m + 2) _ _ [0, -1, 16, -2] _ (by (repeat' (first | (with_reducible assumption) | (with_reducible refine Rd.alloc ?_ _) | (with_reducible refine Rd.drewN ?_ _) | (with_reducible refine Rd.drew ?_) | (with_reducible refine Rd.setCell ?_ (by first | omega | (simp; omega)) _)))) (by omega) rfl (by simp) (by omega) (by intro q hq; exact newL rfl [0, -1, 16, -2] hq) (by simp) (by decide)).mono ?_; rintro e w5 ⟨x5, rfl, _, _, _, hR5, hg5⟩; obtain ⟨hc5, hf5, hz5⟩ := gb_at hg5 (w2.heap.size) (by simp; omega) (by omega); obtain ⟨hd5, he5, hy5⟩ := gb_at hg5 (w.heap.size + 1) (by simp; omega) (by omega); obtain ⟨ha5, hb5, hx5⟩ := gb_at hg5 ga (by simp; omega) (by omega)))
      go_wp2
      refine bodyPost_ret (v := .agg #[.slice (some ⟨ga, 0, none⟩) bk.length c2, .slice (some ⟨gb, 0, none⟩) fs.length e2]) (by simp [results, Tryd.results54, go_sem, *]) rfl ?_
      have hT5 : Tb w5 (w.heap.size + 2) w2.heap.size (some ⟨ga, 0, none⟩) (some ⟨gb, 0, none⟩) bk fs := by (repeat' (first | (with_reducible assumption) | (with_reducible exact Hid.out (by assumption)) | (with_reducible refine Tb.alloc ?_ _) | (with_reducible refine Tb.drewN ?_ _) | (with_reducible refine Tb.drew ?_) | (with_reducible refine Tb.grown ?_ (by with_reducible assumption) (by omega)) | (with_reducible refine Tb.below ?_ (by with_reducible assumption))))
      have hT6 := hT5.storeB (by omega) 0 x5
      have hl' : (bk.set 0 x5).length = bk.length := List.length_set ..
      refine ⟨some ⟨ga, 0, none⟩, c2, some ⟨gb, 0, none⟩, e2, bk.set 0 x5, fs, by rw [hl'], ⟨by omega, by omega⟩, by omega, ⟨by omega, by omega⟩, ⟨by omega, by omega⟩, Lib.hid ?_, ?_, ?_⟩
      · exact Tb.more (lo := w.heap.size + 2) (hi := w2.heap.size) (by (repeat' (first | (with_reducible assumption) | (with_reducible exact Hid.out (by assumption)) | (with_reducible refine Tb.alloc ?_ _) | (with_reducible refine Tb.drewN ?_ _) | (with_reducible refine Tb.drew ?_) | (with_reducible refine Tb.set_ ?_ (by first | (left; (try simp) <;> omega) | (right; (try simp) <;> omega)) _) | (with_reducible refine Tb.below ?_ (by with_reducible assumption))))) (by omega) (by simp; omega)
      · exact Rd.mono (m := m + 3) (by (repeat' (first | (with_reducible assumption) | (with_reducible refine Rd.alloc ?_ _) | (with_reducible refine Rd.drewN ?_ _) | (with_reducible refine Rd.drew ?_) | (with_reducible refine Rd.setCell ?_ (by first | omega | (simp; omega)) _)))) (by omega)
      · (repeat' (first | (with_reducible assumption) | (with_reducible exact Hid.out (by assumption)) | (with_reducible refine gb_alloc ?_ _) | (with_reducible refine gb_set ?_ ?_ _) | (with_reducible refine gb_drew ?_) | (with_reducible refine gb_drewN ?_ _) | (with_reducible refine gb_step ?_ (by with_reducible assumption)) | (with_reducible refine gb_below ?_ (by with_reducible assumption)) | (simp; done) | (simp; omega)))
    · subst h4
      go_wp2_with (fail)
      go_region_held3 (fun W' => W'.cell? ⟨w2.heap.size, 1, none⟩ = some (.slice (some ⟨gb, 0, none⟩) fs.length e2)) (go_keep)
        (first | (go_at_call 76; refine (spec_l2Draw rb (m + 2) _ (by (repeat' (first | (with_reducible assumption) | (with_reducible refine Rd.alloc ?_ _) | (with_reducible refine Rd.drewN ?_ _) | (with_reducible refine Rd.drew ?_) | (with_reducible refine Rd.setCell ?_ (by first | omega | (simp; omega)) _)))) (by omega)).mono ?_; rintro e w5 ⟨s5, p5, rfl, _, _, hR5, hg5⟩; obtain ⟨hc5, hf5, hz5⟩ := gb_at hg5 (w2.heap.size) hz4 (by omega); obtain ⟨hd5, he5, hy5⟩ := gb_at hg5 (w.heap.size + 1) hy4 (by omega); obtain ⟨ha5, hb5, hx5⟩ := gb_at hg5 gb (show gb < w4.heap.size by omega) (by omega)))
      go_wp2
      refine bodyPost_ret (v := .agg #[.slice (some ⟨ga, 0, none⟩) bk.length c2, .slice (some ⟨gb, 0, none⟩) fs.length e2]) (by simp [results, Tryd.results54, go_sem, *]) rfl ?_
      have hT5 : Tb w5 (w.heap.size + 2) w2.heap.size (some ⟨ga, 0, none⟩) (some ⟨gb, 0, none⟩) bk fs := by (repeat' (first | (with_reducible assumption) | (with_reducible exact Hid.out (by assumption)) | (with_reducible refine Tb.alloc ?_ _) | (with_reducible refine Tb.drewN ?_ _) | (with_reducible refine Tb.drew ?_) | (with_reducible refine Tb.grown ?_ (by with_reducible assumption) (by omega)) | (with_reducible refine Tb.below ?_ (by with_reducible assumption))))
      obtain ⟨fs', hl', hT6⟩ := hT5.storeK hil s5 p5
      refine ⟨some ⟨ga, 0, none⟩, c2, some ⟨gb, 0, none⟩, e2, bk, fs', by rw [hl'], ⟨Nat.le_refl _, by omega⟩, by omega, ⟨q1, q2⟩, ⟨by omega, by omega⟩, Lib.hid ?_, ?_, ?_⟩
      · exact Tb.more (lo := w.heap.size + 2) (hi := w2.heap.size) (by (repeat' (first | (with_reducible assumption) | (with_reducible exact Hid.out (by assumption)) | (with_reducible refine Tb.alloc ?_ _) | (with_reducible refine Tb.drewN ?_ _) | (with_reducible refine Tb.drew ?_) | (with_reducible refine Tb.set_ ?_ (by first | (left; (try simp) <;> omega) | (right; (try simp) <;> omega)) _) | (with_reducible refine Tb.below ?_ (by with_reducible assumption))))) (by omega) (by simp; omega)
      · exact Rd.mono (m := m + 2 + 2) (by (repeat' (first | (with_reducible assumption) | (with_reducible refine Rd.alloc ?_ _) | (with_reducible refine Rd.drewN ?_ _) | (with_reducible refine Rd.drew ?_) | (with_reducible refine Rd.setCell ?_ (by first | omega | (simp; omega)) _)))) (by omega)
      · (repeat' (first | (with_reducible assumption) | (with_reducible exact Hid.out (by assumption)) | (with_reducible refine gb_alloc ?_ _) | (with_reducible refine gb_set ?_ ?_ _) | (with_reducible refine gb_drew ?_) | (with_reducible refine gb_drewN ?_ _) | (with_reducible refine gb_step ?_ (by with_reducible assumption)) | (with_reducible refine gb_below ?_ (by with_reducible assumption)) | (simp; done) | (simp; omega)))
    · subst h4
      obtain ⟨i0, hi0, hz0, hz1, hz2⟩ := info_parts int_info
      go_wp2_with (at_builtin; refine wpList_append_sl _ rfl _ _ 25 rfl 3 i0 (.int .i64 0) 8 Tryd.underlying25 hi0 hz0 hz1 hz2 rfl ga bk.length c2 (w.heap.size + 2) w2.heap.size zb rfl (HO4.out.alloc _) (by omega) q1 q2 _ _ (.int .i64 (-1)) rfl (newc rfl 0) rfl (by unfold maxLen; omega) (by omega) ?_)
      intro A6 c6 w6 r1' r2' HS6 HG6
      have k6 := fun b (hb : b < w4.heap.size) (hne : b ≠ ga) => (HG6.out.block b (by simp; omega) (by simpa using hne)).trans ((Joins.below_alloc1 w4 (.cells #[.int .i64 (-1)] 3)).block b hb)
      have b2 := k6 w2.heap.size hz4 n4
      have b1 := k6 (w.heap.size + 1) hy4 n6
      have o0 := (World.cell?_of_block (a := ⟨w2.heap.size, 0, none⟩) b2).trans o0
      have o1 := (World.cell?_of_block (a := ⟨w2.heap.size, 1, none⟩) b2).trans o1
      have p0 := (World.frozen?_of_block (a := ⟨w2.heap.size, 0, none⟩) b2).trans p0
      have p1 := (World.frozen?_of_block (a := ⟨w2.heap.size, 1, none⟩) b2).trans p1
      have r0 := (World.cell?_of_block (a := ⟨w.heap.size + 1, 0, none⟩) b1).trans r0
      have r1 := (World.cell?_of_block (a := ⟨w.heap.size + 1, 1, none⟩) b1).trans r1
      have r2 := (World.frozen?_of_block (a := ⟨w.heap.size + 1, 0, none⟩) b1).trans r2
      have r3 := (World.frozen?_of_block (a := ⟨w.heap.size + 1, 1, none⟩) b1).trans r3
      have HT6 := Lib.hid ((HT4.out.alloc _).app (by omega) HZ.out HS6.out HG6.out (by simp; omega))
      have HT7 := Lib.hid (HT6.out.setT (b2.trans OB4.out) (by decide) (by decide) 0 (.slice A6 (bk.length + 1) c6))
      have HR6 : Hid (Rd w6 rb (m + 2)) := Lib.hid ((hR4.alloc _).grown HG6.out (by intro k hk; cases hk; omega))
      have HGG : Hid (w.grownBy w6 (some rb)) := Lib.hid (gb_own (gb_alloc HG4.out _) HG6.out (by intro k hk; cases hk; omega))
      clear k6 b1 b2 HS6 HG6 hR4 HG4 HT4 HO4 OB4 cb0 fb0 v0 v1 v2 v3 v4 ff HT6
      go_wp2
      refine bodyPost_ret (v := .agg #[.slice A6 (bk.length + 1) c6, .slice (some ⟨gb, 0, none⟩) fs.length e2]) (by simp [results, Tryd.results54, go_sem, *]) rfl ?_
      have hR6 := HR6.out
      have hl' : (bk ++ [(-1 : Int)]).length = bk.length + 1 := by simp
      refine ⟨A6, c6, some ⟨gb, 0, none⟩, e2, bk ++ [-1], fs, by rw [hl'], ⟨by omega, by omega⟩, Nat.le_refl _, ⟨by omega, r2'⟩, ⟨q3, q4⟩, Lib.hid ?_, ?_, ?_⟩
      · exact Tb.more (lo := w.heap.size + 2) (hi := w6.heap.size) (HT7.out.setNew2 _ _ (by omega)) (by omega) (by simp)
      · exact Rd.mono (m := m + 2) (by (repeat' (first | (with_reducible assumption) | (with_reducible refine Rd.alloc ?_ _) | (with_reducible refine Rd.drewN ?_ _) | (with_reducible refine Rd.drew ?_) | (with_reducible refine Rd.setCell ?_ (by first | omega | (simp; omega)) _)))) (by omega)
      · (repeat' (first | (with_reducible assumption) | (with_reducible exact Hid.out (by assumption)) | (with_reducible refine gb_alloc ?_ _) | (with_reducible refine gb_set ?_ ?_ _) | (with_reducible refine gb_drew ?_) | (with_reducible refine gb_drewN ?_ _) | (with_reducible refine gb_step ?_ (by with_reducible assumption)) | (with_reducible refine gb_below ?_ (by with_reducible assumption)) | (simp; done) | (simp; omega)))
    · subst h4
      go_wp2_with (fail)
      refine bodyPost_ret (v := .agg #[.slice (some ⟨ga, 0, none⟩) bk.length c2, .slice (some ⟨w4.heap.size, 0, none⟩) 0 0]) (by simp [results, Tryd.results54, go_sem, *]) rfl ?_
      have hT6 : Tb w4 (w.heap.size + 2) w2.heap.size (some ⟨ga, 0, none⟩) (some ⟨w4.heap.size, 0, none⟩) bk [] := ⟨HT4.out.1, Sl.empty⟩
      refine ⟨some ⟨ga, 0, none⟩, c2, some ⟨w4.heap.size, 0, none⟩, 0, bk, [], rfl, ⟨Nat.le_refl _, by omega⟩, by simp, ⟨q1, q2⟩, ⟨by simp, by unfold maxLen; omega⟩, Lib.hid ?_, ?_, ?_⟩
      · exact Tb.more (lo := w.heap.size + 2) (hi := w2.heap.size) (by (repeat' (first | (with_reducible assumption) | (with_reducible exact Hid.out (by assumption)) | (with_reducible refine Tb.alloc ?_ _) | (with_reducible refine Tb.drewN ?_ _) | (with_reducible refine Tb.drew ?_) | (with_reducible refine Tb.set_ ?_ (by first | (left; (try simp) <;> omega) | (right; (try simp) <;> omega)) _) | (with_reducible refine Tb.below ?_ (by with_reducible assumption))))) (by omega) (by simp; omega)
      · exact Rd.mono (m := m + 2) (by (repeat' (first | (with_reducible assumption) | (with_reducible refine Rd.alloc ?_ _) | (with_reducible refine Rd.drewN ?_ _) | (with_reducible refine Rd.drew ?_) | (with_reducible refine Rd.setCell ?_ (by first | omega | (simp; omega)) _)))) (by omega)
      · (repeat' (first | (with_reducible assumption) | (with_reducible exact Hid.out (by assumption)) | (with_reducible refine gb_alloc ?_ _) | (with_reducible refine gb_set ?_ ?_ _) | (with_reducible refine gb_drew ?_) | (with_reducible refine gb_drewN ?_ _) | (with_reducible refine gb_step ?_ (by with_reducible assumption)) | (with_reducible refine gb_below ?_ (by with_reducible assumption)) | (simp; done) | (simp; omega)))
    · have y0 : ¬ x4 = 0 := by omega
      have y1 : ¬ x4 = 1 := by omega
      have y2 : ¬ x4 = 2 := by omega
      have y3 : ¬ x4 = 3 := by omega
      have y4 : ¬ x4 = 4 := by omega
      have y5 : ¬ x4 = 5 := by omega
      clear v0 v1 v2 v3 v4 ff cb0 fb0
      go_wp2_with (fail)
      refine bodyPost_ret (v := .agg #[.slice (some ⟨ga, 0, none⟩) bk.length c2, .slice (some ⟨gb, 0, none⟩) fs.length e2]) (by simp [results, Tryd.results54, go_sem, *]) rfl ?_
      refine ⟨some ⟨ga, 0, none⟩, c2, some ⟨gb, 0, none⟩, e2, bk, fs, rfl, ⟨Nat.le_refl _, by omega⟩, by omega, ⟨q1, q2⟩, ⟨by omega, by omega⟩, Lib.hid ?_, ?_, ?_⟩
      · exact Tb.more (lo := w.heap.size + 2) (hi := w2.heap.size) (by (repeat' (first | (with_reducible assumption) | (with_reducible exact Hid.out (by assumption)) | (with_reducible refine Tb.alloc ?_ _) | (with_reducible refine Tb.drewN ?_ _) | (with_reducible refine Tb.drew ?_) | (with_reducible refine Tb.set_ ?_ (by first | (left; (try simp) <;> omega) | (right; (try simp) <;> omega)) _) | (with_reducible refine Tb.below ?_ (by with_reducible assumption))))) (by omega) (by simp; omega)
      · exact Rd.mono (m := m + 2) (by (repeat' (first | (with_reducible assumption) | (with_reducible refine Rd.alloc ?_ _) | (with_reducible refine Rd.drewN ?_ _) | (with_reducible refine Rd.drew ?_) | (with_reducible refine Rd.setCell ?_ (by first | omega | (simp; omega)) _)))) (by omega)
      · (repeat' (first | (with_reducible assumption) | (with_reducible exact Hid.out (by assumption)) | (with_reducible refine gb_alloc ?_ _) | (with_reducible refine gb_set ?_ ?_ _) | (with_reducible refine gb_drew ?_) | (with_reducible refine gb_drewN ?_ _) | (with_reducible refine gb_step ?_ (by with_reducible assumption)) | (with_reducible refine gb_below ?_ (by with_reducible assumption)) | (simp; done) | (simp; omega)))
end Go.Proofs.YtjdoegekolbdpaaDoor
