/- Draws of tables: what the laws' draws return. Asked: at most 2000 bytes of code are read. -/
import Derived.Test.YtjdoegekolbdpaaDoorWrong
import Derived.Test.YtjdoegekolbdpaaDoorDraT
namespace Go.Proofs.YtjdoegekolbdpaaDoor
set_option linter.unusedVariables false
open Go.ChangeShapes Go.WideShapes Go.ChangeAt Go.RowKit
/-- a drawn table comes back -/
def DrawT (w : World) (e : Ending) (w' : World) : Prop :=
  ∃ A ca B cb bk fs, e = .returned (.agg #[.slice A bk.length ca, .slice B fs.length cb]) ∧ (1 ≤ bk.length ∧ bk.length ≤ 10) ∧ fs.length ≤ 8 ∧ (bk.length ≤ ca ∧ ca ≤ maxLen) ∧ (fs.length ≤ cb ∧ cb ≤ maxLen) ∧ Hid (Tb w' w.heap.size w'.heap.size A B bk fs) ∧ Below w.heap.size w w'
/-- a drawn table and a number -/
def DrawTI (w : World) (e : Ending) (w' : World) : Prop :=
  ∃ A ca B cb bk fs x, e = .returned (.tuple #[.agg #[.slice A bk.length ca, .slice B fs.length cb], .int .i64 x]) ∧ (-1000000 ≤ x ∧ x ≤ 1000000) ∧ (1 ≤ bk.length ∧ bk.length ≤ 10) ∧ fs.length ≤ 8 ∧ (bk.length ≤ ca ∧ ca ≤ maxLen) ∧ (fs.length ≤ cb ∧ cb ≤ maxLen) ∧ Hid (Tb w' w.heap.size w'.heap.size A B bk fs) ∧ Below w.heap.size w w'
/-- a drawn table and a key -/
def DrawTK (w : World) (e : Ending) (w' : World) : Prop :=
  ∃ A ca B cb bk fs s p, e = .returned (.tuple #[.agg #[.slice A bk.length ca, .slice B fs.length cb], .agg #[.int .i64 s, .int .i64 p]]) ∧ (1 ≤ bk.length ∧ bk.length ≤ 10) ∧ fs.length ≤ 8 ∧ (bk.length ≤ ca ∧ ca ≤ maxLen) ∧ (fs.length ≤ cb ∧ cb ≤ maxLen) ∧ Hid (Tb w' w.heap.size w'.heap.size A B bk fs) ∧ Below w.heap.size w w'
/-- two drawn numbers -/
def DrawI2 (w : World) (e : Ending) (w' : World) : Prop :=
  ∃ x y, e = .returned (.tuple #[.int .i64 x, .int .i64 y]) ∧ (-1000000 ≤ x ∧ x ≤ 1000000) ∧ (-1000000 ≤ y ∧ y ≤ 1000000) ∧ Below w.heap.size w w'
set_option maxHeartbeats 1000000 in
theorem spec_DrawKeysOf (ao : Option Addr) (len cap : Nat) (w : World) (h : CodeIn w ao len cap) : Calls Tryd.prog 24 #[.slice ao len cap] w (DrawT w) := by
  obtain ⟨hcode, hcl, hcm⟩ := h
  have HC := Lib.hid hcode
  clear hcode
  go_enter Tryd.func24, Tryd.ntmps24
  go_wp2_with (fail)
  have hcode := HC.out
  refine (rd_open _ _ _ _ (by (refine ⟨?_, by assumption, by assumption⟩; repeat' (first | (with_reducible assumption) | (with_reducible refine CodeAt.alloc ?_ _) | (with_reducible refine CodeAt.below ?_ (by with_reducible assumption)))))).mono ?_
  clear hcode
  rintro e w1 ⟨rb, rfl, hrb, hR1, hb1⟩
  simp only [World.size_alloc] at hrb
  obtain ⟨hc1_0, hf1_0, hz1_0⟩ := bel_at hb1 (w.heap.size) (by first | (simp; done) | (simp; omega))
  have r00 : w1.cell? ⟨w.heap.size, 0, none⟩ = some (.slice none 0 0) := by rw [hc1_0]; repeat' (first | exact newc (by simp) _ | rw [oldc (by simp)])
  have r01 : w1.cell? ⟨w.heap.size, 1, none⟩ = some (.slice none 0 0) := by rw [hc1_0]; repeat' (first | exact newc (by simp) _ | rw [oldc (by simp)])
  have r02 : w1.frozen? ⟨w.heap.size, 0, none⟩ = false := by rw [hf1_0]; exact Joins.unfrozen_of_block (by first | exact heap_new (by simp) | exact al_keep (heap_new (by simp))) 0
  have r03 : w1.frozen? ⟨w.heap.size, 1, none⟩ = false := by rw [hf1_0]; exact Joins.unfrozen_of_block (by first | exact heap_new (by simp) | exact al_keep (heap_new (by simp))) 1
  have hB1 : Below w.heap.size w w1 := by (repeat' (first | with_reducible exact Below.refl _ _ | (with_reducible refine balloc ?_ _) | (with_reducible refine bset ?_ ?_ _) | (with_reducible refine bdrew ?_) | (with_reducible refine bdrewN ?_ _) | (with_reducible refine bstep ?_ (by with_reducible assumption)) | (with_reducible refine bgrow ?_ (by with_reducible assumption) (by omega)) | (simp; done) | (simp; omega)))
  have HB1 := Lib.hid hB1
  clear hc1_0 hf1_0 hb1 hB1
  go_wp2_with (fail)
  refine (spec_l3Draw rb (0) _ (by (repeat' (first | (with_reducible assumption) | (with_reducible refine Rd.alloc ?_ _) | (with_reducible refine Rd.drewN ?_ _) | (with_reducible refine Rd.drew ?_) | (with_reducible refine Rd.setCell ?_ (by first | omega | (simp; omega)) _)))) (by omega)).mono ?_
  rintro e w2 ⟨A2, c2, B2, d2, bk2, fs2, rfl, ⟨n21, n22⟩, ⟨n23, n24⟩, n25, n26, HT2, hR2, hg2⟩
  obtain ⟨hc2_0, hf2_0, hz2_0⟩ := gb_at hg2 (w.heap.size) (by first | omega | (simp; done) | (simp; omega)) (by omega)
  have r00 := (hc2_0 0).trans r00
  have r01 := (hc2_0 1).trans r01
  have r02 := (hf2_0 0).trans r02
  have r03 := (hf2_0 1).trans r03
  have HB2 := Lib.hid (bgrow HB1.out hg2 (by omega))
  have hrb2 := hR2.lt
  have hs2 := HB2.out.size
  have hss2 := hg2.size
  clear hc2_0 hf2_0 
  go_wp2_with (fail)
  refine (spec_l3Wrong rb (0 + 60) _ _ _ _ _ _ bk2 fs2 _ (by (repeat' (first | (with_reducible assumption) | (with_reducible refine Rd.alloc ?_ _) | (with_reducible refine Rd.drewN ?_ _) | (with_reducible refine Rd.drew ?_) | (with_reducible refine Rd.setCell ?_ (by first | omega | (simp; omega)) _)))) (by omega) (HT2.out) (by omega) (by omega) (by omega)).mono ?_
  rintro e w3 ⟨A3, c3, B3, d3, bk3, fs3, rfl, ⟨n31, n32⟩, n33, n35, n36, HT3, hR3, hg3⟩
  obtain ⟨hc3_0, hf3_0, hz3_0⟩ := gb_at hg3 (w.heap.size) (by first | omega | (simp; done) | (simp; omega)) (by omega)
  have r00 := (hc3_0 0).trans r00
  have r01 := (hc3_0 1).trans r01
  have r02 := (hf3_0 0).trans r02
  have r03 := (hf3_0 1).trans r03
  have HB3 := Lib.hid (bgrow HB2.out hg3 (by omega))
  have hrb3 := hR3.lt
  have hs3 := HB3.out.size
  have hss3 := hg3.size
  clear hc3_0 hf3_0 
  go_wp2
  refine bodyPost_ret (v := .agg #[.slice A3 bk3.length c3, .slice B3 fs3.length d3]) (by simp [results, Tryd.results24, go_sem, *]) rfl ?_
  refine ⟨A3, c3, B3, d3, bk3, fs3, rfl, ⟨by omega, by omega⟩, by omega, n35, n36, Lib.hid ?_, bset (bset HB3.out (by simp) _) (by simp) _⟩
  exact Tb.more (lo := w2.heap.size) (hi := w3.heap.size) (by (repeat' (first | (with_reducible assumption) | (with_reducible exact Hid.out (by assumption)) | (with_reducible refine Tb.alloc ?_ _) | (with_reducible refine Tb.drewN ?_ _) | (with_reducible refine Tb.drew ?_) | (with_reducible refine Tb.set_ ?_ (by first | (left; (try simp) <;> omega) | (right; (try simp) <;> omega)) _) | (with_reducible refine Tb.below ?_ (by with_reducible assumption))))) (by omega) (by simp)
set_option maxHeartbeats 1000000 in
theorem spec_DrawTableValid (ao : Option Addr) (len cap : Nat) (w : World) (h : CodeIn w ao len cap) : Calls Tryd.prog 27 #[.slice ao len cap] w (DrawT w) := by
  obtain ⟨hcode, hcl, hcm⟩ := h
  have HC := Lib.hid hcode
  clear hcode
  go_enter Tryd.func27, Tryd.ntmps27
  go_wp2_with (fail)
  have hcode := HC.out
  refine (rd_open _ _ _ _ (by (refine ⟨?_, by assumption, by assumption⟩; repeat' (first | (with_reducible assumption) | (with_reducible refine CodeAt.alloc ?_ _) | (with_reducible refine CodeAt.below ?_ (by with_reducible assumption)))))).mono ?_
  clear hcode
  rintro e w1 ⟨rb, rfl, hrb, hR1, hb1⟩
  simp only [World.size_alloc] at hrb
  obtain ⟨hc1_0, hf1_0, hz1_0⟩ := bel_at hb1 (w.heap.size) (by first | (simp; done) | (simp; omega))
  have r00 : w1.cell? ⟨w.heap.size, 0, none⟩ = some (.slice none 0 0) := by rw [hc1_0]; repeat' (first | exact newc (by simp) _ | rw [oldc (by simp)])
  have r01 : w1.cell? ⟨w.heap.size, 1, none⟩ = some (.slice none 0 0) := by rw [hc1_0]; repeat' (first | exact newc (by simp) _ | rw [oldc (by simp)])
  have r02 : w1.frozen? ⟨w.heap.size, 0, none⟩ = false := by rw [hf1_0]; exact Joins.unfrozen_of_block (by first | exact heap_new (by simp) | exact al_keep (heap_new (by simp))) 0
  have r03 : w1.frozen? ⟨w.heap.size, 1, none⟩ = false := by rw [hf1_0]; exact Joins.unfrozen_of_block (by first | exact heap_new (by simp) | exact al_keep (heap_new (by simp))) 1
  have hB1 : Below w.heap.size w w1 := by (repeat' (first | with_reducible exact Below.refl _ _ | (with_reducible refine balloc ?_ _) | (with_reducible refine bset ?_ ?_ _) | (with_reducible refine bdrew ?_) | (with_reducible refine bdrewN ?_ _) | (with_reducible refine bstep ?_ (by with_reducible assumption)) | (with_reducible refine bgrow ?_ (by with_reducible assumption) (by omega)) | (simp; done) | (simp; omega)))
  have HB1 := Lib.hid hB1
  clear hc1_0 hf1_0 hb1 hB1
  go_wp2_with (fail)
  refine (spec_l3Draw rb (0) _ (by (repeat' (first | (with_reducible assumption) | (with_reducible refine Rd.alloc ?_ _) | (with_reducible refine Rd.drewN ?_ _) | (with_reducible refine Rd.drew ?_) | (with_reducible refine Rd.setCell ?_ (by first | omega | (simp; omega)) _)))) (by omega)).mono ?_
  rintro e w2 ⟨A2, c2, B2, d2, bk2, fs2, rfl, ⟨n21, n22⟩, ⟨n23, n24⟩, n25, n26, HT2, hR2, hg2⟩
  obtain ⟨hc2_0, hf2_0, hz2_0⟩ := gb_at hg2 (w.heap.size) (by first | omega | (simp; done) | (simp; omega)) (by omega)
  have r00 := (hc2_0 0).trans r00
  have r01 := (hc2_0 1).trans r01
  have r02 := (hf2_0 0).trans r02
  have r03 := (hf2_0 1).trans r03
  have HB2 := Lib.hid (bgrow HB1.out hg2 (by omega))
  have hrb2 := hR2.lt
  have hs2 := HB2.out.size
  have hss2 := hg2.size
  clear hc2_0 hf2_0 
  go_wp2_with (fail)
  refine (spec_l3Wrong rb (0 + 60) _ _ _ _ _ _ bk2 fs2 _ (by (repeat' (first | (with_reducible assumption) | (with_reducible refine Rd.alloc ?_ _) | (with_reducible refine Rd.drewN ?_ _) | (with_reducible refine Rd.drew ?_) | (with_reducible refine Rd.setCell ?_ (by first | omega | (simp; omega)) _)))) (by omega) (HT2.out) (by omega) (by omega) (by omega)).mono ?_
  rintro e w3 ⟨A3, c3, B3, d3, bk3, fs3, rfl, ⟨n31, n32⟩, n33, n35, n36, HT3, hR3, hg3⟩
  obtain ⟨hc3_0, hf3_0, hz3_0⟩ := gb_at hg3 (w.heap.size) (by first | omega | (simp; done) | (simp; omega)) (by omega)
  have r00 := (hc3_0 0).trans r00
  have r01 := (hc3_0 1).trans r01
  have r02 := (hf3_0 0).trans r02
  have r03 := (hf3_0 1).trans r03
  have HB3 := Lib.hid (bgrow HB2.out hg3 (by omega))
  have hrb3 := hR3.lt
  have hs3 := HB3.out.size
  have hss3 := hg3.size
  clear hc3_0 hf3_0 
  go_wp2_with (fail)
  refine (spec_l3Wrong rb (0 + 60 + 10) _ _ _ _ _ _ bk3 fs3 _ (by (repeat' (first | (with_reducible assumption) | (with_reducible refine Rd.alloc ?_ _) | (with_reducible refine Rd.drewN ?_ _) | (with_reducible refine Rd.drew ?_) | (with_reducible refine Rd.setCell ?_ (by first | omega | (simp; omega)) _)))) (by omega) (HT3.out) (by omega) (by omega) (by omega)).mono ?_
  rintro e w4 ⟨A4, c4, B4, d4, bk4, fs4, rfl, ⟨n41, n42⟩, n43, n45, n46, HT4, hR4, hg4⟩
  obtain ⟨hc4_0, hf4_0, hz4_0⟩ := gb_at hg4 (w.heap.size) (by first | omega | (simp; done) | (simp; omega)) (by omega)
  have r00 := (hc4_0 0).trans r00
  have r01 := (hc4_0 1).trans r01
  have r02 := (hf4_0 0).trans r02
  have r03 := (hf4_0 1).trans r03
  have HB4 := Lib.hid (bgrow HB3.out hg4 (by omega))
  have hrb4 := hR4.lt
  have hs4 := HB4.out.size
  have hss4 := hg4.size
  clear hc4_0 hf4_0 
  go_wp2
  refine bodyPost_ret (v := .agg #[.slice A4 bk4.length c4, .slice B4 fs4.length d4]) (by simp [results, Tryd.results27, go_sem, *]) rfl ?_
  refine ⟨A4, c4, B4, d4, bk4, fs4, rfl, ⟨by omega, by omega⟩, by omega, n45, n46, Lib.hid ?_, bset (bset HB4.out (by simp) _) (by simp) _⟩
  exact Tb.more (lo := w3.heap.size) (hi := w4.heap.size) (by (repeat' (first | (with_reducible assumption) | (with_reducible exact Hid.out (by assumption)) | (with_reducible refine Tb.alloc ?_ _) | (with_reducible refine Tb.drewN ?_ _) | (with_reducible refine Tb.drew ?_) | (with_reducible refine Tb.set_ ?_ (by first | (left; (try simp) <;> omega) | (right; (try simp) <;> omega)) _) | (with_reducible refine Tb.below ?_ (by with_reducible assumption))))) (by omega) (by simp)
set_option maxHeartbeats 1000000 in
theorem spec_DrawNewTable (ao : Option Addr) (len cap : Nat) (w : World) (h : CodeIn w ao len cap) : Calls Tryd.prog 10 #[.slice ao len cap] w (DrawI2 w) := by
  obtain ⟨hcode, hcl, hcm⟩ := h
  have HC := Lib.hid hcode
  clear hcode
  go_enter Tryd.func10, Tryd.ntmps10
  go_wp2_with (fail)
  have hcode := HC.out
  refine (rd_open _ _ _ _ (by (refine ⟨?_, by assumption, by assumption⟩; repeat' (first | (with_reducible assumption) | (with_reducible refine CodeAt.alloc ?_ _) | (with_reducible refine CodeAt.below ?_ (by with_reducible assumption)))))).mono ?_
  clear hcode
  rintro e w1 ⟨rb, rfl, hrb, hR1, hb1⟩
  have hB1 : Below w.heap.size w w1 := by (repeat' (first | with_reducible exact Below.refl _ _ | (with_reducible refine balloc ?_ _) | (with_reducible refine bset ?_ ?_ _) | (with_reducible refine bdrew ?_) | (with_reducible refine bdrewN ?_ _) | (with_reducible refine bstep ?_ (by with_reducible assumption)) | (with_reducible refine bgrow ?_ (by with_reducible assumption) (by omega)) | (simp; done) | (simp; omega)))
  have HB1 := Lib.hid hB1
  clear hb1 hB1
  go_wp2_with (fail)
  refine (rd_num rb (0) _ _ [4, 1, 16, 8, 0, 17] _ (by (repeat' (first | (with_reducible assumption) | (with_reducible refine Rd.alloc ?_ _) | (with_reducible refine Rd.drewN ?_ _) | (with_reducible refine Rd.drew ?_) | (with_reducible refine Rd.setCell ?_ (by first | omega | (simp; omega)) _)))) (by omega) rfl (by simp) (by decide) (by decide)).mono ?_
  rintro e w2 ⟨x2, rfl, hl2, hh2, _, hR2, hg2⟩
  have HB2 := Lib.hid (bgrow HB1.out hg2 (by omega))
  have hrb2 := hR2.lt
  have hs2 := HB2.out.size
  have hss2 := hg2.size
  go_wp2_with (fail)
  refine (rd_num rb (0 + 1) _ _ [4, 1, 16, 8, 0, 17] _ (by (repeat' (first | (with_reducible assumption) | (with_reducible refine Rd.alloc ?_ _) | (with_reducible refine Rd.drewN ?_ _) | (with_reducible refine Rd.drew ?_) | (with_reducible refine Rd.setCell ?_ (by first | omega | (simp; omega)) _)))) (by omega) rfl (by simp) (by decide) (by decide)).mono ?_
  rintro e w3 ⟨x3, rfl, hl3, hh3, _, hR3, hg3⟩
  have HB3 := Lib.hid (bgrow HB2.out hg3 (by omega))
  have hrb3 := hR3.lt
  have hs3 := HB3.out.size
  have hss3 := hg3.size
  go_wp2
  refine bodyPost_ret (v := .tuple #[.int .i64 x2, .int .i64 x3]) (by simp [results, Tryd.results10, go_sem, *]) rfl ?_
  exact ⟨x2, x3, rfl, ⟨hl2, hh2⟩, ⟨hl3, hh3⟩, HB3.out⟩
end Go.Proofs.YtjdoegekolbdpaaDoor
