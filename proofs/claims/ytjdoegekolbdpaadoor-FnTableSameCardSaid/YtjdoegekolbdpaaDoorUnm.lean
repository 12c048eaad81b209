/- The reference's UnmapPage: a table with as many frames and buckets comes back, or none. Asked: at most 1048576 frames and buckets. -/
import Derived.Test.YtjdoegekolbdpaaDoorDrT
import Derived.StillTailTactics
import Derived.Deep.Cut
namespace Go.Proofs.YtjdoegekolbdpaaDoor
set_option linter.unusedVariables false
open Go.ChangeShapes Go.WideShapes Go.ChangeAt Go.RowKit
theorem set_same {α : Type} (l : List α) (i : Nat) (a : α) (h : l[i]? = some a) : l.set i a = l := by
  apply List.ext_getElem?
  intro j
  rw [List.getElem?_set]
  split
  · rename_i e
    subst e
    split
    · exact h.symm
    · rename_i hl; rw [List.getElem?_eq_none (by omega)]
  · rfl
theorem fcells_nx (fs : List Fr) (j : Nat) (hj : j < fs.length) (x : Int) : (fcells fs).set (j * 5 + 4) (.int .i64 x) = fcells (fs.set j ⟨(fat fs j).u, (fat fs j).s, (fat fs j).p, (fat fs j).r, x⟩) := by
  obtain ⟨a0, a1, a2, a3, _⟩ := fcells_at fs j hj
  have := fcells_set fs ⟨(fat fs j).u, (fat fs j).s, (fat fs j).p, (fat fs j).r, x⟩ j
  simp only [] at this
  rw [set_same _ _ _ a0, set_same _ _ _ a1, set_same _ _ _ a2, set_same _ _ _ a3] at this
  exact this
theorem Tb.storeNx {w : World} {lo hi ga gb : Nat} {bk : List Int} {fs : List Fr} (h : Tb w lo hi (some ⟨ga, 0, none⟩) (some ⟨gb, 0, none⟩) bk fs) {j : Nat} (hj : j < fs.length) (x : Int) :
    ∃ fs', fs'.length = fs.length ∧ Tb (w.setCell ⟨gb, j * 5 + 4, none⟩ (.int .i64 x)) lo hi (some ⟨ga, 0, none⟩) (some ⟨gb, 0, none⟩) bk fs' := by
  have s1 := h.2.stored (by omega) (j * 5 + 4) (.int .i64 x)
  rw [fcells_nx fs j hj] at s1
  exact ⟨_, List.length_set .., (h.2.keepT (by omega) (j * 5 + 4) (.int .i64 x)) _ _ _ _ _ _ _ (by decide) h.1, by rw [List.length_set]; exact s1⟩
/-- a table of nb buckets and nf frames comes back -/
def TabRW (nb nf : Nat) (w : World) (e : Ending) (w' : World) : Prop :=
  ∃ A ca B cb bk fs, e = .returned (.agg #[.slice A nb ca, .slice B nf cb]) ∧ bk.length = nb ∧ fs.length = nf ∧ (nb ≤ ca ∧ ca ≤ maxLen) ∧ (nf ≤ cb ∧ cb ≤ maxLen) ∧ Hid (Tb w' w.heap.size w'.heap.size A B bk fs) ∧ Below w.heap.size w w'
theorem set5_keep0 (w : World) (gb j q : Nat) (u0 u1 u2 u3 u4 : Value) (h : q ≠ gb) : (((((w.setCell ⟨gb, j, none⟩ u0).setCell ⟨gb, j + 1, none⟩ u1).setCell ⟨gb, j + 2, none⟩ u2).setCell ⟨gb, j + 3, none⟩ u3).setCell ⟨gb, j + 4, none⟩ u4).heap[q]? = w.heap[q]? := by
  rw [Below.heap_setCell _ _ _ _ h, Below.heap_setCell _ _ _ _ h, Below.heap_setCell _ _ _ _ h, Below.heap_setCell _ _ _ _ h, Below.heap_setCell _ _ _ _ h]
set_option maxHeartbeats 2000000 in
set_option maxRecDepth 100000 in
theorem spec_l3Unmap (A B : Option Addr) (ca cb lo hi : Nat) (bk : List Int) (fs : List Fr) (i : Nat) (w : World) (h : Tb w lo hi A B bk fs) (htv : tvB bk fs = true) (hil : i < fs.length) (hu : (fat fs i).u = true) :
    Calls Tryd.prog 99 #[.agg #[.slice A bk.length ca, .slice B fs.length cb], .int .i64 (i : Int)] w (TabRW bk.length fs.length w) := by
  obtain ⟨⟨f1, f2⟩, d1, d2⟩ := dimB_iff.1 (tvB_iff.1 htv).1
  obtain ⟨hkv, _⟩ := frOk_key ((tvB_iff.1 htv).2.1 _ (fat_mem hil)) hu
  have H := Lib.hid h.top
  obtain ⟨ga0, gb0, rfl, rfl, _, _, _, _⟩ := h.addr (by omega) (by omega)
  clear h htv
  obtain ⟨g, ee, _, _, sz0, ⟨v0, v1, v2, v3, v4⟩, _⟩ := H.out.2.frame hil
  cases ee
  generalize fat fs i = f at *
  obtain ⟨u, s, p, r, nx⟩ := f
  simp only [] at hu hkv v0 v1 v2 v3 v4
  subst hu
  obtain ⟨hb1, hb2⟩ := @hix_lt (pg s p r) bk.length d1
  have HHash := Lib.hid (fun W' : World => spec_l2Hash s p bk.length W' hkv (by omega) (by omega))
  have e1 : hashN s p bk.length = ((hix (pg s p r) bk.length : Nat) : Int) := hb2.symm
  rw [e1] at HHash
  clear e1 hb2 hkv
  generalize hix (pg s p r) bk.length = b at *
  obtain ⟨g, ee, _, _, sz1, cb0, _⟩ := H.out.1.int hb1
  cases ee
  generalize bk.getD b 0 = x0 at *
  have i1 : (0 : Int) ≤ (b : Int) := by omega
  have i2 : (b : Int) < (bk.length : Int) := by omega
  have i3 : (0 : Int) ≤ (i : Int) := by omega
  have i4 : (i : Int) < (fs.length : Int) := by omega
  go_enter Tryd.func99, Tryd.ntmps99
  go_wp2_with (fail)
  refine (spec_l3Copy _ _ _ _ _ _ bk fs _ (H.out.below (by (repeat' (first | with_reducible exact Below.refl _ _ | (with_reducible refine balloc ?_ _) | (with_reducible refine bset ?_ ?_ _) | (with_reducible refine bdrew ?_) | (with_reducible refine bdrewN ?_ _) | (with_reducible refine bstep ?_ (by with_reducible assumption)) | (with_reducible refine bgrow ?_ (by with_reducible assumption) (by omega)) | (simp; done) | (simp; omega))))) (by omega) (by omega)).mono ?_
  rintro e w2 ⟨A2, c2, B2, e2, rfl, ⟨q1, q2⟩, ⟨q3, q4⟩, ht2, hb2'⟩
  have z2 := hb2'.size
  simp at z2
  have hB2 : Below w.heap.size w w2 := by (repeat' (first | with_reducible exact Below.refl _ _ | (with_reducible refine balloc ?_ _) | (with_reducible refine bset ?_ ?_ _) | (with_reducible refine bdrew ?_) | (with_reducible refine bdrewN ?_ _) | (with_reducible refine bstep ?_ (by with_reducible assumption)) | (with_reducible refine bgrow ?_ (by with_reducible assumption) (by omega)) | (simp; done) | (simp; omega)))
  obtain ⟨ga, gb, rfl, rfl, lo1, hi1, lo2, hi2⟩ := ht2.addr (show 0 < bk.length by omega) (show 0 < fs.length by omega)
  have hne := ht2.ne (show 0 < bk.length by omega) (show 0 < fs.length by omega)
  simp only [] at ht2
  have HT2 := Lib.hid (show Tb w2 (w.heap.size + 2) w2.heap.size (some ⟨ga, 0, none⟩) (some ⟨gb, 0, none⟩) bk fs from ht2.more (by simp) (Nat.le_refl _))
  simp at lo1 lo2
  have t0 : w2.cell? ⟨w.heap.size, 0, none⟩ = some (.slice (some ⟨ga0, 0, none⟩) bk.length ca) := by rw [hb2'.cell (p := ⟨w.heap.size, 0, none⟩) (by simp; omega), oldc (by simp), newc rfl]; rfl
  have t1 : w2.cell? ⟨w.heap.size, 1, none⟩ = some (.slice (some ⟨gb0, 0, none⟩) fs.length cb) := by rw [hb2'.cell (p := ⟨w.heap.size, 1, none⟩) (by simp; omega), oldc (by simp), newc rfl]; rfl
  have r0 : w2.cell? ⟨w.heap.size + 1, 0, none⟩ = some (.slice none 0 0) := by rw [hb2'.cell (p := ⟨w.heap.size + 1, 0, none⟩) (by simp), newc (by simp)]; rfl
  have r1 : w2.cell? ⟨w.heap.size + 1, 1, none⟩ = some (.slice none 0 0) := by rw [hb2'.cell (p := ⟨w.heap.size + 1, 1, none⟩) (by simp), newc (by simp)]; rfl
  have r2 : w2.frozen? ⟨w.heap.size + 1, 0, none⟩ = false := by rw [hb2'.frozen (p := ⟨w.heap.size + 1, 0, none⟩) (by simp)]; exact Joins.unfrozen_of_block (heap_new (by simp)) 0
  have r3 : w2.frozen? ⟨w.heap.size + 1, 1, none⟩ = false := by rw [hb2'.frozen (p := ⟨w.heap.size + 1, 1, none⟩) (by simp)]; exact Joins.unfrozen_of_block (heap_new (by simp)) 1
  have v1' := (hB2.cell (p := ⟨gb0, i * 5 + 1, none⟩) sz0).trans v1
  have v2' := (hB2.cell (p := ⟨gb0, i * 5 + 2, none⟩) sz0).trans v2
  have v4' := (hB2.cell (p := ⟨gb0, i * 5 + 4, none⟩) sz0).trans v4
  have cb2 := (hB2.cell (p := ⟨ga0, b, none⟩) sz1).trans cb0
  clear ht2 hb2' v0 v1 v2 v3 v4 cb0
  simp only []
  obtain ⟨g, ee, _, _, sz2, ⟨v0, v1, v2, v3, v4⟩, ff⟩ := HT2.out.2.frame hil
  cases ee
  have f0 := ff (i * 5)
  have f1 := ff (i * 5 + 1)
  have f2 := ff (i * 5 + 2)
  have f3 := ff (i * 5 + 3)
  have f4 := ff (i * 5 + 4)
  clear ff
  go_wp2_with (fail)
  go_region_held3 (fun W' => W'.cell? ⟨w.heap.size, 0, none⟩ = some (.slice (some ⟨ga0, 0, none⟩) bk.length ca) ∧ W'.cell? ⟨w.heap.size, 1, none⟩ = some (.slice (some ⟨gb0, 0, none⟩) fs.length cb) ∧ W'.cell? ⟨gb0, i * 5 + 1, none⟩ = some (.int .i64 s) ∧ W'.cell? ⟨gb0, i * 5 + 2, none⟩ = some (.int .i64 p)) (go_keep)
    (first | (go_at_call 60; refine (HHash.out _).mono ?_; rintro e w' ⟨rfl, rfl⟩))
  obtain ⟨w3, hw3⟩ : ∃ w3, ((w2.alloc (.cells #[.slice (some ⟨ga, 0, none⟩) bk.length c2, .slice (some ⟨gb, 0, none⟩) fs.length e2] 28)).alloc (.cells #[.int .i64 s, .int .i64 p] 44)).drew = w3 := ⟨_, rfl⟩
  rw [hw3]
  have hB : Below w2.heap.size w2 w3 := by subst hw3; (repeat' (first | with_reducible exact Below.refl _ _ | (with_reducible refine balloc ?_ _) | (with_reducible refine bset ?_ ?_ _) | (with_reducible refine bdrew ?_) | (with_reducible refine bdrewN ?_ _) | (with_reducible refine bstep ?_ (by with_reducible assumption)) | (with_reducible refine bgrow ?_ (by with_reducible assumption) (by omega)) | (simp; done) | (simp; omega)))
  have o0 : w3.cell? ⟨w2.heap.size, 0, none⟩ = some (.slice (some ⟨ga, 0, none⟩) bk.length c2) := by subst hw3; rw [cell_drew, oldc (by simp), newc rfl]; rfl
  have o1 : w3.cell? ⟨w2.heap.size, 1, none⟩ = some (.slice (some ⟨gb, 0, none⟩) fs.length e2) := by subst hw3; rw [cell_drew, oldc (by simp), newc rfl]; rfl
  have t0 := (hB.cell (p := ⟨w.heap.size, 0, none⟩) (by first | assumption | (simp; omega))).trans t0
  have t1 := (hB.cell (p := ⟨w.heap.size, 1, none⟩) (by first | assumption | (simp; omega))).trans t1
  have r0 := (hB.cell (p := ⟨w.heap.size + 1, 0, none⟩) (by first | assumption | (simp; omega))).trans r0
  have r1 := (hB.cell (p := ⟨w.heap.size + 1, 1, none⟩) (by first | assumption | (simp; omega))).trans r1
  have r2 := (hB.frozen (p := ⟨w.heap.size + 1, 0, none⟩) (by simp; omega)).trans r2
  have r3 := (hB.frozen (p := ⟨w.heap.size + 1, 1, none⟩) (by simp; omega)).trans r3
  have v4n := (hB.cell (p := ⟨gb0, i * 5 + 4, none⟩) (by first | assumption | (simp; omega))).trans v4'
  have cb2 := (hB.cell (p := ⟨ga0, b, none⟩) (by first | assumption | (simp; omega))).trans cb2
  have y0 := (hB.cell (p := ⟨gb, i * 5, none⟩) sz2).trans v0
  have y1 := (hB.cell (p := ⟨gb, i * 5 + 1, none⟩) sz2).trans v1
  have y2 := (hB.cell (p := ⟨gb, i * 5 + 2, none⟩) sz2).trans v2
  have y3 := (hB.cell (p := ⟨gb, i * 5 + 3, none⟩) sz2).trans v3
  have y4 := (hB.cell (p := ⟨gb, i * 5 + 4, none⟩) sz2).trans v4
  have z0 := (hB.frozen (p := ⟨gb, i * 5, none⟩) sz2).trans f0
  have z1 := (hB.frozen (p := ⟨gb, i * 5 + 1, none⟩) sz2).trans f1
  have z2' := (hB.frozen (p := ⟨gb, i * 5 + 2, none⟩) sz2).trans f2
  have z3 := (hB.frozen (p := ⟨gb, i * 5 + 3, none⟩) sz2).trans f3
  have z4 := (hB.frozen (p := ⟨gb, i * 5 + 4, none⟩) sz2).trans f4
  have n1 : ¬ w2.heap.size = gb := by omega
  have n2 : ¬ gb = w2.heap.size := by omega
  have n3 : ¬ gb = ga := fun e => hne e.symm
  have n4 : ¬ ga = gb := hne
  have n5 : ¬ gb = w.heap.size := by omega
  have n6 : ¬ w.heap.size = gb := by omega
  have n7 : ¬ gb = ga0 := by omega
  have n8 : ¬ ga0 = gb := by omega
  have HBB := Lib.hid hB
  have zz := hB.size
  clear hw3 hB v0 v1 v2 v3 v4 f0 f1 f2 f3 f4 v1' v2' v4'
  generalize (fat fs i).u = u0 at *
  generalize (fat fs i).s = u1 at *
  generalize (fat fs i).p = u2 at *
  generalize (fat fs i).r = u3 at *
  generalize (fat fs i).nx = u4 at *
  have n9 : ¬ w.heap.size + 1 = gb := by omega
  go_upto_if 38 with (fail)
  have hT5 : Tb (((((w3.setCell ⟨gb, i * 5, none⟩ (.bool false)).setCell ⟨gb, i * 5 + 1, none⟩ (.int .i64 0)).setCell ⟨gb, i * 5 + 2, none⟩ (.int .i64 0)).setCell ⟨gb, i * 5 + 3, none⟩ (.int .i64 0)).setCell ⟨gb, i * 5 + 4, none⟩ (.int .i64 (-1))) (w.heap.size + 2) w2.heap.size (some ⟨ga, 0, none⟩) (some ⟨gb, 0, none⟩) bk (fs.set i ⟨false, 0, 0, 0, -1⟩) := (HT2.out.below HBB.out).store (by omega) i ⟨false, 0, 0, 0, -1⟩
  have hk5 : ∀ q, q ≠ gb → ((((((w3.setCell ⟨gb, i * 5, none⟩ (.bool false)).setCell ⟨gb, i * 5 + 1, none⟩ (.int .i64 0)).setCell ⟨gb, i * 5 + 2, none⟩ (.int .i64 0)).setCell ⟨gb, i * 5 + 3, none⟩ (.int .i64 0)).setCell ⟨gb, i * 5 + 4, none⟩ (.int .i64 (-1)))).heap[q]? = w3.heap[q]? := fun q hq => set5_keep0 w3 gb (i * 5) q _ _ _ _ _ hq
  have hb5 : Below w.heap.size w (((((w3.setCell ⟨gb, i * 5, none⟩ (.bool false)).setCell ⟨gb, i * 5 + 1, none⟩ (.int .i64 0)).setCell ⟨gb, i * 5 + 2, none⟩ (.int .i64 0)).setCell ⟨gb, i * 5 + 3, none⟩ (.int .i64 0)).setCell ⟨gb, i * 5 + 4, none⟩ (.int .i64 (-1))) := bset (bset (bset (bset (bset (bstep hB2 HBB.out) (by simp; omega) _) (by simp; omega) _) (by simp; omega) _) (by simp; omega) _) (by simp; omega) _
  have hz5 : ((((((w3.setCell ⟨gb, i * 5, none⟩ (.bool false)).setCell ⟨gb, i * 5 + 1, none⟩ (.int .i64 0)).setCell ⟨gb, i * 5 + 2, none⟩ (.int .i64 0)).setCell ⟨gb, i * 5 + 3, none⟩ (.int .i64 0)).setCell ⟨gb, i * 5 + 4, none⟩ (.int .i64 (-1)))).heap.size = w3.heap.size := by simp
  generalize (((((w3.setCell ⟨gb, i * 5, none⟩ (.bool false)).setCell ⟨gb, i * 5 + 1, none⟩ (.int .i64 0)).setCell ⟨gb, i * 5 + 2, none⟩ (.int .i64 0)).setCell ⟨gb, i * 5 + 3, none⟩ (.int .i64 0)).setCell ⟨gb, i * 5 + 4, none⟩ (.int .i64 (-1))) = w5 at *
  have t0 := (World.cell?_of_block (a := ⟨w.heap.size, 0, none⟩) (hk5 _ n6)).trans t0
  have t1 := (World.cell?_of_block (a := ⟨w.heap.size, 1, none⟩) (hk5 _ n6)).trans t1
  have o0 := (World.cell?_of_block (a := ⟨w2.heap.size, 0, none⟩) (hk5 _ n1)).trans o0
  have o1 := (World.cell?_of_block (a := ⟨w2.heap.size, 1, none⟩) (hk5 _ n1)).trans o1
  have r0 := (World.cell?_of_block (a := ⟨w.heap.size + 1, 0, none⟩) (hk5 _ n9)).trans r0
  have r1 := (World.cell?_of_block (a := ⟨w.heap.size + 1, 1, none⟩) (hk5 _ n9)).trans r1
  have r2 := (World.frozen?_of_block (a := ⟨w.heap.size + 1, 0, none⟩) (hk5 _ n9)).trans r2
  have r3 := (World.frozen?_of_block (a := ⟨w.heap.size + 1, 1, none⟩) (hk5 _ n9)).trans r3
  have hs5 : w2.heap.size < w5.heap.size := World.block_lt_of_cell? w5 _ o0
  have hs6 : w.heap.size + 1 < w5.heap.size := World.block_lt_of_cell? w5 _ r0
  have HT5 := Lib.hid hT5
  have HB5 := Lib.hid hb5
  have hl5 : (fs.set i (⟨false, 0, 0, 0, -1⟩ : Fr)).length = fs.length := List.length_set ..
  generalize fs.set i (⟨false, 0, 0, 0, -1⟩ : Fr) = fs5 at *
  have HL5 := Lib.hid hl5
  clear hT5 hb5 hk5 y0 y1 y2 y3 y4 z0 z1 z2' z3 z4 HT2 HBB cb2 v4n hl5
  by_cases hx : x0 = i
  · have hx' : (x0 == (i : Int)) = true := by simpa using hx
    obtain ⟨g, ee, _, _, sz5, cb5, fb5⟩ := HT5.out.1.int hb1
    cases ee
    clear hx
    go_wp2
    refine bodyPost_ret (v := .agg #[.slice (some ⟨ga, 0, none⟩) bk.length c2, .slice (some ⟨gb, 0, none⟩) fs.length e2]) (by simp [results, Tryd.results99, go_sem, *]) rfl ?_
    have hT9 := (((HT5.out.storeB (by omega) b nx).set_ (p := ⟨w.heap.size + 1, 0, none⟩) (.inr (by simp)) (.slice (some ⟨ga, 0, none⟩) bk.length c2)).set_ (p := ⟨w.heap.size + 1, 1, none⟩) (.inr (by simp)) (.slice (some ⟨gb, 0, none⟩) fs.length e2)).top.more (lo' := w.heap.size) (by omega) (Nat.le_refl _)
    exact ⟨some ⟨ga, 0, none⟩, c2, some ⟨gb, 0, none⟩, e2, _, _, rfl, List.length_set .., HL5.out, ⟨q1, q2⟩, ⟨q3, q4⟩, hT9, bset (bset (bset HB5.out (by simp; omega) _) (by simp) _) (by simp) _⟩
  · have hx' : (x0 == (i : Int)) = false := by simpa using hx
    clear hx
    go_wp2
    go_loopw [8] (fun i wr => ∃ (j : Nat) (fs' : List Fr), j ≤ fs.length ∧ i = .int .i64 j ∧ fs'.length = fs.length ∧ Tb wr (w.heap.size + 2) w2.heap.size (some ⟨ga, 0, none⟩) (some ⟨gb, 0, none⟩) bk fs' ∧ Only (w.heap.size + 2) w2.heap.size w5 wr) (fun i _ => fs.length - (intOf i).toNat)
    case atStart => exact ⟨0, fs5, by omega, rfl, HL5.out, HT5.out, Only.refl _ _ _⟩
    case round =>
      obtain ⟨j, fs', hj, rfl, hl', hT, ho⟩ := hrel
      obtain ⟨ct, ft, zt⟩ := only_at ho w.heap.size (by omega) (.inl (by omega))
      obtain ⟨cr, fr, zr⟩ := only_at ho (w.heap.size + 1) (by omega) (.inl (by omega))
      obtain ⟨co, fo, zo⟩ := only_at ho w2.heap.size (by omega) (.inr (Nat.le_refl _))
      have t0 := (ct 0).trans t0
      have t1 := (ct 1).trans t1
      have o0 := (co 0).trans o0
      have o1 := (co 1).trans o1
      have r0 := (cr 0).trans r0
      have r1 := (cr 1).trans r1
      have r2 := (fr 0).trans r2
      have r3 := (fr 1).trans r3
      have hbw : Below w.heap.size w wr := bonly HB5.out ho (by omega) HB5.out.size
      have HT := Lib.hid hT
      have HO := Lib.hid ho
      have HL' := Lib.hid hl'
      clear ct ft cr fr co fo hT ho hl'
      by_cases hlt : j < fs.length
      · obtain ⟨g, ee, _, _, szj, ⟨v0, v1, v2, v3, v4⟩, _⟩ := (H.out.2.belowB hbw (Nat.le_refl _)).frame hlt
        cases ee
        generalize fat fs j = fj at *
        obtain ⟨uj, sj, pj, rj, nj⟩ := fj
        simp only [] at v0 v4
        have i5 : (0 : Int) ≤ (j : Int) := by omega
        have i6 : (j : Int) < (fs.length : Int) := by omega
        clear v1 v2 v3
        rcases uj with _ | _
        · go_wp2
          go_roundw
          case rel => exact ⟨j + 1, fs', by omega, by go_num, HL'.out, HT.out, HO.out⟩
          case measure => simp [intOf]; omega
        · by_cases hn : nj = i
          · have hn' : (nj == (i : Int)) = true := by simpa using hn
            obtain ⟨g, ee, lo9, hi9, sz9, ⟨_, _, _, _, x4⟩, ff⟩ := HT.out.2.frame (show j < fs'.length by rw [HL'.out]; exact hlt)
            cases ee
            have x5 := ff (j * 5 + 4)
            obtain ⟨fs2, hl2, hT2⟩ := HT.out.storeNx (show j < fs'.length by rw [HL'.out]; exact hlt) nx
            rw [HL'.out] at hl2
            have R := Lib.hid (And.intro hl2 (And.intro hT2 (HO.out.setCell (p := ⟨gb, j * 5 + 4, none⟩) lo9 hi9 (.int .i64 nx))))
            generalize (fat fs' j).nx = z9 at *
            clear hn ff hl2 hT2
            go_wp2
            go_roundw
            case rel => exact ⟨j + 1, fs2, by omega, by go_num, R.out.1, R.out.2.1, R.out.2.2⟩
            case measure => simp [intOf]; omega
          · have hn' : (nj == (i : Int)) = false := by simpa using hn
            clear hn
            go_wp2
            go_roundw
            case rel => exact ⟨j + 1, fs', by omega, by go_num, HL'.out, HT.out, HO.out⟩
            case measure => simp [intOf]; omega
      · obtain rfl : j = fs.length := by omega
        go_wp2
        refine bodyPost_ret (v := .agg #[.slice (some ⟨ga, 0, none⟩) bk.length c2, .slice (some ⟨gb, 0, none⟩) fs.length e2]) (by simp [results, Tryd.results99, go_sem, *]) rfl ?_
        have hT9 := ((HT.out.set_ (p := ⟨w.heap.size + 1, 0, none⟩) (.inr (by simp)) (.slice (some ⟨ga, 0, none⟩) bk.length c2)).set_ (p := ⟨w.heap.size + 1, 1, none⟩) (.inr (by simp)) (.slice (some ⟨gb, 0, none⟩) fs.length e2)).top.more (lo' := w.heap.size) (by omega) (Nat.le_refl _)
        exact ⟨some ⟨ga, 0, none⟩, c2, some ⟨gb, 0, none⟩, e2, bk, fs', rfl, rfl, HL'.out, ⟨q1, q2⟩, ⟨q3, q4⟩, hT9, bset (bset hbw (by simp) _) (by simp) _⟩
set_option maxHeartbeats 1000000 in
theorem spec_UnmapPage (A B : Option Addr) (ca cb lo hi : Nat) (bk : List Int) (fs : List Fr) (s p : Int) (w : World) (h : Tb w lo hi A B bk fs) (hn : bk.length ≤ 1048576) (hn2 : fs.length ≤ 1048576) :
    Calls Tryd.prog 77 #[.agg #[.slice A bk.length ca, .slice B fs.length cb], .agg #[.int .i64 s, .int .i64 p]] w (TabW bk.length fs.length w) := by
  have H := Lib.hid h.top
  have FP := Lib.hid (fun (w' : World) (hb : Below w.heap.size w w') => spec_FindPage A B ca cb lo w.heap.size bk fs s p w' (H.out.below hb) hn hn2)
  have FIN := Lib.hid (fun (w' : World) (hb : Below w.heap.size w w') => @TabW.none_ bk.length fs.length w w' hb)
  clear h
  rcases hok : fpOk bk fs s p with _ | _
  · rw [hok] at FP
    generalize fpF bk fs s p = r1 at *
    generalize fpS bk fs s p = r2 at *
    clear hok
    go_enter Tryd.func77, Tryd.ntmps77
    go_wp2_with (fail)
    refine (FP.out _ (by (repeat' (first | with_reducible exact Below.refl _ _ | (with_reducible refine balloc ?_ _) | (with_reducible refine bset ?_ ?_ _) | (with_reducible refine bdrew ?_) | (with_reducible refine bdrewN ?_ _) | (with_reducible refine bstep ?_ (by with_reducible assumption)) | (with_reducible refine bgrow ?_ (by with_reducible assumption) (by omega)) | (simp; done) | (simp; omega))))).mono ?_
    rintro e w1 ⟨rfl, hb1⟩
    obtain ⟨hc1_0, hf1_0, hz1_0⟩ := bel_at hb1 (w.heap.size) (by first | omega | (simp; done) | (simp; omega))
    obtain ⟨hc1_1, hf1_1, hz1_1⟩ := bel_at hb1 (w.heap.size + 1) (by first | omega | (simp; done) | (simp; omega))
    obtain ⟨hc1_2, hf1_2, hz1_2⟩ := bel_at hb1 (w.heap.size + 1 + 1) (by first | omega | (simp; done) | (simp; omega))
    go_wp2
    refine bodyPost_ret (v := .tuple #[.agg #[.slice none 0 0, .slice none 0 0], .bool false]) (by simp [results, Tryd.results77, go_sem, *]) rfl ?_
    exact FIN.out _ (by (repeat' (first | with_reducible exact Below.refl _ _ | (with_reducible refine balloc ?_ _) | (with_reducible refine bset ?_ ?_ _) | (with_reducible refine bdrew ?_) | (with_reducible refine bdrewN ?_ _) | (with_reducible refine bstep ?_ (by with_reducible assumption)) | (with_reducible refine bgrow ?_ (by with_reducible assumption) (by omega)) | (simp; done) | (simp; omega))))
  · have hk : tvB bk fs = true ∧ kpos fs s p (kch bk fs s p) < (kch bk fs s p).length := by
      have := hok
      unfold fpOk at this
      simp only [Bool.and_eq_true, decide_eq_true_eq] at this
      exact ⟨this.1.1, this.2⟩
    obtain ⟨htv, hpos⟩ := hk
    have hmem : (kch bk fs s p).getD (kpos fs s p (kch bk fs s p)) 0 ∈ kch bk fs s p := by
      rw [List.getD_eq_getElem?_getD, List.getElem?_eq_getElem hpos]; exact List.getElem_mem hpos
    obtain ⟨hi1, hi2⟩ := chL_mem htv hmem
    have e1 : fpF bk fs s p = (((kch bk fs s p).getD (kpos fs s p (kch bk fs s p)) 0 : Nat) : Int) := by unfold fpF; rw [if_pos hok]
    rw [hok, e1] at FP
    generalize (kch bk fs s p).getD (kpos fs s p (kch bk fs s p)) 0 = i at *
    generalize fpS bk fs s p = r2 at *
    have UM := Lib.hid (fun (w' : World) (hb : Below w.heap.size w w') => spec_l3Unmap A B ca cb lo w.heap.size bk fs i w' (H.out.below hb) htv hi1 hi2)
    clear hok htv hpos hmem e1 hi1 hi2
    go_enter Tryd.func77, Tryd.ntmps77
    go_wp2_with (fail)
    refine (FP.out _ (by (repeat' (first | with_reducible exact Below.refl _ _ | (with_reducible refine balloc ?_ _) | (with_reducible refine bset ?_ ?_ _) | (with_reducible refine bdrew ?_) | (with_reducible refine bdrewN ?_ _) | (with_reducible refine bstep ?_ (by with_reducible assumption)) | (with_reducible refine bgrow ?_ (by with_reducible assumption) (by omega)) | (simp; done) | (simp; omega))))).mono ?_
    rintro e w1 ⟨rfl, hb1⟩
    obtain ⟨hc1_0, hf1_0, hz1_0⟩ := bel_at hb1 (w.heap.size) (by first | omega | (simp; done) | (simp; omega))
    obtain ⟨hc1_1, hf1_1, hz1_1⟩ := bel_at hb1 (w.heap.size + 1) (by first | omega | (simp; done) | (simp; omega))
    obtain ⟨hc1_2, hf1_2, hz1_2⟩ := bel_at hb1 (w.heap.size + 1 + 1) (by first | omega | (simp; done) | (simp; omega))
    have hB1 : Below w.heap.size w w1 := by (repeat' (first | with_reducible exact Below.refl _ _ | (with_reducible refine balloc ?_ _) | (with_reducible refine bset ?_ ?_ _) | (with_reducible refine bdrew ?_) | (with_reducible refine bdrewN ?_ _) | (with_reducible refine bstep ?_ (by with_reducible assumption)) | (with_reducible refine bgrow ?_ (by with_reducible assumption) (by omega)) | (simp; done) | (simp; omega)))
    go_wp2_with (fail)
    refine (UM.out _ hB1).mono ?_
    rintro e w4 ⟨A4, c4, B4, d4, tb, tf, rfl, ll1, ll2, ⟨p4, q4⟩, ⟨p5, q5⟩, ht4, hb4⟩
    obtain ⟨hc4_0, hf4_0, hz4_0⟩ := bel_at hb4 (w.heap.size) (by first | omega | (simp; done) | (simp; omega))
    obtain ⟨hc4_1, hf4_1, hz4_1⟩ := bel_at hb4 (w.heap.size + 1) (by first | omega | (simp; done) | (simp; omega))
    obtain ⟨hc4_2, hf4_2, hz4_2⟩ := bel_at hb4 (w.heap.size + 1 + 1) (by first | omega | (simp; done) | (simp; omega))
    have z4 := hb1.size
    simp at z4
    have R := Lib.hid ((ht4.out.set_ (p := ⟨w.heap.size + 1 + 1, 0, none⟩) (.inr (by simp; omega)) (.slice A4 bk.length c4)).set_ (p := ⟨w.heap.size + 1 + 1, 1, none⟩) (.inr (by simp; omega)) (.slice B4 fs.length d4))
    have hB4 := bstep hB1 hb4
    have r0 : w4.cell? ⟨w.heap.size + 1 + 1, 0, none⟩ = some (.slice none 0 0) := by rw [hc4_2, hc1_2, newc (by simp)]; rfl
    have r1 : w4.cell? ⟨w.heap.size + 1 + 1, 1, none⟩ = some (.slice none 0 0) := by rw [hc4_2, hc1_2, newc (by simp)]; rfl
    have r2' : w4.frozen? ⟨w.heap.size + 1 + 1, 0, none⟩ = false := by rw [hf4_2, hf1_2]; exact Joins.unfrozen_of_block (heap_new (by simp)) 0
    have r3 : w4.frozen? ⟨w.heap.size + 1 + 1, 1, none⟩ = false := by rw [hf4_2, hf1_2]; exact Joins.unfrozen_of_block (heap_new (by simp)) 1
    clear ht4 hb4 hb1 hc1_0 hc1_1 hc1_2 hc4_0 hc4_1 hc4_2 hf4_2 hf1_2
    go_wp2
    refine bodyPost_ret (v := .tuple #[.agg #[.slice A4 bk.length c4, .slice B4 fs.length d4], .bool true]) (by simp [results, Tryd.results77, go_sem, *]) rfl ?_
    exact .inr ⟨A4, c4, B4, d4, tb, tf, rfl, ll1, ll2, ⟨p4, q4⟩, ⟨p5, q5⟩, R.out.top.more (by omega) (Nat.le_refl _), bset (bset hB4 (by simp; omega) _) (by simp; omega) _⟩
end Go.Proofs.YtjdoegekolbdpaaDoor
