/- The reference's l3Map puts a page in a frame of a copy of a table. Asked: a valid key, 1 to 16 buckets, a frame of the table. -/
import Derived.Test.YtjdoegekolbdpaaDoorCopy
namespace Go.Proofs.YtjdoegekolbdpaaDoor
set_option linter.unusedVariables false
open Go.ChangeShapes Go.WideShapes Go.ChangeAt Go.RowKit
theorem set5_keep (w : World) (gb j q : Nat) (u0 u1 u2 u3 u4 : Value) (h : q ≠ gb) : ((((((w.setCell ⟨gb, j, none⟩ u0).setCell ⟨gb, j + 1, none⟩ u1).setCell ⟨gb, j + 2, none⟩ u2).setCell ⟨gb, j + 3, none⟩ u3).setCell ⟨gb, j + 4, none⟩ u4).drew).heap[q]? = w.heap[q]? := by
  have e : ∀ W : World, W.drew.heap = W.heap := fun _ => rfl
  rw [e]
  rw [Below.heap_setCell _ _ _ _ h, Below.heap_setCell _ _ _ _ h, Below.heap_setCell _ _ _ _ h, Below.heap_setCell _ _ _ _ h, Below.heap_setCell _ _ _ _ h]
set_option maxHeartbeats 1000000 in
set_option maxRecDepth 100000 in
theorem spec_l3Map (A B : Option Addr) (ca cb lo hi : Nat) (bk : List Int) (fs : List Fr) (s p : Int) (i : Nat) (r : Int) (w : World) (h : Tb w lo hi A B bk fs) (hil : i < fs.length) (hk : kvB s p = true) (d1 : 1 ≤ bk.length) (d2 : bk.length ≤ 16) (hn2 : fs.length ≤ 1048576) :
    Calls Tryd.prog 97 #[.agg #[.slice A bk.length ca, .slice B fs.length cb], .agg #[.int .i64 s, .int .i64 p], .int .i64 (i : Int), .int .i64 r] w (TabR (lnk (bk, fs) (pg s p r) i) w) := by
  obtain ⟨hb1, hb2⟩ := @hix_lt (pg s p r) bk.length d1
  have HHash := Lib.hid (fun W' : World => spec_l2Hash s p bk.length W' hk (by omega) (by omega))
  have e0 : lnk (bk, fs) (pg s p r) i = (bk.set (hix (pg s p r) bk.length) (i : Int), fs.set i ⟨true, s, p, r, bk.getD (hix (pg s p r) bk.length) 0⟩) := rfl
  rw [e0]
  have e1 : hashN s p bk.length = ((hix (pg s p r) bk.length : Nat) : Int) := hb2.symm
  rw [e1] at HHash
  clear e0 e1 hb2 hk
  generalize hix (pg s p r) bk.length = b at *
  have H := Lib.hid h
  clear h
  have i1 : (0 : Int) ≤ (b : Int) := by omega
  have i2 : (b : Int) < (bk.length : Int) := by omega
  have i3 : (0 : Int) ≤ (i : Int) := by omega
  have i4 : (i : Int) < (fs.length : Int) := by omega
  go_enter Tryd.func97, Tryd.ntmps97
  go_wp2_with (fail)
  refine (spec_l3Copy _ _ _ _ _ _ bk fs _ (H.out.below (by (repeat' (first | with_reducible exact Below.refl _ _ | (with_reducible refine balloc ?_ _) | (with_reducible refine bset ?_ ?_ _) | (with_reducible refine bdrew ?_) | (with_reducible refine bdrewN ?_ _) | (with_reducible refine bstep ?_ (by with_reducible assumption)) | (with_reducible refine bgrow ?_ (by with_reducible assumption) (by omega)) | (simp; done) | (simp; omega))))) (by omega) hn2).mono ?_
  rintro e w2 ⟨A2, c2, B2, e2, rfl, ⟨q1, q2⟩, ⟨q3, q4⟩, ht2, hb2⟩
  obtain ⟨hc2_0, hf2_0, hz2_0⟩ := bel_at hb2 (w.heap.size) (by first | omega | (simp; done) | (simp; omega))
  obtain ⟨hc2_1, hf2_1, hz2_1⟩ := bel_at hb2 (w.heap.size + 1) (by first | omega | (simp; done) | (simp; omega))
  obtain ⟨hc2_2, hf2_2, hz2_2⟩ := bel_at hb2 (w.heap.size + 1 + 1) (by first | omega | (simp; done) | (simp; omega))
  have hB2 : Below w.heap.size w w2 := by (repeat' (first | with_reducible exact Below.refl _ _ | (with_reducible refine balloc ?_ _) | (with_reducible refine bset ?_ ?_ _) | (with_reducible refine bdrew ?_) | (with_reducible refine bdrewN ?_ _) | (with_reducible refine bstep ?_ (by with_reducible assumption)) | (with_reducible refine bgrow ?_ (by with_reducible assumption) (by omega)) | (simp; done) | (simp; omega)))
  have z2 := hb2.size
  simp at z2
  obtain ⟨ga, gb, rfl, rfl, lo1, hi1, lo2, hi2⟩ := ht2.addr (show 0 < bk.length by omega) (show 0 < fs.length by omega)
  have hne := ht2.ne (show 0 < bk.length by omega) (show 0 < fs.length by omega)
  simp only [] at ht2
  have HT2 := Lib.hid (show Tb w2 (w.heap.size + 3) w2.heap.size (some ⟨ga, 0, none⟩) (some ⟨gb, 0, none⟩) bk fs from ht2.more (by simp) (Nat.le_refl _))
  simp at lo1 lo2
  clear ht2 hb2
  simp only []
  obtain ⟨g, ee, _, _, sz1, cb0, fb0⟩ := HT2.out.1.int hb1
  cases ee
  obtain ⟨g, ee, _, _, sz2, ⟨v0, v1, v2, v3, v4⟩, ff⟩ := HT2.out.2.frame hil
  cases ee
  have f0 := ff (i * 5)
  have f1 := ff (i * 5 + 1)
  have f2 := ff (i * 5 + 2)
  have f3 := ff (i * 5 + 3)
  have f4 := ff (i * 5 + 4)
  clear ff
  generalize bk.getD b 0 = x0 at *
  generalize fat fs i = f at *
  obtain ⟨u, s', p', r', nx⟩ := f
  simp only [] at v0 v1 v2 v3 v4
  have k0 : w2.cell? ⟨w.heap.size + 1, 0, none⟩ = some (.int .i64 s) := by rw [hc2_1, oldc (by simp), newc (by simp)]; rfl
  have k1 : w2.cell? ⟨w.heap.size + 1, 1, none⟩ = some (.int .i64 p) := by rw [hc2_1, oldc (by simp), newc (by simp)]; rfl
  have r0 : w2.cell? ⟨w.heap.size + 1 + 1, 0, none⟩ = some (.slice none 0 0) := by rw [hc2_2, newc (by simp)]; rfl
  have r1 : w2.cell? ⟨w.heap.size + 1 + 1, 1, none⟩ = some (.slice none 0 0) := by rw [hc2_2, newc (by simp)]; rfl
  have r2 : w2.frozen? ⟨w.heap.size + 1 + 1, 0, none⟩ = false := by rw [hf2_2]; exact Joins.unfrozen_of_block (heap_new (by simp)) 0
  have r3 : w2.frozen? ⟨w.heap.size + 1 + 1, 1, none⟩ = false := by rw [hf2_2]; exact Joins.unfrozen_of_block (heap_new (by simp)) 1
  have u0 : w2.cell? ⟨w.heap.size, 0, none⟩ = some (.slice A bk.length ca) := by rw [hc2_0, oldc (by simp; omega), oldc (by simp), newc rfl]; rfl
  clear hc2_0 hc2_1 hc2_2 hf2_0 hf2_1 hf2_2
  go_wp2_with (fail)
  refine (HHash.out _).mono ?_
  rintro e w3 ⟨rfl, hw3⟩
  have hB : Below w2.heap.size w2 w3 := by subst hw3; (repeat' (first | with_reducible exact Below.refl _ _ | (with_reducible refine balloc ?_ _) | (with_reducible refine bset ?_ ?_ _) | (with_reducible refine bdrew ?_) | (with_reducible refine bdrewN ?_ _) | (with_reducible refine bstep ?_ (by with_reducible assumption)) | (with_reducible refine bgrow ?_ (by with_reducible assumption) (by omega)) | (simp; done) | (simp; omega)))
  have t0 : w3.cell? ⟨w2.heap.size, 0, none⟩ = some (.slice (some ⟨ga, 0, none⟩) bk.length c2) := by subst hw3; rw [oldc (by simp), newc rfl]; rfl
  have t1 : w3.cell? ⟨w2.heap.size, 1, none⟩ = some (.slice (some ⟨gb, 0, none⟩) fs.length e2) := by subst hw3; rw [oldc (by simp), newc rfl]; rfl
  have k0 := (hB.cell (p := ⟨w.heap.size + 1, 0, none⟩) (by simp; omega)).trans k0
  have k1 := (hB.cell (p := ⟨w.heap.size + 1, 1, none⟩) (by simp; omega)).trans k1
  have r0 := (hB.cell (p := ⟨w.heap.size + 1 + 1, 0, none⟩) (by simp; omega)).trans r0
  have r1 := (hB.cell (p := ⟨w.heap.size + 1 + 1, 1, none⟩) (by simp; omega)).trans r1
  have r2 := (hB.frozen (p := ⟨w.heap.size + 1 + 1, 0, none⟩) (by simp; omega)).trans r2
  have r3 := (hB.frozen (p := ⟨w.heap.size + 1 + 1, 1, none⟩) (by simp; omega)).trans r3
  have cb3 : w3.cell? ⟨ga, b, none⟩ = some (.int .i64 x0) := (hB.cell (p := ⟨ga, b, none⟩) sz1).trans cb0
  have fb3 : w3.frozen? ⟨ga, b, none⟩ = false := (hB.frozen (p := ⟨ga, b, none⟩) sz1).trans fb0
  have y0 := (hB.cell (p := ⟨gb, i * 5, none⟩) sz2).trans v0
  have y1 := (hB.cell (p := ⟨gb, i * 5 + 1, none⟩) sz2).trans v1
  have y2 := (hB.cell (p := ⟨gb, i * 5 + 2, none⟩) sz2).trans v2
  have y3 := (hB.cell (p := ⟨gb, i * 5 + 3, none⟩) sz2).trans v3
  have y4 := (hB.cell (p := ⟨gb, i * 5 + 4, none⟩) sz2).trans v4
  have z0 := (hB.frozen (p := ⟨gb, i * 5, none⟩) sz2).trans f0
  have z1 := (hB.frozen (p := ⟨gb, i * 5 + 1, none⟩) sz2).trans f1
  have z2 := (hB.frozen (p := ⟨gb, i * 5 + 2, none⟩) sz2).trans f2
  have z3 := (hB.frozen (p := ⟨gb, i * 5 + 3, none⟩) sz2).trans f3
  have z4 := (hB.frozen (p := ⟨gb, i * 5 + 4, none⟩) sz2).trans f4
  have n1 : ¬ w2.heap.size = gb := by omega
  have n3 : ¬ gb = w2.heap.size := by omega
  have n4 : ¬ gb = w.heap.size + 1 := by omega
  have n5 : ¬ gb = ga := fun e => hne e.symm
  have n6 : ¬ ga = gb := hne
  have n7 : ¬ ga = w2.heap.size := by omega
  have n8 : ¬ w2.heap.size = ga := by omega
  have n9 : ¬ gb = w.heap.size + 1 + 1 := by omega
  have n10 : ¬ w.heap.size + 1 + 1 = gb := by omega
  have n11 : ¬ ga = w.heap.size + 1 + 1 := by omega
  have n12 : ¬ w.heap.size + 1 + 1 = ga := by omega
  have n13 : ¬ w.heap.size + 1 = gb := by omega
  have HBB := Lib.hid hB
  have zz := hB.size
  clear hw3 hB cb0 fb0 v0 v1 v2 v3 v4 f0 f1 f2 f3 f4
  go_wp2
  go_region_held3 (fun W' => W'.cell? ⟨w2.heap.size, 0, none⟩ = some (.slice (some ⟨ga, 0, none⟩) bk.length c2) ∧ W'.cell? ⟨w2.heap.size, 1, none⟩ = some (.slice (some ⟨gb, 0, none⟩) fs.length e2) ∧ W'.cell? ⟨w.heap.size + 1, 0, none⟩ = some (.int .i64 s) ∧ W'.cell? ⟨w.heap.size + 1, 1, none⟩ = some (.int .i64 p) ∧ W'.cell? ⟨ga, b, none⟩ = some (.int .i64 x0)) (go_keep)
    (fail)
  have hT5 : Tb (((((w3.setCell ⟨gb, i * 5, none⟩ (.bool true)).setCell ⟨gb, i * 5 + 1, none⟩ (.int .i64 s)).setCell ⟨gb, i * 5 + 2, none⟩ (.int .i64 p)).setCell ⟨gb, i * 5 + 3, none⟩ (.int .i64 r)).setCell ⟨gb, i * 5 + 4, none⟩ (.int .i64 x0)).drew (w.heap.size + 3) w2.heap.size (some ⟨ga, 0, none⟩) (some ⟨gb, 0, none⟩) bk (fs.set i ⟨true, s, p, r, x0⟩) := ((HT2.out.below HBB.out).store (by omega) i ⟨true, s, p, r, x0⟩).drew
  have hk5 : ∀ q, q ≠ gb → ((((((w3.setCell ⟨gb, i * 5, none⟩ (.bool true)).setCell ⟨gb, i * 5 + 1, none⟩ (.int .i64 s)).setCell ⟨gb, i * 5 + 2, none⟩ (.int .i64 p)).setCell ⟨gb, i * 5 + 3, none⟩ (.int .i64 r)).setCell ⟨gb, i * 5 + 4, none⟩ (.int .i64 x0)).drew).heap[q]? = w3.heap[q]? := fun q hq => set5_keep w3 gb (i * 5) q _ _ _ _ _ hq
  have hb5 : Below w.heap.size w (((((w3.setCell ⟨gb, i * 5, none⟩ (.bool true)).setCell ⟨gb, i * 5 + 1, none⟩ (.int .i64 s)).setCell ⟨gb, i * 5 + 2, none⟩ (.int .i64 p)).setCell ⟨gb, i * 5 + 3, none⟩ (.int .i64 r)).setCell ⟨gb, i * 5 + 4, none⟩ (.int .i64 x0)).drew := bdrew (bset (bset (bset (bset (bset (bstep hB2 HBB.out) (by simp; omega) _) (by simp; omega) _) (by simp; omega) _) (by simp; omega) _) (by simp; omega) _)
  have hz5 : ((((((w3.setCell ⟨gb, i * 5, none⟩ (.bool true)).setCell ⟨gb, i * 5 + 1, none⟩ (.int .i64 s)).setCell ⟨gb, i * 5 + 2, none⟩ (.int .i64 p)).setCell ⟨gb, i * 5 + 3, none⟩ (.int .i64 r)).setCell ⟨gb, i * 5 + 4, none⟩ (.int .i64 x0)).drew).heap.size = w3.heap.size := by simp
  generalize (((((w3.setCell ⟨gb, i * 5, none⟩ (.bool true)).setCell ⟨gb, i * 5 + 1, none⟩ (.int .i64 s)).setCell ⟨gb, i * 5 + 2, none⟩ (.int .i64 p)).setCell ⟨gb, i * 5 + 3, none⟩ (.int .i64 r)).setCell ⟨gb, i * 5 + 4, none⟩ (.int .i64 x0)).drew = w5 at *
  have t0 := (World.cell?_of_block (a := ⟨w2.heap.size, 0, none⟩) (hk5 w2.heap.size n1)).trans t0
  have t1 := (World.cell?_of_block (a := ⟨w2.heap.size, 1, none⟩) (hk5 w2.heap.size n1)).trans t1
  have r0 := (World.cell?_of_block (a := ⟨w.heap.size + 1 + 1, 0, none⟩) (hk5 _ n10)).trans r0
  have r1 := (World.cell?_of_block (a := ⟨w.heap.size + 1 + 1, 1, none⟩) (hk5 _ n10)).trans r1
  have r2 := (World.frozen?_of_block (a := ⟨w.heap.size + 1 + 1, 0, none⟩) (hk5 _ n10)).trans r2
  have r3 := (World.frozen?_of_block (a := ⟨w.heap.size + 1 + 1, 1, none⟩) (hk5 _ n10)).trans r3
  have cb5 := (World.cell?_of_block (a := ⟨ga, b, none⟩) (hk5 ga n6)).trans cb3
  have fb5 := (World.frozen?_of_block (a := ⟨ga, b, none⟩) (hk5 ga n6)).trans fb3
  have HT5 := Lib.hid hT5
  have HB5 := Lib.hid hb5
  clear hT5 hb5 hk5 y0 y1 y2 y3 y4 z0 z1 z2 z3 z4 cb3 fb3 k0 k1 HT2 HBB u0
  go_wp2
  refine bodyPost_ret (v := .agg #[.slice (some ⟨ga, 0, none⟩) bk.length c2, .slice (some ⟨gb, 0, none⟩) fs.length e2]) (by simp [results, Tryd.results97, go_sem, *]) rfl ?_
  have hT9 := (((HT5.out.storeB (by omega) b (i : Int)).set_ (p := ⟨w.heap.size + 1 + 1, 0, none⟩) (.inr (by simp)) (.slice (some ⟨ga, 0, none⟩) bk.length c2)).set_ (p := ⟨w.heap.size + 1 + 1, 1, none⟩) (.inr (by simp)) (.slice (some ⟨gb, 0, none⟩) fs.length e2)).top.more (lo' := w.heap.size) (by omega) (Nat.le_refl _)
  exact ⟨some ⟨ga, 0, none⟩, c2, some ⟨gb, 0, none⟩, e2, by simp, ⟨by simpa using q1, q2⟩, ⟨by simpa using q3, q4⟩, hT9, bset (bset (bset HB5.out (by simp; omega) _) (by simp; omega) _) (by simp; omega) _⟩
end Go.Proofs.YtjdoegekolbdpaaDoor
