/- The program's link puts a page in a frame of a table of the caller's own. Asked: a valid key, 1 to 16 buckets, a frame of the table. -/
import Derived.Test.YtnbfmnchihckaaaDoorNewS
import Derived.Deep.Onto
import Derived.StillTailTactics
namespace Go.Proofs.YtnbfmnchihckaaaDoor
set_option linter.unusedVariables false
open Go.ChangeShapes Go.WideShapes Go.ChangeAt Go.RowKit
def pg (s p r : Int) : Fr := ⟨true, s, p, r, 0⟩
theorem lnk_len (t : List Int × List Fr) (f : Fr) (i : Nat) : (lnk t f i).1.length = t.1.length ∧ (lnk t f i).2.length = t.2.length := by simp [lnk]
/-- the two blocks of a table differ -/
theorem Tb.ne {w : World} {lo hi ga gb : Nat} {bk : List Int} {fs : List Fr} (h : Tb w lo hi (some ⟨ga, 0, none⟩) (some ⟨gb, 0, none⟩) bk fs) (h1 : 0 < bk.length) (h2 : 0 < fs.length) : ga ≠ gb := by
  obtain ⟨g, cur, e1, _, _, a, _⟩ := h.1.2 h1
  obtain ⟨g', cur', e2, _, _, b, _⟩ := h.2.2 h2
  cases e1
  cases e2
  intro e
  subst e
  rw [a] at b
  injection b with b
  injection b with _ b
  exact absurd b (by decide)
/-- a frame stored into a table's frames -/
theorem Tb.store {w : World} {lo hi ga gb : Nat} {bk : List Int} {fs : List Fr} (h : Tb w lo hi (some ⟨ga, 0, none⟩) (some ⟨gb, 0, none⟩) bk fs) (h2 : 0 < fs.length) (i : Nat) (f : Fr) :
    Tb (((((w.setCell ⟨gb, i * 5, none⟩ (.bool f.u)).setCell ⟨gb, i * 5 + 1, none⟩ (.int .i64 f.s)).setCell ⟨gb, i * 5 + 2, none⟩ (.int .i64 f.p)).setCell ⟨gb, i * 5 + 3, none⟩ (.int .i64 f.r)).setCell ⟨gb, i * 5 + 4, none⟩ (.int .i64 f.nx)) lo hi (some ⟨ga, 0, none⟩) (some ⟨gb, 0, none⟩) bk (fs.set i f) := by
  have s1 := h.2.stored h2 (i * 5) (.bool f.u)
  have s2 := s1.stored h2 (i * 5 + 1) (.int .i64 f.s)
  have s3 := s2.stored h2 (i * 5 + 2) (.int .i64 f.p)
  have s4 := s3.stored h2 (i * 5 + 3) (.int .i64 f.r)
  have s5 := s4.stored h2 (i * 5 + 4) (.int .i64 f.nx)
  have k := (((((h.2.keepT h2 (i * 5) (.bool f.u)).trans (s1.keepT h2 (i * 5 + 1) (.int .i64 f.s))).trans (s2.keepT h2 (i * 5 + 2) (.int .i64 f.p))).trans (s3.keepT h2 (i * 5 + 3) (.int .i64 f.r))).trans (s4.keepT h2 (i * 5 + 4) (.int .i64 f.nx)))
  rw [fcells_set] at s5
  exact ⟨k _ _ _ _ _ _ _ (by decide) h.1, by rw [List.length_set]; exact s5⟩
theorem Tb.storeB {w : World} {lo hi ga gb : Nat} {bk : List Int} {fs : List Fr} (h : Tb w lo hi (some ⟨ga, 0, none⟩) (some ⟨gb, 0, none⟩) bk fs) (h1 : 0 < bk.length) (b : Nat) (x : Int) :
    Tb (w.setCell ⟨ga, b, none⟩ (.int .i64 x)) lo hi (some ⟨ga, 0, none⟩) (some ⟨gb, 0, none⟩) (bk.set b x) fs := by
  have s1 := h.1.stored h1 b (.int .i64 x)
  rw [ints_set] at s1
  exact ⟨by rw [List.length_set]; exact s1, (h.1.keepT h1 b (.int .i64 x)) _ _ _ _ _ _ _ (by decide) h.2⟩
set_option maxHeartbeats 1000000 in
set_option maxRecDepth 100000 in
theorem impl_link (ga gb ca cb lo hi : Nat) (bk : List Int) (fs : List Fr) (s p : Int) (i : Nat) (r : Int) (w : World) (h : Tb w lo hi (some ⟨ga, 0, none⟩) (some ⟨gb, 0, none⟩) bk fs) (hhi : hi ≤ w.heap.size) (hil : i < fs.length) (hk : kvB s p = true) (d1 : 1 ≤ bk.length) (d2 : bk.length ≤ 16) (hn2 : fs.length ≤ 1048576) :
    Calls Tryd.prog 60 #[.agg #[.slice (some ⟨ga, 0, none⟩) bk.length ca, .slice (some ⟨gb, 0, none⟩) fs.length cb], .agg #[.int .i64 s, .int .i64 p], .int .i64 (i : Int), .int .i64 r] w fun e w' => e = .returned (.tuple #[]) ∧ Tb w' lo hi (some ⟨ga, 0, none⟩) (some ⟨gb, 0, none⟩) (lnk (bk, fs) (pg s p r) i).1 (lnk (bk, fs) (pg s p r) i).2 ∧ Only lo hi w w' := by
  obtain ⟨hb1, hb2⟩ := @hix_lt (pg s p r) bk.length d1
  have HHash := Lib.hid (fun W' : World => impl_hash s p bk.length W' hk (by omega) (by omega))
  have e0 : lnk (bk, fs) (pg s p r) i = (bk.set (hix (pg s p r) bk.length) (i : Int), fs.set i ⟨true, s, p, r, bk.getD (hix (pg s p r) bk.length) 0⟩) := rfl
  rw [e0]
  have e1 : hashN s p bk.length = ((hix (pg s p r) bk.length : Nat) : Int) := hb2.symm
  rw [e1] at HHash
  clear e0 e1 hb2 hk
  generalize hix (pg s p r) bk.length = b at *
  have H := Lib.hid h
  have hne := h.ne (by omega) (by omega)
  obtain ⟨g, ee, lo1, hi1, sz1, cb0, fb0⟩ := h.1.int hb1
  cases ee
  obtain ⟨g, ee, lo2, hi2, sz2, ⟨v0, v1, v2, v3, v4⟩, ff⟩ := h.2.frame hil
  cases ee
  have f0 := ff (i * 5)
  have f1 := ff (i * 5 + 1)
  have f2 := ff (i * 5 + 2)
  have f3 := ff (i * 5 + 3)
  have f4 := ff (i * 5 + 4)
  clear h ff
  generalize bk.getD b 0 = x0 at *
  generalize fat fs i = f at *
  obtain ⟨u, s', p', r', nx⟩ := f
  simp only [] at v0 v1 v2 v3 v4
  have i1 : (0 : Int) ≤ (b : Int) := by omega
  have i2 : (b : Int) < (bk.length : Int) := by omega
  have i3 : (0 : Int) ≤ (i : Int) := by omega
  have i4 : (i : Int) < (fs.length : Int) := by omega
  go_enter Tryd.func60, Tryd.ntmps60
  go_wp2_with (fail)
  refine (HHash.out _).mono ?_
  rintro e w3 ⟨rfl, hw3⟩
  have hB : Below w.heap.size w w3 := by subst hw3; (repeat' (first | with_reducible exact Below.refl _ _ | (with_reducible refine balloc ?_ _) | (with_reducible refine bset ?_ ?_ _) | (with_reducible refine bdrew ?_) | (with_reducible refine bdrewN ?_ _) | (with_reducible refine bstep ?_ (by with_reducible assumption)) | (with_reducible refine bgrow ?_ (by with_reducible assumption) (by omega)) | (simp; done) | (simp; omega)))
  have t0 : w3.cell? ⟨w.heap.size, 0, none⟩ = some (.slice (some ⟨ga, 0, none⟩) bk.length ca) := by subst hw3; rw [oldc (by simp; omega), oldc (by simp), newc rfl]; rfl
  have t1 : w3.cell? ⟨w.heap.size, 1, none⟩ = some (.slice (some ⟨gb, 0, none⟩) fs.length cb) := by subst hw3; rw [oldc (by simp; omega), oldc (by simp), newc rfl]; rfl
  have t2 : w3.cell? ⟨w.heap.size + 1, 0, none⟩ = some (.int .i64 s) := by subst hw3; rw [oldc (by simp), newc (by simp)]; rfl
  have t3 : w3.cell? ⟨w.heap.size + 1, 1, none⟩ = some (.int .i64 p) := by subst hw3; rw [oldc (by simp), newc (by simp)]; rfl
  have cb3 : w3.cell? ⟨ga, b, none⟩ = some (.int .i64 x0) := (hB.cell (p := ⟨ga, b, none⟩) sz1).trans cb0
  have fb3 : w3.frozen? ⟨ga, b, none⟩ = false := (hB.frozen (p := ⟨ga, b, none⟩) sz1).trans fb0
  have y0 := (hB.cell (p := ⟨gb, i * 5, none⟩) sz2).trans v0
  have y1 := (hB.cell (p := ⟨gb, i * 5 + 1, none⟩) sz2).trans v1
  have y2 := (hB.cell (p := ⟨gb, i * 5 + 2, none⟩) sz2).trans v2
  have y3 := (hB.cell (p := ⟨gb, i * 5 + 3, none⟩) sz2).trans v3
  have y4 := (hB.cell (p := ⟨gb, i * 5 + 4, none⟩) sz2).trans v4
  have z0 := (hB.frozen (p := ⟨gb, i * 5, none⟩) sz2).trans f0
  have z1 := (hB.frozen (p := ⟨gb, i * 5 + 1, none⟩) sz2).trans f1
  have z2 := (hB.frozen (p := ⟨gb, i * 5 + 2, none⟩) sz2).trans f2
  have z3 := (hB.frozen (p := ⟨gb, i * 5 + 3, none⟩) sz2).trans f3
  have z4 := (hB.frozen (p := ⟨gb, i * 5 + 4, none⟩) sz2).trans f4
  have n1 : ¬ w.heap.size = gb := by omega
  have n2 : ¬ w.heap.size + 1 = gb := by omega
  have n3 : ¬ gb = w.heap.size := by omega
  have n4 : ¬ gb = w.heap.size + 1 := by omega
  have n5 : ¬ gb = ga := fun e => hne e.symm
  have HBB := Lib.hid hB
  clear hw3 hB cb0 fb0 v0 v1 v2 v3 v4 f0 f1 f2 f3 f4
  go_wp2
  go_region_held3 (fun W' => W'.cell? ⟨w.heap.size, 0, none⟩ = some (.slice (some ⟨ga, 0, none⟩) bk.length ca) ∧ W'.cell? ⟨w.heap.size, 1, none⟩ = some (.slice (some ⟨gb, 0, none⟩) fs.length cb) ∧ W'.cell? ⟨w.heap.size + 1, 0, none⟩ = some (.int .i64 s) ∧ W'.cell? ⟨w.heap.size + 1, 1, none⟩ = some (.int .i64 p) ∧ W'.cell? ⟨ga, b, none⟩ = some (.int .i64 x0)) (go_keep)
    (fail)
  go_wp2
  go_end0
  have hT := ((H.out.below HBB.out).store (by omega) i ⟨true, s, p, r, x0⟩).storeB (by omega) b (i : Int)
  have hO := ((((((Only.of_below HBB.out : Only lo hi w w3).setCell (p := ⟨gb, i * 5, none⟩) lo2 hi2 (.bool true)).setCell (p := ⟨gb, i * 5 + 1, none⟩) lo2 hi2 (.int .i64 s)).setCell (p := ⟨gb, i * 5 + 2, none⟩) lo2 hi2 (.int .i64 p)).setCell (p := ⟨gb, i * 5 + 3, none⟩) lo2 hi2 (.int .i64 r)).setCell (p := ⟨gb, i * 5 + 4, none⟩) lo2 hi2 (.int .i64 x0)).setCell (p := ⟨ga, b, none⟩) lo1 hi1 (.int .i64 (i : Int))
  exact ⟨rfl, hT.drew, hO.drew⟩
end Go.Proofs.YtnbfmnchihckaaaDoor
