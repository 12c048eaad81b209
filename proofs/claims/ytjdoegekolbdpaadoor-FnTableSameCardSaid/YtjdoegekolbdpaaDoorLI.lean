/- Draws of tables: what holds in the loop of l3Draw; num at a list anywhere. -/
import Derived.Test.YtjdoegekolbdpaaDoorUnm
import Derived.Test.YtjdoegekolbdpaaDoorDraw
namespace Go.Proofs.YtjdoegekolbdpaaDoor
set_option linter.unusedVariables false
open Go.ChangeShapes Go.WideShapes Go.ChangeAt Go.RowKit
theorem Sl.grown {w w' : World} {lo hi n size rb : Nat} {e : TypeId} {A : Option Addr} {xs : List Value} (h : Sl w lo hi e size A n xs) (hg : w.grownBy w' (some rb)) (hr : rb < lo) : Sl w' lo hi e size A n xs :=
  h.keep fun g h1 _ h3 => hg.block g h3 (fun e => by injection e; omega)
theorem Tb.grown {w w' : World} {lo hi rb : Nat} {A B : Option Addr} {bk : List Int} {fs : List Fr} (h : Tb w lo hi A B bk fs) (hg : w.grownBy w' (some rb)) (hr : rb < lo) : Tb w' lo hi A B bk fs := ⟨h.1.grown hg hr, h.2.grown hg hr⟩
/-- num at a list that lies anywhere but in the reader -/
theorem rd_num_at (rb m B L : Nat) (zs : List Int) (w : World) (h : Rd w rb m) (hm : m ≤ 1000000) (hL : L = zs.length) (hB : B < w.heap.size) (hne : B ≠ rb) (hcell : ∀ j, j < zs.length → w.cell? ⟨B, j, none⟩ = some (.int .i64 (zs.getD j 0))) (hz : 0 < zs.length) (hr : ∀ x ∈ zs, -1000000 ≤ x ∧ x ≤ 1000000) :
    Calls Tryd.prog 39 #[.pointer (some ⟨rb, 0, none⟩), .slice (some ⟨B, 0, none⟩) L L] w (NumPost rb zs m w) := by
  subst hL
  have hlt := h.lt
  have hL1 : (1 : Int) ≤ (zs.length : Int) := by omega
  have H := Lib.hid h
  have HC := Lib.hid hcell
  have HR := Lib.hid hr
  have hcap : zs.length ≤ zs.length := Nat.le_refl _
  clear h hcell hr
  go_enter Tryd.func39, Tryd.ntmps39
  go_wp2_with (fail)
  refine (rd_pick rb m _ w H.out hm).mono ?_
  rintro e w1 ⟨x, rfl, hx0, hx1, hR, hg⟩
  obtain ⟨k, rfl⟩ := Int.eq_ofNat_of_zero_le hx0
  have hk : k < zs.length := by omega
  have hc1 : w1.cell? ⟨B, k, none⟩ = some (.int .i64 (zs.getD k 0)) := hg.cell (HC.out k hk) (by simpa using hne)
  clear hx0 hx1
  have HG := Lib.hid hg
  have HRd := Lib.hid hR
  clear hg hR
  go_wp2
  go_ret
  have hmem : zs.getD k 0 ∈ zs := by simp [List.getD_eq_getElem?_getD, List.getElem?_eq_getElem hk]
  have hb := HR.out _ hmem
  refine ⟨_, rfl, ?_⟩
  refine ⟨?_, ?_, ?_, HRd.out, HG.out⟩
  · first | exact hb.1 | simpa [List.getD_eq_getElem?_getD, List.getElem?_eq_getElem hk] using hb.1
  · first | exact hb.2 | simpa [List.getD_eq_getElem?_getD, List.getElem?_eq_getElem hk] using hb.2
  · first | exact hmem | (show _ ∈ zs; simp)
theorem newL {W : World} {b q : Nat} (hb : b = W.heap.size) (zs : List Int) (hq : q < zs.length) : (W.alloc (.cells (zs.map (Value.int .i64)).toArray 3)).cell? ⟨b, q, none⟩ = some (.int .i64 (zs.getD q 0)) := by
  rw [newc hb]
  simp [List.getD_eq_getElem?_getD, List.getElem?_eq_getElem hq]
/-- what MapPage and UnmapPage give, in one form -/
def TabX (nb nf : Nat) (w : World) (e : Ending) (w' : World) : Prop :=
  ∃ A nb' ca B nf' cb ok bk fs l8, l8 = w.heap.size ∧ e = .returned (.tuple #[.agg #[.slice A nb' ca, .slice B nf' cb], .bool ok]) ∧ Hid (ok = true → nb' = nb ∧ nf' = nf ∧ bk.length = nb ∧ fs.length = nf ∧ (nb ≤ ca ∧ ca ≤ maxLen) ∧ (nf ≤ cb ∧ cb ≤ maxLen) ∧ Tb w' l8 w'.heap.size A B bk fs) ∧ Below w.heap.size w w'
theorem TabW.x {nb nf : Nat} {w w' : World} {e : Ending} (h : TabW nb nf w e w') : TabX nb nf w e w' := by
  rcases h with ⟨rfl, hb⟩ | ⟨A, ca, B, cb, bk, fs, rfl, h1, h2, h3, h4, h5, hb⟩
  · exact ⟨none, 0, 0, none, 0, 0, false, [], [], _, rfl, rfl, Lib.hid (fun h => by cases h), hb⟩
  · exact ⟨A, nb, ca, B, nf, cb, true, bk, fs, _, rfl, rfl, Lib.hid (fun _ => ⟨rfl, rfl, h1, h2, h3, h4, h5⟩), hb⟩
def LPost (rb m : Nat) (w : World) (e : Ending) (w' : World) : Prop :=
  ∃ A ca B cb bk fs, e = .returned (.agg #[.slice A bk.length ca, .slice B fs.length cb]) ∧ (1 ≤ bk.length ∧ bk.length ≤ 8) ∧ (1 ≤ fs.length ∧ fs.length ≤ 8) ∧ (bk.length ≤ ca ∧ ca ≤ maxLen) ∧ (fs.length ≤ cb ∧ cb ≤ maxLen) ∧ Hid (Tb w' w.heap.size w'.heap.size A B bk fs) ∧ Rd w' rb (m + 60) ∧ w.grownBy w' (some rb)
/-- the variable at s3 holds a table of nb buckets and nf frames, which lies behind w and not at s3 nor at nv -/
def LI (nb nf rb k : Nat) (w : World) (s3 nv : Nat) (wr : World) : Prop :=
  ∃ (A : Option Addr) (ca : Nat) (B : Option Addr) (cb : Nat) (bk : List Int) (fs : List Fr) (l0 h0 : Nat), bk.length = nb ∧ fs.length = nf ∧ (nb ≤ ca ∧ ca ≤ maxLen) ∧ (nf ≤ cb ∧ cb ≤ maxLen) ∧ Hid (Tb wr l0 h0 A B bk fs) ∧ (w.heap.size + 1 ≤ l0 ∧ h0 ≤ wr.heap.size ∧ (h0 ≤ s3 ∨ s3 < l0) ∧ (h0 ≤ nv ∨ nv < l0)) ∧ (wr.cell? ⟨s3, 0, none⟩ = some (.slice A nb ca) ∧ wr.cell? ⟨s3, 1, none⟩ = some (.slice B nf cb) ∧ wr.frozen? ⟨s3, 0, none⟩ = false ∧ wr.frozen? ⟨s3, 1, none⟩ = false ∧ s3 < wr.heap.size ∧ w.heap.size < s3) ∧ Hid (wr.heap[w.heap.size]? = some (.cells #[.slice none 0 0, .slice none 0 0] 28 (0, 0))) ∧ Rd wr rb k ∧ Hid (w.grownBy wr (some rb)) ∧ rb < w.heap.size
theorem LI.grown {nb nf rb k k' s3 nv : Nat} {w wr w' : World} (h : LI nb nf rb k w s3 nv wr) (hg : wr.grownBy w' (some rb)) (hR : Rd w' rb k') : LI nb nf rb k' w s3 nv w' := by
  obtain ⟨A, ca, B, cb, bk, fs, l0, h0, lb, lf, hca, hcb, hT, ⟨a1, a2, a3, a4⟩, ⟨c0, c1, f0, f1, z, z'⟩, br, _, hG, hlt⟩ := h
  obtain ⟨hc, hf, hz⟩ := gb_at hg s3 z (by omega)
  have hs := hg.size
  exact ⟨A, ca, B, cb, bk, fs, l0, h0, lb, lf, hca, hcb, Lib.hid (hT.out.grown hg (by omega)), ⟨a1, by omega, a3, a4⟩, ⟨(hc 0).trans c0, (hc 1).trans c1, (hf 0).trans f0, (hf 1).trans f1, hz, z'⟩, Lib.hid ((hg.block _ (by omega) (by simp; omega)).trans br.out), hR, Lib.hid (gb_step hG.out hg), hlt⟩
theorem LI.nv {nb nf rb k s3 nv nv' : Nat} {w wr : World} (h : LI nb nf rb k w s3 nv wr) (hn : wr.heap.size ≤ nv') : LI nb nf rb k w s3 nv' wr := by
  obtain ⟨A, ca, B, cb, bk, fs, l0, h0, lb, lf, hca, hcb, hT, ⟨a1, a2, a3, a4⟩, r⟩ := h
  exact ⟨A, ca, B, cb, bk, fs, l0, h0, lb, lf, hca, hcb, hT, ⟨a1, a2, a3, .inl (by omega)⟩, r⟩
theorem LI.nv0 {nb nf rb k s3 nv : Nat} {w wr : World} (h : LI nb nf rb k w s3 nv wr) : LI nb nf rb k w s3 w.heap.size wr := by
  obtain ⟨A, ca, B, cb, bk, fs, l0, h0, lb, lf, hca, hcb, hT, ⟨a1, a2, a3, a4⟩, r⟩ := h
  exact ⟨A, ca, B, cb, bk, fs, l0, h0, lb, lf, hca, hcb, hT, ⟨a1, a2, a3, .inr (by omega)⟩, r⟩
theorem LI.mono {nb nf rb k k' s3 nv : Nat} {w wr : World} (h : LI nb nf rb k w s3 nv wr) (hk : k ≤ k') : LI nb nf rb k' w s3 nv wr := by
  obtain ⟨A, ca, B, cb, bk, fs, l0, h0, lb, lf, hca, hcb, hT, a, c, br, hR, r⟩ := h
  exact ⟨A, ca, B, cb, bk, fs, l0, h0, lb, lf, hca, hcb, hT, a, c, br, hR.mono hk, r⟩
/-- what is known of the variable nv: two cells, not frozen -/
def NV (nv : Nat) (w : World) : Prop := (∃ x, w.cell? ⟨nv, 0, none⟩ = some x) ∧ (∃ x, w.cell? ⟨nv, 1, none⟩ = some x) ∧ w.frozen? ⟨nv, 0, none⟩ = false ∧ w.frozen? ⟨nv, 1, none⟩ = false ∧ nv < w.heap.size
theorem NV.grown {nv rb : Nat} {wr w' : World} (h : NV nv wr) (hg : wr.grownBy w' (some rb)) (hr : rb < nv) : NV nv w' := by
  obtain ⟨⟨x, a⟩, ⟨y, b⟩, c, d, e⟩ := h
  obtain ⟨hc, hf, hz⟩ := gb_at hg nv e (by omega)
  exact ⟨⟨x, (hc 0).trans a⟩, ⟨y, (hc 1).trans b⟩, (hf 0).trans c, (hf 1).trans d, hz⟩
theorem set2 {w : World} {n : Nat} {x y : Value} (a : w.cell? ⟨n, 0, none⟩ = some x) (b : w.cell? ⟨n, 1, none⟩ = some y) (u v : Value) :
    ((w.setCell ⟨n, 0, none⟩ u).setCell ⟨n, 1, none⟩ v).cell? ⟨n, 0, none⟩ = some u ∧ ((w.setCell ⟨n, 0, none⟩ u).setCell ⟨n, 1, none⟩ v).cell? ⟨n, 1, none⟩ = some v :=
  ⟨(World.cell?_setCell_other _ _ _ _ (by simp)).trans (World.cell?_setCell_same _ _ _ a), World.cell?_setCell_same _ _ _ ((World.cell?_setCell_other _ _ _ _ (by simp)).trans b)⟩
theorem set2o {w : World} {n m j : Nat} (h : m ≠ n) (u v : Value) : ((w.setCell ⟨n, 0, none⟩ u).setCell ⟨n, 1, none⟩ v).cell? ⟨m, j, none⟩ = w.cell? ⟨m, j, none⟩ :=
  (World.cell?_setCell_other _ _ _ _ (by simp)).trans (World.cell?_setCell_other _ _ _ _ (by simp))
theorem set2f {w : World} {n : Nat} {a : Addr} (u v : Value) : ((w.setCell ⟨n, 0, none⟩ u).setCell ⟨n, 1, none⟩ v).frozen? a = w.frozen? a := (World.frozen?_setCell _ _ _ _).trans (World.frozen?_setCell _ _ _ _)
theorem NV.put {nv : Nat} {w : World} (h : NV nv w) (n : Nat) (u v : Value) : NV nv ((w.setCell ⟨n, 0, none⟩ u).setCell ⟨n, 1, none⟩ v) := by
  obtain ⟨⟨x, a⟩, ⟨y, b⟩, c, d, e⟩ := h
  by_cases hn : nv = n
  · subst hn
    exact ⟨⟨_, (set2 a b u v).1⟩, ⟨_, (set2 a b u v).2⟩, (set2f u v).trans c, (set2f u v).trans d, by simpa using e⟩
  · exact ⟨⟨x, (set2o hn u v).trans a⟩, ⟨y, (set2o hn u v).trans b⟩, (set2f u v).trans c, (set2f u v).trans d, by simpa using e⟩
/-- next = .. -/
theorem LI.setNv {nb nf rb k s3 nv : Nat} {w wr : World} (h : LI nb nf rb k w s3 nv wr) (hn : s3 < nv) (u v : Value) : LI nb nf rb k w s3 nv ((wr.setCell ⟨nv, 0, none⟩ u).setCell ⟨nv, 1, none⟩ v) := by
  obtain ⟨A, ca, B, cb, bk, fs, l0, h0, lb, lf, hca, hcb, hT, ⟨a1, a2, a3, a4⟩, ⟨c0, c1, f0, f1, z, z'⟩, br, hR, hG, hlt⟩ := h
  have hne : s3 ≠ nv := by omega
  exact ⟨A, ca, B, cb, bk, fs, l0, h0, lb, lf, hca, hcb, Lib.hid ((hT.out.set_ a4 _).set_ a4 _), ⟨a1, by simpa using a2, a3, a4⟩, ⟨(set2o hne u v).trans c0, (set2o hne u v).trans c1, (set2f u v).trans f0, (set2f u v).trans f1, by simpa using z, z'⟩,
    Lib.hid (by rw [Below.heap_setCell _ _ _ _ (show w.heap.size ≠ nv by omega), Below.heap_setCell _ _ _ _ (show w.heap.size ≠ nv by omega)]; exact br.out), (hR.setCell (a := ⟨nv, 0, none⟩) (by simp; omega) _).setCell (by simp; omega) _, Lib.hid (gb_set (gb_set hG.out (by simp; omega) _) (by simp; omega) _), hlt⟩
/-- t = next -/
theorem LI.put {nb nf rb k s3 nv : Nat} {w wr : World} (h : LI nb nf rb k w s3 nv wr) {A : Option Addr} {ca : Nat} {B : Option Addr} {cb : Nat} {bk : List Int} {fs : List Fr} {l0 h0 : Nat} (lb : bk.length = nb) (lf : fs.length = nf) (hca : nb ≤ ca ∧ ca ≤ maxLen) (hcb : nf ≤ cb ∧ cb ≤ maxLen) (hT : Tb wr l0 h0 A B bk fs) (a1 : w.heap.size + 1 ≤ l0) (a2 : h0 ≤ wr.heap.size) (a3 : h0 ≤ s3 ∨ s3 < l0) (a4 : h0 ≤ nv ∨ nv < l0) :
    LI nb nf rb k w s3 nv ((wr.setCell ⟨s3, 0, none⟩ (.slice A nb ca)).setCell ⟨s3, 1, none⟩ (.slice B nf cb)) := by
  obtain ⟨_, _, _, _, _, _, _, _, _, _, _, _, _, _, ⟨c0, c1, f0, f1, z, z'⟩, br, hR, hG, hlt⟩ := h
  exact ⟨A, ca, B, cb, bk, fs, l0, h0, lb, lf, hca, hcb, Lib.hid ((hT.set_ a3 _).set_ a3 _), ⟨a1, by simpa using a2, a3, a4⟩, ⟨(set2 c0 c1 _ _).1, (set2 c0 c1 _ _).2, (set2f _ _).trans f0, (set2f _ _).trans f1, by simpa using z, z'⟩,
    Lib.hid (by rw [Below.heap_setCell _ _ _ _ (show w.heap.size ≠ s3 by omega), Below.heap_setCell _ _ _ _ (show w.heap.size ≠ s3 by omega)]; exact br.out), (hR.setCell (a := ⟨s3, 0, none⟩) (by simp; omega) _).setCell (by simp; omega) _, Lib.hid (gb_set (gb_set hG.out (by simp; omega) _) (by simp; omega) _), hlt⟩
theorem NV.new {nv : Nat} {W : World} {x y : Value} {t : TypeId} (h : nv = W.heap.size) : NV nv (W.alloc (.cells #[x, y] t)) :=
  ⟨⟨x, by rw [newc h]; rfl⟩, ⟨y, by rw [newc h]; rfl⟩, Joins.unfrozen_of_block (heap_new h) 0, Joins.unfrozen_of_block (heap_new h) 1, by simp; omega⟩
theorem NV.below {nv : Nat} {w w' : World} (h : NV nv w) (hb : Below w.heap.size w w') : NV nv w' := by
  obtain ⟨⟨x, a⟩, ⟨y, b⟩, c, d, e⟩ := h
  obtain ⟨hc, hf, hz⟩ := bel_at hb nv e
  exact ⟨⟨x, (hc 0).trans a⟩, ⟨y, (hc 1).trans b⟩, (hf 0).trans c, (hf 1).trans d, hz⟩
theorem NV.alloc {nv : Nat} {w : World} (h : NV nv w) (o : Obj) : NV nv (w.alloc o) := h.below (Joins.below_alloc1 _ _)
theorem NV.drew {nv : Nat} {w : World} (h : NV nv w) : NV nv w.drew := h
/-- behind 'next, ok := MapPage(..)' -/
def Rel8 (nb nf rb k : Nat) (wr : World) (s6 s7 : Value) (wx : World) : Prop := ∃ (nv : Nat) (A8 : Option Addr) (n8 c8 : Nat) (B8 : Option Addr) (m8 d8 : Nat) (ok8 : Bool) (bk8 : List Int) (fs8 : List Fr) (l8 h8 : Nat), s6 = .pointer (some ⟨nv, 0, none⟩) ∧ s7 = .bool ok8 ∧ wx.cell? ⟨nv, 0, none⟩ = some (.slice A8 n8 c8) ∧ wx.cell? ⟨nv, 1, none⟩ = some (.slice B8 m8 d8) ∧ wx.frozen? ⟨nv, 0, none⟩ = false ∧ wx.frozen? ⟨nv, 1, none⟩ = false ∧ wr.heap.size ≤ nv ∧ nv < wx.heap.size ∧ (nv < l8 ∨ h8 ≤ nv) ∧ wr.heap.size ≤ l8 ∧ h8 ≤ wx.heap.size ∧ (ok8 = true → n8 = nb ∧ m8 = nf ∧ bk8.length = nb ∧ fs8.length = nf ∧ (nb ≤ c8 ∧ c8 ≤ maxLen) ∧ (nf ≤ d8 ∧ d8 ≤ maxLen) ∧ Tb wx l8 h8 A8 B8 bk8 fs8) ∧ Rd wx rb k ∧ wr.grownBy wx (some rb)
theorem rel8_set {nb nf rb k nv n8 c8 m8 d8 l8 : Nat} {wr w8 : World} {A8 B8 : Option Addr} {ok8 : Bool} {bk8 : List Int} {fs8 : List Fr} (hv : NV nv w8) (h1 : wr.heap.size ≤ nv) (h2 : nv < l8) (h3 : wr.heap.size ≤ l8) (hr : rb < wr.heap.size)
    (hw : Hid (ok8 = true → n8 = nb ∧ m8 = nf ∧ bk8.length = nb ∧ fs8.length = nf ∧ (nb ≤ c8 ∧ c8 ≤ maxLen) ∧ (nf ≤ d8 ∧ d8 ≤ maxLen) ∧ Tb w8 l8 w8.heap.size A8 B8 bk8 fs8)) (hR : Rd w8 rb k) (hG : wr.grownBy w8 (some rb)) :
    Rel8 nb nf rb k wr (.pointer (some ⟨nv, 0, none⟩)) (.bool ok8) ((w8.setCell ⟨nv, 0, none⟩ (.slice A8 n8 c8)).setCell ⟨nv, 1, none⟩ (.slice B8 m8 d8)) := by
  obtain ⟨⟨x, a⟩, ⟨y, b⟩, c, d, e⟩ := hv
  refine ⟨nv, A8, n8, c8, B8, m8, d8, ok8, bk8, fs8, l8, w8.heap.size, rfl, rfl, (set2 a b _ _).1, (set2 a b _ _).2, (set2f _ _).trans c, (set2f _ _).trans d, h1, by simpa using e, .inl h2, h3, by simp, fun he => ?_, (hR.setCell (a := ⟨nv, 0, none⟩) (show rb < nv by omega) _).setCell (a := ⟨nv, 1, none⟩) (show rb < nv by omega) _, gb_set (gb_set hG h1 _) h1 _⟩
  obtain ⟨e1, e2, e3, e4, e5, e6, e7⟩ := hw.out he
  exact ⟨e1, e2, e3, e4, e5, e6, (e7.set_ (p := ⟨nv, 0, none⟩) (.inr h2) _).set_ (p := ⟨nv, 1, none⟩) (.inr h2) _⟩
theorem rel8_new {nb nf rb k n8 c8 m8 d8 l8 : Nat} {wr w8 : World} {A8 B8 : Option Addr} {ok8 : Bool} {bk8 : List Int} {fs8 : List Fr} {t : TypeId} (h3 : wr.heap.size ≤ l8)
    (hw : Hid (ok8 = true → n8 = nb ∧ m8 = nf ∧ bk8.length = nb ∧ fs8.length = nf ∧ (nb ≤ c8 ∧ c8 ≤ maxLen) ∧ (nf ≤ d8 ∧ d8 ≤ maxLen) ∧ Tb w8 l8 w8.heap.size A8 B8 bk8 fs8)) (hR : Rd w8 rb k) (hG : wr.grownBy w8 (some rb)) :
    Rel8 nb nf rb k wr (.pointer (some ⟨w8.heap.size, 0, none⟩)) (.bool ok8) (w8.alloc (.cells #[.slice A8 n8 c8, .slice B8 m8 d8] t)) := by
  refine ⟨w8.heap.size, A8, n8, c8, B8, m8, d8, ok8, bk8, fs8, l8, w8.heap.size, rfl, rfl, by rw [newc rfl]; rfl, by rw [newc rfl]; rfl, Joins.unfrozen_of_block (heap_new rfl) 0, Joins.unfrozen_of_block (heap_new rfl) 1, hG.size, by simp, .inr (Nat.le_refl _), h3, by simp, fun he => ?_, hR.alloc _, gb_alloc hG _⟩
  obtain ⟨e1, e2, e3, e4, e5, e6, e7⟩ := hw.out he
  exact ⟨e1, e2, e3, e4, e5, e6, e7.alloc _⟩
theorem LI.rd {nb nf rb k s3 nv : Nat} {w wr : World} (h : LI nb nf rb k w s3 nv wr) : Rd wr rb k := by
  obtain ⟨_, _, _, _, _, _, _, _, _, _, _, _, _, _, _, _, hR, _⟩ := h
  exact hR
theorem LI.cells {nb nf rb k s3 nv : Nat} {w wr : World} (h : LI nb nf rb k w s3 nv wr) : ∃ (A : Option Addr) (ca : Nat) (B : Option Addr) (cb : Nat) (bk : List Int) (fs : List Fr) (l0 h0 : Nat), bk.length = nb ∧ fs.length = nf ∧ (nb ≤ ca ∧ ca ≤ maxLen) ∧ (nf ≤ cb ∧ cb ≤ maxLen) ∧ Hid (Tb wr l0 h0 A B bk fs) ∧ (w.heap.size + 1 ≤ l0 ∧ h0 ≤ wr.heap.size ∧ (h0 ≤ s3 ∨ s3 < l0) ∧ (h0 ≤ nv ∨ nv < l0)) ∧ (wr.cell? ⟨s3, 0, none⟩ = some (.slice A nb ca) ∧ wr.cell? ⟨s3, 1, none⟩ = some (.slice B nf cb) ∧ wr.frozen? ⟨s3, 0, none⟩ = false ∧ wr.frozen? ⟨s3, 1, none⟩ = false ∧ s3 < wr.heap.size ∧ w.heap.size < s3) := by
  obtain ⟨A, ca, B, cb, bk, fs, l0, h0, lb, lf, hca, hcb, hT, a, c, _⟩ := h
  exact ⟨A, ca, B, cb, bk, fs, l0, h0, lb, lf, hca, hcb, hT, a, c⟩
theorem LI.res {nb nf rb k s3 nv : Nat} {w wr : World} (h : LI nb nf rb k w s3 nv wr) : Hid (wr.heap[w.heap.size]? = some (.cells #[.slice none 0 0, .slice none 0 0] 28 (0, 0))) ∧ Hid (w.grownBy wr (some rb)) := by
  obtain ⟨_, _, _, _, _, _, _, _, _, _, _, _, _, _, _, br, _, hG, _⟩ := h
  exact ⟨br, hG⟩
end Go.Proofs.YtjdoegekolbdpaaDoor
