/- A table that came in, opened. No conditions. -/
import Derived.Test.YtjdoegekolbdpaaDoorTab
import Derived.Deep.Slices
import Derived.ChangeSame
namespace Go.Proofs.YtjdoegekolbdpaaDoor
set_option maxRecDepth 100000
open Go.ChangeShapes Go.WideShapes Go.ChangeAt Go.RowKit
/-- a table that came in -/
def ArgTab (w : World) (A : Option Addr) (nb ca : Nat) (B : Option Addr) (nf cb : Nat) : Prop :=
  (∃ bk fs, TIn w A nb B nf bk fs) ∧ (nb ≤ ca ∧ ca ≤ maxLen) ∧ nf ≤ cb ∧ cb ≤ maxLen
theorem add_none (b off k : Nat) : (⟨b, off, none⟩ : Addr).add k = ⟨b, off + k, none⟩ := by unfold Addr.add; split <;> simp_all
theorem cells57T : Tryd.prog.cellsOf 57 = 2 := by kernel_rfl
theorem cells106F : Tryd.prog.cellsOf 106 = 5 := by kernel_rfl
theorem cells104K : Tryd.prog.cellsOf 104 = 2 := by kernel_rfl
section
variable {H : Type} {enc : TypeId × Value → H} {w : World} {spare : Nat → Bool} {held : Bool}
theorem open_iin {fuel : Nat} {v : Value} {x : DataW H × List MemPlace} (h : DataW.trod enc Tryd.prog w 0 spare held fuel 25 [v] = some x) :
    ∃ A n c zs, v = .slice A n c ∧ IIn w A n zs ∧ n ≤ c ∧ c ≤ maxLen := by
  rcases open_ints Tryd.underlying25 Tryd.underlying3 (by kernel_rfl) h with ⟨hcs, _⟩ | ⟨a, l, c, zs, hcs, _, hl, hm, hz, _, hcell, _⟩
  · obtain rfl : v = .slice none 0 0 := by simpa using hcs
    exact ⟨none, 0, 0, [], rfl, ⟨rfl, fun h => absurd h (Nat.lt_irrefl _)⟩, Nat.le_refl _, by unfold maxLen; omega⟩
  · obtain rfl : v = .slice (some a) l c := by simpa using hcs
    have hlz : l ≤ zs.length := by rw [hz]; split <;> omega
    refine ⟨some a, l, c, zs.take l, rfl, ⟨by simp; omega, fun hn => ?_⟩, hl, hm⟩
    obtain ⟨b, off, spot⟩ := a
    have h0 := hcell 0 (by omega)
    have hspot : spot = none := by simpa [Addr.add] using World.cell?_spot h0
    subst hspot
    refine ⟨b, off, rfl, World.block_lt_of_cell? w _ (by simpa [Addr.add] using h0), fun j hj => ?_⟩
    have := hcell j (by omega)
    rw [add_none] at this
    rw [this]
    simp [List.getD_eq_getElem?_getD, hj]
theorem open_frame {fuel : Nat} {cs : List Value} {x : DataW H × List MemPlace} (h : DataW.trod enc Tryd.prog w 0 spare held fuel 106 cs = some x) :
    ∃ f : Fr, cs = fcell f := by
  obtain ⟨xs, k, _, _, hl, hxl, hf⟩ := DataW.trod_struct Tryd.underlying106 h
  rw [cells106F] at hl
  match xs, hxl, cs, hl with
  | [y0, y1, y2, y3], _, [v0, v1, v2, v3, v4], _ =>
    have g0 := hf 0 _ rfl
    have g1 := hf 1 _ rfl
    have g2 := hf 2 _ rfl
    have g3 := hf 3 _ rfl
    simp [show Tryd.prog.cellsOf 4 = 1 by kernel_rfl, show Tryd.prog.cellsOf 3 = 1 by kernel_rfl, cells104K] at g0 g1 g2 g3
    obtain ⟨u, e0, _⟩ := DataW.trod_bool Tryd.underlying4 g0
    obtain ⟨r, e2, _⟩ := DataW.trod_int Tryd.underlying3 g2
    obtain ⟨q, e3, _⟩ := DataW.trod_int Tryd.underlying3 g3
    obtain ⟨ys, k2, _, _, _, hyl, hk⟩ := DataW.trod_struct Tryd.underlying104 g1
    match ys, hyl with
    | [z0, z1], _ =>
      have p0 := hk 0 _ rfl
      have p1 := hk 1 _ rfl
      simp [show Tryd.prog.cellsOf 3 = 1 by kernel_rfl] at p0 p1
      obtain ⟨s, e4, _⟩ := DataW.trod_int Tryd.underlying3 p0
      obtain ⟨p, e5, _⟩ := DataW.trod_int Tryd.underlying3 p1
      simp only [List.cons.injEq, and_true] at e0 e2 e3 e4 e5
      subst e0 e2 e3 e4 e5
      exact ⟨⟨u, s, p, r, q⟩, rfl⟩
theorem open_fin {fuel : Nat} {v : Value} {x : DataW H × List MemPlace} (h : DataW.trod enc Tryd.prog w 0 spare held fuel 55 [v] = some x) :
    ∃ A n c fs, v = .slice A n c ∧ FIn w A n fs ∧ n ≤ c ∧ c ≤ maxLen := by
  rcases Go.Deep.open_slice Tryd.underlying55 h with ⟨hcs, _⟩ | ⟨a, l, c, m, n, D, Pl, hcs, _, hl, hm, hmm, _, hx⟩
  · obtain rfl : v = .slice none 0 0 := by simpa using hcs
    exact ⟨none, 0, 0, [], rfl, ⟨rfl, fun h => absurd h (Nat.lt_irrefl _)⟩, Nat.le_refl _, by unfold maxLen; omega⟩
  · obtain rfl : v = .slice (some a) l c := by simpa using hcs
    have hlm : l ≤ m := by rw [hmm]; split <;> omega
    rw [cells106F] at hx
    have each : ∀ i : Fin l, ∃ f : Fr, ∀ j, j < 5 → w.cell? ((a.add (i.val * 5)).add j) = (fcell f)[j]? := by
      intro i
      obtain ⟨cs', h1, h2⟩ := hx i.val (by omega)
      obtain ⟨f, rfl⟩ := open_frame h2
      obtain ⟨_, _, hc⟩ := World.cells?_some h1
      exact ⟨f, hc⟩
    obtain ⟨f, hf⟩ := Classical.axiomOfChoice each
    refine ⟨some a, l, c, (List.finRange l).map f, rfl, ⟨by simp, fun hn => ?_⟩, hl, hm⟩
    obtain ⟨b, off, spot⟩ := a
    have h0 := hf ⟨0, hn⟩ 0 (by omega)
    have hspot : spot = none := by
      have : w.cell? ⟨b, off, spot⟩ = some (.bool (f ⟨0, hn⟩).u) := by simpa [Addr.add, fcell] using h0
      exact World.cell?_spot this
    subst hspot
    refine ⟨b, off, rfl, World.block_lt_of_cell? w _ (show w.cell? ⟨b, off, none⟩ = some (.bool (f ⟨0, hn⟩).u) by simpa [add_none, fcell] using h0), fun j hj => ?_⟩
    have eg : fat ((List.finRange l).map f) j = f ⟨j, hj⟩ := by simp [fat, List.getD_eq_getElem?_getD, hj]
    rw [eg]
    have k0 := hf ⟨j, hj⟩ 0 (by omega)
    have k1 := hf ⟨j, hj⟩ 1 (by omega)
    have k2 := hf ⟨j, hj⟩ 2 (by omega)
    have k3 := hf ⟨j, hj⟩ 3 (by omega)
    have k4 := hf ⟨j, hj⟩ 4 (by omega)
    simp only [add_none, fcell, Nat.add_zero, List.getElem?_cons_zero, List.getElem?_cons_succ] at k0 k1 k2 k3 k4
    exact ⟨k0, k1, k2, k3, k4⟩
theorem open_table {r : Reach} {b0 : Nat} {v : Value} {d : DataW H} {p : List MemPlace} (hv : Value.okWide Tryd.prog w r b0 57 v) (h : DataW.Trod enc Tryd.prog w 0 spare held 57 v d p) :
    ∃ A nb ca B nf cb, v = tabV A nb ca B nf cb ∧ ArgTab w A nb ca B nf cb := by
  obtain ⟨c0, c1, y0, y1, m, rfl, _, _, h0, h1⟩ := Joins.open_agg2 Tryd.underlying57 (by kernel_rfl) cells57T hv h
  obtain ⟨A, nb, ca, zs, rfl, hi, ha, hb⟩ := open_iin h0
  obtain ⟨B, nf, cb, fs, rfl, hf, hc, hd⟩ := open_fin h1
  exact ⟨A, nb, ca, B, nf, cb, rfl, ⟨_, _, hi, hf⟩, ⟨ha, hb⟩, hc, hd⟩
end
end Go.Proofs.YtjdoegekolbdpaaDoor
