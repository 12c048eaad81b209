/- What the door's condition gives: the variable 'free' holds an unused frame with next -1; a start that meets the condition. No conditions. -/
import Derived.Test.YtjdoegekolbdpaaDoorRows
import Derived.Test.YtjdoegekolbdpaaDoorFree
import Derived.LaidMore
import Derived.OpenShut
import Derived.Stop.Joined
import Derived.ChangeVars
namespace Go.Proofs.YtjdoegekolbdpaaDoor
open Go.ChangeShapes Go.WideShapes Go.ChangeAt Go.RowKit
def laidF : List (String × DataW Unit) := [("loop.example/invertedpages/impl.free", Rows.laid_loop_example_invertedpages_impl_free)]
theorem gFree : Tryd.prog.globalNamed "loop.example/invertedpages/impl.free" = some 0 := by kernel_rfl
theorem tFree : (Tryd.prog.globals[0]?).map (·.type) = some 46 := by kernel_rfl
theorem door_met (os : Os) (args : Array Value) : laidMetH Tryd.prog laidF ((World.doorLaid Tryd.prog 400 os).forCall (fun _ _ => 0) ⟨#[], args, []⟩).memory :=
  laidMetH_of_parts3 (fuel := 8) (laidMet_of_run' 8 (by kernel_rfl) (by kernel_rfl)) (by kernel_rfl) (by kernel_rfl)
set_option maxRecDepth 100000 in
theorem free_of_laid {W : World} (h : laidMetH Tryd.prog laidF W) : FreeIn W := by
  rw [MakeChecks.laidMetH_plain _ _ _ (by kernel_rfl)] at h
  obtain ⟨ps, ⟨g0, t0, cs0, f0, p0, q0, hg0, ht0, hv0, hd0, _, _⟩, _, _⟩ := h
  obtain rfl := Option.some.inj (gFree.symm.trans hg0)
  obtain rfl := Option.some.inj (tFree.symm.trans ht0)
  obtain ⟨xs, k, _, hx, hl, hxl, hf⟩ := DataW.trod_struct Tryd.underlying46 hd0
  rw [show Tryd.prog.cellsOf 46 = 5 by kernel_rfl] at hl
  obtain ⟨cl⟩ := cs0
  simp only at hl
  match xs, hxl, cl, hl with
  | [y0, y1, y2, y3], _, [v0, v1, v2, v3, v4], _ =>
    have g0 := hf 0 _ rfl
    have g1 := hf 1 _ rfl
    have g2 := hf 2 _ rfl
    have g3 := hf 3 _ rfl
    simp [show Tryd.prog.cellsOf 4 = 1 by kernel_rfl, show Tryd.prog.cellsOf 3 = 1 by kernel_rfl, show Tryd.prog.cellsOf 44 = 2 by kernel_rfl] at g0 g1 g2 g3
    obtain ⟨u, e0, d0⟩ := DataW.trod_bool Tryd.underlying4 g0
    obtain ⟨r, e2, d2, _⟩ := DataW.trod_int Tryd.underlying3 g2
    obtain ⟨q, e3, d3, _⟩ := DataW.trod_int Tryd.underlying3 g3
    obtain ⟨ys, k2, _, hy, _, hyl, hk⟩ := DataW.trod_struct Tryd.underlying44 g1
    match ys, hyl with
    | [z0, z1], _ =>
      have p0 := hk 0 _ rfl
      have p1 := hk 1 _ rfl
      simp [show Tryd.prog.cellsOf 3 = 1 by kernel_rfl] at p0 p1
      obtain ⟨s, e4, d4, _⟩ := DataW.trod_int Tryd.underlying3 p0
      obtain ⟨p, e5, d5, _⟩ := DataW.trod_int Tryd.underlying3 p1
      simp only [List.cons.injEq, and_true] at e0 e2 e3 e4 e5
      subst e0 e2 e3 e4 e5 d0 d2 d3 d4 d5 hy
      simp [Rows.laid_loop_example_invertedpages_impl_free] at hx
      obtain ⟨⟨hu, ⟨hs, hp⟩, hr, hq⟩, _⟩ := hx
      subst hu hs hp hr hq
      have hc := fun o => World.var?_cell hg0 hv0 o
      have c0 := hc 0
      have c1 := hc 1
      have c2 := hc 2
      have c3 := hc 3
      have c4 := hc 4
      simp at c0 c1 c2 c3 c4
      exact ⟨World.block_lt_of_cell? W _ c0, c0, c1, c2, c3, c4⟩
end Go.Proofs.YtjdoegekolbdpaaDoor
