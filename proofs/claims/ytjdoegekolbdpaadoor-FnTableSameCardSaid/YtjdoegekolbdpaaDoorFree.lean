/- The package-level variable 'free' as its initialiser lays it. No conditions. -/
import Derived.Test.YtjdoegekolbdpaaDoorTab
namespace Go.Proofs.YtjdoegekolbdpaaDoor
open Go.ChangeShapes Go.WideShapes Go.ChangeAt Go.RowKit
/-- the variable 'free' -/
def FreeIn (w : World) : Prop := 0 < w.heap.size ∧ FAt w 0 0 frN
theorem FreeIn.below {w w' : World} (h : FreeIn w) (hb : Below w.heap.size w w') : FreeIn w' := ⟨Nat.lt_of_lt_of_le h.1 hb.size, h.2.below hb h.1⟩
theorem FreeIn.keep {w w' : World} (h : FreeIn w) (hs : 0 < w'.heap.size) (hb : w'.heap[0]? = w.heap[0]?) : FreeIn w' := by
  obtain ⟨h1, h2⟩ := h
  refine ⟨hs, ?_⟩
  have e : ∀ o, w'.cell? ⟨0, o, none⟩ = w.cell? ⟨0, o, none⟩ := fun o => World.cell?_of_block (a := ⟨0, o, none⟩) hb
  unfold FAt at h2 ⊢
  simp only [e]
  exact h2
end Go.Proofs.YtjdoegekolbdpaaDoor
