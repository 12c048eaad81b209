/- A new table is valid and has no keys. No program, no conditions but the sizes. -/
import Derived.Test.YtjdoegekolbdpaaDoorKo
import Derived.Test.YtjdoegekolbdpaaDoorTabR
namespace Go.Proofs.YtjdoegekolbdpaaDoor
open Go.RowKit
theorem newT_ukeys (nf nb : Nat) : ukeys (newT nf nb).2 = [] := by
  unfold ukeys newT
  rw [List.filter_eq_nil_iff.2 (fun f hf => by rw [(List.mem_replicate.1 hf).2]; decide)]
  rfl
theorem newT_valid {nf nb : Nat} (h1 : 1 ≤ nf) (h2 : nf ≤ 16) (h3 : 1 ≤ nb) (h4 : nb ≤ 16) : tvB (newT nf nb).1 (newT nf nb).2 = true := by
  have l1 : (newT nf nb).1.length = nb := by simp [newT]
  have l2 : (newT nf nb).2.length = nf := by simp [newT]
  have hx : ∀ b, b < nb → (newT nf nb).1.getD b 0 = -1 := fun b hb => by simp [newT, List.getD_eq_getElem?_getD, hb]
  refine tvB_iff.2 ⟨by rw [l1, l2]; exact dimB_iff.2 ⟨⟨h1, h2⟩, h3, h4⟩, fun f hf => ?_, by rw [newT_ukeys]; exact List.nodup_nil, fun b hb => ?_, ?_⟩
  · have : f = frN := (List.mem_replicate.1 hf).2
    subst this; decide
  · rw [hx b (by omega)]
    exact chB_iff.2 ⟨[], chn_end _ _, fun i hi => by simp at hi⟩
  · rw [usedN_eq, newT_ukeys, l1]
    unfold chSum
    have : ((List.range nb).map fun b => (chL (newT nf nb).2 ((newT nf nb).1.getD b 0)).length) = List.replicate nb 0 := by
      apply List.ext_getElem
      · simp
      · intro i hi hi'
        simp only [List.length_map, List.length_range] at hi
        simp only [List.getElem_map, List.getElem_range, List.getElem_replicate]
        rw [hx i hi]
        unfold chL
        rw [chn_end]; rfl
    rw [this]
    simp
theorem newT_ks {nf nb : Nat} : ksOf (newT nf nb).1 (newT nf nb).2 = [] := by
  unfold ksOf
  rw [newT_ukeys]
  simp
end Go.Proofs.YtjdoegekolbdpaaDoor
