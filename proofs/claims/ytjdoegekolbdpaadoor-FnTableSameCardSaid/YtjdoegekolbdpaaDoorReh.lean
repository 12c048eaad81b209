/- The program's RehashTable returns what the plain function says. Asked: at most 1048576 frames and buckets; the variable 'free' holds what its initialiser lays. -/
import Derived.Test.YtjdoegekolbdpaaDoorLink
namespace Go.Proofs.YtjdoegekolbdpaaDoor
set_option linter.unusedVariables false
open Go.ChangeShapes Go.WideShapes Go.ChangeAt Go.RowKit
def rhOk (bk : List Int) (fs : List Fr) (b : Int) : Bool := tvB bk fs && ntOk fs.length b
def rhT (bk : List Int) (fs : List Fr) (b : Int) : List Int × List Fr := if rhOk bk fs b = true then rT fs b.toNat else ([], [])
theorem rh_no {bk : List Int} {fs : List Fr} {b : Int} (h : rhOk bk fs b = false) : rhT bk fs b = ([], []) := by unfold rhT; rw [h]; rfl
theorem nt_len {f b : Nat} (h : ntOk f b = true) : ntT f b = newT f b := by unfold ntT; rw [if_pos h]; rfl
/-- a frame's cells copied into a variable of its own -/
theorem Tb.addr {w : World} {lo hi : Nat} {A B : Option Addr} {bk : List Int} {fs : List Fr} (h : Tb w lo hi A B bk fs) (h1 : 0 < bk.length) (h2 : 0 < fs.length) : ∃ ga gb, A = some ⟨ga, 0, none⟩ ∧ B = some ⟨gb, 0, none⟩ ∧ lo ≤ ga ∧ ga < hi ∧ lo ≤ gb ∧ gb < hi := by
  obtain ⟨ga, _, e1, a, b, _⟩ := h.1.2 h1
  obtain ⟨gb, _, e2, c, d, _⟩ := h.2.2 h2
  exact ⟨ga, gb, e1, e2, a, b, c, d⟩
end Go.Proofs.YtjdoegekolbdpaaDoor
