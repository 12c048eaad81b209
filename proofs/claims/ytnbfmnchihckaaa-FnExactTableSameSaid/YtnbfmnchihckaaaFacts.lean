/- Closed facts of this seat's program, proved once for all of its statements: they do not depend on the law. No conditions. -/
import Derived.Test.YtnbfmnchihckaaaRows
import Derived.WalkKit
import Derived.ProofKit
namespace Go.Proofs.Ytnbfmnchihckaaa.Seat
set_option maxRecDepth 100000
theorem and2 {a b : Bool} (h1 : a = true) (h2 : b = true) : (a && b) = true := by rw [h1, h2]; rfl
theorem three : (Try.pinned.checked.prog.mayEnter && (false == Try.pinned.checked.prog.liftsFinal) && (Try.pinned.checked.prog.make == some Make.cut)) = true := by kernel_rfl
theorem mayEnter : Try.pinned.checked.prog.mayEnter = true := (Bool.and_eq_true_iff.1 (Bool.and_eq_true_iff.1 three).1).1
theorem liftsFinal : (false == Try.pinned.checked.prog.liftsFinal) = true := (Bool.and_eq_true_iff.1 (Bool.and_eq_true_iff.1 three).1).2
theorem make : (Try.pinned.checked.prog.make == some Make.cut) = true := (Bool.and_eq_true_iff.1 three).2
theorem laidOutP : laidOutB Try.pinned.checked.prog = true := by kernel_rfl
theorem laidOut : laidOutB Try.prog = true := laidOutP
theorem mapsRowed : mapsRowed Try.pinned.checked.prog = true := by kernel_rfl
theorem stops : (Try.pinned.checked.prog.stops == []) = true := by kernel_rfl
theorem stopKnobs : (Try.pinned.checked.prog.stopKnobs == []) = true := by kernel_rfl
theorem plainKeys : (true == Try.pinned.checked.prog.plainKeys) = true := by kernel_rfl
theorem stopsHeard : Try.pinned.checked.prog.stopsHeard = true := by kernel_rfl
theorem own : ownKnob Try.prog.godebug = none := by kernel_rfl
end Go.Proofs.Ytnbfmnchihckaaa.Seat
