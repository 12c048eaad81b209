/- Closed facts of this seat's program, proved once for all of its statements: they do not depend on the law. No conditions. -/
import Derived.Test.YtaoggijepndnmaaDoorRows
import Derived.WalkKit
import Derived.ProofKit
namespace Go.Proofs.YtaoggijepndnmaaDoor.Seat
set_option maxRecDepth 100000
theorem and2 {a b : Bool} (h1 : a = true) (h2 : b = true) : (a && b) = true := by rw [h1, h2]; rfl
theorem three : (Tryd.pinned.checked.prog.mayEnter && (false == Tryd.pinned.checked.prog.liftsFinal) && (Tryd.pinned.checked.prog.make == some Make.cut)) = true := by kernel_rfl
theorem mayEnter : Tryd.pinned.checked.prog.mayEnter = true := (Bool.and_eq_true_iff.1 (Bool.and_eq_true_iff.1 three).1).1
theorem liftsFinal : (false == Tryd.pinned.checked.prog.liftsFinal) = true := (Bool.and_eq_true_iff.1 (Bool.and_eq_true_iff.1 three).1).2
theorem make : (Tryd.pinned.checked.prog.make == some Make.cut) = true := (Bool.and_eq_true_iff.1 three).2
theorem laidOutP : laidOutB Tryd.pinned.checked.prog = true := by kernel_rfl
theorem laidOut : laidOutB Tryd.prog = true := laidOutP
theorem mapsRowed : mapsRowed Tryd.pinned.checked.prog = true := by kernel_rfl
theorem stops : (Tryd.pinned.checked.prog.stops == []) = true := by kernel_rfl
theorem stopKnobs : (Tryd.pinned.checked.prog.stopKnobs == []) = true := by kernel_rfl
theorem plainKeys : (true == Tryd.pinned.checked.prog.plainKeys) = true := by kernel_rfl
theorem stopsHeard : Tryd.pinned.checked.prog.stopsHeard = true := by kernel_rfl
theorem own : ownKnob Tryd.prog.godebug = none := by kernel_rfl
end Go.Proofs.YtaoggijepndnmaaDoor.Seat
