/- Contracts of the address functions of the program and of the reference: each returns what its plain function says. No conditions. -/
import Derived.Test.YtaoggijepndnmaaDoorBase
namespace Go.Proofs.YtaoggijepndnmaaDoor
open Go.ChangeShapes Go.WideShapes Go.ChangeAt Go.RowKit

/-! the plain functions -/
def saOk (n : Int) : Bool := withinB n 262144
def saS (n : Int) : Int := if saOk n = true then n / 16384 else 0
def saP (n : Int) : Int := if saOk n = true then n / 64 % 256 else 0
def saO (n : Int) : Int := if saOk n = true then n % 64 else 0
def paN (s p o : Int) : Int := if avB s p o = true then (s * 256 + p) * 64 + o else 0
def maAt (p o b : Int) : Int := p * 64 + o + b
def maOk (s p o b : Int) : Bool := avB s p o && decide (-16384 < b) && decide (b < 16384) && decide (0 ≤ maAt p o b) && decide (maAt p o b < 16384)
def maS (s p o b : Int) : Int := if maOk s p o b = true then s else 0
def maP (s p o b : Int) : Int := if maOk s p o b = true then maAt p o b / 64 else 0
def maO (s p o b : Int) : Int := if maOk s p o b = true then maAt p o b % 64 else 0
def poOk (s p o b : Int) : Bool := avB s p o && decide (1 ≤ b) && decide (b ≤ 16384 - p * 64 - o)
def poF (s p o b : Int) : Int := if poOk s p o b = true then p else 0
def poL (s p o b : Int) : Int := if poOk s p o b = true then (p * 64 + o + b - 1) / 64 else 0

theorem maOk_iff {s p o b : Int} : maOk s p o b = true ↔ avB s p o = true ∧ -16384 < b ∧ b < 16384 ∧ 0 ≤ p * 64 + o + b ∧ p * 64 + o + b < 16384 := by
  unfold maOk; simp only [Bool.and_eq_true, decide_eq_true_eq, and_assoc]; unfold maAt; exact Iff.rfl
theorem poOk_iff {s p o b : Int} : poOk s p o b = true ↔ avB s p o = true ∧ 1 ≤ b ∧ b ≤ 16384 - p * 64 - o := by
  unfold poOk; simp only [Bool.and_eq_true, decide_eq_true_eq, and_assoc]


theorem laws_eqAddress (s p o : Int) (w : World) : Calls Tryd.prog 8 #[.agg #[.int .i64 s, .int .i64 p, .int .i64 o], .agg #[.int .i64 s, .int .i64 p, .int .i64 o]] w fun r w' => r = .returned (.bool true) ∧ Below w.heap.size w w' := by
  go_enter Tryd.func8, Tryd.ntmps8
  go_wp2
  all_goals (go_ret; exact ⟨rfl, by (repeat' (first | with_reducible exact Below.refl _ _ | (with_reducible refine balloc ?_ _) | (with_reducible refine bset ?_ ?_ _) | (with_reducible refine bdrew ?_) | (with_reducible refine bdrewN ?_ _) | (with_reducible refine bstep ?_ (by with_reducible assumption)) | (with_reducible refine bgrow ?_ (by with_reducible assumption) (by omega)) | (simp; done) | (simp; omega)))⟩)
end Go.Proofs.YtaoggijepndnmaaDoor
