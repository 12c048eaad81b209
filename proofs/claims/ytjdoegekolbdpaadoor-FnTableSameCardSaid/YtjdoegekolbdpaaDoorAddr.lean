/- Contracts of the address functions of the program and of the reference: each returns what its plain function says. No conditions. -/
import Derived.Test.YtjdoegekolbdpaaDoorBase
namespace Go.Proofs.YtjdoegekolbdpaaDoor
open Go.ChangeShapes Go.WideShapes Go.ChangeAt Go.RowKit

/-! the plain functions -/
def saOk (n : Int) : Bool := withinB n 262144
def saS (n : Int) : Int := if saOk n = true then n / 16384 else 0
def saP (n : Int) : Int := if saOk n = true then n / 64 % 256 else 0
def saO (n : Int) : Int := if saOk n = true then n % 64 else 0
def paN (s p o : Int) : Int := if avB s p o = true then (s * 256 + p) * 64 + o else 0
def maAt (p o b : Int) : Int := p * 64 + o + b
def maOk (s p o b : Int) : Bool := avB s p o && decide (-16384 < b) && decide (b < 16384) && decide (0 ≤ maAt p o b) && decide (maAt p o b < 16384)
def maS (s p o b : Int) : Int := if maOk s p o b = true then s else 0
def maP (s p o b : Int) : Int := if maOk s p o b = true then maAt p o b / 64 else 0
def maO (s p o b : Int) : Int := if maOk s p o b = true then maAt p o b % 64 else 0
def poOk (s p o b : Int) : Bool := avB s p o && decide (1 ≤ b) && decide (b ≤ 16384 - p * 64 - o)
def poF (s p o b : Int) : Int := if poOk s p o b = true then p else 0
def poL (s p o b : Int) : Int := if poOk s p o b = true then (p * 64 + o + b - 1) / 64 else 0

theorem maOk_iff {s p o b : Int} : maOk s p o b = true ↔ avB s p o = true ∧ -16384 < b ∧ b < 16384 ∧ 0 ≤ p * 64 + o + b ∧ p * 64 + o + b < 16384 := by
  unfold maOk; simp only [Bool.and_eq_true, decide_eq_true_eq, and_assoc]; unfold maAt; exact Iff.rfl
theorem poOk_iff {s p o b : Int} : poOk s p o b = true ↔ avB s p o = true ∧ 1 ≤ b ∧ b ≤ 16384 - p * 64 - o := by
  unfold poOk; simp only [Bool.and_eq_true, decide_eq_true_eq, and_assoc]

theorem spec_RightsValid (n : Int) (w : World) : Calls Tryd.prog 81 #[.int .i64 n] w fun r w' => r = .returned (.bool (withinB n 8)) ∧ w = w' := by
  have hd : withinB n 8 = (decide (0 ≤ n) && decide (n < 8)) := by simp [withinB]
  rw [hd]; clear hd
  go_enter Tryd.func81, Tryd.ntmps81
  go_wp2
  all_goals (go_ret; exact ⟨by exact ret_bool (by rw [Bool.eq_iff_iff]; simp; omega), rfl⟩)
theorem impl_RightsValid (n : Int) (w : World) : Calls Tryd.prog 47 #[.int .i64 n] w fun r w' => r = .returned (.bool (withinB n 8)) ∧ w = w' := by
  go_enter Tryd.func47, Tryd.ntmps47
  go_wp2_with (go_at_call 48; refine (within_any _ _ _).mono ?_; rintro e w' ⟨rfl, rfl⟩)
  go_ret
  exact ⟨rfl, rfl⟩

end Go.Proofs.YtjdoegekolbdpaaDoor
