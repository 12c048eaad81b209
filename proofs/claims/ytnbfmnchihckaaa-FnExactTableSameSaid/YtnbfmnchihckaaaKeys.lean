/- Contracts of the key and hash functions: each returns what its plain function says. Hash: for a valid key and 1 to 16 buckets. -/
import Derived.Test.YtnbfmnchihckaaaBase
namespace Go.Proofs.Ytnbfmnchihckaaa
open Go.ChangeShapes Go.WideShapes Go.ChangeAt Go.RowKit

def kbB (a b c d : Int) : Bool := decide (a < c) || (decide (a = c) && decide (b < d))
theorem kbB_iff {a b c d : Int} : kbB a b c d = true ↔ a < c ∨ a = c ∧ b < d := by simp [kbB]
def hashM (s p : Int) : Int := (s * 256 + p) * 2654435761 % 4294967296
def hashN (s p b : Int) : Int := hashM s p * b / 4294967296
theorem hashM_range (s p : Int) : 0 ≤ hashM s p ∧ hashM s p < 4294967296 := by unfold hashM; omega
theorem hashN_range {s p b : Int} (hb : 1 ≤ b) : 0 ≤ hashN s p b ∧ hashN s p b < b := by
  unfold hashN
  have h := hashM_range s p
  generalize hashM s p = m at *
  constructor
  · exact Int.ediv_nonneg (Int.mul_nonneg h.1 (by omega)) (by omega)
  · rw [Int.ediv_lt_iff_lt_mul (by omega), Int.mul_comm]
    exact Int.mul_lt_mul_of_pos_left h.2 (by omega)

theorem hash_room (s p b : Int) (h1 : 1 ≤ b) (h2 : b ≤ 16) : 0 ≤ (s * 256 + p) * 2654435761 % 4294967296 * b ∧ (s * 256 + p) * 2654435761 % 4294967296 * b ≤ 68719476736 := by
  have h : 0 ≤ (s * 256 + p) * 2654435761 % 4294967296 ∧ (s * 256 + p) * 2654435761 % 4294967296 < 4294967296 := hashM_range s p
  generalize (s * 256 + p) * 2654435761 % 4294967296 = m at *
  refine ⟨Int.mul_nonneg h.1 (by omega), ?_⟩
  have := Int.mul_le_mul (show m ≤ 4294967296 by omega) h2 (by omega) (by omega)
  omega

def hkOk (s p b : Int) : Bool := kvB s p && withinB (b - 1) 16
def hkN (s p b : Int) : Int := if hkOk s p b = true then hashN s p b else 0
end Go.Proofs.Ytnbfmnchihckaaa
