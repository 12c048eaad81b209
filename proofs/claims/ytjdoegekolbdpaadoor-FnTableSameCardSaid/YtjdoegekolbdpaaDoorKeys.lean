/- Contracts of the key and hash functions: each returns what its plain function says. Hash: for a valid key and 1 to 16 buckets. -/
import Derived.Test.YtjdoegekolbdpaaDoorBase
namespace Go.Proofs.YtjdoegekolbdpaaDoor
open Go.ChangeShapes Go.WideShapes Go.ChangeAt Go.RowKit

def kbB (a b c d : Int) : Bool := decide (a < c) || (decide (a = c) && decide (b < d))
theorem kbB_iff {a b c d : Int} : kbB a b c d = true ↔ a < c ∨ a = c ∧ b < d := by simp [kbB]
def hashM (s p : Int) : Int := (s * 256 + p) * 2654435761 % 4294967296
def hashN (s p b : Int) : Int := hashM s p * b / 4294967296
theorem hashM_range (s p : Int) : 0 ≤ hashM s p ∧ hashM s p < 4294967296 := by unfold hashM; omega
theorem hashN_range {s p b : Int} (hb : 1 ≤ b) : 0 ≤ hashN s p b ∧ hashN s p b < b := by
  unfold hashN
  have h := hashM_range s p
  generalize hashM s p = m at *
  constructor
  · exact Int.ediv_nonneg (Int.mul_nonneg h.1 (by omega)) (by omega)
  · rw [Int.ediv_lt_iff_lt_mul (by omega), Int.mul_comm]
    exact Int.mul_lt_mul_of_pos_left h.2 (by omega)

theorem hash_room (s p b : Int) (h1 : 1 ≤ b) (h2 : b ≤ 16) : 0 ≤ (s * 256 + p) * 2654435761 % 4294967296 * b ∧ (s * 256 + p) * 2654435761 % 4294967296 * b ≤ 68719476736 := by
  have h : 0 ≤ (s * 256 + p) * 2654435761 % 4294967296 ∧ (s * 256 + p) * 2654435761 % 4294967296 < 4294967296 := hashM_range s p
  generalize (s * 256 + p) * 2654435761 % 4294967296 = m at *
  refine ⟨Int.mul_nonneg h.1 (by omega), ?_⟩
  have := Int.mul_le_mul (show m ≤ 4294967296 by omega) h2 (by omega) (by omega)
  omega
theorem impl_KeyBefore (a b c d : Int) (w : World) : Calls Tryd.prog 29 #[.agg #[.int .i64 a, .int .i64 b], .agg #[.int .i64 c, .int .i64 d]] w fun r w' => r = .returned (.bool (kbB a b c d)) ∧ (w.alloc (.cells #[.int .i64 a, .int .i64 b] 44)).alloc (.cells #[.int .i64 c, .int .i64 d] 44) = w' := by
  rcases (show a < c ∨ a = c ∨ c < a from by omega) with h | h | h
  · have e : kbB a b c d = true := by simp [kbB, h]
    rw [e]; clear e
    go_enter Tryd.func29, Tryd.ntmps29
    go_wp2
    go_ret
    exact ⟨rfl, rfl⟩
  · subst h
    have e : kbB a b a d = decide (b < d) := by simp [kbB]
    rw [e]; clear e
    go_enter Tryd.func29, Tryd.ntmps29
    go_wp2
    go_ret
    exact ⟨rfl, rfl⟩
  · have e : kbB a b c d = false := by simp [kbB]; omega
    have h2 : (a == c) = false := by simp; omega
    rw [e]; clear e
    go_enter Tryd.func29, Tryd.ntmps29
    go_wp2
    go_ret
    exact ⟨ret_bool (by simp; omega), rfl⟩
theorem impl_KeyBefore_b (a b c d : Int) (w : World) : Calls Tryd.prog 29 #[.agg #[.int .i64 a, .int .i64 b], .agg #[.int .i64 c, .int .i64 d]] w fun r w' => r = .returned (.bool (kbB a b c d)) ∧ Below w.heap.size w w' :=
  (impl_KeyBefore a b c d w).mono fun _ _ ⟨h, hw⟩ => ⟨h, by subst hw; exact Joins.below_alloc2 _ _ _⟩
theorem spec_KeyBefore (a b c d : Int) (w : World) : Calls Tryd.prog 58 #[.agg #[.int .i64 a, .int .i64 b], .agg #[.int .i64 c, .int .i64 d]] w fun r w' => r = .returned (.bool (kbB a b c d)) ∧ (w.alloc (.cells #[.int .i64 a, .int .i64 b] 44)).alloc (.cells #[.int .i64 c, .int .i64 d] 44) = w' := by
  rcases (show a < c ∨ a = c ∨ c < a from by omega) with h | h | h
  · have e : kbB a b c d = true := by simp [kbB, h]
    rw [e]; clear e
    go_enter Tryd.func58, Tryd.ntmps58
    go_wp2
    go_ret
    exact ⟨rfl, rfl⟩
  · subst h
    have e : kbB a b a d = decide (b < d) := by simp [kbB]
    rw [e]; clear e
    go_enter Tryd.func58, Tryd.ntmps58
    go_wp2
    go_ret
    exact ⟨rfl, rfl⟩
  · have e : kbB a b c d = false := by simp [kbB]; omega
    have h2 : (a == c) = false := by simp; omega
    rw [e]; clear e
    go_enter Tryd.func58, Tryd.ntmps58
    go_wp2
    go_ret
    exact ⟨ret_bool (by simp; omega), rfl⟩
theorem spec_KeyBefore_b (a b c d : Int) (w : World) : Calls Tryd.prog 58 #[.agg #[.int .i64 a, .int .i64 b], .agg #[.int .i64 c, .int .i64 d]] w fun r w' => r = .returned (.bool (kbB a b c d)) ∧ Below w.heap.size w w' :=
  (spec_KeyBefore a b c d w).mono fun _ _ ⟨h, hw⟩ => ⟨h, by subst hw; exact Joins.below_alloc2 _ _ _⟩
theorem impl_bucketsValid (n : Int) (w : World) : Calls Tryd.prog 40 #[.int .i64 n] w fun r w' => r = .returned (.bool (withinB (n - 1) 16)) ∧ w = w' := by
  rcases (show n < 1 ∨ (1 ≤ n ∧ n ≤ 16) ∨ (1 ≤ n ∧ 16 < n) from by omega) with h | ⟨h, h2⟩ | ⟨h, h2⟩
  · have e : withinB (n - 1) 16 = false := by rw [withinB_not]; omega
    rw [e]; clear e
    go_enter Tryd.func40, Tryd.ntmps40
    go_wp2
    go_ret
    exact ⟨ret_bool (by simp; try omega), rfl⟩
  · have e : withinB (n - 1) 16 = true := by rw [withinB_iff]; omega
    rw [e]; clear e
    go_enter Tryd.func40, Tryd.ntmps40
    go_wp2
    go_ret
    exact ⟨ret_bool (by simp; try omega), rfl⟩
  · have e : withinB (n - 1) 16 = false := by rw [withinB_not]; omega
    rw [e]; clear e
    go_enter Tryd.func40, Tryd.ntmps40
    go_wp2
    go_ret
    exact ⟨ret_bool (by simp; try omega), rfl⟩
theorem spec_l2Buckets (n : Int) (w : World) : Calls Tryd.prog 43 #[.int .i64 n] w fun r w' => r = .returned (.bool (withinB (n - 1) 16)) ∧ w = w' := by
  rcases (show n < 1 ∨ (1 ≤ n ∧ n ≤ 16) ∨ (1 ≤ n ∧ 16 < n) from by omega) with h | ⟨h, h2⟩ | ⟨h, h2⟩
  · have e : withinB (n - 1) 16 = false := by rw [withinB_not]; omega
    rw [e]; clear e
    go_enter Tryd.func43, Tryd.ntmps43
    go_wp2
    go_ret
    exact ⟨ret_bool (by simp; try omega), rfl⟩
  · have e : withinB (n - 1) 16 = true := by rw [withinB_iff]; omega
    rw [e]; clear e
    go_enter Tryd.func43, Tryd.ntmps43
    go_wp2
    go_ret
    exact ⟨ret_bool (by simp; try omega), rfl⟩
  · have e : withinB (n - 1) 16 = false := by rw [withinB_not]; omega
    rw [e]; clear e
    go_enter Tryd.func43, Tryd.ntmps43
    go_wp2
    go_ret
    exact ⟨ret_bool (by simp; try omega), rfl⟩
theorem spec_l2Hash (s p b : Int) (w : World) (h : kvB s p = true) (h1 : 1 ≤ b) (h2 : b ≤ 16) : Calls Tryd.prog 60 #[.agg #[.int .i64 s, .int .i64 p], .int .i64 b] w fun r w' => r = .returned (.int .i64 (hashN s p b)) ∧ w.alloc (.cells #[.int .i64 s, .int .i64 p] 44) = w' := by
  obtain ⟨⟨_, _⟩, _, _⟩ := kvB_iff.1 h
  obtain ⟨q1, q2⟩ := hash_room s p b h1 h2
  clear h
  go_enter Tryd.func60, Tryd.ntmps60
  go_wp2
  go_ret
  exact ⟨rfl, rfl⟩
theorem impl_hash (s p b : Int) (w : World) (h : kvB s p = true) (h1 : 1 ≤ b) (h2 : b ≤ 16) : Calls Tryd.prog 49 #[.agg #[.int .i64 s, .int .i64 p], .int .i64 b] w fun r w' => r = .returned (.int .i64 (hashN s p b)) ∧ w.alloc (.cells #[.int .i64 s, .int .i64 p] 44) = w' := by
  obtain ⟨⟨_, _⟩, _, _⟩ := kvB_iff.1 h
  obtain ⟨q1, q2⟩ := hash_room s p b h1 h2
  clear h
  go_enter Tryd.func49, Tryd.ntmps49
  go_wp2
  go_ret
  exact ⟨rfl, rfl⟩

def hkOk (s p b : Int) : Bool := kvB s p && withinB (b - 1) 16
def hkN (s p b : Int) : Int := if hkOk s p b = true then hashN s p b else 0
theorem impl_HashKey (s p b : Int) (w : World) : Calls Tryd.prog 20 #[.agg #[.int .i64 s, .int .i64 p], .int .i64 b] w fun r w' => r = .returned (.tuple #[.int .i64 (hkN s p b), .bool (hkOk s p b)]) ∧ Below w.heap.size w w' := by
  by_cases hk : kvB s p = true
  · by_cases hw : withinB (b - 1) 16 = true
    · have hb := withinB_iff.1 hw
      have e1 : hkOk s p b = true := by simp [hkOk, hk, hw]
      have e2 : hkN s p b = hashN s p b := by simp [hkN, e1]
      rw [e1, e2]; clear e1 e2
      go_enter Tryd.func20, Tryd.ntmps20
      go_wp2_with (first | (go_at_call 46; refine (impl_KeyValid _ _ _).mono ?_; rintro e w' ⟨rfl, rfl⟩) | (go_at_call 40; refine (impl_bucketsValid _ _).mono ?_; rintro e w' ⟨rfl, rfl⟩) | (go_at_call 49; refine (impl_hash _ _ _ _ hk (by omega) (by omega)).mono ?_; rintro e w' ⟨rfl, rfl⟩))
      go_returns
      exact ⟨rfl, by (repeat' (first | with_reducible exact Below.refl _ _ | (with_reducible refine balloc ?_ _) | (with_reducible refine bset ?_ ?_ _) | (with_reducible refine bdrew ?_) | (with_reducible refine bdrewN ?_ _) | (with_reducible refine bstep ?_ (by with_reducible assumption)) | (with_reducible refine bgrow ?_ (by with_reducible assumption) (by omega)) | (simp; done) | (simp; omega)))⟩
    · have hw' : withinB (b - 1) 16 = false := by simpa using hw
      have e1 : hkOk s p b = false := by simp [hkOk, hw']
      have e2 : hkN s p b = 0 := by simp [hkN, e1]
      rw [e1, e2]; clear e1 e2 hw
      go_enter Tryd.func20, Tryd.ntmps20
      go_wp2_with (first | (go_at_call 46; refine (impl_KeyValid _ _ _).mono ?_; rintro e w' ⟨rfl, rfl⟩) | (go_at_call 40; refine (impl_bucketsValid _ _).mono ?_; rintro e w' ⟨rfl, rfl⟩))
      go_returns
      exact ⟨rfl, by (repeat' (first | with_reducible exact Below.refl _ _ | (with_reducible refine balloc ?_ _) | (with_reducible refine bset ?_ ?_ _) | (with_reducible refine bdrew ?_) | (with_reducible refine bdrewN ?_ _) | (with_reducible refine bstep ?_ (by with_reducible assumption)) | (with_reducible refine bgrow ?_ (by with_reducible assumption) (by omega)) | (simp; done) | (simp; omega)))⟩
  · have hk' : kvB s p = false := by simpa using hk
    have e1 : hkOk s p b = false := by simp [hkOk, hk']
    have e2 : hkN s p b = 0 := by simp [hkN, e1]
    rw [e1, e2]; clear e1 e2 hk
    go_enter Tryd.func20, Tryd.ntmps20
    go_wp2_with (first | (go_at_call 46; refine (impl_KeyValid _ _ _).mono ?_; rintro e w' ⟨rfl, rfl⟩) | (go_at_call 40; refine (impl_bucketsValid _ _).mono ?_; rintro e w' ⟨rfl, rfl⟩))
    go_returns
    exact ⟨rfl, by (repeat' (first | with_reducible exact Below.refl _ _ | (with_reducible refine balloc ?_ _) | (with_reducible refine bset ?_ ?_ _) | (with_reducible refine bdrew ?_) | (with_reducible refine bdrewN ?_ _) | (with_reducible refine bstep ?_ (by with_reducible assumption)) | (with_reducible refine bgrow ?_ (by with_reducible assumption) (by omega)) | (simp; done) | (simp; omega)))⟩
end Go.Proofs.YtjdoegekolbdpaaDoor
