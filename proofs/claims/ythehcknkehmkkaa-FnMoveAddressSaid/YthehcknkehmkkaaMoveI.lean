/- The program's MoveAddress returns what the plain function says. No conditions. -/
import Derived.Test.YthehcknkehmkkaaAddr
namespace Go.Proofs.Ythehcknkehmkkaa
open Go.ChangeShapes Go.WideShapes Go.ChangeAt Go.RowKit

theorem impl_MoveAddress (s p o b : Int) (w : World) : Calls Try.prog 26 #[.agg #[.int .i64 s, .int .i64 p, .int .i64 o], .int .i64 b] w fun r w' => r = .returned (.tuple #[.agg #[.int .i64 (maS s p o b), .int .i64 (maP s p o b), .int .i64 (maO s p o b)], .bool (maOk s p o b)]) ∧ Below w.heap.size w w' := by
  by_cases h : maOk s p o b = true
  · simp only [maS, maP, maO, h, if_true, maAt]
    obtain ⟨ha, h1, h2, h3, h4⟩ := maOk_iff.1 h
    obtain ⟨⟨_, _⟩, ⟨_, _⟩, _, _⟩ := avB_iff.1 ha
    clear h
    have hw : withinB (p * 64 + o + b) 16384 = true := by rw [withinB_iff]; omega
    go_enter Try.func26, Try.ntmps26
    go_wp2_with (first | (go_at_call 41; refine (within_any _ _ _).mono ?_; rintro e w' ⟨rfl, rfl⟩) | (go_at_call 51; refine (impl_AddressValid _ _ _ _).mono ?_; rintro e w' ⟨rfl, rfl⟩))
    go_returns
    exact ⟨rfl, by (repeat' (first | with_reducible exact Below.refl _ _ | (with_reducible refine balloc ?_ _) | (with_reducible refine bset ?_ ?_ _) | (with_reducible refine bdrew ?_) | (with_reducible refine bdrewN ?_ _) | (with_reducible refine bstep ?_ (by with_reducible assumption)) | (with_reducible refine bgrow ?_ (by with_reducible assumption) (by omega)) | (simp; done) | (simp; omega)))⟩
  have h' : maOk s p o b = false := by simpa using h
  have hn := mt maOk_iff.2 h
  have e1 : maS s p o b = 0 := by simp [maS, h']
  have e2 : maP s p o b = 0 := by simp [maP, h']
  have e3 : maO s p o b = 0 := by simp [maO, h']
  rw [e1, e2, e3, h']
  clear h h' e1 e2 e3
  by_cases ha : avB s p o = true
  · obtain ⟨⟨_, _⟩, ⟨_, _⟩, _, _⟩ := avB_iff.1 ha
    rcases (show b ≤ -16384 ∨ (-16384 < b ∧ 16384 ≤ b) ∨ (-16384 < b ∧ b < 16384 ∧ p * 64 + o + b < 0) ∨ (-16384 < b ∧ b < 16384 ∧ 0 ≤ p * 64 + o + b ∧ 16384 ≤ p * 64 + o + b) from by
      simp only [ha, true_and] at hn; omega) with h1 | ⟨h1, h2⟩ | ⟨h1, h2, h3⟩ | ⟨h1, h2, h3, h4⟩ <;> clear hn
    · go_enter Try.func26, Try.ntmps26
      go_wp2_with (first | (go_at_call 41; refine (within_any _ _ _).mono ?_; rintro e w' ⟨rfl, rfl⟩) | (go_at_call 51; refine (impl_AddressValid _ _ _ _).mono ?_; rintro e w' ⟨rfl, rfl⟩))
      go_returns
      exact ⟨rfl, by (repeat' (first | with_reducible exact Below.refl _ _ | (with_reducible refine balloc ?_ _) | (with_reducible refine bset ?_ ?_ _) | (with_reducible refine bdrew ?_) | (with_reducible refine bdrewN ?_ _) | (with_reducible refine bstep ?_ (by with_reducible assumption)) | (with_reducible refine bgrow ?_ (by with_reducible assumption) (by omega)) | (simp; done) | (simp; omega)))⟩
    · go_enter Try.func26, Try.ntmps26
      go_wp2_with (first | (go_at_call 41; refine (within_any _ _ _).mono ?_; rintro e w' ⟨rfl, rfl⟩) | (go_at_call 51; refine (impl_AddressValid _ _ _ _).mono ?_; rintro e w' ⟨rfl, rfl⟩))
      go_returns
      exact ⟨rfl, by (repeat' (first | with_reducible exact Below.refl _ _ | (with_reducible refine balloc ?_ _) | (with_reducible refine bset ?_ ?_ _) | (with_reducible refine bdrew ?_) | (with_reducible refine bdrewN ?_ _) | (with_reducible refine bstep ?_ (by with_reducible assumption)) | (with_reducible refine bgrow ?_ (by with_reducible assumption) (by omega)) | (simp; done) | (simp; omega)))⟩
    · have hw : withinB (p * 64 + o + b) 16384 = false := by rw [withinB_not]; omega
      go_enter Try.func26, Try.ntmps26
      go_wp2_with (first | (go_at_call 41; refine (within_any _ _ _).mono ?_; rintro e w' ⟨rfl, rfl⟩) | (go_at_call 51; refine (impl_AddressValid _ _ _ _).mono ?_; rintro e w' ⟨rfl, rfl⟩))
      go_returns
      exact ⟨rfl, by (repeat' (first | with_reducible exact Below.refl _ _ | (with_reducible refine balloc ?_ _) | (with_reducible refine bset ?_ ?_ _) | (with_reducible refine bdrew ?_) | (with_reducible refine bdrewN ?_ _) | (with_reducible refine bstep ?_ (by with_reducible assumption)) | (with_reducible refine bgrow ?_ (by with_reducible assumption) (by omega)) | (simp; done) | (simp; omega)))⟩
    · have hw : withinB (p * 64 + o + b) 16384 = false := by rw [withinB_not]; omega
      go_enter Try.func26, Try.ntmps26
      go_wp2_with (first | (go_at_call 41; refine (within_any _ _ _).mono ?_; rintro e w' ⟨rfl, rfl⟩) | (go_at_call 51; refine (impl_AddressValid _ _ _ _).mono ?_; rintro e w' ⟨rfl, rfl⟩))
      go_returns
      exact ⟨rfl, by (repeat' (first | with_reducible exact Below.refl _ _ | (with_reducible refine balloc ?_ _) | (with_reducible refine bset ?_ ?_ _) | (with_reducible refine bdrew ?_) | (with_reducible refine bdrewN ?_ _) | (with_reducible refine bstep ?_ (by with_reducible assumption)) | (with_reducible refine bgrow ?_ (by with_reducible assumption) (by omega)) | (simp; done) | (simp; omega)))⟩
  · have ha' : avB s p o = false := by simpa using ha
    clear ha hn
    go_enter Try.func26, Try.ntmps26
    go_wp2_with (first | (go_at_call 41; refine (within_any _ _ _).mono ?_; rintro e w' ⟨rfl, rfl⟩) | (go_at_call 51; refine (impl_AddressValid _ _ _ _).mono ?_; rintro e w' ⟨rfl, rfl⟩))
    go_returns
    exact ⟨rfl, by (repeat' (first | with_reducible exact Below.refl _ _ | (with_reducible refine balloc ?_ _) | (with_reducible refine bset ?_ ?_ _) | (with_reducible refine bdrew ?_) | (with_reducible refine bdrewN ?_ _) | (with_reducible refine bstep ?_ (by with_reducible assumption)) | (with_reducible refine bgrow ?_ (by with_reducible assumption) (by omega)) | (simp; done) | (simp; omega)))⟩
end Go.Proofs.Ythehcknkehmkkaa
