/- Contracts of the address functions of the program and of the reference: each returns what its plain function says. No conditions. -/
import Derived.Test.YtdgbcjgpaondoaaBase
namespace Go.Proofs.Ytdgbcjgpaondoaa
open Go.ChangeShapes Go.WideShapes Go.ChangeAt Go.RowKit

/-! the plain functions -/
def saOk (n : Int) : Bool := withinB n 262144
def saS (n : Int) : Int := if saOk n = true then n / 16384 else 0
def saP (n : Int) : Int := if saOk n = true then n / 64 % 256 else 0
def saO (n : Int) : Int := if saOk n = true then n % 64 else 0
def paN (s p o : Int) : Int := if avB s p o = true then (s * 256 + p) * 64 + o else 0
def maAt (p o b : Int) : Int := p * 64 + o + b
def maOk (s p o b : Int) : Bool := avB s p o && decide (-16384 < b) && decide (b < 16384) && decide (0 ≤ maAt p o b) && decide (maAt p o b < 16384)
def maS (s p o b : Int) : Int := if maOk s p o b = true then s else 0
def maP (s p o b : Int) : Int := if maOk s p o b = true then maAt p o b / 64 else 0
def maO (s p o b : Int) : Int := if maOk s p o b = true then maAt p o b % 64 else 0
def poOk (s p o b : Int) : Bool := avB s p o && decide (1 ≤ b) && decide (b ≤ 16384 - p * 64 - o)
def poF (s p o b : Int) : Int := if poOk s p o b = true then p else 0
def poL (s p o b : Int) : Int := if poOk s p o b = true then (p * 64 + o + b - 1) / 64 else 0

theorem maOk_iff {s p o b : Int} : maOk s p o b = true ↔ avB s p o = true ∧ -16384 < b ∧ b < 16384 ∧ 0 ≤ p * 64 + o + b ∧ p * 64 + o + b < 16384 := by
  unfold maOk; simp only [Bool.and_eq_true, decide_eq_true_eq, and_assoc]; unfold maAt; exact Iff.rfl
theorem poOk_iff {s p o b : Int} : poOk s p o b = true ↔ avB s p o = true ∧ 1 ≤ b ∧ b ≤ 16384 - p * 64 - o := by
  unfold poOk; simp only [Bool.and_eq_true, decide_eq_true_eq, and_assoc]

theorem spec_RightsValid (n : Int) (w : World) : Calls Try.prog 29 #[.int .i64 n] w fun r w' => r = .returned (.bool (withinB n 8)) ∧ w = w' := by
  have hd : withinB n 8 = (decide (0 ≤ n) && decide (n < 8)) := by simp [withinB]
  rw [hd]; clear hd
  go_enter Try.func29, Try.ntmps29
  go_wp2
  all_goals (go_ret; exact ⟨by exact ret_bool (by rw [Bool.eq_iff_iff]; simp; omega), rfl⟩)
theorem impl_RightsValid (n : Int) (w : World) : Calls Try.prog 18 #[.int .i64 n] w fun r w' => r = .returned (.bool (withinB n 8)) ∧ w = w' := by
  go_enter Try.func18, Try.ntmps18
  go_wp2_with (go_at_call 42; refine (within_any _ _ _).mono ?_; rintro e w' ⟨rfl, rfl⟩)
  go_ret
  exact ⟨rfl, rfl⟩

theorem impl_SplitAddress (n : Int) (w : World) : Calls Try.prog 34 #[.int .i64 n] w fun r w' => r = .returned (.tuple #[.agg #[.int .i64 (saS n), .int .i64 (saP n), .int .i64 (saO n)], .bool (saOk n)]) ∧ Below w.heap.size w w' := by
  by_cases h : withinB n 262144 = true
  · have hb := withinB_iff.1 h
    obtain ⟨h1, h2⟩ := hb
    have e : saOk n = true := h
    simp only [saS, saP, saO, e, if_true]
    clear e
    go_enter Try.func34, Try.ntmps34
    go_wp2_with (go_at_call 42; refine (within_any _ _ _).mono ?_; rintro e w' ⟨rfl, rfl⟩)
    go_returns
    exact ⟨rfl, by (repeat' (first | with_reducible exact Below.refl _ _ | (with_reducible refine balloc ?_ _) | (with_reducible refine bset ?_ ?_ _) | (with_reducible refine bdrew ?_) | (with_reducible refine bdrewN ?_ _) | (with_reducible refine bstep ?_ (by with_reducible assumption)) | (with_reducible refine bgrow ?_ (by with_reducible assumption) (by omega)) | (simp; done) | (simp; omega)))⟩
  · have e : saOk n = false := by simpa [saOk] using h
    have h' : withinB n 262144 = false := by simpa using h
    simp only [saS, saP, saO, e]
    clear e h
    go_enter Try.func34, Try.ntmps34
    go_wp2_with (go_at_call 42; refine (within_any _ _ _).mono ?_; rintro e w' ⟨rfl, rfl⟩)
    go_returns
    exact ⟨rfl, by (repeat' (first | with_reducible exact Below.refl _ _ | (with_reducible refine balloc ?_ _) | (with_reducible refine bset ?_ ?_ _) | (with_reducible refine bdrew ?_) | (with_reducible refine bdrewN ?_ _) | (with_reducible refine bstep ?_ (by with_reducible assumption)) | (with_reducible refine bgrow ?_ (by with_reducible assumption) (by omega)) | (simp; done) | (simp; omega)))⟩
theorem spec_SplitAddress (n : Int) (w : World) : Calls Try.prog 35 #[.int .i64 n] w fun r w' => r = .returned (.tuple #[.agg #[.int .i64 (saS n), .int .i64 (saP n), .int .i64 (saO n)], .bool (saOk n)]) ∧ Below w.heap.size w w' := by
  by_cases h : withinB n 262144 = true
  · have hb := withinB_iff.1 h
    obtain ⟨h1, h2⟩ := hb
    have e : saOk n = true := h
    have hq : saS n = n / 64 / 256 := by simp only [saS, e, if_true]; omega
    rw [hq]
    simp only [saP, saO, e, if_true]
    clear e h hq
    go_enter Try.func35, Try.ntmps35
    go_wp2
    go_returns
    exact ⟨rfl, by (repeat' (first | with_reducible exact Below.refl _ _ | (with_reducible refine balloc ?_ _) | (with_reducible refine bset ?_ ?_ _) | (with_reducible refine bdrew ?_) | (with_reducible refine bdrewN ?_ _) | (with_reducible refine bstep ?_ (by with_reducible assumption)) | (with_reducible refine bgrow ?_ (by with_reducible assumption) (by omega)) | (simp; done) | (simp; omega)))⟩
  · have e : saOk n = false := by simpa [saOk] using h
    have h' := withinB_not.1 (show withinB n 262144 = false by simpa using h)
    simp only [saS, saP, saO, e]
    clear e h
    rcases h' with h1 | h1
    · go_enter Try.func35, Try.ntmps35
      go_wp2
      go_returns
      exact ⟨rfl, by (repeat' (first | with_reducible exact Below.refl _ _ | (with_reducible refine balloc ?_ _) | (with_reducible refine bset ?_ ?_ _) | (with_reducible refine bdrew ?_) | (with_reducible refine bdrewN ?_ _) | (with_reducible refine bstep ?_ (by with_reducible assumption)) | (with_reducible refine bgrow ?_ (by with_reducible assumption) (by omega)) | (simp; done) | (simp; omega)))⟩
    · have h2 : 0 ≤ n := by omega
      go_enter Try.func35, Try.ntmps35
      go_wp2
      go_returns
      exact ⟨rfl, by (repeat' (first | with_reducible exact Below.refl _ _ | (with_reducible refine balloc ?_ _) | (with_reducible refine bset ?_ ?_ _) | (with_reducible refine bdrew ?_) | (with_reducible refine bdrewN ?_ _) | (with_reducible refine bstep ?_ (by with_reducible assumption)) | (with_reducible refine bgrow ?_ (by with_reducible assumption) (by omega)) | (simp; done) | (simp; omega)))⟩
theorem spec_l1Pack (s p o : Int) (w : World) (h : avB s p o = true) : Calls Try.prog 49 #[.agg #[.int .i64 s, .int .i64 p, .int .i64 o]] w fun r w' => r = .returned (.int .i64 ((s * 256 + p) * 64 + o)) ∧ Below w.heap.size w w' := by
  obtain ⟨⟨_, _⟩, ⟨_, _⟩, _, _⟩ := avB_iff.1 h
  clear h
  go_enter Try.func49, Try.ntmps49
  go_wp2
  go_ret
  exact ⟨rfl, by (repeat' (first | with_reducible exact Below.refl _ _ | (with_reducible refine balloc ?_ _) | (with_reducible refine bset ?_ ?_ _) | (with_reducible refine bdrew ?_) | (with_reducible refine bdrewN ?_ _) | (with_reducible refine bstep ?_ (by with_reducible assumption)) | (with_reducible refine bgrow ?_ (by with_reducible assumption) (by omega)) | (simp; done) | (simp; omega)))⟩
theorem spec_PackAddress (s p o : Int) (w : World) : Calls Try.prog 32 #[.agg #[.int .i64 s, .int .i64 p, .int .i64 o]] w fun r w' => r = .returned (.tuple #[.int .i64 (paN s p o), .bool (avB s p o)]) ∧ Below w.heap.size w w' := by
  by_cases h : avB s p o = true
  · have e : paN s p o = (s * 256 + p) * 64 + o := by simp [paN, h]
    rw [e, h]; clear e
    go_enter Try.func32, Try.ntmps32
    go_wp2_with (first | (go_at_call 48; refine (spec_AddressValid _ _ _ _).mono ?_; rintro e w' ⟨rfl, rfl⟩) | (go_at_call 49; refine (spec_l1Pack _ _ _ _ h).mono ?_; rintro e w1 ⟨rfl, hb⟩; obtain ⟨hc, hf, hz⟩ := bel3 hb))
    go_ret2
    exact ⟨rfl, by (repeat' (first | with_reducible exact Below.refl _ _ | (with_reducible refine balloc ?_ _) | (with_reducible refine bset ?_ ?_ _) | (with_reducible refine bdrew ?_) | (with_reducible refine bdrewN ?_ _) | (with_reducible refine bstep ?_ (by with_reducible assumption)) | (with_reducible refine bgrow ?_ (by with_reducible assumption) (by omega)) | (simp; done) | (simp; omega)))⟩
  · have h' : avB s p o = false := by simpa using h
    have e : paN s p o = 0 := by simp [paN, h']
    rw [e, h']; clear e h
    go_enter Try.func32, Try.ntmps32
    go_wp2_with (go_at_call 48; refine (spec_AddressValid _ _ _ _).mono ?_; rintro e w' ⟨rfl, rfl⟩)
    go_ret2
    exact ⟨rfl, by (repeat' (first | with_reducible exact Below.refl _ _ | (with_reducible refine balloc ?_ _) | (with_reducible refine bset ?_ ?_ _) | (with_reducible refine bdrew ?_) | (with_reducible refine bdrewN ?_ _) | (with_reducible refine bstep ?_ (by with_reducible assumption)) | (with_reducible refine bgrow ?_ (by with_reducible assumption) (by omega)) | (simp; done) | (simp; omega)))⟩
theorem impl_PackAddress (s p o : Int) (w : World) : Calls Try.prog 30 #[.agg #[.int .i64 s, .int .i64 p, .int .i64 o]] w fun r w' => r = .returned (.tuple #[.int .i64 (paN s p o), .bool (avB s p o)]) ∧ Below w.heap.size w w' := by
  by_cases h : avB s p o = true
  · have e : paN s p o = (s * 256 + p) * 64 + o := by simp [paN, h]
    rw [e, h]; clear e
    obtain ⟨⟨_, _⟩, ⟨_, _⟩, _, _⟩ := avB_iff.1 h
    go_enter Try.func30, Try.ntmps30
    go_wp2_with (go_at_call 22; refine (impl_AddressValid _ _ _ _).mono ?_; rintro e w' ⟨rfl, rfl⟩)
    go_ret2
    exact ⟨rfl, by (repeat' (first | with_reducible exact Below.refl _ _ | (with_reducible refine balloc ?_ _) | (with_reducible refine bset ?_ ?_ _) | (with_reducible refine bdrew ?_) | (with_reducible refine bdrewN ?_ _) | (with_reducible refine bstep ?_ (by with_reducible assumption)) | (with_reducible refine bgrow ?_ (by with_reducible assumption) (by omega)) | (simp; done) | (simp; omega)))⟩
  · have h' : avB s p o = false := by simpa using h
    have e : paN s p o = 0 := by simp [paN, h']
    rw [e, h']; clear e h
    go_enter Try.func30, Try.ntmps30
    go_wp2_with (go_at_call 22; refine (impl_AddressValid _ _ _ _).mono ?_; rintro e w' ⟨rfl, rfl⟩)
    go_ret2
    exact ⟨rfl, by (repeat' (first | with_reducible exact Below.refl _ _ | (with_reducible refine balloc ?_ _) | (with_reducible refine bset ?_ ?_ _) | (with_reducible refine bdrew ?_) | (with_reducible refine bdrewN ?_ _) | (with_reducible refine bstep ?_ (by with_reducible assumption)) | (with_reducible refine bgrow ?_ (by with_reducible assumption) (by omega)) | (simp; done) | (simp; omega)))⟩
end Go.Proofs.Ytdgbcjgpaondoaa
