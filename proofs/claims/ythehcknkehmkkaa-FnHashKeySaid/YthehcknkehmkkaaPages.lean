/- Both PagesOf return what the plain function says. No conditions. -/
import Derived.Test.YthehcknkehmkkaaMoveS
namespace Go.Proofs.Ythehcknkehmkkaa
open Go.ChangeShapes Go.WideShapes Go.ChangeAt Go.RowKit
theorem po_ma {s p o b : Int} : poOk s p o b = true ↔ (1 ≤ b ∧ b ≤ 16384) ∧ maOk s p o (b - 1) = true := by
  rw [poOk_iff, maOk_iff]
  constructor
  · rintro ⟨h, h1, h2⟩; obtain ⟨⟨_, _⟩, ⟨_, _⟩, _, _⟩ := avB_iff.1 h; exact ⟨⟨by omega, by omega⟩, h, by omega, by omega, by omega, by omega⟩
  · rintro ⟨⟨h1, h2⟩, h, h3, h4, h5, h6⟩; exact ⟨h, by omega, by omega⟩
theorem spec_PagesOf (s p o b : Int) (w : World) : Calls Try.prog 31 #[.agg #[.int .i64 s, .int .i64 p, .int .i64 o], .int .i64 b] w fun r w' => r = .returned (.tuple #[.int .i64 (poF s p o b), .int .i64 (poL s p o b), .bool (poOk s p o b)]) ∧ Below w.heap.size w w' := by
  by_cases h : poOk s p o b = true
  · obtain ⟨⟨h1, h2⟩, hm⟩ := po_ma.1 h
    have e1 : poF s p o b = p := by simp [poF, h]
    have e2 : poL s p o b = maP s p o (b - 1) := by simp only [poL, h, if_true, maP, hm, maAt]; omega
    rw [e1, e2, h]
    clear h e1 e2
    go_enter Try.func31, Try.ntmps31
    go_wp2_with (go_at_call 27; refine (spec_MoveAddress _ _ _ _ _).mono ?_; rintro e w' ⟨rfl, hb⟩; obtain ⟨hc, hf, hz⟩ := bel3 hb)
    go_quiet (fail)
    go_wp2
    go_returns
    exact ⟨rfl, by (repeat' (first | with_reducible exact Below.refl _ _ | (with_reducible refine balloc ?_ _) | (with_reducible refine bset ?_ ?_ _) | (with_reducible refine bdrew ?_) | (with_reducible refine bdrewN ?_ _) | (with_reducible refine bstep ?_ (by with_reducible assumption)) | (with_reducible refine bgrow ?_ (by with_reducible assumption) (by omega)) | (simp; done) | (simp; omega)))⟩
  have h' : poOk s p o b = false := by simpa using h
  have hn := mt po_ma.2 h
  have e1 : poF s p o b = 0 := by simp [poF, h']
  have e2 : poL s p o b = 0 := by simp [poL, h']
  rw [e1, e2, h']
  clear h h' e1 e2
  rcases (show b < 1 ∨ (1 ≤ b ∧ 16384 < b) ∨ (1 ≤ b ∧ b ≤ 16384) from by omega) with h1 | ⟨h1, h2⟩ | ⟨h1, h2⟩
  · clear hn
    go_enter Try.func31, Try.ntmps31
    go_wp2
    go_returns
    exact ⟨rfl, by (repeat' (first | with_reducible exact Below.refl _ _ | (with_reducible refine balloc ?_ _) | (with_reducible refine bset ?_ ?_ _) | (with_reducible refine bdrew ?_) | (with_reducible refine bdrewN ?_ _) | (with_reducible refine bstep ?_ (by with_reducible assumption)) | (with_reducible refine bgrow ?_ (by with_reducible assumption) (by omega)) | (simp; done) | (simp; omega)))⟩
  · clear hn
    go_enter Try.func31, Try.ntmps31
    go_wp2
    go_returns
    exact ⟨rfl, by (repeat' (first | with_reducible exact Below.refl _ _ | (with_reducible refine balloc ?_ _) | (with_reducible refine bset ?_ ?_ _) | (with_reducible refine bdrew ?_) | (with_reducible refine bdrewN ?_ _) | (with_reducible refine bstep ?_ (by with_reducible assumption)) | (with_reducible refine bgrow ?_ (by with_reducible assumption) (by omega)) | (simp; done) | (simp; omega)))⟩
  · have hm : maOk s p o (b - 1) = false := by simpa [h1, h2] using hn
    clear hn
    go_enter Try.func31, Try.ntmps31
    go_wp2_with (go_at_call 27; refine (spec_MoveAddress _ _ _ _ _).mono ?_; rintro e w' ⟨rfl, hb⟩; obtain ⟨hc, hf, hz⟩ := bel3 hb)
    go_returns
    exact ⟨rfl, by (repeat' (first | with_reducible exact Below.refl _ _ | (with_reducible refine balloc ?_ _) | (with_reducible refine bset ?_ ?_ _) | (with_reducible refine bdrew ?_) | (with_reducible refine bdrewN ?_ _) | (with_reducible refine bstep ?_ (by with_reducible assumption)) | (with_reducible refine bgrow ?_ (by with_reducible assumption) (by omega)) | (simp; done) | (simp; omega)))⟩
theorem impl_PagesOf (s p o b : Int) (w : World) : Calls Try.prog 30 #[.agg #[.int .i64 s, .int .i64 p, .int .i64 o], .int .i64 b] w fun r w' => r = .returned (.tuple #[.int .i64 (poF s p o b), .int .i64 (poL s p o b), .bool (poOk s p o b)]) ∧ Below w.heap.size w w' := by
  by_cases h : poOk s p o b = true
  · obtain ⟨ha, h1, h2⟩ := poOk_iff.1 h
    obtain ⟨⟨_, _⟩, ⟨_, _⟩, _, _⟩ := avB_iff.1 ha
    have e1 : poF s p o b = p := by simp [poF, h]
    have e2 : poL s p o b = (p * 64 + o + b - 1) / 64 := by simp [poL, h]
    rw [e1, e2, h]
    clear h e1 e2
    go_enter Try.func30, Try.ntmps30
    go_wp2_with (go_at_call 51; refine (impl_AddressValid _ _ _ _).mono ?_; rintro e w' ⟨rfl, rfl⟩)
    go_quiet (fail)
    go_wp2
    go_returns
    exact ⟨rfl, by (repeat' (first | with_reducible exact Below.refl _ _ | (with_reducible refine balloc ?_ _) | (with_reducible refine bset ?_ ?_ _) | (with_reducible refine bdrew ?_) | (with_reducible refine bdrewN ?_ _) | (with_reducible refine bstep ?_ (by with_reducible assumption)) | (with_reducible refine bgrow ?_ (by with_reducible assumption) (by omega)) | (simp; done) | (simp; omega)))⟩
  have h' : poOk s p o b = false := by simpa using h
  have hn := mt poOk_iff.2 h
  have e1 : poF s p o b = 0 := by simp [poF, h']
  have e2 : poL s p o b = 0 := by simp [poL, h']
  rw [e1, e2, h']
  clear h h' e1 e2
  by_cases ha : avB s p o = true
  · obtain ⟨⟨_, _⟩, ⟨_, _⟩, _, _⟩ := avB_iff.1 ha
    rcases (show b < 1 ∨ (1 ≤ b ∧ 16384 - p * 64 - o < b) from by simp only [ha, true_and] at hn; omega) with h1 | ⟨h1, h2⟩ <;> clear hn
    · go_enter Try.func30, Try.ntmps30
      go_wp2_with (go_at_call 51; refine (impl_AddressValid _ _ _ _).mono ?_; rintro e w' ⟨rfl, rfl⟩)
      go_returns
      exact ⟨rfl, by (repeat' (first | with_reducible exact Below.refl _ _ | (with_reducible refine balloc ?_ _) | (with_reducible refine bset ?_ ?_ _) | (with_reducible refine bdrew ?_) | (with_reducible refine bdrewN ?_ _) | (with_reducible refine bstep ?_ (by with_reducible assumption)) | (with_reducible refine bgrow ?_ (by with_reducible assumption) (by omega)) | (simp; done) | (simp; omega)))⟩
    · go_enter Try.func30, Try.ntmps30
      go_wp2_with (go_at_call 51; refine (impl_AddressValid _ _ _ _).mono ?_; rintro e w' ⟨rfl, rfl⟩)
      go_returns
      exact ⟨rfl, by (repeat' (first | with_reducible exact Below.refl _ _ | (with_reducible refine balloc ?_ _) | (with_reducible refine bset ?_ ?_ _) | (with_reducible refine bdrew ?_) | (with_reducible refine bdrewN ?_ _) | (with_reducible refine bstep ?_ (by with_reducible assumption)) | (with_reducible refine bgrow ?_ (by with_reducible assumption) (by omega)) | (simp; done) | (simp; omega)))⟩
  · have ha' : avB s p o = false := by simpa using ha
    clear ha hn
    go_enter Try.func30, Try.ntmps30
    go_wp2_with (go_at_call 51; refine (impl_AddressValid _ _ _ _).mono ?_; rintro e w' ⟨rfl, rfl⟩)
    go_returns
    exact ⟨rfl, by (repeat' (first | with_reducible exact Below.refl _ _ | (with_reducible refine balloc ?_ _) | (with_reducible refine bset ?_ ?_ _) | (with_reducible refine bdrew ?_) | (with_reducible refine bdrewN ?_ _) | (with_reducible refine bstep ?_ (by with_reducible assumption)) | (with_reducible refine bgrow ?_ (by with_reducible assumption) (by omega)) | (simp; done) | (simp; omega)))⟩
end Go.Proofs.Ythehcknkehmkkaa
