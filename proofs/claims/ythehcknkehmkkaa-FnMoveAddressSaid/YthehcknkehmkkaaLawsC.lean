/- Walks of laws on hashes, moves and pages at drawn values: each returns true. No conditions. -/
import Derived.Test.YthehcknkehmkkaaDraw2
import Derived.Test.YthehcknkehmkkaaKeys
import Derived.Test.YthehcknkehmkkaaMoveI
import Derived.Test.YthehcknkehmkkaaPages
namespace Go.Proofs.Ythehcknkehmkkaa
open Go.ChangeShapes Go.WideShapes Go.ChangeAt Go.RowKit
theorem hkOk_iff {s p b : Int} : hkOk s p b = true ↔ kvB s p = true ∧ 1 ≤ b ∧ b ≤ 16 := by
  unfold hkOk; rw [Bool.and_eq_true, withinB_iff]; constructor <;> rintro ⟨h1, h2, h3⟩ <;> exact ⟨h1, by omega, by omega⟩
theorem hash_half (s p b : Int) : hashN s p (2 * b) / 2 = hashN s p b := by
  unfold hashN
  generalize hashM s p = m
  rw [Int.ediv_ediv_of_nonneg (by omega), show m * (2 * b) = (m * b) * 2 by rw [Int.mul_comm 2 b, Int.mul_assoc]]
  exact Int.mul_ediv_mul_of_pos_left _ _ (by omega)
theorem law_FnHashKey (w : World) (ao : Option Addr) (len cap : Nat) (h : CodeIn w ao len cap) : Calls Try.prog 6 #[.slice ao len cap] w fun r w' => r = .returned (.bool true) ∧ Below w.heap.size w w' := by
  have HC := Lib.hid h
  clear h
  by_cases hl : 1048576 < len
  · go_enter Try.func6, Try.ntmps6
    go_wp2
    go_ret
    exact ⟨rfl, by (repeat' (first | with_reducible exact Below.refl _ _ | (with_reducible refine balloc ?_ _) | (with_reducible refine bset ?_ ?_ _) | (with_reducible refine bdrew ?_) | (with_reducible refine bdrewN ?_ _) | (with_reducible refine bstep ?_ (by with_reducible assumption)) | (with_reducible refine bgrow ?_ (by with_reducible assumption) (by omega)) | (simp; done) | (simp; omega)))⟩
  have hl' : len ≤ 1048576 := by omega
  clear hl
  go_enter Try.func6, Try.ntmps6
  go_wp2_with (fail)
  refine (spec_DrawHashKey _ _ _ _ HC.out).mono ?_
  rintro e w1 ⟨s, p, b, rfl, hb1⟩
  by_cases hok : hkOk s p b = true
  · obtain ⟨hk, h1, h2⟩ := hkOk_iff.1 hok
    have e1 : hkN s p b = hashN s p b := by simp [hkN, hok]
    obtain ⟨r1, r2⟩ := hashN_range (s := s) (p := p) h1
    have r3 : 0 ≤ hkN s p b := by omega
    have r4 : hkN s p b < b := by omega
    have hh := hash_half s p b
    by_cases h8 : b ≤ 8
    · have hok2 : hkOk s p (2 * b) = true := hkOk_iff.2 ⟨hk, by omega, by omega⟩
      have e2 : hkN s p (2 * b) = hashN s p (2 * b) := by simp [hkN, hok2]
      obtain ⟨r5, r6⟩ := hashN_range (s := s) (p := p) (b := 2 * b) (by omega)
      have e3 : hkN s p (2 * b) / 2 = hkN s p b := by rw [e1, e2, hh]
      have r7 : 0 ≤ hkN s p (2 * b) := by omega
      have r8 : hkN s p (2 * b) < 32 := by omega
      clear e1 e2 hh r1 r2 r5 r6 h8 hk
      go_wp2_with (fail)
      refine (impl_HashKey _ _ _ _).mono ?_
      rintro e w2 ⟨rfl, hb2⟩
      obtain ⟨hc2_0, hf2_0, hz2_0⟩ := bel_at hb2 (w1.heap.size) (by first | omega | (simp; done) | (simp; omega))
      go_wp2_with (fail)
      refine (spec_HashKey _ _ _ _).mono ?_
      rintro e w3 ⟨rfl, hb3⟩
      obtain ⟨hc3_0, hf3_0, hz3_0⟩ := bel_at hb3 (w1.heap.size) (by first | omega | (simp; done) | (simp; omega))
      go_wp2_with (fail)
      refine (impl_HashKey _ _ _ _).mono ?_
      rintro e w4 ⟨rfl, hb4⟩
      obtain ⟨hc4_0, hf4_0, hz4_0⟩ := bel_at hb4 (w1.heap.size) (by first | omega | (simp; done) | (simp; omega))
      go_wp2
      go_ret
      exact ⟨rfl, by (repeat' (first | with_reducible exact Below.refl _ _ | (with_reducible refine balloc ?_ _) | (with_reducible refine bset ?_ ?_ _) | (with_reducible refine bdrew ?_) | (with_reducible refine bdrewN ?_ _) | (with_reducible refine bstep ?_ (by with_reducible assumption)) | (with_reducible refine bgrow ?_ (by with_reducible assumption) (by omega)) | (simp; done) | (simp; omega)))⟩
    · have hok2 : hkOk s p (2 * b) = false := by
        rcases hq : hkOk s p (2 * b) with _ | _
        · rfl
        · have := (hkOk_iff.1 hq).2.2; omega
      clear e1 hh r1 r2 hk
      go_wp2_with (fail)
      refine (impl_HashKey _ _ _ _).mono ?_
      rintro e w2 ⟨rfl, hb2⟩
      obtain ⟨hc2_0, hf2_0, hz2_0⟩ := bel_at hb2 (w1.heap.size) (by first | omega | (simp; done) | (simp; omega))
      go_wp2_with (fail)
      refine (spec_HashKey _ _ _ _).mono ?_
      rintro e w3 ⟨rfl, hb3⟩
      obtain ⟨hc3_0, hf3_0, hz3_0⟩ := bel_at hb3 (w1.heap.size) (by first | omega | (simp; done) | (simp; omega))
      go_wp2_with (fail)
      refine (impl_HashKey _ _ _ _).mono ?_
      rintro e w4 ⟨rfl, hb4⟩
      obtain ⟨hc4_0, hf4_0, hz4_0⟩ := bel_at hb4 (w1.heap.size) (by first | omega | (simp; done) | (simp; omega))
      go_wp2
      go_ret
      exact ⟨rfl, by (repeat' (first | with_reducible exact Below.refl _ _ | (with_reducible refine balloc ?_ _) | (with_reducible refine bset ?_ ?_ _) | (with_reducible refine bdrew ?_) | (with_reducible refine bdrewN ?_ _) | (with_reducible refine bstep ?_ (by with_reducible assumption)) | (with_reducible refine bgrow ?_ (by with_reducible assumption) (by omega)) | (simp; done) | (simp; omega)))⟩
  · have hok' : hkOk s p b = false := by simpa using hok
    have e1 : hkN s p b = 0 := by simp [hkN, hok']
    clear hok
    go_wp2_with (fail)
    refine (impl_HashKey _ _ _ _).mono ?_
    rintro e w2 ⟨rfl, hb2⟩
    obtain ⟨hc2_0, hf2_0, hz2_0⟩ := bel_at hb2 (w1.heap.size) (by first | omega | (simp; done) | (simp; omega))
    go_wp2_with (fail)
    refine (spec_HashKey _ _ _ _).mono ?_
    rintro e w3 ⟨rfl, hb3⟩
    obtain ⟨hc3_0, hf3_0, hz3_0⟩ := bel_at hb3 (w1.heap.size) (by first | omega | (simp; done) | (simp; omega))
    go_wp2
    go_ret
    exact ⟨rfl, by (repeat' (first | with_reducible exact Below.refl _ _ | (with_reducible refine balloc ?_ _) | (with_reducible refine bset ?_ ?_ _) | (with_reducible refine bdrew ?_) | (with_reducible refine bdrewN ?_ _) | (with_reducible refine bstep ?_ (by with_reducible assumption)) | (with_reducible refine bgrow ?_ (by with_reducible assumption) (by omega)) | (simp; done) | (simp; omega)))⟩
/-- half of a number, as Go divides -/
theorem tdiv2 (b : Int) : (0 ≤ b ∧ b.tdiv 2 = b / 2) ∨ (b < 0 ∧ b.tdiv 2 = -(-b / 2)) := by
  rcases Int.lt_or_le b 0 with h | h
  · right; refine ⟨h, ?_⟩
    have : b.tdiv 2 = -((-b).tdiv 2) := by rw [Int.neg_tdiv]; omega
    rw [this, Int.tdiv_eq_ediv_of_nonneg (by omega)]
  · left; exact ⟨h, Int.tdiv_eq_ediv_of_nonneg h⟩
theorem ma_step {s p o b : Int} (h : maOk s p o b = true) : maS s p o b = s ∧ maP s p o b = (p * 64 + o + b) / 64 ∧ maO s p o b = (p * 64 + o + b) % 64 := by
  simp only [maS, maP, maO, h, if_true, maAt, and_self]
theorem ma_half {s p o b c : Int} (h : maOk s p o b = true) (hc : b = c + (b - c)) (h1 : 0 ≤ c ∧ c ≤ b ∨ b ≤ c ∧ c ≤ 0) :
    maOk s p o c = true ∧ maOk (maS s p o c) (maP s p o c) (maO s p o c) (b - c) = true ∧ maS (maS s p o c) (maP s p o c) (maO s p o c) (b - c) = maS s p o b ∧
    maP (maS s p o c) (maP s p o c) (maO s p o c) (b - c) = maP s p o b ∧ maO (maS s p o c) (maP s p o c) (maO s p o c) (b - c) = maO s p o b := by
  obtain ⟨ha, q1, q2, q3, q4⟩ := maOk_iff.1 h
  obtain ⟨⟨a1, a2⟩, ⟨a3, a4⟩, a5, a6⟩ := avB_iff.1 ha
  have k1 : maOk s p o c = true := maOk_iff.2 ⟨ha, by omega, by omega, by omega, by omega⟩
  obtain ⟨e1, e2, e3⟩ := ma_step k1
  rw [e1, e2, e3]
  have k2 : maOk s ((p * 64 + o + c) / 64) ((p * 64 + o + c) % 64) (b - c) = true :=
    maOk_iff.2 ⟨avB_iff.2 ⟨⟨a1, a2⟩, ⟨by omega, by omega⟩, by omega, by omega⟩, by omega, by omega, by omega, by omega⟩
  obtain ⟨f1, f2, f3⟩ := ma_step k2
  obtain ⟨g1, g2, g3⟩ := ma_step h
  rw [f1, f2, f3, g1, g2, g3]
  exact ⟨k1, k2, rfl, by omega, by omega⟩
theorem law_FnMoveSum (w : World) (ao : Option Addr) (len cap : Nat) (h : CodeIn w ao len cap) : Calls Try.prog 7 #[.slice ao len cap] w fun r w' => r = .returned (.bool true) ∧ Below w.heap.size w w' := by
  have HC := Lib.hid h
  clear h
  by_cases hl : 1048576 < len
  · go_enter Try.func7, Try.ntmps7
    go_wp2
    go_ret
    exact ⟨rfl, by (repeat' (first | with_reducible exact Below.refl _ _ | (with_reducible refine balloc ?_ _) | (with_reducible refine bset ?_ ?_ _) | (with_reducible refine bdrew ?_) | (with_reducible refine bdrewN ?_ _) | (with_reducible refine bstep ?_ (by with_reducible assumption)) | (with_reducible refine bgrow ?_ (by with_reducible assumption) (by omega)) | (simp; done) | (simp; omega)))⟩
  have hl' : len ≤ 1048576 := by omega
  clear hl
  go_enter Try.func7, Try.ntmps7
  go_wp2_with (fail)
  refine (spec_DrawMoveAddress _ _ _ _ HC.out).mono ?_
  rintro e w1 ⟨s, p, o, b, rfl, hb1⟩
  by_cases hok : maOk s p o b = true
  · obtain ⟨ha, q1, q2, q3, q4⟩ := maOk_iff.1 hok
    have hh : 0 ≤ b.tdiv 2 ∧ b.tdiv 2 ≤ b ∨ b ≤ b.tdiv 2 ∧ b.tdiv 2 ≤ 0 := by rcases tdiv2 b with ⟨h, e⟩ | ⟨h, e⟩ <;> omega
    obtain ⟨f1, f2, f3, f4, f5⟩ := ma_half hok (by omega) hh
    have hr1 : -16384 < b.tdiv 2 := by omega
    have hr2 : b.tdiv 2 < 16384 := by omega
    clear hh ha
    go_wp2_with (fail)
    refine (impl_MoveAddress _ _ _ _ _).mono ?_
    rintro e w2 ⟨rfl, hb2⟩
    obtain ⟨hc2_0, hf2_0, hz2_0⟩ := bel_at hb2 (w1.heap.size) (by first | omega | (simp; done) | (simp; omega))
    go_wp2_with (fail)
    refine (spec_MoveAddress _ _ _ _ _).mono ?_
    rintro e w3 ⟨rfl, hb3⟩
    obtain ⟨hc3_0, hf3_0, hz3_0⟩ := bel_at hb3 (w1.heap.size) (by first | omega | (simp; done) | (simp; omega))
    obtain ⟨hc3_1, hf3_1, hz3_1⟩ := bel_at hb3 (w2.heap.size) (by first | omega | (simp; done) | (simp; omega))
    go_wp2_with (fail)
    refine (impl_MoveAddress _ _ _ _ _).mono ?_
    rintro e w4 ⟨rfl, hb4⟩
    obtain ⟨hc4_0, hf4_0, hz4_0⟩ := bel_at hb4 (w1.heap.size) (by first | omega | (simp; done) | (simp; omega))
    obtain ⟨hc4_1, hf4_1, hz4_1⟩ := bel_at hb4 (w2.heap.size) (by first | omega | (simp; done) | (simp; omega))
    obtain ⟨hc4_2, hf4_2, hz4_2⟩ := bel_at hb4 (w3.heap.size) (by first | omega | (simp; done) | (simp; omega))
    go_wp2_with (fail)
    refine (impl_MoveAddress _ _ _ _ _).mono ?_
    rintro e w5 ⟨rfl, hb5⟩
    obtain ⟨hc5_0, hf5_0, hz5_0⟩ := bel_at hb5 (w1.heap.size) (by first | omega | (simp; done) | (simp; omega))
    obtain ⟨hc5_1, hf5_1, hz5_1⟩ := bel_at hb5 (w2.heap.size) (by first | omega | (simp; done) | (simp; omega))
    obtain ⟨hc5_2, hf5_2, hz5_2⟩ := bel_at hb5 (w3.heap.size) (by first | omega | (simp; done) | (simp; omega))
    obtain ⟨hc5_3, hf5_3, hz5_3⟩ := bel_at hb5 (w4.heap.size) (by first | omega | (simp; done) | (simp; omega))
    go_wp2
    all_goals (go_ret; exact ⟨rfl, by (repeat' (first | with_reducible exact Below.refl _ _ | (with_reducible refine balloc ?_ _) | (with_reducible refine bset ?_ ?_ _) | (with_reducible refine bdrew ?_) | (with_reducible refine bdrewN ?_ _) | (with_reducible refine bstep ?_ (by with_reducible assumption)) | (with_reducible refine bgrow ?_ (by with_reducible assumption) (by omega)) | (simp; done) | (simp; omega)))⟩)
  · have hok' : maOk s p o b = false := by simpa using hok
    clear hok
    go_wp2_with (fail)
    refine (impl_MoveAddress _ _ _ _ _).mono ?_
    rintro e w2 ⟨rfl, hb2⟩
    obtain ⟨hc2_0, hf2_0, hz2_0⟩ := bel_at hb2 (w1.heap.size) (by first | omega | (simp; done) | (simp; omega))
    go_wp2_with (fail)
    refine (spec_MoveAddress _ _ _ _ _).mono ?_
    rintro e w3 ⟨rfl, hb3⟩
    obtain ⟨hc3_0, hf3_0, hz3_0⟩ := bel_at hb3 (w1.heap.size) (by first | omega | (simp; done) | (simp; omega))
    obtain ⟨hc3_1, hf3_1, hz3_1⟩ := bel_at hb3 (w2.heap.size) (by first | omega | (simp; done) | (simp; omega))
    go_wp2
    all_goals (go_ret; exact ⟨rfl, by (repeat' (first | with_reducible exact Below.refl _ _ | (with_reducible refine balloc ?_ _) | (with_reducible refine bset ?_ ?_ _) | (with_reducible refine bdrew ?_) | (with_reducible refine bdrewN ?_ _) | (with_reducible refine bstep ?_ (by with_reducible assumption)) | (with_reducible refine bgrow ?_ (by with_reducible assumption) (by omega)) | (simp; done) | (simp; omega)))⟩)
theorem ma_back {s p o b : Int} (h : maOk s p o b = true) :
    maOk (maS s p o b) (maP s p o b) (maO s p o b) (-b) = true ∧ maS (maS s p o b) (maP s p o b) (maO s p o b) (-b) = s ∧ maP (maS s p o b) (maP s p o b) (maO s p o b) (-b) = p ∧ maO (maS s p o b) (maP s p o b) (maO s p o b) (-b) = o ∧
    avB s p o = true ∧ avB (maS s p o b) (maP s p o b) (maO s p o b) = true ∧ paN (maS s p o b) (maP s p o b) (maO s p o b) = paN s p o + b ∧ maS s p o b = s ∧ 0 ≤ paN s p o ∧ paN s p o < 262144 := by
  obtain ⟨ha, q1, q2, q3, q4⟩ := maOk_iff.1 h
  obtain ⟨⟨a1, a2⟩, ⟨a3, a4⟩, a5, a6⟩ := avB_iff.1 ha
  obtain ⟨e1, e2, e3⟩ := ma_step h
  rw [e1, e2, e3]
  have k : avB s ((p * 64 + o + b) / 64) ((p * 64 + o + b) % 64) = true := avB_iff.2 ⟨⟨a1, a2⟩, ⟨by omega, by omega⟩, by omega, by omega⟩
  have k1 : maOk s ((p * 64 + o + b) / 64) ((p * 64 + o + b) % 64) (-b) = true := maOk_iff.2 ⟨k, by omega, by omega, by omega, by omega⟩
  obtain ⟨f1, f2, f3⟩ := ma_step k1
  rw [f1, f2, f3]
  have n1 : paN s p o = (s * 256 + p) * 64 + o := by simp [paN, ha]
  have n2 : paN s ((p * 64 + o + b) / 64) ((p * 64 + o + b) % 64) = (s * 256 + (p * 64 + o + b) / 64) * 64 + (p * 64 + o + b) % 64 := by simp [paN, k]
  rw [n1, n2]
  exact ⟨k1, rfl, by omega, by omega, ha, k, by omega, rfl, by omega, by omega⟩
theorem law_FnMoveAddress (w : World) (ao : Option Addr) (len cap : Nat) (h : CodeIn w ao len cap) : Calls Try.prog 8 #[.slice ao len cap] w fun r w' => r = .returned (.bool true) ∧ Below w.heap.size w w' := by
  have HC := Lib.hid h
  clear h
  by_cases hl : 1048576 < len
  · go_enter Try.func8, Try.ntmps8
    go_wp2
    go_ret
    exact ⟨rfl, by (repeat' (first | with_reducible exact Below.refl _ _ | (with_reducible refine balloc ?_ _) | (with_reducible refine bset ?_ ?_ _) | (with_reducible refine bdrew ?_) | (with_reducible refine bdrewN ?_ _) | (with_reducible refine bstep ?_ (by with_reducible assumption)) | (with_reducible refine bgrow ?_ (by with_reducible assumption) (by omega)) | (simp; done) | (simp; omega)))⟩
  have hl' : len ≤ 1048576 := by omega
  clear hl
  go_enter Try.func8, Try.ntmps8
  go_wp2_with (fail)
  refine (spec_DrawMoveAddress _ _ _ _ HC.out).mono ?_
  rintro e w1 ⟨s, p, o, b, rfl, hb1⟩
  by_cases hok : maOk s p o b = true
  · obtain ⟨ha, q1, q2, q3, q4⟩ := maOk_iff.1 hok
    obtain ⟨f1, f2, f3, f4, f5, f6, f7, f8, f9, f10⟩ := ma_back hok
    clear ha
    have F8 := Lib.hid f8
    clear f8
    go_wp2_with (fail)
    refine (impl_MoveAddress _ _ _ _ _).mono ?_
    rintro e w2 ⟨rfl, hb2⟩
    obtain ⟨hc2_0, hf2_0, hz2_0⟩ := bel_at hb2 (w1.heap.size) (by first | omega | (simp; done) | (simp; omega))
    go_wp2_with (fail)
    refine (spec_MoveAddress _ _ _ _ _).mono ?_
    rintro e w3 ⟨rfl, hb3⟩
    obtain ⟨hc3_0, hf3_0, hz3_0⟩ := bel_at hb3 (w1.heap.size) (by first | omega | (simp; done) | (simp; omega))
    obtain ⟨hc3_1, hf3_1, hz3_1⟩ := bel_at hb3 (w2.heap.size) (by first | omega | (simp; done) | (simp; omega))
    go_wp2_with (fail)
    refine (impl_MoveAddress _ _ _ _ _).mono ?_
    rintro e w4 ⟨rfl, hb4⟩
    obtain ⟨hc4_0, hf4_0, hz4_0⟩ := bel_at hb4 (w1.heap.size) (by first | omega | (simp; done) | (simp; omega))
    obtain ⟨hc4_1, hf4_1, hz4_1⟩ := bel_at hb4 (w2.heap.size) (by first | omega | (simp; done) | (simp; omega))
    obtain ⟨hc4_2, hf4_2, hz4_2⟩ := bel_at hb4 (w3.heap.size) (by first | omega | (simp; done) | (simp; omega))
    go_wp2_with (fail)
    refine (impl_PackAddress _ _ _ _).mono ?_
    rintro e w5 ⟨rfl, hb5⟩
    obtain ⟨hc5_0, hf5_0, hz5_0⟩ := bel_at hb5 (w1.heap.size) (by first | omega | (simp; done) | (simp; omega))
    obtain ⟨hc5_1, hf5_1, hz5_1⟩ := bel_at hb5 (w2.heap.size) (by first | omega | (simp; done) | (simp; omega))
    obtain ⟨hc5_2, hf5_2, hz5_2⟩ := bel_at hb5 (w3.heap.size) (by first | omega | (simp; done) | (simp; omega))
    obtain ⟨hc5_3, hf5_3, hz5_3⟩ := bel_at hb5 (w4.heap.size) (by first | omega | (simp; done) | (simp; omega))
    go_wp2_with (fail)
    refine (impl_PackAddress _ _ _ _).mono ?_
    rintro e w6 ⟨rfl, hb6⟩
    obtain ⟨hc6_0, hf6_0, hz6_0⟩ := bel_at hb6 (w1.heap.size) (by first | omega | (simp; done) | (simp; omega))
    obtain ⟨hc6_1, hf6_1, hz6_1⟩ := bel_at hb6 (w2.heap.size) (by first | omega | (simp; done) | (simp; omega))
    obtain ⟨hc6_2, hf6_2, hz6_2⟩ := bel_at hb6 (w3.heap.size) (by first | omega | (simp; done) | (simp; omega))
    obtain ⟨hc6_3, hf6_3, hz6_3⟩ := bel_at hb6 (w4.heap.size) (by first | omega | (simp; done) | (simp; omega))
    have f8 := F8.out
    rw [f8] at f6 f7
    go_wp2
    all_goals (go_ret; exact ⟨rfl, by (repeat' (first | with_reducible exact Below.refl _ _ | (with_reducible refine balloc ?_ _) | (with_reducible refine bset ?_ ?_ _) | (with_reducible refine bdrew ?_) | (with_reducible refine bdrewN ?_ _) | (with_reducible refine bstep ?_ (by with_reducible assumption)) | (with_reducible refine bgrow ?_ (by with_reducible assumption) (by omega)) | (simp; done) | (simp; omega)))⟩)
  · have hok' : maOk s p o b = false := by simpa using hok
    clear hok
    go_wp2_with (fail)
    refine (impl_MoveAddress _ _ _ _ _).mono ?_
    rintro e w2 ⟨rfl, hb2⟩
    obtain ⟨hc2_0, hf2_0, hz2_0⟩ := bel_at hb2 (w1.heap.size) (by first | omega | (simp; done) | (simp; omega))
    go_wp2_with (fail)
    refine (spec_MoveAddress _ _ _ _ _).mono ?_
    rintro e w3 ⟨rfl, hb3⟩
    obtain ⟨hc3_0, hf3_0, hz3_0⟩ := bel_at hb3 (w1.heap.size) (by first | omega | (simp; done) | (simp; omega))
    obtain ⟨hc3_1, hf3_1, hz3_1⟩ := bel_at hb3 (w2.heap.size) (by first | omega | (simp; done) | (simp; omega))
    go_wp2
    all_goals (go_ret; exact ⟨rfl, by (repeat' (first | with_reducible exact Below.refl _ _ | (with_reducible refine balloc ?_ _) | (with_reducible refine bset ?_ ?_ _) | (with_reducible refine bdrew ?_) | (with_reducible refine bdrewN ?_ _) | (with_reducible refine bstep ?_ (by with_reducible assumption)) | (with_reducible refine bgrow ?_ (by with_reducible assumption) (by omega)) | (simp; done) | (simp; omega)))⟩)
theorem po_one {s p o : Int} (ha : avB s p o = true) : poOk s p o (64 - o) = true ∧ poF s p o (64 - o) = p ∧ poL s p o (64 - o) = p ∧
    (p < 255 → poOk s p o (65 - o) = true ∧ poL s p o (65 - o) = p + 1) ∧ (255 ≤ p → poOk s p o (65 - o) = false) := by
  obtain ⟨⟨a1, a2⟩, ⟨a3, a4⟩, a5, a6⟩ := avB_iff.1 ha
  have k : poOk s p o (64 - o) = true := poOk_iff.2 ⟨ha, by omega, by omega⟩
  refine ⟨k, by simp [poF, k], by simp only [poL, k, if_true]; omega, fun h => ?_, fun h => ?_⟩
  · have k2 : poOk s p o (65 - o) = true := poOk_iff.2 ⟨ha, by omega, by omega⟩
    exact ⟨k2, by simp only [poL, k2, if_true]; omega⟩
  · rcases hq : poOk s p o (65 - o) with _ | _
    · rfl
    · have := (poOk_iff.1 hq).2.2; omega
theorem law_FnPagesOne (w : World) (ao : Option Addr) (len cap : Nat) (h : CodeIn w ao len cap) : Calls Try.prog 9 #[.slice ao len cap] w fun r w' => r = .returned (.bool true) ∧ Below w.heap.size w w' := by
  have HC := Lib.hid h
  clear h
  by_cases hl : 1048576 < len
  · go_enter Try.func9, Try.ntmps9
    go_wp2
    go_ret
    exact ⟨rfl, by (repeat' (first | with_reducible exact Below.refl _ _ | (with_reducible refine balloc ?_ _) | (with_reducible refine bset ?_ ?_ _) | (with_reducible refine bdrew ?_) | (with_reducible refine bdrewN ?_ _) | (with_reducible refine bstep ?_ (by with_reducible assumption)) | (with_reducible refine bgrow ?_ (by with_reducible assumption) (by omega)) | (simp; done) | (simp; omega)))⟩
  have hl' : len ≤ 1048576 := by omega
  clear hl
  go_enter Try.func9, Try.ntmps9
  go_wp2_with (fail)
  refine (spec_DrawPagesOf _ _ _ _ HC.out).mono ?_
  rintro e w1 ⟨s, p, o, b, rfl, hb1⟩
  by_cases ha : avB s p o = true
  · obtain ⟨f1, f2, f3, f4, f5⟩ := po_one ha
    obtain ⟨⟨a1, a2⟩, ⟨a3, a4⟩, a5, a6⟩ := avB_iff.1 ha
    clear ha
    have e65 : 64 - o + 1 = 65 - o := by omega
    by_cases h : p < 255
    · obtain ⟨g1, g2⟩ := f4 h
      clear f4 f5
      go_wp2_with (fail)
      refine (impl_PagesOf _ _ _ _ _).mono ?_
      rintro e w2 ⟨rfl, hb2⟩
      obtain ⟨hc2_0, hf2_0, hz2_0⟩ := bel_at hb2 (w1.heap.size) (by first | omega | (simp; done) | (simp; omega))
      go_wp2_with (fail)
      refine (spec_PagesOf _ _ _ _ _).mono ?_
      rintro e w3 ⟨rfl, hb3⟩
      obtain ⟨hc3_0, hf3_0, hz3_0⟩ := bel_at hb3 (w1.heap.size) (by first | omega | (simp; done) | (simp; omega))
      go_wp2_with (fail)
      refine (impl_PagesOf _ _ _ _ _).mono ?_
      rintro e w4 ⟨rfl, hb4⟩
      obtain ⟨hc4_0, hf4_0, hz4_0⟩ := bel_at hb4 (w1.heap.size) (by first | omega | (simp; done) | (simp; omega))
      go_wp2
      all_goals (go_ret; exact ⟨rfl, by (repeat' (first | with_reducible exact Below.refl _ _ | (with_reducible refine balloc ?_ _) | (with_reducible refine bset ?_ ?_ _) | (with_reducible refine bdrew ?_) | (with_reducible refine bdrewN ?_ _) | (with_reducible refine bstep ?_ (by with_reducible assumption)) | (with_reducible refine bgrow ?_ (by with_reducible assumption) (by omega)) | (simp; done) | (simp; omega)))⟩)
    · have g1 := f5 (by omega)
      have d1 : decide (p < 255) = false := by simpa using h
      clear f4 f5
      go_wp2_with (fail)
      refine (impl_PagesOf _ _ _ _ _).mono ?_
      rintro e w2 ⟨rfl, hb2⟩
      obtain ⟨hc2_0, hf2_0, hz2_0⟩ := bel_at hb2 (w1.heap.size) (by first | omega | (simp; done) | (simp; omega))
      go_wp2_with (fail)
      refine (spec_PagesOf _ _ _ _ _).mono ?_
      rintro e w3 ⟨rfl, hb3⟩
      obtain ⟨hc3_0, hf3_0, hz3_0⟩ := bel_at hb3 (w1.heap.size) (by first | omega | (simp; done) | (simp; omega))
      go_wp2_with (fail)
      refine (impl_PagesOf _ _ _ _ _).mono ?_
      rintro e w4 ⟨rfl, hb4⟩
      obtain ⟨hc4_0, hf4_0, hz4_0⟩ := bel_at hb4 (w1.heap.size) (by first | omega | (simp; done) | (simp; omega))
      go_wp2
      all_goals (go_ret; exact ⟨rfl, by (repeat' (first | with_reducible exact Below.refl _ _ | (with_reducible refine balloc ?_ _) | (with_reducible refine bset ?_ ?_ _) | (with_reducible refine bdrew ?_) | (with_reducible refine bdrewN ?_ _) | (with_reducible refine bstep ?_ (by with_reducible assumption)) | (with_reducible refine bgrow ?_ (by with_reducible assumption) (by omega)) | (simp; done) | (simp; omega)))⟩)
  · have ha' : ∀ b, poOk s p o b = false := by
      intro b
      rcases hq : poOk s p o b with _ | _
      · rfl
      · exact absurd (poOk_iff.1 hq).1 ha
    clear ha
    go_wp2_with (fail)
    refine (impl_PagesOf _ _ _ _ _).mono ?_
    rintro e w2 ⟨rfl, hb2⟩
    obtain ⟨hc2_0, hf2_0, hz2_0⟩ := bel_at hb2 (w1.heap.size) (by first | omega | (simp; done) | (simp; omega))
    go_wp2_with (fail)
    refine (spec_PagesOf _ _ _ _ _).mono ?_
    rintro e w3 ⟨rfl, hb3⟩
    obtain ⟨hc3_0, hf3_0, hz3_0⟩ := bel_at hb3 (w1.heap.size) (by first | omega | (simp; done) | (simp; omega))
    go_wp2
    all_goals (go_ret; exact ⟨rfl, by (repeat' (first | with_reducible exact Below.refl _ _ | (with_reducible refine balloc ?_ _) | (with_reducible refine bset ?_ ?_ _) | (with_reducible refine bdrew ?_) | (with_reducible refine bdrewN ?_ _) | (with_reducible refine bstep ?_ (by with_reducible assumption)) | (with_reducible refine bgrow ?_ (by with_reducible assumption) (by omega)) | (simp; done) | (simp; omega)))⟩)
theorem po_last {s p o b : Int} (h : poOk s p o b = true) : maOk s p o (b - 1) = true ∧ poF s p o b = p ∧ poL s p o b = maP s p o (b - 1) ∧ maP s p o (b - 1) - p ≤ (b + 64 - 1) / 64 ∧ 1 ≤ b ∧ b ≤ 16384 ∧ 0 ≤ maP s p o (b - 1) ∧ maP s p o (b - 1) < 256 ∧ 0 ≤ p ∧ p < 256 := by
  obtain ⟨⟨h1, h2⟩, hm⟩ := po_ma.1 h
  obtain ⟨ha, q1, q2, q3, q4⟩ := maOk_iff.1 hm
  obtain ⟨⟨a1, a2⟩, ⟨a3, a4⟩, a5, a6⟩ := avB_iff.1 ha
  obtain ⟨e1, e2, e3⟩ := ma_step hm
  rw [e2]
  refine ⟨hm, by simp [poF, h], ?_, by omega, by omega, by omega, by omega, by omega, by omega, by omega⟩
  simp only [poL, h, if_true]
  omega
theorem law_FnPagesOf (w : World) (ao : Option Addr) (len cap : Nat) (h : CodeIn w ao len cap) : Calls Try.prog 10 #[.slice ao len cap] w fun r w' => r = .returned (.bool true) ∧ Below w.heap.size w w' := by
  have HC := Lib.hid h
  clear h
  by_cases hl : 1048576 < len
  · go_enter Try.func10, Try.ntmps10
    go_wp2
    go_ret
    exact ⟨rfl, by (repeat' (first | with_reducible exact Below.refl _ _ | (with_reducible refine balloc ?_ _) | (with_reducible refine bset ?_ ?_ _) | (with_reducible refine bdrew ?_) | (with_reducible refine bdrewN ?_ _) | (with_reducible refine bstep ?_ (by with_reducible assumption)) | (with_reducible refine bgrow ?_ (by with_reducible assumption) (by omega)) | (simp; done) | (simp; omega)))⟩
  have hl' : len ≤ 1048576 := by omega
  clear hl
  go_enter Try.func10, Try.ntmps10
  go_wp2_with (fail)
  refine (spec_DrawPagesOf _ _ _ _ HC.out).mono ?_
  rintro e w1 ⟨s, p, o, b, rfl, hb1⟩
  by_cases hok : poOk s p o b = true
  · obtain ⟨f1, f2, f3, f4, f5, f6, f7, f8, f9, f10⟩ := po_last hok
    go_wp2_with (fail)
    refine (impl_PagesOf _ _ _ _ _).mono ?_
    rintro e w2 ⟨rfl, hb2⟩
    obtain ⟨hc2_0, hf2_0, hz2_0⟩ := bel_at hb2 (w1.heap.size) (by first | omega | (simp; done) | (simp; omega))
    go_wp2_with (fail)
    refine (spec_PagesOf _ _ _ _ _).mono ?_
    rintro e w3 ⟨rfl, hb3⟩
    obtain ⟨hc3_0, hf3_0, hz3_0⟩ := bel_at hb3 (w1.heap.size) (by first | omega | (simp; done) | (simp; omega))
    go_wp2_with (fail)
    refine (impl_MoveAddress _ _ _ _ _).mono ?_
    rintro e w4 ⟨rfl, hb4⟩
    obtain ⟨hc4_0, hf4_0, hz4_0⟩ := bel_at hb4 (w1.heap.size) (by first | omega | (simp; done) | (simp; omega))
    go_wp2
    all_goals (go_ret; exact ⟨rfl, by (repeat' (first | with_reducible exact Below.refl _ _ | (with_reducible refine balloc ?_ _) | (with_reducible refine bset ?_ ?_ _) | (with_reducible refine bdrew ?_) | (with_reducible refine bdrewN ?_ _) | (with_reducible refine bstep ?_ (by with_reducible assumption)) | (with_reducible refine bgrow ?_ (by with_reducible assumption) (by omega)) | (simp; done) | (simp; omega)))⟩)
  · have hok' : poOk s p o b = false := by simpa using hok
    clear hok
    go_wp2_with (fail)
    refine (impl_PagesOf _ _ _ _ _).mono ?_
    rintro e w2 ⟨rfl, hb2⟩
    obtain ⟨hc2_0, hf2_0, hz2_0⟩ := bel_at hb2 (w1.heap.size) (by first | omega | (simp; done) | (simp; omega))
    go_wp2_with (fail)
    refine (spec_PagesOf _ _ _ _ _).mono ?_
    rintro e w3 ⟨rfl, hb3⟩
    obtain ⟨hc3_0, hf3_0, hz3_0⟩ := bel_at hb3 (w1.heap.size) (by first | omega | (simp; done) | (simp; omega))
    go_wp2
    all_goals (go_ret; exact ⟨rfl, by (repeat' (first | with_reducible exact Below.refl _ _ | (with_reducible refine balloc ?_ _) | (with_reducible refine bset ?_ ?_ _) | (with_reducible refine bdrew ?_) | (with_reducible refine bdrewN ?_ _) | (with_reducible refine bstep ?_ (by with_reducible assumption)) | (with_reducible refine bgrow ?_ (by with_reducible assumption) (by omega)) | (simp; done) | (simp; omega)))⟩)
end Go.Proofs.Ythehcknkehmkkaa
