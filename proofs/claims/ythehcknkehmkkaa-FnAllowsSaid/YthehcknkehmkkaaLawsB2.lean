/- Walks of laws on the texts of rights at drawn values: each returns true. No conditions. -/
import Derived.Test.YthehcknkehmkkaaDraw
import Derived.Test.YthehcknkehmkkaaKeys
import Derived.Test.YthehcknkehmkkaaMoveI
import Derived.Test.YthehcknkehmkkaaRights
namespace Go.Proofs.Ythehcknkehmkkaa
open Go.ChangeShapes Go.WideShapes Go.ChangeAt Go.RowKit
theorem frT_facts : ∀ a : Fin 8, (frT (a.val : Int)).toList.isEmpty = false ∧ (frT (a.val : Int)).size = 3 := by decide +kernel
theorem frT_inj : ∀ a b : Fin 8, a ≠ b → ((frT (a.val : Int)).toList == (frT (b.val : Int)).toList) = false := by decide +kernel
set_option maxHeartbeats 4000000 in
theorem law_FnRightsText (w : World) (ao : Option Addr) (len cap : Nat) (h : CodeIn w ao len cap) : Calls Try.prog 4 #[.slice ao len cap] w fun r w' => r = .returned (.bool true) ∧ Below w.heap.size w w' := by
  have HC := Lib.hid h
  clear h
  by_cases hl : 1048576 < len
  · go_enter Try.func4, Try.ntmps4
    go_wp2
    go_ret
    exact ⟨rfl, by (repeat' (first | with_reducible exact Below.refl _ _ | (with_reducible refine balloc ?_ _) | (with_reducible refine bset ?_ ?_ _) | (with_reducible refine bdrew ?_) | (with_reducible refine bdrewN ?_ _) | (with_reducible refine bstep ?_ (by with_reducible assumption)) | (with_reducible refine bgrow ?_ (by with_reducible assumption) (by omega)) | (simp; done) | (simp; omega)))⟩
  have hl' : len ≤ 1048576 := by omega
  clear hl
  go_enter Try.func4, Try.ntmps4
  go_wp2_with (fail)
  refine (spec_DrawFormatRights _ _ _ _ HC.out).mono ?_
  rintro e w1 ⟨x, rfl, hb1⟩
  by_cases hr : withinB x 8 = true
  · obtain ⟨q1, q2⟩ := withinB_iff.1 hr
    clear hr
    rcases (show x = 0 ∨ x = 1 ∨ x = 2 ∨ x = 3 ∨ x = 4 ∨ x = 5 ∨ x = 6 ∨ x = 7 from by omega) with h | h | h | h | h | h | h | h <;> subst h <;> clear q1 q2
    · have a1 : alB 0 1 = false := by decide
      have a2 : alB 0 2 = false := by decide
      have a4 : alB 0 4 = false := by decide
      go_wp2_with (fail)
      refine (impl_FormatRights0 _).mono ?_
      rintro e w2 ⟨rfl, hb2⟩
      go_wp2_with (fail)
      refine (spec_FormatRights0 _).mono ?_
      rintro e w3 ⟨rfl, hb3⟩
      go_wp2
      go_quiet ((go_at_call 15; exact qsame (impl_Allows _ _ _)))
      go_wp2
      all_goals (go_ret; exact ⟨rfl, by (repeat' (first | with_reducible exact Below.refl _ _ | (with_reducible refine balloc ?_ _) | (with_reducible refine bset ?_ ?_ _) | (with_reducible refine bdrew ?_) | (with_reducible refine bdrewN ?_ _) | (with_reducible refine bstep ?_ (by with_reducible assumption)) | (with_reducible refine bgrow ?_ (by with_reducible assumption) (by omega)) | (simp; done) | (simp; omega)))⟩)
    · have a1 : alB 1 1 = true := by decide
      have a2 : alB 1 2 = false := by decide
      have a4 : alB 1 4 = false := by decide
      go_wp2_with (fail)
      refine (impl_FormatRights1 _).mono ?_
      rintro e w2 ⟨rfl, hb2⟩
      go_wp2_with (fail)
      refine (spec_FormatRights1 _).mono ?_
      rintro e w3 ⟨rfl, hb3⟩
      go_wp2
      go_quiet ((go_at_call 15; exact qsame (impl_Allows _ _ _)))
      go_wp2
      all_goals (go_ret; exact ⟨rfl, by (repeat' (first | with_reducible exact Below.refl _ _ | (with_reducible refine balloc ?_ _) | (with_reducible refine bset ?_ ?_ _) | (with_reducible refine bdrew ?_) | (with_reducible refine bdrewN ?_ _) | (with_reducible refine bstep ?_ (by with_reducible assumption)) | (with_reducible refine bgrow ?_ (by with_reducible assumption) (by omega)) | (simp; done) | (simp; omega)))⟩)
    · have a1 : alB 2 1 = false := by decide
      have a2 : alB 2 2 = true := by decide
      have a4 : alB 2 4 = false := by decide
      go_wp2_with (fail)
      refine (impl_FormatRights2 _).mono ?_
      rintro e w2 ⟨rfl, hb2⟩
      go_wp2_with (fail)
      refine (spec_FormatRights2 _).mono ?_
      rintro e w3 ⟨rfl, hb3⟩
      go_wp2
      go_quiet ((go_at_call 15; exact qsame (impl_Allows _ _ _)))
      go_wp2
      all_goals (go_ret; exact ⟨rfl, by (repeat' (first | with_reducible exact Below.refl _ _ | (with_reducible refine balloc ?_ _) | (with_reducible refine bset ?_ ?_ _) | (with_reducible refine bdrew ?_) | (with_reducible refine bdrewN ?_ _) | (with_reducible refine bstep ?_ (by with_reducible assumption)) | (with_reducible refine bgrow ?_ (by with_reducible assumption) (by omega)) | (simp; done) | (simp; omega)))⟩)
    · have a1 : alB 3 1 = true := by decide
      have a2 : alB 3 2 = true := by decide
      have a4 : alB 3 4 = false := by decide
      go_wp2_with (fail)
      refine (impl_FormatRights3 _).mono ?_
      rintro e w2 ⟨rfl, hb2⟩
      go_wp2_with (fail)
      refine (spec_FormatRights3 _).mono ?_
      rintro e w3 ⟨rfl, hb3⟩
      go_wp2
      go_quiet ((go_at_call 15; exact qsame (impl_Allows _ _ _)))
      go_wp2
      all_goals (go_ret; exact ⟨rfl, by (repeat' (first | with_reducible exact Below.refl _ _ | (with_reducible refine balloc ?_ _) | (with_reducible refine bset ?_ ?_ _) | (with_reducible refine bdrew ?_) | (with_reducible refine bdrewN ?_ _) | (with_reducible refine bstep ?_ (by with_reducible assumption)) | (with_reducible refine bgrow ?_ (by with_reducible assumption) (by omega)) | (simp; done) | (simp; omega)))⟩)
    · have a1 : alB 4 1 = false := by decide
      have a2 : alB 4 2 = false := by decide
      have a4 : alB 4 4 = true := by decide
      go_wp2_with (fail)
      refine (impl_FormatRights4 _).mono ?_
      rintro e w2 ⟨rfl, hb2⟩
      go_wp2_with (fail)
      refine (spec_FormatRights4 _).mono ?_
      rintro e w3 ⟨rfl, hb3⟩
      go_wp2
      go_quiet ((go_at_call 15; exact qsame (impl_Allows _ _ _)))
      go_wp2
      all_goals (go_ret; exact ⟨rfl, by (repeat' (first | with_reducible exact Below.refl _ _ | (with_reducible refine balloc ?_ _) | (with_reducible refine bset ?_ ?_ _) | (with_reducible refine bdrew ?_) | (with_reducible refine bdrewN ?_ _) | (with_reducible refine bstep ?_ (by with_reducible assumption)) | (with_reducible refine bgrow ?_ (by with_reducible assumption) (by omega)) | (simp; done) | (simp; omega)))⟩)
    · have a1 : alB 5 1 = true := by decide
      have a2 : alB 5 2 = false := by decide
      have a4 : alB 5 4 = true := by decide
      go_wp2_with (fail)
      refine (impl_FormatRights5 _).mono ?_
      rintro e w2 ⟨rfl, hb2⟩
      go_wp2_with (fail)
      refine (spec_FormatRights5 _).mono ?_
      rintro e w3 ⟨rfl, hb3⟩
      go_wp2
      go_quiet ((go_at_call 15; exact qsame (impl_Allows _ _ _)))
      go_wp2
      all_goals (go_ret; exact ⟨rfl, by (repeat' (first | with_reducible exact Below.refl _ _ | (with_reducible refine balloc ?_ _) | (with_reducible refine bset ?_ ?_ _) | (with_reducible refine bdrew ?_) | (with_reducible refine bdrewN ?_ _) | (with_reducible refine bstep ?_ (by with_reducible assumption)) | (with_reducible refine bgrow ?_ (by with_reducible assumption) (by omega)) | (simp; done) | (simp; omega)))⟩)
    · have a1 : alB 6 1 = false := by decide
      have a2 : alB 6 2 = true := by decide
      have a4 : alB 6 4 = true := by decide
      go_wp2_with (fail)
      refine (impl_FormatRights6 _).mono ?_
      rintro e w2 ⟨rfl, hb2⟩
      go_wp2_with (fail)
      refine (spec_FormatRights6 _).mono ?_
      rintro e w3 ⟨rfl, hb3⟩
      go_wp2
      go_quiet ((go_at_call 15; exact qsame (impl_Allows _ _ _)))
      go_wp2
      all_goals (go_ret; exact ⟨rfl, by (repeat' (first | with_reducible exact Below.refl _ _ | (with_reducible refine balloc ?_ _) | (with_reducible refine bset ?_ ?_ _) | (with_reducible refine bdrew ?_) | (with_reducible refine bdrewN ?_ _) | (with_reducible refine bstep ?_ (by with_reducible assumption)) | (with_reducible refine bgrow ?_ (by with_reducible assumption) (by omega)) | (simp; done) | (simp; omega)))⟩)
    · have a1 : alB 7 1 = true := by decide
      have a2 : alB 7 2 = true := by decide
      have a4 : alB 7 4 = true := by decide
      go_wp2_with (fail)
      refine (impl_FormatRights7 _).mono ?_
      rintro e w2 ⟨rfl, hb2⟩
      go_wp2_with (fail)
      refine (spec_FormatRights7 _).mono ?_
      rintro e w3 ⟨rfl, hb3⟩
      go_wp2
      go_quiet ((go_at_call 15; exact qsame (impl_Allows _ _ _)))
      go_wp2
      all_goals (go_ret; exact ⟨rfl, by (repeat' (first | with_reducible exact Below.refl _ _ | (with_reducible refine balloc ?_ _) | (with_reducible refine bset ?_ ?_ _) | (with_reducible refine bdrew ?_) | (with_reducible refine bdrewN ?_ _) | (with_reducible refine bstep ?_ (by with_reducible assumption)) | (with_reducible refine bgrow ?_ (by with_reducible assumption) (by omega)) | (simp; done) | (simp; omega)))⟩)
  · have hb := withinB_not.1 (show withinB x 8 = false by simpa using hr)
    have e : frT x = ⟨#[]⟩ := by
      unfold frT
      rw [if_neg (by omega), if_neg (by omega), if_neg (by omega), if_neg (by omega), if_neg (by omega), if_neg (by omega), if_neg (by omega), if_neg (by omega)]
    clear hr hb
    go_wp2_with (first | (go_at_call 19; refine (impl_FormatRights _ _).mono ?_; rintro e w' ⟨rfl, hb⟩; obtain ⟨hc, hf, hz⟩ := bel3 hb) | (go_at_call 20; refine (spec_FormatRights _ _).mono ?_; rintro e w' ⟨rfl, hb⟩; obtain ⟨hc, hf, hz⟩ := bel3 hb))
    all_goals (go_ret; exact ⟨rfl, by (repeat' (first | with_reducible exact Below.refl _ _ | (with_reducible refine balloc ?_ _) | (with_reducible refine bset ?_ ?_ _) | (with_reducible refine bdrew ?_) | (with_reducible refine bdrewN ?_ _) | (with_reducible refine bstep ?_ (by with_reducible assumption)) | (with_reducible refine bgrow ?_ (by with_reducible assumption) (by omega)) | (simp; done) | (simp; omega)))⟩)
set_option maxHeartbeats 4000000 in
theorem law_FnFormatRights (w : World) (ao : Option Addr) (len cap : Nat) (h : CodeIn w ao len cap) : Calls Try.prog 5 #[.slice ao len cap] w fun r w' => r = .returned (.bool true) ∧ Below w.heap.size w w' := by
  have HC := Lib.hid h
  clear h
  by_cases hl : 1048576 < len
  · go_enter Try.func5, Try.ntmps5
    go_wp2
    go_ret
    exact ⟨rfl, by (repeat' (first | with_reducible exact Below.refl _ _ | (with_reducible refine balloc ?_ _) | (with_reducible refine bset ?_ ?_ _) | (with_reducible refine bdrew ?_) | (with_reducible refine bdrewN ?_ _) | (with_reducible refine bstep ?_ (by with_reducible assumption)) | (with_reducible refine bgrow ?_ (by with_reducible assumption) (by omega)) | (simp; done) | (simp; omega)))⟩
  have hl' : len ≤ 1048576 := by omega
  clear hl
  go_enter Try.func5, Try.ntmps5
  go_wp2_with (fail)
  refine (spec_DrawFormatRights _ _ _ _ HC.out).mono ?_
  rintro e w1 ⟨x, rfl, hb1⟩
  by_cases hr : withinB x 8 = true
  · obtain ⟨q1, q2⟩ := withinB_iff.1 hr
    obtain ⟨k, rfl⟩ := Int.eq_ofNat_of_zero_le q1
    obtain ⟨s1, s2⟩ := frT_facts ⟨k, by omega⟩
    simp only [] at s1 s2
    go_wp2_with (fail)
    refine (impl_FormatRights _ _).mono ?_
    rintro e w2 ⟨rfl, hb2⟩
    go_wp2_with (fail)
    refine (spec_FormatRights _ _).mono ?_
    rintro e w3 ⟨rfl, hb3⟩
    go_wp2_with (fail)
    refine (impl_RightsValid _ _).mono ?_
    rintro e w4 ⟨rfl, rfl⟩
    go_wp2_with (fail)
    refine (spec_RightsValid _ _).mono ?_
    rintro e w5 ⟨rfl, rfl⟩
    go_wp2
    have hb5 : Below w.heap.size w w3 := by (repeat' (first | with_reducible exact Below.refl _ _ | (with_reducible refine balloc ?_ _) | (with_reducible refine bset ?_ ?_ _) | (with_reducible refine bdrew ?_) | (with_reducible refine bdrewN ?_ _) | (with_reducible refine bstep ?_ (by with_reducible assumption)) | (with_reducible refine bgrow ?_ (by with_reducible assumption) (by omega)) | (simp; done) | (simp; omega)))
    go_loopw [5] (fun n wr => ∃ j : Nat, j ≤ 8 ∧ n = .int .i64 j ∧ Below w.heap.size w wr) (fun n _ => 8 - (intOf n).toNat)
    case atStart => exact ⟨0, by omega, rfl, hb5⟩
    case round =>
      obtain ⟨j, hj, rfl, hb6⟩ := hrel
      by_cases hlt : j < 8
      · by_cases hjk : j = k
        · subst hjk
          go_wp2_with (fail)
          refine (impl_FormatRights _ _).mono ?_
          rintro e w7 ⟨rfl, hb7⟩
          go_wp2
          go_roundw
          case rel => exact ⟨j + 1, by omega, by go_num, by (repeat' (first | with_reducible exact Below.refl _ _ | (with_reducible refine balloc ?_ _) | (with_reducible refine bset ?_ ?_ _) | (with_reducible refine bdrew ?_) | (with_reducible refine bdrewN ?_ _) | (with_reducible refine bstep ?_ (by with_reducible assumption)) | (with_reducible refine bgrow ?_ (by with_reducible assumption) (by omega)) | (simp; done) | (simp; omega)))⟩
          case measure => simp [intOf]; omega
        · have h1 := frT_inj ⟨j, hlt⟩ ⟨k, by omega⟩ (by simpa using hjk)
          simp only [] at h1
          have h2 : ((j : Int) == (k : Int)) = false := by simp; omega
          go_wp2_with (fail)
          refine (impl_FormatRights _ _).mono ?_
          rintro e w7 ⟨rfl, hb7⟩
          go_wp2
          go_roundw
          case rel => exact ⟨j + 1, by omega, by go_num, by (repeat' (first | with_reducible exact Below.refl _ _ | (with_reducible refine balloc ?_ _) | (with_reducible refine bset ?_ ?_ _) | (with_reducible refine bdrew ?_) | (with_reducible refine bdrewN ?_ _) | (with_reducible refine bstep ?_ (by with_reducible assumption)) | (with_reducible refine bgrow ?_ (by with_reducible assumption) (by omega)) | (simp; done) | (simp; omega)))⟩
          case measure => simp [intOf]; omega
      · go_wp2
        go_ret
        exact ⟨rfl, hb6⟩
  · have hr' : withinB x 8 = false := by simpa using hr
    have hb := withinB_not.1 hr'
    have e : frT x = ⟨#[]⟩ := by
      unfold frT
      rw [if_neg (by omega), if_neg (by omega), if_neg (by omega), if_neg (by omega), if_neg (by omega), if_neg (by omega), if_neg (by omega), if_neg (by omega)]
    clear hr hb
    go_wp2_with (first | (go_at_call 19; refine (impl_FormatRights _ _).mono ?_; rintro e w' ⟨rfl, hb⟩; obtain ⟨hc, hf, hz⟩ := bel3 hb) | (go_at_call 20; refine (spec_FormatRights _ _).mono ?_; rintro e w' ⟨rfl, hb⟩; obtain ⟨hc, hf, hz⟩ := bel3 hb) | (go_at_call 17; refine (impl_RightsValid _ _).mono ?_; rintro e w' ⟨rfl, rfl⟩) | (go_at_call 21; refine (spec_RightsValid _ _).mono ?_; rintro e w' ⟨rfl, rfl⟩))
    all_goals (go_ret; exact ⟨rfl, by (repeat' (first | with_reducible exact Below.refl _ _ | (with_reducible refine balloc ?_ _) | (with_reducible refine bset ?_ ?_ _) | (with_reducible refine bdrew ?_) | (with_reducible refine bdrewN ?_ _) | (with_reducible refine bstep ?_ (by with_reducible assumption)) | (with_reducible refine bgrow ?_ (by with_reducible assumption) (by omega)) | (simp; done) | (simp; omega)))⟩)
def evB (r n : Int) : Nat → Bool
  | 0 => true
  | j + 1 => evB r n j && !((n / 2 ^ j % 2 == 1) && (r / 2 ^ j % 2 == 0))
theorem ev_al0 : ∀ r n : Fin 8, evB (r.val : Int) (n.val : Int) 3 = alB (r.val : Int) (n.val : Int) := by decide +kernel
theorem al_self0 : ∀ r : Fin 8, alB (r.val : Int) (r.val : Int) = true ∧ alB 7 (r.val : Int) = true := by decide +kernel
theorem ev_al {r n : Int} (q1 : 0 ≤ r) (q2 : r < 8) (q3 : 0 ≤ n) (q4 : n < 8) : evB r n 3 = alB r n ∧ alB r r = true ∧ alB 7 n = true := by
  obtain ⟨a, rfl⟩ := Int.eq_ofNat_of_zero_le q1
  obtain ⟨b, rfl⟩ := Int.eq_ofNat_of_zero_le q3
  exact ⟨ev_al0 ⟨a, by omega⟩ ⟨b, by omega⟩, (al_self0 ⟨a, by omega⟩).1, (al_self0 ⟨b, by omega⟩).2⟩
theorem law_FnAllows (w : World) (ao : Option Addr) (len cap : Nat) (h : CodeIn w ao len cap) : Calls Try.prog 3 #[.slice ao len cap] w fun r w' => r = .returned (.bool true) ∧ Below w.heap.size w w' := by
  have HC := Lib.hid h
  clear h
  by_cases hl : 1048576 < len
  · go_enter Try.func3, Try.ntmps3
    go_wp2
    go_ret
    exact ⟨rfl, by (repeat' (first | with_reducible exact Below.refl _ _ | (with_reducible refine balloc ?_ _) | (with_reducible refine bset ?_ ?_ _) | (with_reducible refine bdrew ?_) | (with_reducible refine bdrewN ?_ _) | (with_reducible refine bstep ?_ (by with_reducible assumption)) | (with_reducible refine bgrow ?_ (by with_reducible assumption) (by omega)) | (simp; done) | (simp; omega)))⟩
  have hl' : len ≤ 1048576 := by omega
  clear hl
  go_enter Try.func3, Try.ntmps3
  go_wp2_with (fail)
  refine (spec_DrawAllows _ _ _ _ HC.out).mono ?_
  rintro e w1 ⟨r, n, rfl, hb1⟩
  by_cases hr : withinB r 8 = true
  · by_cases hn : withinB n 8 = true
    · obtain ⟨q1, q2⟩ := withinB_iff.1 hr
      obtain ⟨q3, q4⟩ := withinB_iff.1 hn
      obtain ⟨e1, e2, e3⟩ := ev_al q1 q2 q3 q4
      have E1 := Lib.hid e1
      clear e1
      go_wp2_with (first | (go_at_call 15; refine (impl_Allows _ _ _).mono ?_; rintro e w' ⟨rfl, rfl⟩) | (go_at_call 16; refine (spec_Allows _ _ _).mono ?_; rintro e w' ⟨rfl, rfl⟩) | (go_at_call 17; refine (impl_RightsValid _ _).mono ?_; rintro e w' ⟨rfl, rfl⟩))
      go_loopw [6, 7] (fun v b wr => ∃ j : Nat, j ≤ 3 ∧ b = .int .i64 (2 ^ j : Nat) ∧ v = .bool (evB r n j) ∧ wr = w1) (fun _ b _ => 8 - (intOf b).toNat)
      case atStart => exact ⟨0, by omega, rfl, rfl, rfl⟩
      case round =>
        obtain ⟨j, hj, rfl, rfl, rfl⟩ := hrel
        rcases (show j = 0 ∨ j = 1 ∨ j = 2 ∨ j = 3 from by omega) with rfl | rfl | rfl | rfl
        · rcases hx : (n % 2 == 1) with _ | _ <;> rcases hy : (r % 2 == 0) with _ | _
          all_goals
            go_wp2
            go_roundw
            case rel => exact ⟨1, by omega, rfl, by simp [evB, hx, hy], by first | rfl | trivial⟩
            case measure => simp [intOf]
        · rcases hx : (n / 2 % 2 == 1) with _ | _ <;> rcases hy : (r / 2 % 2 == 0) with _ | _
          all_goals
            go_wp2
            go_roundw
            case rel => exact ⟨2, by omega, rfl, by simp [evB, hx, hy], by first | rfl | trivial⟩
            case measure => simp [intOf]
        · rcases hx : (n / 4 % 2 == 1) with _ | _ <;> rcases hy : (r / 4 % 2 == 0) with _ | _
          all_goals
            go_wp2
            go_roundw
            case rel => exact ⟨3, by omega, rfl, by simp [evB, hx, hy], by first | rfl | trivial⟩
            case measure => simp [intOf]
        · rw [E1.out]
          go_wp2_with (go_at_call 15; refine (impl_Allows _ _ _).mono ?_; rintro e w' ⟨rfl, rfl⟩)
          all_goals (go_ret; exact ⟨rfl, hb1⟩)
    · have hn' : withinB n 8 = false := by simpa using hn
      have ha : alB r n = false := by simp [alB, hn']
      clear hn
      go_wp2_with (first | (go_at_call 15; refine (impl_Allows _ _ _).mono ?_; rintro e w' ⟨rfl, rfl⟩) | (go_at_call 16; refine (spec_Allows _ _ _).mono ?_; rintro e w' ⟨rfl, rfl⟩) | (go_at_call 17; refine (impl_RightsValid _ _).mono ?_; rintro e w' ⟨rfl, rfl⟩))
      all_goals (go_ret; exact ⟨rfl, hb1⟩)
  · have hr' : withinB r 8 = false := by simpa using hr
    have ha : alB r n = false := by simp [alB, hr']
    clear hr
    go_wp2_with (first | (go_at_call 15; refine (impl_Allows _ _ _).mono ?_; rintro e w' ⟨rfl, rfl⟩) | (go_at_call 16; refine (spec_Allows _ _ _).mono ?_; rintro e w' ⟨rfl, rfl⟩) | (go_at_call 17; refine (impl_RightsValid _ _).mono ?_; rintro e w' ⟨rfl, rfl⟩))
    all_goals (go_ret; exact ⟨rfl, hb1⟩)
end Go.Proofs.Ythehcknkehmkkaa
