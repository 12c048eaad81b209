/- Walk of the law FnParseSpace: it returns true where the library's variables are laid. No other conditions. -/
import Derived.Test.YtaoggijepndnmaaDoorLawsP3
import Derived.Test.YtaoggijepndnmaaDoorBend2
namespace Go.Proofs.YtaoggijepndnmaaDoor
set_option linter.unusedVariables false
open Go.ChangeShapes Go.WideShapes Go.ChangeAt Go.RowKit
/-- how often a byte stands among the first ones -/
def cntB (s : ByteArray) (c : Nat) : Nat → Nat
  | 0 => 0
  | j + 1 => cntB s c j + if (s.get! j).toNat = c then 1 else 0
theorem cntB_le (s : ByteArray) (c : Nat) : ∀ j, cntB s c j ≤ j
  | 0 => Nat.le_refl _
  | j + 1 => by
    have := cntB_le s c j
    unfold cntB
    split <;> omega
theorem cntB_list (l : List UInt8) (c : Nat) : ∀ j, j ≤ l.length → cntB ⟨l.toArray⟩ c j = (l.take j).countP (fun x => decide (x.toNat = c))
  | 0, _ => by simp [cntB]
  | j + 1, h => by
    have h1 := cntB_list l c j (by omega)
    unfold cntB
    rw [h1, get!_list l j (by omega), List.take_succ_eq_append_getElem (by omega), List.countP_append]
    simp [List.countP_cons]
theorem cnt_digits {k c : Nat} (h : k < 1000) (hc : c = 58 ∨ c = 43) : (Lib.decDigits k).countP (fun x => decide (x.toNat = c)) = 0 := by
  refine List.countP_eq_zero.2 fun x hx => ?_
  have := (decS_facts h).2.2.2.1 x hx
  simp only [decide_eq_true_eq]
  omega
theorem fmt_counts {a b c : Nat} (ha : a < 1000) (hb : b < 1000) (hc : c < 1000) : cntB (fmtA a b c) 58 (fmtA a b c).size = 1 ∧ cntB (fmtA a b c) 43 (fmtA a b c).size = 1 := by
  rw [fmtA_eq]
  have e : (ByteArray.mk (fmtL a b c).toArray).size = (fmtL a b c).length := by simp [ByteArray.size]
  rw [e, cntB_list _ _ _ (Nat.le_refl _), cntB_list _ _ _ (Nat.le_refl _), List.take_length]
  unfold fmtL
  simp only [List.countP_append, List.countP_cons, cnt_digits ha (Or.inl rfl), cnt_digits hb (Or.inl rfl), cnt_digits hc (Or.inl rfl), cnt_digits ha (Or.inr rfl), cnt_digits hb (Or.inr rfl), cnt_digits hc (Or.inr rfl)]
  constructor <;> decide
set_option maxHeartbeats 1000000 in
theorem law_FnParseSpace (w : World) (ao : Option Addr) (len cap : Nat) (h : CodeIn w ao len cap) (hfree : LibW w) : Calls Tryd.prog 4 #[.slice ao len cap] w fun r w' => r = .returned (.bool true) ∧ Below w.heap.size w w' := by
  have HC := Lib.hid h
  have HL := Lib.hid hfree
  clear h hfree
  by_cases hl : 1048576 < len
  · go_enter Tryd.func4, Tryd.ntmps4
    go_wp2
    go_ret
    exact ⟨rfl, by (repeat' (first | with_reducible exact Below.refl _ _ | (with_reducible refine balloc ?_ _) | (with_reducible refine bset ?_ ?_ _) | (with_reducible refine bdrew ?_) | (with_reducible refine bdrewN ?_ _) | (with_reducible refine bstep ?_ (by with_reducible assumption)) | (with_reducible refine bgrow ?_ (by with_reducible assumption) (by omega)) | (simp; done) | (simp; omega)))⟩
  have hl' : len ≤ 1048576 := by omega
  clear hl
  go_enter Tryd.func4, Tryd.ntmps4
  go_wp2_with (fail)
  refine (spec_DrawParseAddress _ _ _ _ HC.out).mono ?_
  rintro e w1 ⟨t, rfl, ht, hb1⟩
  rcases addr_or t with ⟨a, b, c, hv, rfl⟩ | hn
  · have hr := avB_iff.1 hv
    have HF := Lib.hid (fmt_counts (a := a) (b := b) (c := c) (by omega) (by omega) (by omega))
    have HI := Lib.hid (fun (w : World) (hl : LibW w) => impl_Parse_yes a b c hv w hl)
    have HS := Lib.hid (fun (w : World) => spec_Parse_yes a b c hv w)
    clear hr
    generalize fmtA a b c = s at *
    go_wp2_with (fail)
    refine (HI.out _ (HL.out.below (by (repeat' (first | with_reducible exact Below.refl _ _ | (with_reducible refine balloc ?_ _) | (with_reducible refine bset ?_ ?_ _) | (with_reducible refine bdrew ?_) | (with_reducible refine bdrewN ?_ _) | (with_reducible refine bstep ?_ (by with_reducible assumption)) | (with_reducible refine bgrow ?_ (by with_reducible assumption) (by omega)) | (simp; done) | (simp; omega)))))).mono ?_
    rintro e w2 ⟨rfl, hb2⟩
    go_wp2_with (fail)
    refine (HS.out _).mono ?_
    rintro e w3 ⟨rfl, hb3⟩
    obtain ⟨hk3, hf3, hz3⟩ := bel_at hb3 (w2.heap.size) (by first | omega | (simp; done) | (simp; omega))
    go_wp2_with (fail)
    go_loopw [8, 9, 10] (fun u v i wr => ∃ j : Nat, j ≤ s.size ∧ i = .int .i64 j ∧ u = .int .i64 (cntB s 58 j : Nat) ∧ v = .int .i64 (cntB s 43 j : Nat) ∧ wr = w3.alloc (.cells #[.int .i64 a, .int .i64 b, .int .i64 c] 23)) (fun _ _ i _ => s.size - (intOf i).toNat)
    case atStart => exact ⟨0, by omega, rfl, rfl, rfl, rfl⟩
    case round =>
      obtain ⟨j, hj, rfl, rfl, rfl, rfl⟩ := hrel
      have hb1' := cntB_le s 58 j
      have hb2' := cntB_le s 43 j
      have S1 := Lib.hid (show cntB s 58 (j + 1) = cntB s 58 j + if (s.get! j).toNat = 58 then 1 else 0 from rfl)
      have S2 := Lib.hid (show cntB s 43 (j + 1) = cntB s 43 j + if (s.get! j).toNat = 43 then 1 else 0 from rfl)
      obtain ⟨N, hN⟩ : ∃ N, cntB s 58 j = N := ⟨_, rfl⟩
      obtain ⟨M, hM⟩ : ∃ M, cntB s 43 j = M := ⟨_, rfl⟩
      rw [hN] at hb1' S1 ⊢
      rw [hM] at hb2' S2 ⊢
      have HN := Lib.hid hN
      have HM := Lib.hid hM
      clear hN hM
      by_cases hlt : j < s.size
      · have hget : s.get! j = s[j] := get!_of_lt s j hlt
        have S1 := S1.out
        have S2 := S2.out
        rw [hget] at S1 S2
        by_cases h58 : s[j].toNat = 58
        · have e1 : (((s[j].toNat : Int) == 58) = true) := by rw [h58]; rfl
          have e2 : (((s[j].toNat : Int) == 43) = false) := by rw [h58]; rfl
          rw [if_pos h58] at S1
          rw [if_neg (by omega)] at S2
          have T1 := Lib.hid S1
          have T2 := Lib.hid S2
          clear S1 S2 hget h58
          go_wp2
          case roundEnd => exact ⟨⟨j + 1, by omega, by simp, by rw [T1.out]; simp, by rw [T2.out]; simp, trivial⟩, by simp [intOf]; omega⟩
        · by_cases h43 : s[j].toNat = 43
          · have e1 : (((s[j].toNat : Int) == 58) = false) := by rw [h43]; rfl
            have e2 : (((s[j].toNat : Int) == 43) = true) := by rw [h43]; rfl
            rw [if_neg h58] at S1
            rw [if_pos h43] at S2
            have T1 := Lib.hid S1
            have T2 := Lib.hid S2
            clear S1 S2 hget h58 h43
            go_wp2
            case roundEnd => exact ⟨⟨j + 1, by omega, by simp, by rw [T1.out]; simp, by rw [T2.out]; simp, trivial⟩, by simp [intOf]; omega⟩
          · have e1 : (((s[j].toNat : Int) == 58) = false) := by simp; omega
            have e2 : (((s[j].toNat : Int) == 43) = false) := by simp; omega
            rw [if_neg h58] at S1
            rw [if_neg h43] at S2
            have T1 := Lib.hid S1
            have T2 := Lib.hid S2
            clear S1 S2 hget h58 h43
            go_wp2
            case roundEnd => exact ⟨⟨j + 1, by omega, by simp, by rw [T1.out]; simp, by rw [T2.out]; simp, trivial⟩, by simp [intOf]; omega⟩
      · obtain rfl : j = s.size := by omega
        have E1 : N = 1 := by rw [← HN.out]; exact HF.out.1
        have E2 : M = 1 := by rw [← HM.out]; exact HF.out.2
        subst E1 E2
        go_wp2_with ((go_at_call 10; refine (impl_AddressValid _ _ _ _).mono ?_; rintro e w' ⟨rfl, rfl⟩))
        go_ret
        exact ⟨rfl, by (repeat' (first | with_reducible exact Below.refl _ _ | (with_reducible refine balloc ?_ _) | (with_reducible refine bset ?_ ?_ _) | (with_reducible refine bdrew ?_) | (with_reducible refine bdrewN ?_ _) | (with_reducible refine bstep ?_ (by with_reducible assumption)) | (with_reducible refine bgrow ?_ (by with_reducible assumption) (by omega)) | (simp; done) | (simp; omega)))⟩
  · have HI := Lib.hid (fun (w : World) (hl : LibW w) => impl_Parse_no t (by omega) hn w hl)
    have HS := Lib.hid (fun (w : World) => spec_Parse_no t (by omega) hn w)
    clear hn
    go_wp2_with (fail)
    refine (HI.out _ (HL.out.below (by (repeat' (first | with_reducible exact Below.refl _ _ | (with_reducible refine balloc ?_ _) | (with_reducible refine bset ?_ ?_ _) | (with_reducible refine bdrew ?_) | (with_reducible refine bdrewN ?_ _) | (with_reducible refine bstep ?_ (by with_reducible assumption)) | (with_reducible refine bgrow ?_ (by with_reducible assumption) (by omega)) | (simp; done) | (simp; omega)))))).mono ?_
    rintro e w2 ⟨rfl, hb2⟩
    go_wp2_with (fail)
    refine (HS.out _).mono ?_
    rintro e w3 ⟨rfl, hb3⟩
    obtain ⟨hk3, hf3, hz3⟩ := bel_at hb3 (w2.heap.size) (by first | omega | (simp; done) | (simp; omega))
    go_wp2
    go_ret
    exact ⟨rfl, by (repeat' (first | with_reducible exact Below.refl _ _ | (with_reducible refine balloc ?_ _) | (with_reducible refine bset ?_ ?_ _) | (with_reducible refine bdrew ?_) | (with_reducible refine bdrewN ?_ _) | (with_reducible refine bstep ?_ (by with_reducible assumption)) | (with_reducible refine bgrow ?_ (by with_reducible assumption) (by omega)) | (simp; done) | (simp; omega)))⟩
end Go.Proofs.YtaoggijepndnmaaDoor
