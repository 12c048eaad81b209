/- The plain law of the text of an address: it is cut at its two signs into numerals, and these are the address's numbers. No program is run here. -/
import Derived.Test.YtaoggijepndnmaaDoorNum
import Derived.Test.YtaoggijepndnmaaDoorFmt
import Derived.Lib.CutLaws
import Derived.Lib.AtoiAll
import Derived.Lib.Strings
namespace Go.Proofs.YtaoggijepndnmaaDoor
set_option linter.unusedVariables false
open Go.ChangeShapes Go.WideShapes Go.ChangeAt Go.RowKit
def digs (k : Nat) : List Nat := if k < 10 then [k] else if k < 100 then [k / 10, k % 10] else [k / 10 / 10, k / 10 % 10, k % 10]
def decL (k : Nat) : List UInt8 := (digs k).map fun d => UInt8.ofNat (48 + d)
theorem decL_eq {k : Nat} (h : k < 1000) : Lib.decDigits k = decL k := by
  unfold decL digs
  by_cases h1 : k < 10
  · rw [if_pos h1, Lib.decDigits_one h1]; rfl
  · rw [if_neg h1]
    by_cases h2 : k < 100
    · rw [if_pos h2, Lib.decDigits_two h1 h2]; rfl
    · rw [if_neg h2, Lib.decDigits, dif_neg (by omega), Lib.decDigits_two (by omega) (by omega)]; rfl
instance (s : ByteArray) : Decidable (DigB s) := by unfold DigB; exact inferInstance
def chk (k : Nat) : Bool := decide (DigB ⟨(decL k).toArray⟩) && decide (numB ⟨(decL k).toArray⟩ (decL k).length = k) && decide (Lib.atoiAll (decL k) = .ok (k : Int)) && (decL k).all (fun x => decide (48 ≤ x.toNat ∧ x.toNat ≤ 57)) && decide ((decL k).length ≤ 3)
theorem chk_all : (List.range 1000).all chk = true := by decide +kernel
theorem chk_at {k : Nat} (h : k < 1000) : chk k = true := List.all_eq_true.1 chk_all k (List.mem_range.2 h)
theorem decS_facts {k : Nat} (h : k < 1000) : DigB (decS k) ∧ numB (decS k) (decS k).size = k ∧ Lib.atoiAll (decS k).data.toList = .ok (k : Int) ∧ (∀ x ∈ Lib.decDigits k, 48 ≤ x.toNat ∧ x.toNat ≤ 57) ∧ (Lib.decDigits k).length ≤ 3 := by
  have hc := chk_at h
  unfold chk at hc
  simp only [Bool.and_eq_true, decide_eq_true_eq, List.all_eq_true] at hc
  obtain ⟨⟨⟨⟨h1, h2⟩, h3⟩, h4⟩, h5⟩ := hc
  have e : decS k = ⟨(decL k).toArray⟩ := by unfold decS; rw [decL_eq h]
  rw [e, decL_eq h]
  exact ⟨h1, by simpa [ByteArray.size] using h2, h3, h4, h5⟩
theorem cut_at (A B : List UInt8) (c : UInt8) (h : ∀ x ∈ A, x ≠ c) : Lib.index (A ++ c :: B) [c] = A.length := by
  induction A with
  | nil => simp [Lib.index]
  | cons x A ih =>
    have hx := h x (by simp)
    have hi := ih (fun y hy => h y (by simp [hy]))
    have hx' : (c == x) = false := beq_eq_false_iff_ne.2 (fun e => hx e.symm)
    rw [List.cons_append, Lib.index, hi]
    simp only [List.isPrefixOf, hx', Bool.false_and, Bool.false_eq_true, if_false]
    rw [if_neg (by simp)]
    simp
theorem cut_eq (A B : List UInt8) (c : UInt8) (h : ∀ x ∈ A, x ≠ c) : Lib.cut (A ++ c :: B) [c] = (A, B, true) := by
  unfold Lib.cut
  rw [cut_at A B c h, if_pos (by omega)]
  simp
theorem get!_list (l : List UInt8) (i : Nat) (h : i < l.length) : (ByteArray.mk l.toArray).get! i = l[i] := by
  rw [get!_of_lt _ _ (by simpa [ByteArray.size] using h)]
  rfl
theorem cutS_eq (A B : List UInt8) (c : UInt8) (h : ∀ x ∈ A, x ≠ c) {x y : ByteArray} {ok : Bool} (hc : CutS ⟨(A ++ c :: B).toArray⟩ c.toNat x y ok) : x = ⟨A.toArray⟩ ∧ y = ⟨B.toArray⟩ ∧ ok = true := by
  have hsz : (ByteArray.mk (A ++ c :: B).toArray).size = A.length + (B.length + 1) := by simp [ByteArray.size]
  have hmid : (ByteArray.mk (A ++ c :: B).toArray).get! A.length = c := by
    rw [get!_list _ _ (by simp)]
    simp
  have hleft : ∀ i, i < A.length → (ByteArray.mk (A ++ c :: B).toArray).get! i ≠ c := by
    intro i hi
    rw [get!_list _ _ (by simp; omega), List.getElem_append_left hi]
    exact h _ (List.getElem_mem hi)
  rcases hc with ⟨i, hi, hic, hb, rfl, rfl, rfl⟩ | ⟨hn, _⟩
  · have hia : i = A.length := by
      rcases Nat.lt_trichotomy i A.length with h1 | h1 | h1
      · exact absurd (UInt8.toNat_inj.1 hic) (hleft i h1)
      · exact h1
      · exact absurd (by rw [hmid]) (hb A.length h1)
    subst hia
    refine ⟨?_, ?_, rfl⟩
    · rw [Lib.extract_eq]
      simp
    · rw [Lib.extract_eq, hsz]
      congr 1
      have e : (A ++ c :: B).drop (A.length + 1) = B := by
        rw [List.drop_append]
        simp
      simp only [List.toList_toArray] at *
      rw [e, List.take_of_length_le (by omega)]
  · exact absurd (by rw [hmid]) (hn A.length (by omega))
theorem cutS_size {s x y : ByteArray} {c : Nat} {ok : Bool} (h : CutS s c x y ok) : x.size ≤ s.size ∧ y.size ≤ s.size := by
  rcases h with ⟨i, hi, _, _, rfl, rfl, _⟩ | ⟨_, rfl, rfl, _⟩
  · simp only [ByteArray.size_extract]
    omega
  · exact ⟨Nat.zero_le _, Nat.zero_le _⟩
/-- the bytes of an address's text -/
def fmtL (a b c : Nat) : List UInt8 := Lib.decDigits a ++ 58 :: (Lib.decDigits b ++ 43 :: Lib.decDigits c)
theorem fmtA_eq (a b c : Nat) : fmtA a b c = ⟨(fmtL a b c).toArray⟩ := by
  unfold fmtA fmtL decS
  apply ByteArray.ext
  simp
theorem no58 {k : Nat} (h : k < 1000) : ∀ x ∈ Lib.decDigits k, x ≠ 58 := fun x hx e => by
  have := (decS_facts h).2.2.2.1 x hx
  subst e
  exact absurd this.2 (by decide)
theorem no43 {k : Nat} (h : k < 1000) : ∀ x ∈ Lib.decDigits k, x ≠ 43 := fun x hx e => by
  have := (decS_facts h).2.2.2.1 x hx
  subst e
  exact absurd this.1 (by decide)
theorem toList_ne {x y : ByteArray} (h : x ≠ y) : (x.toList == y.toList) = false := by
  rw [Lib.toList_data, Lib.toList_data]
  refine beq_eq_false_iff_ne.2 fun e => h ?_
  rw [← Lib.mk_data x, ← Lib.mk_data y, e]
theorem toList_self (x : ByteArray) : (x.toList == x.toList) = true := beq_self_eq_true _
end Go.Proofs.YtaoggijepndnmaaDoor
