/- Walks of laws on rights, keys and addresses at drawn values: each returns true. No conditions. -/
import Derived.Test.YtdgbcjgpaondoaaDraw
import Derived.Test.YtdgbcjgpaondoaaKeys
import Derived.Test.YtdgbcjgpaondoaaMoveI
import Derived.Test.YtdgbcjgpaondoaaRights
namespace Go.Proofs.Ytdgbcjgpaondoaa
open Go.ChangeShapes Go.WideShapes Go.ChangeAt Go.RowKit
theorem av_kv (s p : Int) : avB s p 0 = kvB s p := by simp [avB, kvB, withinB]
theorem law_FnKeyValid (w : World) (ao : Option Addr) (len cap : Nat) (h : CodeIn w ao len cap) : Calls Try.prog 5 #[.slice ao len cap] w fun r w' => r = .returned (.bool true) ∧ Below w.heap.size w w' := by
  have HC := Lib.hid h
  clear h
  by_cases hl : 1048576 < len
  · go_enter Try.func5, Try.ntmps5
    go_wp2
    go_ret
    exact ⟨rfl, by (repeat' (first | with_reducible exact Below.refl _ _ | (with_reducible refine balloc ?_ _) | (with_reducible refine bset ?_ ?_ _) | (with_reducible refine bdrew ?_) | (with_reducible refine bdrewN ?_ _) | (with_reducible refine bstep ?_ (by with_reducible assumption)) | (with_reducible refine bgrow ?_ (by with_reducible assumption) (by omega)) | (simp; done) | (simp; omega)))⟩
  have hl' : len ≤ 1048576 := by omega
  clear hl
  go_enter Try.func5, Try.ntmps5
  go_wp2_with (fail)
  refine (spec_DrawKeyValid _ _ _ _ HC.out).mono ?_
  rintro e w1 ⟨s, p, rfl, hb1⟩
  go_wp2_with (fail)
  refine (impl_KeyValid _ _ _).mono ?_
  rintro e w2 ⟨rfl, rfl⟩
  go_wp2_with (fail)
  refine (spec_KeyValid _ _ _).mono ?_
  rintro e w3 ⟨rfl, rfl⟩
  go_wp2_with (fail)
  refine (impl_AddressValid _ _ _ _).mono ?_
  rintro e w4 ⟨rfl, rfl⟩
  rw [av_kv]
  go_wp2
  go_ret
  exact ⟨rfl, by (repeat' (first | with_reducible exact Below.refl _ _ | (with_reducible refine balloc ?_ _) | (with_reducible refine bset ?_ ?_ _) | (with_reducible refine bdrew ?_) | (with_reducible refine bdrewN ?_ _) | (with_reducible refine bstep ?_ (by with_reducible assumption)) | (with_reducible refine bgrow ?_ (by with_reducible assumption) (by omega)) | (simp; done) | (simp; omega)))⟩
theorem pack_split {s p o : Int} (h : avB s p o = true) : saOk (paN s p o) = true ∧ saS (paN s p o) = s ∧ saP (paN s p o) = p ∧ saO (paN s p o) = o ∧ paN s p o = (s * 256 + p) * 64 + o := by
  obtain ⟨⟨_, _⟩, ⟨_, _⟩, _, _⟩ := avB_iff.1 h
  have e : paN s p o = (s * 256 + p) * 64 + o := by simp [paN, h]
  have k : saOk ((s * 256 + p) * 64 + o) = true := withinB_iff.2 ⟨by omega, by omega⟩
  rw [e]
  refine ⟨k, ?_, ?_, ?_, rfl⟩ <;> simp only [saS, saP, saO, k, if_true] <;> omega
theorem law_FnPackAddress (w : World) (ao : Option Addr) (len cap : Nat) (h : CodeIn w ao len cap) : Calls Try.prog 13 #[.slice ao len cap] w fun r w' => r = .returned (.bool true) ∧ Below w.heap.size w w' := by
  have HC := Lib.hid h
  clear h
  by_cases hl : 1048576 < len
  · go_enter Try.func13, Try.ntmps13
    go_wp2
    go_ret
    exact ⟨rfl, by (repeat' (first | with_reducible exact Below.refl _ _ | (with_reducible refine balloc ?_ _) | (with_reducible refine bset ?_ ?_ _) | (with_reducible refine bdrew ?_) | (with_reducible refine bdrewN ?_ _) | (with_reducible refine bstep ?_ (by with_reducible assumption)) | (with_reducible refine bgrow ?_ (by with_reducible assumption) (by omega)) | (simp; done) | (simp; omega)))⟩
  have hl' : len ≤ 1048576 := by omega
  clear hl
  go_enter Try.func13, Try.ntmps13
  go_wp2_with (fail)
  refine (spec_DrawPackAddress _ _ _ _ HC.out).mono ?_
  rintro e w1 ⟨s, p, o, rfl, hb1⟩
  by_cases hav : avB s p o = true
  · obtain ⟨e1, e2, e3, e4, e5⟩ := pack_split hav
    obtain ⟨⟨_, _⟩, ⟨_, _⟩, _, _⟩ := avB_iff.1 hav
    have e6 : ((s * 256 + p) * 64 + o) % 64 = o := by omega
    have E := Lib.hid e5
    clear e5
    go_wp2_with (fail)
    refine (impl_PackAddress _ _ _ _).mono ?_
    rintro e w2 ⟨rfl, hb2⟩
    obtain ⟨hc2_0, hf2_0, hz2_0⟩ := bel_at hb2 (w1.heap.size) (by first | omega | (simp; done) | (simp; omega))
    go_wp2_with (fail)
    refine (spec_PackAddress _ _ _ _).mono ?_
    rintro e w3 ⟨rfl, hb3⟩
    obtain ⟨hc3_0, hf3_0, hz3_0⟩ := bel_at hb3 (w1.heap.size) (by first | omega | (simp; done) | (simp; omega))
    go_wp2_with (fail)
    refine (impl_SplitAddress _ _).mono ?_
    rintro e w4 ⟨rfl, hb4⟩
    obtain ⟨hc4_0, hf4_0, hz4_0⟩ := bel_at hb4 (w1.heap.size) (by first | omega | (simp; done) | (simp; omega))
    have e5 := E.out
    rw [e1, e2, e3, e4]
    rw [e5] at *
    go_wp2
    go_ret
    exact ⟨rfl, by (repeat' (first | with_reducible exact Below.refl _ _ | (with_reducible refine balloc ?_ _) | (with_reducible refine bset ?_ ?_ _) | (with_reducible refine bdrew ?_) | (with_reducible refine bdrewN ?_ _) | (with_reducible refine bstep ?_ (by with_reducible assumption)) | (with_reducible refine bgrow ?_ (by with_reducible assumption) (by omega)) | (simp; done) | (simp; omega)))⟩
  · have hav' : avB s p o = false := by simpa using hav
    have e5 : paN s p o = 0 := by simp [paN, hav']
    clear hav
    go_wp2_with (fail)
    refine (impl_PackAddress _ _ _ _).mono ?_
    rintro e w2 ⟨rfl, hb2⟩
    obtain ⟨hc2_0, hf2_0, hz2_0⟩ := bel_at hb2 (w1.heap.size) (by first | omega | (simp; done) | (simp; omega))
    go_wp2_with (fail)
    refine (spec_PackAddress _ _ _ _).mono ?_
    rintro e w3 ⟨rfl, hb3⟩
    obtain ⟨hc3_0, hf3_0, hz3_0⟩ := bel_at hb3 (w1.heap.size) (by first | omega | (simp; done) | (simp; omega))
    go_wp2
    go_ret
    exact ⟨rfl, by (repeat' (first | with_reducible exact Below.refl _ _ | (with_reducible refine balloc ?_ _) | (with_reducible refine bset ?_ ?_ _) | (with_reducible refine bdrew ?_) | (with_reducible refine bdrewN ?_ _) | (with_reducible refine bstep ?_ (by with_reducible assumption)) | (with_reducible refine bgrow ?_ (by with_reducible assumption) (by omega)) | (simp; done) | (simp; omega)))⟩
theorem kb_cases (a b c d : Int) : (kbB a b c d = true ∧ kbB c d a b = false ∧ (a ≠ c ∨ b ≠ d)) ∨ (kbB a b c d = false ∧ kbB c d a b = true ∧ (a ≠ c ∨ b ≠ d)) ∨ (kbB a b c d = false ∧ kbB c d a b = false ∧ a = c ∧ b = d) := by
  have n1 : ∀ {x : Bool}, x = false ↔ ¬ x = true := by intro x; simp
  rw [n1, n1, kbB_iff, kbB_iff]
  omega
theorem law_FnHashFull (w : World) (ao : Option Addr) (len cap : Nat) (h : CodeIn w ao len cap) : Calls Try.prog 14 #[.slice ao len cap] w fun r w' => r = .returned (.bool true) ∧ Below w.heap.size w w' := by
  have HC := Lib.hid h
  clear h
  by_cases hl : 1048576 < len
  · go_enter Try.func14, Try.ntmps14
    go_wp2
    go_ret
    exact ⟨rfl, by (repeat' (first | with_reducible exact Below.refl _ _ | (with_reducible refine balloc ?_ _) | (with_reducible refine bset ?_ ?_ _) | (with_reducible refine bdrew ?_) | (with_reducible refine bdrewN ?_ _) | (with_reducible refine bstep ?_ (by with_reducible assumption)) | (with_reducible refine bgrow ?_ (by with_reducible assumption) (by omega)) | (simp; done) | (simp; omega)))⟩
  have hl' : len ≤ 1048576 := by omega
  clear hl
  go_enter Try.func14, Try.ntmps14
  go_wp2_with (fail)
  refine (spec_DrawHashKey _ _ _ _ HC.out).mono ?_
  rintro e w1 ⟨s, p, b, rfl, hb1⟩
  have e1 : hkN s p 1 = 0 := by
    unfold hkN
    have := hashN_range (s := s) (p := p) (b := 1) (by omega)
    split <;> omega
  have e2 : hkOk s p 1 = kvB s p := by
    have : withinB 0 16 = true := by decide
    simp [hkOk, this]
  go_wp2_with (fail)
  refine (impl_HashKey _ _ _ _).mono ?_
  rintro e w2 ⟨rfl, hb2⟩
  obtain ⟨hc2_0, hf2_0, hz2_0⟩ := bel_at hb2 (w1.heap.size) (by first | omega | (simp; done) | (simp; omega))
  go_wp2_with (fail)
  refine (spec_HashKey _ _ _ _).mono ?_
  rintro e w3 ⟨rfl, hb3⟩
  obtain ⟨hc3_0, hf3_0, hz3_0⟩ := bel_at hb3 (w1.heap.size) (by first | omega | (simp; done) | (simp; omega))
  go_wp2_with (fail)
  refine (impl_HashKey _ _ _ _).mono ?_
  rintro e w4 ⟨rfl, hb4⟩
  obtain ⟨hc4_0, hf4_0, hz4_0⟩ := bel_at hb4 (w1.heap.size) (by first | omega | (simp; done) | (simp; omega))
  rw [e1, e2]
  go_wp2_with (fail)
  refine (impl_KeyValid _ _ _).mono ?_
  rintro e w5 ⟨rfl, rfl⟩
  go_wp2
  go_ret
  exact ⟨rfl, by (repeat' (first | with_reducible exact Below.refl _ _ | (with_reducible refine balloc ?_ _) | (with_reducible refine bset ?_ ?_ _) | (with_reducible refine bdrew ?_) | (with_reducible refine bdrewN ?_ _) | (with_reducible refine bstep ?_ (by with_reducible assumption)) | (with_reducible refine bgrow ?_ (by with_reducible assumption) (by omega)) | (simp; done) | (simp; omega)))⟩
theorem law_FnSplitSpace (w : World) (ao : Option Addr) (len cap : Nat) (h : CodeIn w ao len cap) : Calls Try.prog 11 #[.slice ao len cap] w fun r w' => r = .returned (.bool true) ∧ Below w.heap.size w w' := by
  have HC := Lib.hid h
  clear h
  by_cases hl : 1048576 < len
  · go_enter Try.func11, Try.ntmps11
    go_wp2
    go_ret
    exact ⟨rfl, by (repeat' (first | with_reducible exact Below.refl _ _ | (with_reducible refine balloc ?_ _) | (with_reducible refine bset ?_ ?_ _) | (with_reducible refine bdrew ?_) | (with_reducible refine bdrewN ?_ _) | (with_reducible refine bstep ?_ (by with_reducible assumption)) | (with_reducible refine bgrow ?_ (by with_reducible assumption) (by omega)) | (simp; done) | (simp; omega)))⟩
  have hl' : len ≤ 1048576 := by omega
  clear hl
  go_enter Try.func11, Try.ntmps11
  go_wp2_with (fail)
  refine (spec_DrawPackAddress _ _ _ _ HC.out).mono ?_
  rintro e w1 ⟨s, p, o, rfl, hb1⟩
  by_cases hav : avB s p o = true
  · obtain ⟨⟨_, _⟩, ⟨_, _⟩, _, _⟩ := avB_iff.1 hav
    have h1 : avB s 0 0 = true := avB_iff.2 (by omega)
    have h2 : avB s 255 63 = true := avB_iff.2 (by omega)
    have e5 : paN s p o = (s * 256 + p) * 64 + o := by simp [paN, hav]
    have e6 : paN s 0 0 = s * 16384 := by simp only [paN, h1, if_true]; omega
    have e7 : paN s 255 63 = s * 16384 + 16383 := by simp only [paN, h2, if_true]; omega
    have E := Lib.hid e5
    clear e5
    go_wp2_with (fail)
    refine (impl_PackAddress _ _ _ _).mono ?_
    rintro e w2 ⟨rfl, hb2⟩
    obtain ⟨hc2_0, hf2_0, hz2_0⟩ := bel_at hb2 (w1.heap.size) (by first | omega | (simp; done) | (simp; omega))
    go_wp2_with (fail)
    refine (spec_PackAddress _ _ _ _).mono ?_
    rintro e w3 ⟨rfl, hb3⟩
    obtain ⟨hc3_0, hf3_0, hz3_0⟩ := bel_at hb3 (w1.heap.size) (by first | omega | (simp; done) | (simp; omega))
    go_wp2_with (fail)
    refine (impl_PackAddress _ _ _ _).mono ?_
    rintro e w4 ⟨rfl, hb4⟩
    obtain ⟨hc4_0, hf4_0, hz4_0⟩ := bel_at hb4 (w1.heap.size) (by first | omega | (simp; done) | (simp; omega))
    go_wp2_with (fail)
    refine (impl_PackAddress _ _ _ _).mono ?_
    rintro e w5 ⟨rfl, hb5⟩
    obtain ⟨hc5_0, hf5_0, hz5_0⟩ := bel_at hb5 (w1.heap.size) (by first | omega | (simp; done) | (simp; omega))
    rw [e7, h2]
    have e5 := E.out
    rw [e5]
    have b1 : s * 16384 ≤ (s * 256 + p) * 64 + o := by omega
    have b2 : (s * 256 + p) * 64 + o ≤ s * 16384 + 16383 := by omega
    have b3 : s * 16384 + 16383 - s * 16384 = 16383 := by omega
    go_wp2
    go_ret
    exact ⟨rfl, by (repeat' (first | with_reducible exact Below.refl _ _ | (with_reducible refine balloc ?_ _) | (with_reducible refine bset ?_ ?_ _) | (with_reducible refine bdrew ?_) | (with_reducible refine bdrewN ?_ _) | (with_reducible refine bstep ?_ (by with_reducible assumption)) | (with_reducible refine bgrow ?_ (by with_reducible assumption) (by omega)) | (simp; done) | (simp; omega)))⟩
  · have hav' : avB s p o = false := by simpa using hav
    clear hav
    go_wp2_with (fail)
    refine (impl_PackAddress _ _ _ _).mono ?_
    rintro e w2 ⟨rfl, hb2⟩
    obtain ⟨hc2_0, hf2_0, hz2_0⟩ := bel_at hb2 (w1.heap.size) (by first | omega | (simp; done) | (simp; omega))
    go_wp2_with (fail)
    refine (spec_PackAddress _ _ _ _).mono ?_
    rintro e w3 ⟨rfl, hb3⟩
    obtain ⟨hc3_0, hf3_0, hz3_0⟩ := bel_at hb3 (w1.heap.size) (by first | omega | (simp; done) | (simp; omega))
    go_wp2
    go_ret
    exact ⟨rfl, by (repeat' (first | with_reducible exact Below.refl _ _ | (with_reducible refine balloc ?_ _) | (with_reducible refine bset ?_ ?_ _) | (with_reducible refine bdrew ?_) | (with_reducible refine bdrewN ?_ _) | (with_reducible refine bstep ?_ (by with_reducible assumption)) | (with_reducible refine bgrow ?_ (by with_reducible assumption) (by omega)) | (simp; done) | (simp; omega)))⟩
theorem law_FnKeyBefore (w : World) (ao : Option Addr) (len cap : Nat) (h : CodeIn w ao len cap) : Calls Try.prog 6 #[.slice ao len cap] w fun r w' => r = .returned (.bool true) ∧ Below w.heap.size w w' := by
  have HC := Lib.hid h
  clear h
  by_cases hl : 1048576 < len
  · go_enter Try.func6, Try.ntmps6
    go_wp2
    go_ret
    exact ⟨rfl, by (repeat' (first | with_reducible exact Below.refl _ _ | (with_reducible refine balloc ?_ _) | (with_reducible refine bset ?_ ?_ _) | (with_reducible refine bdrew ?_) | (with_reducible refine bdrewN ?_ _) | (with_reducible refine bstep ?_ (by with_reducible assumption)) | (with_reducible refine bgrow ?_ (by with_reducible assumption) (by omega)) | (simp; done) | (simp; omega)))⟩
  have hl' : len ≤ 1048576 := by omega
  clear hl
  go_enter Try.func6, Try.ntmps6
  go_wp2_with (fail)
  refine (spec_DrawKeyBefore _ _ _ _ HC.out).mono ?_
  rintro e w1 ⟨a, b, c, d, rfl, hb1⟩
  rcases kb_cases a b c d with ⟨h1, h2, h3⟩ | ⟨h1, h2, h3⟩ | ⟨h1, h2, h3, h4⟩
  · have H3 := Lib.hid h3
    clear h3
    go_wp2_with (fail)
    refine (impl_KeyBefore_b _ _ _ _ _).mono ?_
    rintro e w2 ⟨rfl, hb2⟩
    obtain ⟨hc2_0, hf2_0, hz2_0⟩ := bel_at hb2 (w1.heap.size) (by first | omega | (simp; done) | (simp; omega))
    obtain ⟨hc2_1, hf2_1, hz2_1⟩ := bel_at hb2 (w1.heap.size + 1) (by first | omega | (simp; done) | (simp; omega))
    go_wp2_with (fail)
    refine (impl_KeyBefore_b _ _ _ _ _).mono ?_
    rintro e w3 ⟨rfl, hb3⟩
    obtain ⟨hc3_0, hf3_0, hz3_0⟩ := bel_at hb3 (w1.heap.size) (by first | omega | (simp; done) | (simp; omega))
    obtain ⟨hc3_1, hf3_1, hz3_1⟩ := bel_at hb3 (w1.heap.size + 1) (by first | omega | (simp; done) | (simp; omega))
    go_wp2_with (fail)
    refine (spec_KeyBefore_b _ _ _ _ _).mono ?_
    rintro e w4 ⟨rfl, hb4⟩
    obtain ⟨hc4_0, hf4_0, hz4_0⟩ := bel_at hb4 (w1.heap.size) (by first | omega | (simp; done) | (simp; omega))
    obtain ⟨hc4_1, hf4_1, hz4_1⟩ := bel_at hb4 (w1.heap.size + 1) (by first | omega | (simp; done) | (simp; omega))
    rw [h1]
    go_wp2
    all_goals first | (exfalso; have h9 := H3.out; omega) | (go_ret; exact ⟨rfl, by (repeat' (first | with_reducible exact Below.refl _ _ | (with_reducible refine balloc ?_ _) | (with_reducible refine bset ?_ ?_ _) | (with_reducible refine bdrew ?_) | (with_reducible refine bdrewN ?_ _) | (with_reducible refine bstep ?_ (by with_reducible assumption)) | (with_reducible refine bgrow ?_ (by with_reducible assumption) (by omega)) | (simp; done) | (simp; omega)))⟩)
  · have H3 := Lib.hid h3
    clear h3
    go_wp2_with (fail)
    refine (impl_KeyBefore_b _ _ _ _ _).mono ?_
    rintro e w2 ⟨rfl, hb2⟩
    obtain ⟨hc2_0, hf2_0, hz2_0⟩ := bel_at hb2 (w1.heap.size) (by first | omega | (simp; done) | (simp; omega))
    obtain ⟨hc2_1, hf2_1, hz2_1⟩ := bel_at hb2 (w1.heap.size + 1) (by first | omega | (simp; done) | (simp; omega))
    go_wp2_with (fail)
    refine (impl_KeyBefore_b _ _ _ _ _).mono ?_
    rintro e w3 ⟨rfl, hb3⟩
    obtain ⟨hc3_0, hf3_0, hz3_0⟩ := bel_at hb3 (w1.heap.size) (by first | omega | (simp; done) | (simp; omega))
    obtain ⟨hc3_1, hf3_1, hz3_1⟩ := bel_at hb3 (w1.heap.size + 1) (by first | omega | (simp; done) | (simp; omega))
    go_wp2_with (fail)
    refine (spec_KeyBefore_b _ _ _ _ _).mono ?_
    rintro e w4 ⟨rfl, hb4⟩
    obtain ⟨hc4_0, hf4_0, hz4_0⟩ := bel_at hb4 (w1.heap.size) (by first | omega | (simp; done) | (simp; omega))
    obtain ⟨hc4_1, hf4_1, hz4_1⟩ := bel_at hb4 (w1.heap.size + 1) (by first | omega | (simp; done) | (simp; omega))
    rw [h1]
    go_wp2
    all_goals first | (exfalso; have h9 := H3.out; omega) | (go_ret; exact ⟨rfl, by (repeat' (first | with_reducible exact Below.refl _ _ | (with_reducible refine balloc ?_ _) | (with_reducible refine bset ?_ ?_ _) | (with_reducible refine bdrew ?_) | (with_reducible refine bdrewN ?_ _) | (with_reducible refine bstep ?_ (by with_reducible assumption)) | (with_reducible refine bgrow ?_ (by with_reducible assumption) (by omega)) | (simp; done) | (simp; omega)))⟩)
  · subst h3 h4
    have H3 : Hid True := Lib.hid trivial
    go_wp2_with (fail)
    refine (impl_KeyBefore_b _ _ _ _ _).mono ?_
    rintro e w2 ⟨rfl, hb2⟩
    obtain ⟨hc2_0, hf2_0, hz2_0⟩ := bel_at hb2 (w1.heap.size) (by first | omega | (simp; done) | (simp; omega))
    obtain ⟨hc2_1, hf2_1, hz2_1⟩ := bel_at hb2 (w1.heap.size + 1) (by first | omega | (simp; done) | (simp; omega))
    go_wp2_with (fail)
    refine (impl_KeyBefore_b _ _ _ _ _).mono ?_
    rintro e w3 ⟨rfl, hb3⟩
    obtain ⟨hc3_0, hf3_0, hz3_0⟩ := bel_at hb3 (w1.heap.size) (by first | omega | (simp; done) | (simp; omega))
    obtain ⟨hc3_1, hf3_1, hz3_1⟩ := bel_at hb3 (w1.heap.size + 1) (by first | omega | (simp; done) | (simp; omega))
    go_wp2_with (fail)
    refine (spec_KeyBefore_b _ _ _ _ _).mono ?_
    rintro e w4 ⟨rfl, hb4⟩
    obtain ⟨hc4_0, hf4_0, hz4_0⟩ := bel_at hb4 (w1.heap.size) (by first | omega | (simp; done) | (simp; omega))
    obtain ⟨hc4_1, hf4_1, hz4_1⟩ := bel_at hb4 (w1.heap.size + 1) (by first | omega | (simp; done) | (simp; omega))
    rw [h1]
    go_wp2
    all_goals first | (exfalso; have h9 := H3.out; omega) | (go_ret; exact ⟨rfl, by (repeat' (first | with_reducible exact Below.refl _ _ | (with_reducible refine balloc ?_ _) | (with_reducible refine bset ?_ ?_ _) | (with_reducible refine bdrew ?_) | (with_reducible refine bdrewN ?_ _) | (with_reducible refine bstep ?_ (by with_reducible assumption)) | (with_reducible refine bgrow ?_ (by with_reducible assumption) (by omega)) | (simp; done) | (simp; omega)))⟩)
theorem law_FnKeyNumber (w : World) (ao : Option Addr) (len cap : Nat) (h : CodeIn w ao len cap) : Calls Try.prog 10 #[.slice ao len cap] w fun r w' => r = .returned (.bool true) ∧ Below w.heap.size w w' := by
  have HC := Lib.hid h
  clear h
  by_cases hl : 1048576 < len
  · go_enter Try.func10, Try.ntmps10
    go_wp2
    go_ret
    exact ⟨rfl, by (repeat' (first | with_reducible exact Below.refl _ _ | (with_reducible refine balloc ?_ _) | (with_reducible refine bset ?_ ?_ _) | (with_reducible refine bdrew ?_) | (with_reducible refine bdrewN ?_ _) | (with_reducible refine bstep ?_ (by with_reducible assumption)) | (with_reducible refine bgrow ?_ (by with_reducible assumption) (by omega)) | (simp; done) | (simp; omega)))⟩
  have hl' : len ≤ 1048576 := by omega
  clear hl
  go_enter Try.func10, Try.ntmps10
  go_wp2_with (fail)
  refine (spec_DrawKeyBefore _ _ _ _ HC.out).mono ?_
  rintro e w1 ⟨a, b, c, d, rfl, hb1⟩
  by_cases hk : kvB a b = true
  · by_cases hk2 : kvB c d = true
    · obtain ⟨⟨_, _⟩, _, _⟩ := kvB_iff.1 hk
      obtain ⟨⟨_, _⟩, _, _⟩ := kvB_iff.1 hk2
      have v1 : avB a b 0 = true := by rw [av_kv]; exact hk
      have v2 : avB c d 0 = true := by rw [av_kv]; exact hk2
      have e : kbB a b c d = decide (paN a b 0 < paN c d 0) := by
        rw [Bool.eq_iff_iff, kbB_iff]; simp only [paN, v1, v2, if_true, decide_eq_true_eq]; omega
      go_wp2_with (fail)
      refine (impl_KeyBefore_b _ _ _ _ _).mono ?_
      rintro e w2 ⟨rfl, hb2⟩
      obtain ⟨hc2_0, hf2_0, hz2_0⟩ := bel_at hb2 (w1.heap.size) (by first | omega | (simp; done) | (simp; omega))
      obtain ⟨hc2_1, hf2_1, hz2_1⟩ := bel_at hb2 (w1.heap.size + 1) (by first | omega | (simp; done) | (simp; omega))
      go_wp2_with (fail)
      refine (spec_KeyBefore_b _ _ _ _ _).mono ?_
      rintro e w3 ⟨rfl, hb3⟩
      obtain ⟨hc3_0, hf3_0, hz3_0⟩ := bel_at hb3 (w1.heap.size) (by first | omega | (simp; done) | (simp; omega))
      obtain ⟨hc3_1, hf3_1, hz3_1⟩ := bel_at hb3 (w1.heap.size + 1) (by first | omega | (simp; done) | (simp; omega))
      go_wp2_with (fail)
      refine (impl_KeyValid_b _ _ _).mono ?_
      rintro e w4 ⟨rfl, hb4⟩
      obtain ⟨hc4_0, hf4_0, hz4_0⟩ := bel_at hb4 (w1.heap.size) (by first | omega | (simp; done) | (simp; omega))
      obtain ⟨hc4_1, hf4_1, hz4_1⟩ := bel_at hb4 (w1.heap.size + 1) (by first | omega | (simp; done) | (simp; omega))
      go_wp2_with (fail)
      refine (impl_KeyValid_b _ _ _).mono ?_
      rintro e w5 ⟨rfl, hb5⟩
      obtain ⟨hc5_0, hf5_0, hz5_0⟩ := bel_at hb5 (w1.heap.size) (by first | omega | (simp; done) | (simp; omega))
      obtain ⟨hc5_1, hf5_1, hz5_1⟩ := bel_at hb5 (w1.heap.size + 1) (by first | omega | (simp; done) | (simp; omega))
      go_wp2_with (fail)
      refine (impl_PackAddress _ _ _ _).mono ?_
      rintro e w6 ⟨rfl, hb6⟩
      obtain ⟨hc6_0, hf6_0, hz6_0⟩ := bel_at hb6 (w1.heap.size) (by first | omega | (simp; done) | (simp; omega))
      obtain ⟨hc6_1, hf6_1, hz6_1⟩ := bel_at hb6 (w1.heap.size + 1) (by first | omega | (simp; done) | (simp; omega))
      go_wp2_with (fail)
      refine (impl_PackAddress _ _ _ _).mono ?_
      rintro e w7 ⟨rfl, hb7⟩
      obtain ⟨hc7_0, hf7_0, hz7_0⟩ := bel_at hb7 (w1.heap.size) (by first | omega | (simp; done) | (simp; omega))
      obtain ⟨hc7_1, hf7_1, hz7_1⟩ := bel_at hb7 (w1.heap.size + 1) (by first | omega | (simp; done) | (simp; omega))
      go_wp2
      go_ret
      exact ⟨rfl, by (repeat' (first | with_reducible exact Below.refl _ _ | (with_reducible refine balloc ?_ _) | (with_reducible refine bset ?_ ?_ _) | (with_reducible refine bdrew ?_) | (with_reducible refine bdrewN ?_ _) | (with_reducible refine bstep ?_ (by with_reducible assumption)) | (with_reducible refine bgrow ?_ (by with_reducible assumption) (by omega)) | (simp; done) | (simp; omega)))⟩
    · have hk2' : kvB c d = false := by simpa using hk2
      clear hk2
      go_wp2_with (fail)
      refine (impl_KeyBefore_b _ _ _ _ _).mono ?_
      rintro e w2 ⟨rfl, hb2⟩
      obtain ⟨hc2_0, hf2_0, hz2_0⟩ := bel_at hb2 (w1.heap.size) (by first | omega | (simp; done) | (simp; omega))
      obtain ⟨hc2_1, hf2_1, hz2_1⟩ := bel_at hb2 (w1.heap.size + 1) (by first | omega | (simp; done) | (simp; omega))
      go_wp2_with (fail)
      refine (spec_KeyBefore_b _ _ _ _ _).mono ?_
      rintro e w3 ⟨rfl, hb3⟩
      obtain ⟨hc3_0, hf3_0, hz3_0⟩ := bel_at hb3 (w1.heap.size) (by first | omega | (simp; done) | (simp; omega))
      obtain ⟨hc3_1, hf3_1, hz3_1⟩ := bel_at hb3 (w1.heap.size + 1) (by first | omega | (simp; done) | (simp; omega))
      go_wp2_with (fail)
      refine (impl_KeyValid_b _ _ _).mono ?_
      rintro e w4 ⟨rfl, hb4⟩
      obtain ⟨hc4_0, hf4_0, hz4_0⟩ := bel_at hb4 (w1.heap.size) (by first | omega | (simp; done) | (simp; omega))
      obtain ⟨hc4_1, hf4_1, hz4_1⟩ := bel_at hb4 (w1.heap.size + 1) (by first | omega | (simp; done) | (simp; omega))
      go_wp2_with (fail)
      refine (impl_KeyValid_b _ _ _).mono ?_
      rintro e w5 ⟨rfl, hb5⟩
      obtain ⟨hc5_0, hf5_0, hz5_0⟩ := bel_at hb5 (w1.heap.size) (by first | omega | (simp; done) | (simp; omega))
      obtain ⟨hc5_1, hf5_1, hz5_1⟩ := bel_at hb5 (w1.heap.size + 1) (by first | omega | (simp; done) | (simp; omega))
      go_wp2_with (fail)
      refine (spec_KeyBefore_b _ _ _ _ _).mono ?_
      rintro e w6 ⟨rfl, hb6⟩
      obtain ⟨hc6_0, hf6_0, hz6_0⟩ := bel_at hb6 (w1.heap.size) (by first | omega | (simp; done) | (simp; omega))
      obtain ⟨hc6_1, hf6_1, hz6_1⟩ := bel_at hb6 (w1.heap.size + 1) (by first | omega | (simp; done) | (simp; omega))
      go_wp2
      go_ret
      exact ⟨rfl, by (repeat' (first | with_reducible exact Below.refl _ _ | (with_reducible refine balloc ?_ _) | (with_reducible refine bset ?_ ?_ _) | (with_reducible refine bdrew ?_) | (with_reducible refine bdrewN ?_ _) | (with_reducible refine bstep ?_ (by with_reducible assumption)) | (with_reducible refine bgrow ?_ (by with_reducible assumption) (by omega)) | (simp; done) | (simp; omega)))⟩
  · have hk' : kvB a b = false := by simpa using hk
    clear hk
    go_wp2_with (fail)
    refine (impl_KeyBefore_b _ _ _ _ _).mono ?_
    rintro e w2 ⟨rfl, hb2⟩
    obtain ⟨hc2_0, hf2_0, hz2_0⟩ := bel_at hb2 (w1.heap.size) (by first | omega | (simp; done) | (simp; omega))
    obtain ⟨hc2_1, hf2_1, hz2_1⟩ := bel_at hb2 (w1.heap.size + 1) (by first | omega | (simp; done) | (simp; omega))
    go_wp2_with (fail)
    refine (spec_KeyBefore_b _ _ _ _ _).mono ?_
    rintro e w3 ⟨rfl, hb3⟩
    obtain ⟨hc3_0, hf3_0, hz3_0⟩ := bel_at hb3 (w1.heap.size) (by first | omega | (simp; done) | (simp; omega))
    obtain ⟨hc3_1, hf3_1, hz3_1⟩ := bel_at hb3 (w1.heap.size + 1) (by first | omega | (simp; done) | (simp; omega))
    go_wp2_with (fail)
    refine (impl_KeyValid_b _ _ _).mono ?_
    rintro e w4 ⟨rfl, hb4⟩
    obtain ⟨hc4_0, hf4_0, hz4_0⟩ := bel_at hb4 (w1.heap.size) (by first | omega | (simp; done) | (simp; omega))
    obtain ⟨hc4_1, hf4_1, hz4_1⟩ := bel_at hb4 (w1.heap.size + 1) (by first | omega | (simp; done) | (simp; omega))
    go_wp2_with (fail)
    refine (spec_KeyBefore_b _ _ _ _ _).mono ?_
    rintro e w5 ⟨rfl, hb5⟩
    obtain ⟨hc5_0, hf5_0, hz5_0⟩ := bel_at hb5 (w1.heap.size) (by first | omega | (simp; done) | (simp; omega))
    obtain ⟨hc5_1, hf5_1, hz5_1⟩ := bel_at hb5 (w1.heap.size + 1) (by first | omega | (simp; done) | (simp; omega))
    go_wp2
    go_ret
    exact ⟨rfl, by (repeat' (first | with_reducible exact Below.refl _ _ | (with_reducible refine balloc ?_ _) | (with_reducible refine bset ?_ ?_ _) | (with_reducible refine bdrew ?_) | (with_reducible refine bdrewN ?_ _) | (with_reducible refine bstep ?_ (by with_reducible assumption)) | (with_reducible refine bgrow ?_ (by with_reducible assumption) (by omega)) | (simp; done) | (simp; omega)))⟩
theorem split_pack {n : Int} (h : saOk n = true) : avB (saS n) (saP n) (saO n) = true ∧ paN (saS n) (saP n) (saO n) = n ∧ maAt (saP n) (saO n) 1 = n % 16384 + 1 ∧ saS n = n / 16384 := by
  obtain ⟨h0, h1⟩ := withinB_iff.1 h
  have e1 : saS n = n / 16384 := by simp [saS, h]
  have e2 : saP n = n / 64 % 256 := by simp [saP, h]
  have e3 : saO n = n % 64 := by simp [saO, h]
  have v : avB (saS n) (saP n) (saO n) = true := avB_iff.2 (by omega)
  refine ⟨v, ?_, ?_, e1⟩
  · simp only [paN, v, if_true]; omega
  · unfold maAt; omega
theorem move_next {n : Int} (h : saOk n = true) (hm : n % 16384 < 16383) : maOk (saS n) (saP n) (saO n) 1 = true ∧ saOk (n + 1) = true ∧ maS (saS n) (saP n) (saO n) 1 = saS (n + 1) ∧ maP (saS n) (saP n) (saO n) 1 = saP (n + 1) ∧ maO (saS n) (saP n) (saO n) 1 = saO (n + 1) := by
  obtain ⟨h0, h1⟩ := withinB_iff.1 h
  obtain ⟨v, _, e, e1⟩ := split_pack h
  have k : maOk (saS n) (saP n) (saO n) 1 = true := by
    rw [maOk_iff]; unfold maAt at e; exact ⟨v, by omega, by omega, by omega, by omega⟩
  have k2 : saOk (n + 1) = true := withinB_iff.2 (by omega)
  refine ⟨k, k2, ?_, ?_, ?_⟩
  · simp only [maS, k, if_true]; simp only [saS, k2, h, if_true]; omega
  · simp only [maP, k, if_true, e]; simp only [saP, k2, if_true]; omega
  · simp only [maO, k, if_true, e]; simp only [saO, k2, if_true]; omega
theorem move_stop {n : Int} (h : saOk n = true) (hm : n % 16384 = 16383) : maOk (saS n) (saP n) (saO n) 1 = false ∧ (n < 262143 → saOk (n + 1) = true ∧ saS (n + 1) = saS n + 1 ∧ saP (n + 1) = 0 ∧ saO (n + 1) = 0) ∧ (n = 262143 → saOk (n + 1) = false) := by
  obtain ⟨h0, h1⟩ := withinB_iff.1 h
  obtain ⟨v, _, e, e1⟩ := split_pack h
  refine ⟨?_, fun h2 => ?_, fun h2 => withinB_not.2 (by omega)⟩
  · have : ¬ maOk (saS n) (saP n) (saO n) 1 = true := by
      rw [maOk_iff]; unfold maAt at e; rintro ⟨_, _, _, _, _⟩; omega
    simpa using this
  · have k2 : saOk (n + 1) = true := withinB_iff.2 (by omega)
    refine ⟨k2, ?_, ?_, ?_⟩
    · simp only [saS, k2, h, if_true]; omega
    · simp only [saP, k2, if_true]; omega
    · simp only [saO, k2, if_true]; omega
theorem law_FnSplitAddress (w : World) (ao : Option Addr) (len cap : Nat) (h : CodeIn w ao len cap) : Calls Try.prog 12 #[.slice ao len cap] w fun r w' => r = .returned (.bool true) ∧ Below w.heap.size w w' := by
  have HC := Lib.hid h
  clear h
  by_cases hl : 1048576 < len
  · go_enter Try.func12, Try.ntmps12
    go_wp2
    go_ret
    exact ⟨rfl, by (repeat' (first | with_reducible exact Below.refl _ _ | (with_reducible refine balloc ?_ _) | (with_reducible refine bset ?_ ?_ _) | (with_reducible refine bdrew ?_) | (with_reducible refine bdrewN ?_ _) | (with_reducible refine bstep ?_ (by with_reducible assumption)) | (with_reducible refine bgrow ?_ (by with_reducible assumption) (by omega)) | (simp; done) | (simp; omega)))⟩
  have hl' : len ≤ 1048576 := by omega
  clear hl
  go_enter Try.func12, Try.ntmps12
  go_wp2_with (fail)
  refine (spec_DrawSplitAddress _ _ _ _ HC.out).mono ?_
  rintro e w1 ⟨n, rfl, hb1⟩
  by_cases ha : saOk n = true
  · obtain ⟨n0, n1⟩ := withinB_iff.1 ha
    obtain ⟨e1, e2, e3, e4⟩ := split_pack ha
    clear e3 e4
    rcases (show n % 16384 < 16383 ∨ (n % 16384 = 16383 ∧ n < 262143) ∨ (n % 16384 = 16383 ∧ n = 262143) from by omega) with hm | ⟨hm, hm2⟩ | ⟨hm, hm2⟩
    · obtain ⟨k1, k2, k3, k4, k5⟩ := move_next ha hm
      clear hm
      go_wp2_with (fail)
      refine (impl_SplitAddress _ _).mono ?_
      rintro e w2 ⟨rfl, hb2⟩
      go_wp2_with (fail)
      refine (spec_SplitAddress _ _).mono ?_
      rintro e w3 ⟨rfl, hb3⟩
      obtain ⟨hc3_0, hf3_0, hz3_0⟩ := bel_at hb3 (w2.heap.size) (by first | omega | (simp; done) | (simp; omega))
      go_wp2_with (fail)
      refine (impl_PackAddress _ _ _ _).mono ?_
      rintro e w4 ⟨rfl, hb4⟩
      obtain ⟨hc4_0, hf4_0, hz4_0⟩ := bel_at hb4 (w2.heap.size) (by first | omega | (simp; done) | (simp; omega))
      obtain ⟨hc4_1, hf4_1, hz4_1⟩ := bel_at hb4 (w3.heap.size) (by first | omega | (simp; done) | (simp; omega))
      go_wp2_with (fail)
      refine (impl_SplitAddress _ _).mono ?_
      rintro e w5 ⟨rfl, hb5⟩
      obtain ⟨hc5_0, hf5_0, hz5_0⟩ := bel_at hb5 (w2.heap.size) (by first | omega | (simp; done) | (simp; omega))
      obtain ⟨hc5_1, hf5_1, hz5_1⟩ := bel_at hb5 (w3.heap.size) (by first | omega | (simp; done) | (simp; omega))
      go_wp2_with (fail)
      refine (impl_MoveAddress _ _ _ _ _).mono ?_
      rintro e w6 ⟨rfl, hb6⟩
      obtain ⟨hc6_0, hf6_0, hz6_0⟩ := bel_at hb6 (w2.heap.size) (by first | omega | (simp; done) | (simp; omega))
      obtain ⟨hc6_1, hf6_1, hz6_1⟩ := bel_at hb6 (w3.heap.size) (by first | omega | (simp; done) | (simp; omega))
      obtain ⟨hc6_2, hf6_2, hz6_2⟩ := bel_at hb6 (w5.heap.size) (by first | omega | (simp; done) | (simp; omega))
      go_wp2
      all_goals (go_ret; exact ⟨rfl, by (repeat' (first | with_reducible exact Below.refl _ _ | (with_reducible refine balloc ?_ _) | (with_reducible refine bset ?_ ?_ _) | (with_reducible refine bdrew ?_) | (with_reducible refine bdrewN ?_ _) | (with_reducible refine bstep ?_ (by with_reducible assumption)) | (with_reducible refine bgrow ?_ (by with_reducible assumption) (by omega)) | (simp; done) | (simp; omega)))⟩)
    · obtain ⟨k1, k2, k3⟩ := move_stop ha hm
      obtain ⟨k4, k5, k6, k7⟩ := k2 hm2
      have q1 := (avB_iff.1 e1).1
      clear hm k2 k3
      go_wp2_with (fail)
      refine (impl_SplitAddress _ _).mono ?_
      rintro e w2 ⟨rfl, hb2⟩
      go_wp2_with (fail)
      refine (spec_SplitAddress _ _).mono ?_
      rintro e w3 ⟨rfl, hb3⟩
      obtain ⟨hc3_0, hf3_0, hz3_0⟩ := bel_at hb3 (w2.heap.size) (by first | omega | (simp; done) | (simp; omega))
      go_wp2_with (fail)
      refine (impl_PackAddress _ _ _ _).mono ?_
      rintro e w4 ⟨rfl, hb4⟩
      obtain ⟨hc4_0, hf4_0, hz4_0⟩ := bel_at hb4 (w2.heap.size) (by first | omega | (simp; done) | (simp; omega))
      obtain ⟨hc4_1, hf4_1, hz4_1⟩ := bel_at hb4 (w3.heap.size) (by first | omega | (simp; done) | (simp; omega))
      go_wp2_with (fail)
      refine (impl_SplitAddress _ _).mono ?_
      rintro e w5 ⟨rfl, hb5⟩
      obtain ⟨hc5_0, hf5_0, hz5_0⟩ := bel_at hb5 (w2.heap.size) (by first | omega | (simp; done) | (simp; omega))
      obtain ⟨hc5_1, hf5_1, hz5_1⟩ := bel_at hb5 (w3.heap.size) (by first | omega | (simp; done) | (simp; omega))
      go_wp2_with (fail)
      refine (impl_MoveAddress _ _ _ _ _).mono ?_
      rintro e w6 ⟨rfl, hb6⟩
      obtain ⟨hc6_0, hf6_0, hz6_0⟩ := bel_at hb6 (w2.heap.size) (by first | omega | (simp; done) | (simp; omega))
      obtain ⟨hc6_1, hf6_1, hz6_1⟩ := bel_at hb6 (w3.heap.size) (by first | omega | (simp; done) | (simp; omega))
      obtain ⟨hc6_2, hf6_2, hz6_2⟩ := bel_at hb6 (w5.heap.size) (by first | omega | (simp; done) | (simp; omega))
      go_wp2
      all_goals (go_ret; exact ⟨rfl, by (repeat' (first | with_reducible exact Below.refl _ _ | (with_reducible refine balloc ?_ _) | (with_reducible refine bset ?_ ?_ _) | (with_reducible refine bdrew ?_) | (with_reducible refine bdrewN ?_ _) | (with_reducible refine bstep ?_ (by with_reducible assumption)) | (with_reducible refine bgrow ?_ (by with_reducible assumption) (by omega)) | (simp; done) | (simp; omega)))⟩)
    · obtain ⟨k1, k2, k3⟩ := move_stop ha hm
      have k4 := k3 hm2
      clear hm k2 k3 hm2
      go_wp2_with (fail)
      refine (impl_SplitAddress _ _).mono ?_
      rintro e w2 ⟨rfl, hb2⟩
      go_wp2_with (fail)
      refine (spec_SplitAddress _ _).mono ?_
      rintro e w3 ⟨rfl, hb3⟩
      obtain ⟨hc3_0, hf3_0, hz3_0⟩ := bel_at hb3 (w2.heap.size) (by first | omega | (simp; done) | (simp; omega))
      go_wp2_with (fail)
      refine (impl_PackAddress _ _ _ _).mono ?_
      rintro e w4 ⟨rfl, hb4⟩
      obtain ⟨hc4_0, hf4_0, hz4_0⟩ := bel_at hb4 (w2.heap.size) (by first | omega | (simp; done) | (simp; omega))
      obtain ⟨hc4_1, hf4_1, hz4_1⟩ := bel_at hb4 (w3.heap.size) (by first | omega | (simp; done) | (simp; omega))
      go_wp2_with (fail)
      refine (impl_SplitAddress _ _).mono ?_
      rintro e w5 ⟨rfl, hb5⟩
      obtain ⟨hc5_0, hf5_0, hz5_0⟩ := bel_at hb5 (w2.heap.size) (by first | omega | (simp; done) | (simp; omega))
      obtain ⟨hc5_1, hf5_1, hz5_1⟩ := bel_at hb5 (w3.heap.size) (by first | omega | (simp; done) | (simp; omega))
      go_wp2_with (fail)
      refine (impl_MoveAddress _ _ _ _ _).mono ?_
      rintro e w6 ⟨rfl, hb6⟩
      obtain ⟨hc6_0, hf6_0, hz6_0⟩ := bel_at hb6 (w2.heap.size) (by first | omega | (simp; done) | (simp; omega))
      obtain ⟨hc6_1, hf6_1, hz6_1⟩ := bel_at hb6 (w3.heap.size) (by first | omega | (simp; done) | (simp; omega))
      obtain ⟨hc6_2, hf6_2, hz6_2⟩ := bel_at hb6 (w5.heap.size) (by first | omega | (simp; done) | (simp; omega))
      go_wp2
      all_goals (go_ret; exact ⟨rfl, by (repeat' (first | with_reducible exact Below.refl _ _ | (with_reducible refine balloc ?_ _) | (with_reducible refine bset ?_ ?_ _) | (with_reducible refine bdrew ?_) | (with_reducible refine bdrewN ?_ _) | (with_reducible refine bstep ?_ (by with_reducible assumption)) | (with_reducible refine bgrow ?_ (by with_reducible assumption) (by omega)) | (simp; done) | (simp; omega)))⟩)
  · have ha' : saOk n = false := by simpa using ha
    have z1 : saS n = 0 := by simp [saS, ha']
    have z2 : saP n = 0 := by simp [saP, ha']
    have z3 : saO n = 0 := by simp [saO, ha']
    clear ha
    go_wp2_with (fail)
    refine (impl_SplitAddress _ _).mono ?_
    rintro e w2 ⟨rfl, hb2⟩
    go_wp2_with (fail)
    refine (spec_SplitAddress _ _).mono ?_
    rintro e w3 ⟨rfl, hb3⟩
    obtain ⟨hc3_0, hf3_0, hz3_0⟩ := bel_at hb3 (w2.heap.size) (by first | omega | (simp; done) | (simp; omega))
    go_wp2
    go_ret
    exact ⟨rfl, by (repeat' (first | with_reducible exact Below.refl _ _ | (with_reducible refine balloc ?_ _) | (with_reducible refine bset ?_ ?_ _) | (with_reducible refine bdrew ?_) | (with_reducible refine bdrewN ?_ _) | (with_reducible refine bstep ?_ (by with_reducible assumption)) | (with_reducible refine bgrow ?_ (by with_reducible assumption) (by omega)) | (simp; done) | (simp; omega)))⟩
theorem al_trans (a b c : Int) (h1 : alB a b = true) (h2 : alB b c = true) : alB a c = true := by
  simp only [alB, Bool.and_eq_true, withinB_iff] at h1 h2 ⊢
  obtain ⟨⟨⟨_, _⟩, _, _⟩, h1⟩ := h1
  obtain ⟨⟨⟨_, _⟩, _, _⟩, h2⟩ := h2
  refine ⟨⟨⟨by omega, by omega⟩, by omega, by omega⟩, ?_⟩
  have key : ∀ a b c : Fin 8, (bits BinOp.and IntKind.i64 (a.val : Int) (b.val : Int) == (b.val : Int)) = true → (bits BinOp.and IntKind.i64 (b.val : Int) (c.val : Int) == (c.val : Int)) = true → (bits BinOp.and IntKind.i64 (a.val : Int) (c.val : Int) == (c.val : Int)) = true := by decide +kernel
  have := key ⟨a.toNat, by omega⟩ ⟨b.toNat, by omega⟩ ⟨c.toNat, by omega⟩
  simp only [Int.toNat_of_nonneg (show 0 ≤ a from by omega), Int.toNat_of_nonneg (show 0 ≤ b from by omega), Int.toNat_of_nonneg (show 0 ≤ c from by omega)] at this
  exact this h1 h2
theorem al_anti (a b : Int) (h1 : alB a b = true) (h2 : alB b a = true) : a = b := by
  simp only [alB, Bool.and_eq_true, withinB_iff] at h1 h2
  obtain ⟨⟨⟨_, _⟩, _, _⟩, h1⟩ := h1
  obtain ⟨_, h2⟩ := h2
  have key : ∀ a b : Fin 8, (bits BinOp.and IntKind.i64 (a.val : Int) (b.val : Int) == (b.val : Int)) = true → (bits BinOp.and IntKind.i64 (b.val : Int) (a.val : Int) == (a.val : Int)) = true → (a.val : Int) = (b.val : Int) := by decide +kernel
  have := key ⟨a.toNat, by omega⟩ ⟨b.toNat, by omega⟩
  simp only [Int.toNat_of_nonneg (show 0 ≤ a from by omega), Int.toNat_of_nonneg (show 0 ≤ b from by omega)] at this
  exact this h1 h2
theorem law_FnAllowsTrans (w : World) (ao : Option Addr) (len cap : Nat) (h : CodeIn w ao len cap) (ao' : Option Addr) (len' cap' : Nat) (h' : CodeIn w ao' len' cap') : Calls Try.prog 4 #[.slice ao len cap, .slice ao' len' cap'] w fun r w' => r = .returned (.bool true) ∧ Below w.heap.size w w' := by
  have HC := Lib.hid h
  have HC' := Lib.hid h'
  clear h h'
  by_cases hl : 1048576 < len
  · go_enter Try.func4, Try.ntmps4
    go_wp2
    go_ret
    exact ⟨rfl, by (repeat' (first | with_reducible exact Below.refl _ _ | (with_reducible refine balloc ?_ _) | (with_reducible refine bset ?_ ?_ _) | (with_reducible refine bdrew ?_) | (with_reducible refine bdrewN ?_ _) | (with_reducible refine bstep ?_ (by with_reducible assumption)) | (with_reducible refine bgrow ?_ (by with_reducible assumption) (by omega)) | (simp; done) | (simp; omega)))⟩
  have hq : len ≤ 1048576 := by omega
  clear hl
  by_cases hl : 1048576 < len'
  · go_enter Try.func4, Try.ntmps4
    go_wp2
    go_ret
    exact ⟨rfl, by (repeat' (first | with_reducible exact Below.refl _ _ | (with_reducible refine balloc ?_ _) | (with_reducible refine bset ?_ ?_ _) | (with_reducible refine bdrew ?_) | (with_reducible refine bdrewN ?_ _) | (with_reducible refine bstep ?_ (by with_reducible assumption)) | (with_reducible refine bgrow ?_ (by with_reducible assumption) (by omega)) | (simp; done) | (simp; omega)))⟩
  have hq' : len' ≤ 1048576 := by omega
  clear hl
  go_enter Try.func4, Try.ntmps4
  go_wp2_with (fail)
  refine (spec_DrawAllows _ _ _ _ HC.out).mono ?_
  rintro e w1 ⟨a, b, rfl, hb1⟩
  go_wp2_with (fail)
  refine (spec_DrawAllows _ _ _ _ (by exact HC'.out.below hb1)).mono ?_
  rintro e w2 ⟨b2, c, rfl, hb2⟩
  by_cases hx : alB a b = true
  · by_cases hy : alB b c = true
    · have hz := al_trans a b c hx hy
      by_cases hv : alB b a = true
      · have he := al_anti a b hx hv
        subst he
        go_wp2_with (first | (go_at_call 16; refine (impl_Allows _ _ _).mono ?_; rintro e w' ⟨rfl, rfl⟩) | (go_at_call 17; refine (spec_Allows _ _ _).mono ?_; rintro e w' ⟨rfl, rfl⟩))
        all_goals (go_ret; exact ⟨rfl, by (repeat' (first | with_reducible exact Below.refl _ _ | (with_reducible refine balloc ?_ _) | (with_reducible refine bset ?_ ?_ _) | (with_reducible refine bdrew ?_) | (with_reducible refine bdrewN ?_ _) | (with_reducible refine bstep ?_ (by with_reducible assumption)) | (with_reducible refine bgrow ?_ (by with_reducible assumption) (by omega)) | (simp; done) | (simp; omega)))⟩)
      · have hv' : alB b a = false := by simpa using hv
        clear hv
        go_wp2_with (first | (go_at_call 16; refine (impl_Allows _ _ _).mono ?_; rintro e w' ⟨rfl, rfl⟩) | (go_at_call 17; refine (spec_Allows _ _ _).mono ?_; rintro e w' ⟨rfl, rfl⟩))
        all_goals (go_ret; exact ⟨rfl, by (repeat' (first | with_reducible exact Below.refl _ _ | (with_reducible refine balloc ?_ _) | (with_reducible refine bset ?_ ?_ _) | (with_reducible refine bdrew ?_) | (with_reducible refine bdrewN ?_ _) | (with_reducible refine bstep ?_ (by with_reducible assumption)) | (with_reducible refine bgrow ?_ (by with_reducible assumption) (by omega)) | (simp; done) | (simp; omega)))⟩)
    · have hy' : alB b c = false := by simpa using hy
      clear hy
      by_cases hv : alB b a = true
      · have he := al_anti a b hx hv
        subst he
        go_wp2_with (first | (go_at_call 16; refine (impl_Allows _ _ _).mono ?_; rintro e w' ⟨rfl, rfl⟩) | (go_at_call 17; refine (spec_Allows _ _ _).mono ?_; rintro e w' ⟨rfl, rfl⟩))
        all_goals (go_ret; exact ⟨rfl, by (repeat' (first | with_reducible exact Below.refl _ _ | (with_reducible refine balloc ?_ _) | (with_reducible refine bset ?_ ?_ _) | (with_reducible refine bdrew ?_) | (with_reducible refine bdrewN ?_ _) | (with_reducible refine bstep ?_ (by with_reducible assumption)) | (with_reducible refine bgrow ?_ (by with_reducible assumption) (by omega)) | (simp; done) | (simp; omega)))⟩)
      · have hv' : alB b a = false := by simpa using hv
        clear hv
        go_wp2_with (first | (go_at_call 16; refine (impl_Allows _ _ _).mono ?_; rintro e w' ⟨rfl, rfl⟩) | (go_at_call 17; refine (spec_Allows _ _ _).mono ?_; rintro e w' ⟨rfl, rfl⟩))
        all_goals (go_ret; exact ⟨rfl, by (repeat' (first | with_reducible exact Below.refl _ _ | (with_reducible refine balloc ?_ _) | (with_reducible refine bset ?_ ?_ _) | (with_reducible refine bdrew ?_) | (with_reducible refine bdrewN ?_ _) | (with_reducible refine bstep ?_ (by with_reducible assumption)) | (with_reducible refine bgrow ?_ (by with_reducible assumption) (by omega)) | (simp; done) | (simp; omega)))⟩)
  · have hx' : alB a b = false := by simpa using hx
    clear hx
    go_wp2_with (first | (go_at_call 16; refine (impl_Allows _ _ _).mono ?_; rintro e w' ⟨rfl, rfl⟩) | (go_at_call 17; refine (spec_Allows _ _ _).mono ?_; rintro e w' ⟨rfl, rfl⟩))
    all_goals (go_ret; exact ⟨rfl, by (repeat' (first | with_reducible exact Below.refl _ _ | (with_reducible refine balloc ?_ _) | (with_reducible refine bset ?_ ?_ _) | (with_reducible refine bdrew ?_) | (with_reducible refine bdrewN ?_ _) | (with_reducible refine bstep ?_ (by with_reducible assumption)) | (with_reducible refine bgrow ?_ (by with_reducible assumption) (by omega)) | (simp; done) | (simp; omega)))⟩)
theorem kb_trans (a b c d e f : Int) (h1 : kbB a b c d = true) (h2 : kbB c d e f = true) : kbB a b e f = true := by
  rw [kbB_iff] at *; omega
theorem law_FnKeyTrans (w : World) (ao : Option Addr) (len cap : Nat) (h : CodeIn w ao len cap) (ao' : Option Addr) (len' cap' : Nat) (h' : CodeIn w ao' len' cap') : Calls Try.prog 7 #[.slice ao len cap, .slice ao' len' cap'] w fun r w' => r = .returned (.bool true) ∧ Below w.heap.size w w' := by
  have HC := Lib.hid h
  have HC' := Lib.hid h'
  clear h h'
  by_cases hl : 1048576 < len
  · go_enter Try.func7, Try.ntmps7
    go_wp2
    go_ret
    exact ⟨rfl, by (repeat' (first | with_reducible exact Below.refl _ _ | (with_reducible refine balloc ?_ _) | (with_reducible refine bset ?_ ?_ _) | (with_reducible refine bdrew ?_) | (with_reducible refine bdrewN ?_ _) | (with_reducible refine bstep ?_ (by with_reducible assumption)) | (with_reducible refine bgrow ?_ (by with_reducible assumption) (by omega)) | (simp; done) | (simp; omega)))⟩
  have hq : len ≤ 1048576 := by omega
  clear hl
  by_cases hl : 1048576 < len'
  · go_enter Try.func7, Try.ntmps7
    go_wp2
    go_ret
    exact ⟨rfl, by (repeat' (first | with_reducible exact Below.refl _ _ | (with_reducible refine balloc ?_ _) | (with_reducible refine bset ?_ ?_ _) | (with_reducible refine bdrew ?_) | (with_reducible refine bdrewN ?_ _) | (with_reducible refine bstep ?_ (by with_reducible assumption)) | (with_reducible refine bgrow ?_ (by with_reducible assumption) (by omega)) | (simp; done) | (simp; omega)))⟩
  have hq' : len' ≤ 1048576 := by omega
  clear hl
  go_enter Try.func7, Try.ntmps7
  go_wp2_with (fail)
  refine (spec_DrawKeyBefore _ _ _ _ HC.out).mono ?_
  rintro e w1 ⟨a, b, c, d, rfl, hb1⟩
  go_wp2_with (fail)
  refine (spec_DrawKeyBefore _ _ _ _ (by exact ((HC'.out.below hb1).alloc _).alloc _)).mono ?_
  rintro e w2 ⟨p, q, p', q', rfl, hb2⟩
  obtain ⟨hc2_0, hf2_0, hz2_0⟩ := bel_at hb2 (w1.heap.size) (by first | (simp; done) | (simp; omega))
  obtain ⟨hc2_1, hf2_1, hz2_1⟩ := bel_at hb2 (w1.heap.size + 1) (by first | (simp; done) | (simp; omega))
  by_cases hx : kbB a b c d = true
  · by_cases hy : kbB c d p q = true
    · have hz := kb_trans _ _ _ _ _ _ hx hy
      go_wp2_with (fail)
      refine (impl_KeyBefore_b _ _ _ _ _).mono ?_
      rintro e w3 ⟨rfl, hb3⟩
      obtain ⟨hc3_0, hf3_0, hz3_0⟩ := bel_at hb3 (w1.heap.size) (by first | omega | (simp; done) | (simp; omega))
      obtain ⟨hc3_1, hf3_1, hz3_1⟩ := bel_at hb3 (w1.heap.size + 1) (by first | omega | (simp; done) | (simp; omega))
      obtain ⟨hc3_2, hf3_2, hz3_2⟩ := bel_at hb3 (w2.heap.size) (by first | omega | (simp; done) | (simp; omega))
      go_wp2_with (fail)
      refine (impl_KeyBefore_b _ _ _ _ _).mono ?_
      rintro e w4 ⟨rfl, hb4⟩
      obtain ⟨hc4_0, hf4_0, hz4_0⟩ := bel_at hb4 (w1.heap.size) (by first | omega | (simp; done) | (simp; omega))
      obtain ⟨hc4_1, hf4_1, hz4_1⟩ := bel_at hb4 (w1.heap.size + 1) (by first | omega | (simp; done) | (simp; omega))
      obtain ⟨hc4_2, hf4_2, hz4_2⟩ := bel_at hb4 (w2.heap.size) (by first | omega | (simp; done) | (simp; omega))
      go_wp2_with (fail)
      refine (spec_KeyBefore_b _ _ _ _ _).mono ?_
      rintro e w5 ⟨rfl, hb5⟩
      obtain ⟨hc5_0, hf5_0, hz5_0⟩ := bel_at hb5 (w1.heap.size) (by first | omega | (simp; done) | (simp; omega))
      obtain ⟨hc5_1, hf5_1, hz5_1⟩ := bel_at hb5 (w1.heap.size + 1) (by first | omega | (simp; done) | (simp; omega))
      obtain ⟨hc5_2, hf5_2, hz5_2⟩ := bel_at hb5 (w2.heap.size) (by first | omega | (simp; done) | (simp; omega))
      go_wp2_with (fail)
      refine (spec_KeyBefore_b _ _ _ _ _).mono ?_
      rintro e w6 ⟨rfl, hb6⟩
      obtain ⟨hc6_0, hf6_0, hz6_0⟩ := bel_at hb6 (w1.heap.size) (by first | omega | (simp; done) | (simp; omega))
      obtain ⟨hc6_1, hf6_1, hz6_1⟩ := bel_at hb6 (w1.heap.size + 1) (by first | omega | (simp; done) | (simp; omega))
      obtain ⟨hc6_2, hf6_2, hz6_2⟩ := bel_at hb6 (w2.heap.size) (by first | omega | (simp; done) | (simp; omega))
      go_wp2_with (fail)
      refine (impl_KeyBefore_b _ _ _ _ _).mono ?_
      rintro e w7 ⟨rfl, hb7⟩
      obtain ⟨hc7_0, hf7_0, hz7_0⟩ := bel_at hb7 (w1.heap.size) (by first | omega | (simp; done) | (simp; omega))
      obtain ⟨hc7_1, hf7_1, hz7_1⟩ := bel_at hb7 (w1.heap.size + 1) (by first | omega | (simp; done) | (simp; omega))
      obtain ⟨hc7_2, hf7_2, hz7_2⟩ := bel_at hb7 (w2.heap.size) (by first | omega | (simp; done) | (simp; omega))
      go_wp2
      all_goals (go_ret; exact ⟨rfl, by (repeat' (first | with_reducible exact Below.refl _ _ | (with_reducible refine balloc ?_ _) | (with_reducible refine bset ?_ ?_ _) | (with_reducible refine bdrew ?_) | (with_reducible refine bdrewN ?_ _) | (with_reducible refine bstep ?_ (by with_reducible assumption)) | (with_reducible refine bgrow ?_ (by with_reducible assumption) (by omega)) | (simp; done) | (simp; omega)))⟩)
    · have hy' : kbB c d p q = false := by simpa using hy
      clear hy
      go_wp2_with (fail)
      refine (impl_KeyBefore_b _ _ _ _ _).mono ?_
      rintro e w3 ⟨rfl, hb3⟩
      obtain ⟨hc3_0, hf3_0, hz3_0⟩ := bel_at hb3 (w1.heap.size) (by first | omega | (simp; done) | (simp; omega))
      obtain ⟨hc3_1, hf3_1, hz3_1⟩ := bel_at hb3 (w1.heap.size + 1) (by first | omega | (simp; done) | (simp; omega))
      obtain ⟨hc3_2, hf3_2, hz3_2⟩ := bel_at hb3 (w2.heap.size) (by first | omega | (simp; done) | (simp; omega))
      go_wp2_with (fail)
      refine (impl_KeyBefore_b _ _ _ _ _).mono ?_
      rintro e w4 ⟨rfl, hb4⟩
      obtain ⟨hc4_0, hf4_0, hz4_0⟩ := bel_at hb4 (w1.heap.size) (by first | omega | (simp; done) | (simp; omega))
      obtain ⟨hc4_1, hf4_1, hz4_1⟩ := bel_at hb4 (w1.heap.size + 1) (by first | omega | (simp; done) | (simp; omega))
      obtain ⟨hc4_2, hf4_2, hz4_2⟩ := bel_at hb4 (w2.heap.size) (by first | omega | (simp; done) | (simp; omega))
      go_wp2_with (fail)
      refine (spec_KeyBefore_b _ _ _ _ _).mono ?_
      rintro e w5 ⟨rfl, hb5⟩
      obtain ⟨hc5_0, hf5_0, hz5_0⟩ := bel_at hb5 (w1.heap.size) (by first | omega | (simp; done) | (simp; omega))
      obtain ⟨hc5_1, hf5_1, hz5_1⟩ := bel_at hb5 (w1.heap.size + 1) (by first | omega | (simp; done) | (simp; omega))
      obtain ⟨hc5_2, hf5_2, hz5_2⟩ := bel_at hb5 (w2.heap.size) (by first | omega | (simp; done) | (simp; omega))
      go_wp2_with (fail)
      refine (spec_KeyBefore_b _ _ _ _ _).mono ?_
      rintro e w6 ⟨rfl, hb6⟩
      obtain ⟨hc6_0, hf6_0, hz6_0⟩ := bel_at hb6 (w1.heap.size) (by first | omega | (simp; done) | (simp; omega))
      obtain ⟨hc6_1, hf6_1, hz6_1⟩ := bel_at hb6 (w1.heap.size + 1) (by first | omega | (simp; done) | (simp; omega))
      obtain ⟨hc6_2, hf6_2, hz6_2⟩ := bel_at hb6 (w2.heap.size) (by first | omega | (simp; done) | (simp; omega))
      go_wp2
      all_goals (go_ret; exact ⟨rfl, by (repeat' (first | with_reducible exact Below.refl _ _ | (with_reducible refine balloc ?_ _) | (with_reducible refine bset ?_ ?_ _) | (with_reducible refine bdrew ?_) | (with_reducible refine bdrewN ?_ _) | (with_reducible refine bstep ?_ (by with_reducible assumption)) | (with_reducible refine bgrow ?_ (by with_reducible assumption) (by omega)) | (simp; done) | (simp; omega)))⟩)
  · have hx' : kbB a b c d = false := by simpa using hx
    clear hx
    go_wp2_with (fail)
    refine (impl_KeyBefore_b _ _ _ _ _).mono ?_
    rintro e w3 ⟨rfl, hb3⟩
    obtain ⟨hc3_0, hf3_0, hz3_0⟩ := bel_at hb3 (w1.heap.size) (by first | omega | (simp; done) | (simp; omega))
    obtain ⟨hc3_1, hf3_1, hz3_1⟩ := bel_at hb3 (w1.heap.size + 1) (by first | omega | (simp; done) | (simp; omega))
    obtain ⟨hc3_2, hf3_2, hz3_2⟩ := bel_at hb3 (w2.heap.size) (by first | omega | (simp; done) | (simp; omega))
    go_wp2_with (fail)
    refine (impl_KeyBefore_b _ _ _ _ _).mono ?_
    rintro e w4 ⟨rfl, hb4⟩
    obtain ⟨hc4_0, hf4_0, hz4_0⟩ := bel_at hb4 (w1.heap.size) (by first | omega | (simp; done) | (simp; omega))
    obtain ⟨hc4_1, hf4_1, hz4_1⟩ := bel_at hb4 (w1.heap.size + 1) (by first | omega | (simp; done) | (simp; omega))
    obtain ⟨hc4_2, hf4_2, hz4_2⟩ := bel_at hb4 (w2.heap.size) (by first | omega | (simp; done) | (simp; omega))
    go_wp2_with (fail)
    refine (spec_KeyBefore_b _ _ _ _ _).mono ?_
    rintro e w5 ⟨rfl, hb5⟩
    obtain ⟨hc5_0, hf5_0, hz5_0⟩ := bel_at hb5 (w1.heap.size) (by first | omega | (simp; done) | (simp; omega))
    obtain ⟨hc5_1, hf5_1, hz5_1⟩ := bel_at hb5 (w1.heap.size + 1) (by first | omega | (simp; done) | (simp; omega))
    obtain ⟨hc5_2, hf5_2, hz5_2⟩ := bel_at hb5 (w2.heap.size) (by first | omega | (simp; done) | (simp; omega))
    go_wp2_with (fail)
    refine (spec_KeyBefore_b _ _ _ _ _).mono ?_
    rintro e w6 ⟨rfl, hb6⟩
    obtain ⟨hc6_0, hf6_0, hz6_0⟩ := bel_at hb6 (w1.heap.size) (by first | omega | (simp; done) | (simp; omega))
    obtain ⟨hc6_1, hf6_1, hz6_1⟩ := bel_at hb6 (w1.heap.size + 1) (by first | omega | (simp; done) | (simp; omega))
    obtain ⟨hc6_2, hf6_2, hz6_2⟩ := bel_at hb6 (w2.heap.size) (by first | omega | (simp; done) | (simp; omega))
    go_wp2
    all_goals (go_ret; exact ⟨rfl, by (repeat' (first | with_reducible exact Below.refl _ _ | (with_reducible refine balloc ?_ _) | (with_reducible refine bset ?_ ?_ _) | (with_reducible refine bdrew ?_) | (with_reducible refine bdrewN ?_ _) | (with_reducible refine bstep ?_ (by with_reducible assumption)) | (with_reducible refine bgrow ?_ (by with_reducible assumption) (by omega)) | (simp; done) | (simp; omega)))⟩)
end Go.Proofs.Ytdgbcjgpaondoaa
