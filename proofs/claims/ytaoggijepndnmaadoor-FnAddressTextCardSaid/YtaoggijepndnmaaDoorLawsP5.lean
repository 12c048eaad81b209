/- Walk of the law FnAddressText: it returns true where the library's variables are laid. No other conditions. -/
import Derived.Test.YtaoggijepndnmaaDoorLawsP3
import Derived.Test.YtaoggijepndnmaaDoorBend2
namespace Go.Proofs.YtaoggijepndnmaaDoor
set_option linter.unusedVariables false
open Go.ChangeShapes Go.WideShapes Go.ChangeAt Go.RowKit
theorem noAddr_nil : NoAddr ⟨#[]⟩ := by
  intro x y z h e
  have h2 := congrArg ByteArray.size e
  unfold fmtS at h2
  rw [if_pos h] at h2
  unfold fmtA at h2
  simp only [ByteArray.size_append] at h2
  rw [show (ByteArray.mk #[58]).size = 1 from rfl, show (ByteArray.mk #[43]).size = 1 from rfl, show (ByteArray.mk #[]).size = 0 from rfl] at h2
  omega
set_option maxHeartbeats 2000000 in
theorem law_FnAddressText (w : World) (ao : Option Addr) (len cap : Nat) (h : CodeIn w ao len cap) (ao' : Option Addr) (len' cap' : Nat) (h' : CodeIn w ao' len' cap') (hfree : LibW w) : Calls Tryd.prog 5 #[.slice ao len cap, .slice ao' len' cap'] w fun r w' => r = .returned (.bool true) ∧ Below w.heap.size w w' := by
  have HC := Lib.hid h
  have HC' := Lib.hid h'
  have HL := Lib.hid hfree
  clear h h' hfree
  by_cases hl : 1048576 < len
  · go_enter Tryd.func5, Tryd.ntmps5
    go_wp2
    go_ret
    exact ⟨rfl, by (repeat' (first | with_reducible exact Below.refl _ _ | (with_reducible refine balloc ?_ _) | (with_reducible refine bset ?_ ?_ _) | (with_reducible refine bdrew ?_) | (with_reducible refine bdrewN ?_ _) | (with_reducible refine bstep ?_ (by with_reducible assumption)) | (with_reducible refine bgrow ?_ (by with_reducible assumption) (by omega)) | (simp; done) | (simp; omega)))⟩
  have hl' : len ≤ 1048576 := by omega
  clear hl
  by_cases hq : 1048576 < len'
  · go_enter Tryd.func5, Tryd.ntmps5
    go_wp2
    go_ret
    exact ⟨rfl, by (repeat' (first | with_reducible exact Below.refl _ _ | (with_reducible refine balloc ?_ _) | (with_reducible refine bset ?_ ?_ _) | (with_reducible refine bdrew ?_) | (with_reducible refine bdrewN ?_ _) | (with_reducible refine bstep ?_ (by with_reducible assumption)) | (with_reducible refine bgrow ?_ (by with_reducible assumption) (by omega)) | (simp; done) | (simp; omega)))⟩
  have hq' : len' ≤ 1048576 := by omega
  clear hq
  go_enter Tryd.func5, Tryd.ntmps5
  go_wp2_with (fail)
  refine (spec_DrawFormatAddress _ _ _ _ HC.out).mono ?_
  rintro e w1 ⟨x, y, z, rfl, hb1⟩
  have hcase : (∃ a b c : Nat, x = (a : Int) ∧ y = (b : Int) ∧ z = (c : Int) ∧ avB (a : Int) (b : Int) (c : Int) = true ∧ fmtS x y z = fmtA a b c) ∨ (avB x y z = false ∧ fmtS x y z = ⟨#[]⟩) := by
    by_cases hv : avB x y z = true
    · have hr := avB_iff.1 hv
      obtain ⟨a, rfl⟩ := Int.eq_ofNat_of_zero_le (show 0 ≤ x by omega)
      obtain ⟨b, rfl⟩ := Int.eq_ofNat_of_zero_le (show 0 ≤ y by omega)
      obtain ⟨c, rfl⟩ := Int.eq_ofNat_of_zero_le (show 0 ≤ z by omega)
      exact Or.inl ⟨a, b, c, rfl, rfl, rfl, hv, by unfold fmtS; rw [if_pos hv]; rfl⟩
    · exact Or.inr ⟨by simpa using hv, by unfold fmtS; rw [if_neg hv]⟩
  have IF := Lib.hid (fun (w : World) (h : TabW w) => impl_FormatAddress x y z w h)
  have SF := Lib.hid (fun (w : World) => spec_FormatAddress x y z w)
  have IV := Lib.hid (fun (w : World) => impl_AddressValid x y z w)
  have SV := Lib.hid (fun (w : World) => spec_AddressValid x y z w)
  rcases hcase with ⟨a, b, c, rfl, rfl, rfl, hv, hf⟩ | ⟨hv, hf⟩
  · have IP := Lib.hid (fun (w : World) (hl : LibW w) => impl_Parse_yes a b c hv w hl)
    rw [hf] at IF SF
    rw [hv] at IV SV
    clear hf
    generalize fmtA a b c = s at *
    go_wp2_with (fail)
    refine (IF.out _ (HL.out.below (by (repeat' (first | with_reducible exact Below.refl _ _ | (with_reducible refine balloc ?_ _) | (with_reducible refine bset ?_ ?_ _) | (with_reducible refine bdrew ?_) | (with_reducible refine bdrewN ?_ _) | (with_reducible refine bstep ?_ (by with_reducible assumption)) | (with_reducible refine bgrow ?_ (by with_reducible assumption) (by omega)) | (simp; done) | (simp; omega))))).tab).mono ?_
    rintro e w2 ⟨rfl, hb2⟩
    obtain ⟨hk2, hf2, hz2⟩ := bel_at hb2 (w1.heap.size) (by first | omega | (simp; done) | (simp; omega))
    go_wp2_with (fail)
    refine (IP.out _ (HL.out.below (by (repeat' (first | with_reducible exact Below.refl _ _ | (with_reducible refine balloc ?_ _) | (with_reducible refine bset ?_ ?_ _) | (with_reducible refine bdrew ?_) | (with_reducible refine bdrewN ?_ _) | (with_reducible refine bstep ?_ (by with_reducible assumption)) | (with_reducible refine bgrow ?_ (by with_reducible assumption) (by omega)) | (simp; done) | (simp; omega)))))).mono ?_
    rintro e w3 ⟨rfl, hb3⟩
    obtain ⟨hk3, hf3, hz3⟩ := bel_at hb3 (w1.heap.size) (by first | omega | (simp; done) | (simp; omega))
    go_wp2_with (fail)
    refine (IV.out _).mono ?_
    rintro e _ ⟨rfl, rfl⟩
    go_wp2_with (fail)
    refine (SF.out _).mono ?_
    rintro e w4 ⟨rfl, hb4⟩
    obtain ⟨hk4, hf4, hz4⟩ := bel_at hb4 (w1.heap.size) (by first | omega | (simp; done) | (simp; omega))
    obtain ⟨hm4, hg4, hy4⟩ := bel_at hb4 (w3.heap.size) (by first | omega | (simp; done) | (simp; omega))
    go_wp2_with (fail)
    refine (SV.out _).mono ?_
    rintro e _ ⟨rfl, rfl⟩
    go_wp2_with (fail)
    refine (spec_DrawParseAddress _ _ _ _ (HC'.out.below (by (repeat' (first | with_reducible exact Below.refl _ _ | (with_reducible refine balloc ?_ _) | (with_reducible refine bset ?_ ?_ _) | (with_reducible refine bdrew ?_) | (with_reducible refine bdrewN ?_ _) | (with_reducible refine bstep ?_ (by with_reducible assumption)) | (with_reducible refine bgrow ?_ (by with_reducible assumption) (by omega)) | (simp; done) | (simp; omega)))))).mono ?_
    rintro e w5 ⟨t, rfl, ht, hb5⟩
    have hB5 : Below w.heap.size w w5 := by (repeat' (first | with_reducible exact Below.refl _ _ | (with_reducible refine balloc ?_ _) | (with_reducible refine bset ?_ ?_ _) | (with_reducible refine bdrew ?_) | (with_reducible refine bdrewN ?_ _) | (with_reducible refine bstep ?_ (by with_reducible assumption)) | (with_reducible refine bgrow ?_ (by with_reducible assumption) (by omega)) | (simp; done) | (simp; omega)))
    have hz5 := hB5.size
    clear hb1 hb2 hb3 hb4 hk2 hf2 hk3 hf3 hk4 hf4 hm4 hg4 hb5
    rcases addr_or t with ⟨p, q, r, hv5, rfl⟩ | hn
    · have hf5 : fmtS (p : Int) (q : Int) (r : Int) = fmtA p q r := by unfold fmtS; rw [if_pos hv5]; rfl
      have IP5 := Lib.hid (fun (w : World) (hl : LibW w) => impl_Parse_yes p q r hv5 w hl)
      have SP5 := Lib.hid (fun (w : World) => spec_Parse_yes p q r hv5 w)
      have IF5 := Lib.hid (fun (w : World) (h : TabW w) => impl_FormatAddress (p : Int) (q : Int) (r : Int) w h)
      rw [hf5] at IF5
      clear hf5 hv5
      generalize fmtA p q r = t at *
      go_wp2_with (fail)
      refine (IP5.out _ (HL.out.below (by (repeat' (first | with_reducible exact Below.refl _ _ | (with_reducible refine balloc ?_ _) | (with_reducible refine bset ?_ ?_ _) | (with_reducible refine bdrew ?_) | (with_reducible refine bdrewN ?_ _) | (with_reducible refine bstep ?_ (by with_reducible assumption)) | (with_reducible refine bgrow ?_ (by with_reducible assumption) (by omega)) | (simp; done) | (simp; omega)))))).mono ?_
      rintro e w6 ⟨rfl, hb6⟩
      go_wp2_with (fail)
      refine (SP5.out _).mono ?_
      rintro e w7 ⟨rfl, hb7⟩
      obtain ⟨hk7, hf7, hz7⟩ := bel_at hb7 (w6.heap.size) (by first | omega | (simp; done) | (simp; omega))
      go_wp2_with (fail)
      refine (IF5.out _ (HL.out.below (by (repeat' (first | with_reducible exact Below.refl _ _ | (with_reducible refine balloc ?_ _) | (with_reducible refine bset ?_ ?_ _) | (with_reducible refine bdrew ?_) | (with_reducible refine bdrewN ?_ _) | (with_reducible refine bstep ?_ (by with_reducible assumption)) | (with_reducible refine bgrow ?_ (by with_reducible assumption) (by omega)) | (simp; done) | (simp; omega))))).tab).mono ?_
      rintro e w8 ⟨rfl, hb8⟩
      have hB8 : Below w.heap.size w w8 := by (repeat' (first | with_reducible exact Below.refl _ _ | (with_reducible refine balloc ?_ _) | (with_reducible refine bset ?_ ?_ _) | (with_reducible refine bdrew ?_) | (with_reducible refine bdrewN ?_ _) | (with_reducible refine bstep ?_ (by with_reducible assumption)) | (with_reducible refine bgrow ?_ (by with_reducible assumption) (by omega)) | (simp; done) | (simp; omega)))
      go_wp2
      all_goals (go_ret; exact ⟨rfl, hB8⟩)
    · have IP5 := Lib.hid (fun (w : World) (hl : LibW w) => impl_Parse_no t (by omega) hn w hl)
      have SP5 := Lib.hid (fun (w : World) => spec_Parse_no t (by omega) hn w)
      clear hn
      go_wp2_with (fail)
      refine (IP5.out _ (HL.out.below (by (repeat' (first | with_reducible exact Below.refl _ _ | (with_reducible refine balloc ?_ _) | (with_reducible refine bset ?_ ?_ _) | (with_reducible refine bdrew ?_) | (with_reducible refine bdrewN ?_ _) | (with_reducible refine bstep ?_ (by with_reducible assumption)) | (with_reducible refine bgrow ?_ (by with_reducible assumption) (by omega)) | (simp; done) | (simp; omega)))))).mono ?_
      rintro e w6 ⟨rfl, hb6⟩
      go_wp2_with (fail)
      refine (SP5.out _).mono ?_
      rintro e w7 ⟨rfl, hb7⟩
      obtain ⟨hk7, hf7, hz7⟩ := bel_at hb7 (w6.heap.size) (by first | omega | (simp; done) | (simp; omega))
      go_wp2
      go_ret
      exact ⟨rfl, by (repeat' (first | with_reducible exact Below.refl _ _ | (with_reducible refine balloc ?_ _) | (with_reducible refine bset ?_ ?_ _) | (with_reducible refine bdrew ?_) | (with_reducible refine bdrewN ?_ _) | (with_reducible refine bstep ?_ (by with_reducible assumption)) | (with_reducible refine bgrow ?_ (by with_reducible assumption) (by omega)) | (simp; done) | (simp; omega)))⟩
  · have IP := Lib.hid (fun (w : World) (hl : LibW w) => impl_Parse_no ⟨#[]⟩ (by decide) noAddr_nil w hl)
    rw [hf] at IF SF
    rw [hv] at IV SV
    clear hf
    go_wp2_with (fail)
    refine (IF.out _ (HL.out.below (by (repeat' (first | with_reducible exact Below.refl _ _ | (with_reducible refine balloc ?_ _) | (with_reducible refine bset ?_ ?_ _) | (with_reducible refine bdrew ?_) | (with_reducible refine bdrewN ?_ _) | (with_reducible refine bstep ?_ (by with_reducible assumption)) | (with_reducible refine bgrow ?_ (by with_reducible assumption) (by omega)) | (simp; done) | (simp; omega))))).tab).mono ?_
    rintro e w2 ⟨rfl, hb2⟩
    obtain ⟨hk2, hf2, hz2⟩ := bel_at hb2 (w1.heap.size) (by first | omega | (simp; done) | (simp; omega))
    go_wp2_with (fail)
    refine (IP.out _ (HL.out.below (by (repeat' (first | with_reducible exact Below.refl _ _ | (with_reducible refine balloc ?_ _) | (with_reducible refine bset ?_ ?_ _) | (with_reducible refine bdrew ?_) | (with_reducible refine bdrewN ?_ _) | (with_reducible refine bstep ?_ (by with_reducible assumption)) | (with_reducible refine bgrow ?_ (by with_reducible assumption) (by omega)) | (simp; done) | (simp; omega)))))).mono ?_
    rintro e w3 ⟨rfl, hb3⟩
    obtain ⟨hk3, hf3, hz3⟩ := bel_at hb3 (w1.heap.size) (by first | omega | (simp; done) | (simp; omega))
    go_wp2_with (fail)
    refine (IV.out _).mono ?_
    rintro e _ ⟨rfl, rfl⟩
    go_wp2_with (fail)
    refine (SF.out _).mono ?_
    rintro e w4 ⟨rfl, hb4⟩
    obtain ⟨hk4, hf4, hz4⟩ := bel_at hb4 (w1.heap.size) (by first | omega | (simp; done) | (simp; omega))
    obtain ⟨hm4, hg4, hy4⟩ := bel_at hb4 (w3.heap.size) (by first | omega | (simp; done) | (simp; omega))
    go_wp2_with (fail)
    refine (SV.out _).mono ?_
    rintro e _ ⟨rfl, rfl⟩
    go_wp2_with (fail)
    refine (spec_DrawParseAddress _ _ _ _ (HC'.out.below (by (repeat' (first | with_reducible exact Below.refl _ _ | (with_reducible refine balloc ?_ _) | (with_reducible refine bset ?_ ?_ _) | (with_reducible refine bdrew ?_) | (with_reducible refine bdrewN ?_ _) | (with_reducible refine bstep ?_ (by with_reducible assumption)) | (with_reducible refine bgrow ?_ (by with_reducible assumption) (by omega)) | (simp; done) | (simp; omega)))))).mono ?_
    rintro e w5 ⟨t, rfl, ht, hb5⟩
    have hB5 : Below w.heap.size w w5 := by (repeat' (first | with_reducible exact Below.refl _ _ | (with_reducible refine balloc ?_ _) | (with_reducible refine bset ?_ ?_ _) | (with_reducible refine bdrew ?_) | (with_reducible refine bdrewN ?_ _) | (with_reducible refine bstep ?_ (by with_reducible assumption)) | (with_reducible refine bgrow ?_ (by with_reducible assumption) (by omega)) | (simp; done) | (simp; omega)))
    have hz5 := hB5.size
    clear hb1 hb2 hb3 hb4 hk2 hf2 hk3 hf3 hk4 hf4 hm4 hg4 hb5
    rcases addr_or t with ⟨p, q, r, hv5, rfl⟩ | hn
    · have hf5 : fmtS (p : Int) (q : Int) (r : Int) = fmtA p q r := by unfold fmtS; rw [if_pos hv5]; rfl
      have IP5 := Lib.hid (fun (w : World) (hl : LibW w) => impl_Parse_yes p q r hv5 w hl)
      have SP5 := Lib.hid (fun (w : World) => spec_Parse_yes p q r hv5 w)
      have IF5 := Lib.hid (fun (w : World) (h : TabW w) => impl_FormatAddress (p : Int) (q : Int) (r : Int) w h)
      rw [hf5] at IF5
      clear hf5 hv5
      generalize fmtA p q r = t at *
      go_wp2_with (fail)
      refine (IP5.out _ (HL.out.below (by (repeat' (first | with_reducible exact Below.refl _ _ | (with_reducible refine balloc ?_ _) | (with_reducible refine bset ?_ ?_ _) | (with_reducible refine bdrew ?_) | (with_reducible refine bdrewN ?_ _) | (with_reducible refine bstep ?_ (by with_reducible assumption)) | (with_reducible refine bgrow ?_ (by with_reducible assumption) (by omega)) | (simp; done) | (simp; omega)))))).mono ?_
      rintro e w6 ⟨rfl, hb6⟩
      go_wp2_with (fail)
      refine (SP5.out _).mono ?_
      rintro e w7 ⟨rfl, hb7⟩
      obtain ⟨hk7, hf7, hz7⟩ := bel_at hb7 (w6.heap.size) (by first | omega | (simp; done) | (simp; omega))
      go_wp2_with (fail)
      refine (IF5.out _ (HL.out.below (by (repeat' (first | with_reducible exact Below.refl _ _ | (with_reducible refine balloc ?_ _) | (with_reducible refine bset ?_ ?_ _) | (with_reducible refine bdrew ?_) | (with_reducible refine bdrewN ?_ _) | (with_reducible refine bstep ?_ (by with_reducible assumption)) | (with_reducible refine bgrow ?_ (by with_reducible assumption) (by omega)) | (simp; done) | (simp; omega))))).tab).mono ?_
      rintro e w8 ⟨rfl, hb8⟩
      have hB8 : Below w.heap.size w w8 := by (repeat' (first | with_reducible exact Below.refl _ _ | (with_reducible refine balloc ?_ _) | (with_reducible refine bset ?_ ?_ _) | (with_reducible refine bdrew ?_) | (with_reducible refine bdrewN ?_ _) | (with_reducible refine bstep ?_ (by with_reducible assumption)) | (with_reducible refine bgrow ?_ (by with_reducible assumption) (by omega)) | (simp; done) | (simp; omega)))
      go_wp2
      all_goals (go_ret; exact ⟨rfl, hB8⟩)
    · have IP5 := Lib.hid (fun (w : World) (hl : LibW w) => impl_Parse_no t (by omega) hn w hl)
      have SP5 := Lib.hid (fun (w : World) => spec_Parse_no t (by omega) hn w)
      clear hn
      go_wp2_with (fail)
      refine (IP5.out _ (HL.out.below (by (repeat' (first | with_reducible exact Below.refl _ _ | (with_reducible refine balloc ?_ _) | (with_reducible refine bset ?_ ?_ _) | (with_reducible refine bdrew ?_) | (with_reducible refine bdrewN ?_ _) | (with_reducible refine bstep ?_ (by with_reducible assumption)) | (with_reducible refine bgrow ?_ (by with_reducible assumption) (by omega)) | (simp; done) | (simp; omega)))))).mono ?_
      rintro e w6 ⟨rfl, hb6⟩
      go_wp2_with (fail)
      refine (SP5.out _).mono ?_
      rintro e w7 ⟨rfl, hb7⟩
      obtain ⟨hk7, hf7, hz7⟩ := bel_at hb7 (w6.heap.size) (by first | omega | (simp; done) | (simp; omega))
      go_wp2
      go_ret
      exact ⟨rfl, by (repeat' (first | with_reducible exact Below.refl _ _ | (with_reducible refine balloc ?_ _) | (with_reducible refine bset ?_ ?_ _) | (with_reducible refine bdrew ?_) | (with_reducible refine bdrewN ?_ _) | (with_reducible refine bstep ?_ (by with_reducible assumption)) | (with_reducible refine bgrow ?_ (by with_reducible assumption) (by omega)) | (simp; done) | (simp; omega)))⟩
end Go.Proofs.YtaoggijepndnmaaDoor
