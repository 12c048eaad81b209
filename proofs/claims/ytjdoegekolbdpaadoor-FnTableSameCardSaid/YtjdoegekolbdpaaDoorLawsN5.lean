/- Walk of the law FnTableSame: it returns true where the variable 'free' holds what its initialiser lays. No other conditions. -/
import Derived.Test.YtjdoegekolbdpaaDoorDrS
import Derived.Test.YtjdoegekolbdpaaDoorIpK
import Derived.Test.YtjdoegekolbdpaaDoorKoI
import Derived.Test.YtjdoegekolbdpaaDoorDoor
namespace Go.Proofs.YtjdoegekolbdpaaDoor
set_option linter.unusedVariables false
open Go.ChangeShapes Go.WideShapes Go.ChangeAt Go.RowKit
theorem impl_TsA (A B A' B' : Option Addr) (ca cb ca' cb' l1 h1 l2 h2 : Nat) (bk bk' : List Int) (fs fs' : List Fr) (w : World) (h : Tb w l1 h1 A B bk fs) (h' : Tb w l2 h2 A' B' bk' fs') (hn : bk.length ≤ 1048576) (hn2 : fs.length ≤ 1048576) (hn3 : bk'.length ≤ 1048576) (hn4 : fs'.length ≤ 1048576) :
    Calls Tryd.prog 13 #[.agg #[.slice A bk.length ca, .slice B fs.length cb], .agg #[.slice A' bk'.length ca', .slice B' fs'.length cb']] w fun e w' => e = .returned (.bool (tsB bk bk' fs fs')) ∧ Below w.heap.size w w' := impl_TableSame A B A' B' ca cb ca' cb' l1 h1 l2 h2 bk bk' fs fs' w h h' hn hn2 hn3 hn4
theorem spec_TsA (A B A' B' : Option Addr) (ca cb ca' cb' l1 h1 l2 h2 : Nat) (bk bk' : List Int) (fs fs' : List Fr) (w : World) (h : Tb w l1 h1 A B bk fs) (h' : Tb w l2 h2 A' B' bk' fs') (hn : bk.length ≤ 1048576) (hn2 : fs.length ≤ 1048576) (hn3 : bk'.length ≤ 1048576) (hn4 : fs'.length ≤ 1048576) :
    Calls Tryd.prog 22 #[.agg #[.slice A bk.length ca, .slice B fs.length cb], .agg #[.slice A' bk'.length ca', .slice B' fs'.length cb']] w fun e w' => e = .returned (.bool (tsB bk bk' fs fs')) ∧ Below w.heap.size w w' := spec_TableSame A B A' B' ca cb ca' cb' l1 h1 l2 h2 bk bk' fs fs' w h h' hn hn2 hn3 hn4
set_option maxHeartbeats 4000000 in
set_option maxRecDepth 100000 in
theorem law_FnTableSame (w : World) (ao : Option Addr) (len cap : Nat) (h : CodeIn w ao len cap) (hfree : FreeIn w) : Calls Tryd.prog 5 #[.slice ao len cap] w fun r w' => r = .returned (.bool true) ∧ Below w.heap.size w w' := by
  have HC := Lib.hid h
  have HF := Lib.hid hfree
  clear h hfree
  by_cases hl : 1048576 < len
  · go_enter Tryd.func5, Tryd.ntmps5
    go_wp2
    go_ret
    exact ⟨rfl, by (repeat' (first | with_reducible exact Below.refl _ _ | (with_reducible refine balloc ?_ _) | (with_reducible refine bset ?_ ?_ _) | (with_reducible refine bdrew ?_) | (with_reducible refine bdrewN ?_ _) | (with_reducible refine bstep ?_ (by with_reducible assumption)) | (with_reducible refine bgrow ?_ (by with_reducible assumption) (by omega)) | (simp; done) | (simp; omega)))⟩
  have hl' : len ≤ 1048576 := by omega
  clear hl
  go_enter Tryd.func5, Tryd.ntmps5
  go_wp2_with (fail)
  refine (spec_DrawTableSame _ _ _ _ HC.out).mono ?_
  rintro e w1 ⟨A1, c1, B1, d1, bk, fs, A2, c2, B2, d2, bk2, fs2, rfl, ⟨n1, n2⟩, ⟨n3, n4⟩, HA1, HA2, hb1⟩
  have hB1 : Below w.heap.size w w1 := by (repeat' (first | with_reducible exact Below.refl _ _ | (with_reducible refine balloc ?_ _) | (with_reducible refine bset ?_ ?_ _) | (with_reducible refine bdrew ?_) | (with_reducible refine bdrewN ?_ _) | (with_reducible refine bstep ?_ (by with_reducible assumption)) | (with_reducible refine bgrow ?_ (by with_reducible assumption) (by omega)) | (simp; done) | (simp; omega)))
  have HB1 := Lib.hid hB1
  have hs1 := hB1.size
  clear hb1 hB1
  have t3 : tsB bk bk fs fs = true := decide_eq_true ⟨rfl, rfl⟩
  have hkl := ksOf_len bk fs
  by_cases hab : bk = bk2 ∧ fs = fs2
  · obtain ⟨rfl, rfl⟩ := hab
    have IK := Lib.hid (fun (A B : Option Addr) (ca cb lo hi : Nat) (w : World) (hf : FreeIn w) (h : Tb w lo hi A B bk fs) => impl_KeysOf A B ca cb lo hi bk fs w hf h (by omega) (by omega))
    unfold KsP at IK
    generalize ksOf bk fs = ks at *
    go_wp2_with (fail)
    refine (impl_TsA _ _ _ _ _ _ _ _ _ _ _ _ bk bk fs fs _ ((HA1.out.alloc _).alloc _) ((HA2.out.alloc _).alloc _) (by omega) (by omega) (by omega) (by omega)).mono ?_
    rintro e w2 ⟨rfl, hb2⟩
    have hB2 : Below w1.heap.size w1 w2 := by (repeat' (first | with_reducible exact Below.refl _ _ | (with_reducible refine balloc ?_ _) | (with_reducible refine bset ?_ ?_ _) | (with_reducible refine bdrew ?_) | (with_reducible refine bdrewN ?_ _) | (with_reducible refine bstep ?_ (by with_reducible assumption)) | (with_reducible refine bgrow ?_ (by with_reducible assumption) (by omega)) | (simp; done) | (simp; omega)))
    obtain ⟨hc2_a, hf2_a, hz_a⟩ := bel_at hb2 (w1.heap.size) (by first | (simp; done) | (simp; omega))
    have v_a_0 : w2.cell? ⟨w1.heap.size, 0, none⟩ = some (.slice A1 bk.length c1) := by rw [hc2_a]; rw [oldc (by first | (simp; done) | (simp; omega))]; exact newc (by simp) _
    have v_a_1 : w2.cell? ⟨w1.heap.size, 1, none⟩ = some (.slice B1 fs.length d1) := by rw [hc2_a]; rw [oldc (by first | (simp; done) | (simp; omega))]; exact newc (by simp) _
    obtain ⟨hc2_b, hf2_b, hz_b⟩ := bel_at hb2 (w1.heap.size + 1) (by first | (simp; done) | (simp; omega))
    have v_b_0 : w2.cell? ⟨w1.heap.size + 1, 0, none⟩ = some (.slice A2 bk.length c2) := by rw [hc2_b]; exact newc (by simp) _
    have v_b_1 : w2.cell? ⟨w1.heap.size + 1, 1, none⟩ = some (.slice B2 fs.length d2) := by rw [hc2_b]; exact newc (by simp) _
    replace HA1 := Lib.hid (HA1.out.below hB2)
    replace HA2 := Lib.hid (HA2.out.below hB2)
    have HB2 := Lib.hid (bstep HB1.out hB2)
    have hs2 := hB2.size
    clear hc2_a hf2_a hc2_b hf2_b hb2 hB2
    go_wp2_with (fail)
    go_region_held3 (fun W' => W'.cell? ⟨w1.heap.size, 0, none⟩ = some (.slice A1 bk.length c1) ∧ W'.cell? ⟨w1.heap.size, 1, none⟩ = some (.slice B1 fs.length d1) ∧ W'.cell? ⟨w1.heap.size + 1, 0, none⟩ = some (.slice A2 bk.length c2) ∧ W'.cell? ⟨w1.heap.size + 1, 1, none⟩ = some (.slice B2 fs.length d2)) (go_keep)
      (first | (go_at_call 22; refine (spec_TsA _ _ _ _ _ _ _ _ w.heap.size w1.heap.size w.heap.size w1.heap.size _ _ _ _ _ (by (repeat' (first | (with_reducible assumption) | (with_reducible exact Hid.out (by assumption)) | (with_reducible refine Tb.alloc ?_ _) | (with_reducible refine Tb.drewN ?_ _) | (with_reducible refine Tb.drew ?_) | (with_reducible refine Tb.set_ ?_ (by first | (left; (try simp) <;> omega) | (right; (try simp) <;> omega)) _) | (with_reducible refine Tb.below ?_ (by with_reducible assumption))))) (by (repeat' (first | (with_reducible assumption) | (with_reducible exact Hid.out (by assumption)) | (with_reducible refine Tb.alloc ?_ _) | (with_reducible refine Tb.drewN ?_ _) | (with_reducible refine Tb.drew ?_) | (with_reducible refine Tb.set_ ?_ (by first | (left; (try simp) <;> omega) | (right; (try simp) <;> omega)) _) | (with_reducible refine Tb.below ?_ (by with_reducible assumption))))) (by omega) (by omega) (by omega) (by omega)).mono ?_; rintro e w31 ⟨rfl, hb31⟩; obtain ⟨hc31_a, hf31_a, hz31_a⟩ := bel_at hb31 (w1.heap.size) (by first | omega | (simp; omega)); obtain ⟨hc31_b, hf31_b, hz31_b⟩ := bel_at hb31 (w1.heap.size + 1) (by first | omega | (simp; omega))) | (go_at_call 13; refine (impl_TsA _ _ _ _ _ _ _ _ w.heap.size w1.heap.size w.heap.size w1.heap.size _ _ _ _ _ (by (repeat' (first | (with_reducible assumption) | (with_reducible exact Hid.out (by assumption)) | (with_reducible refine Tb.alloc ?_ _) | (with_reducible refine Tb.drewN ?_ _) | (with_reducible refine Tb.drew ?_) | (with_reducible refine Tb.set_ ?_ (by first | (left; (try simp) <;> omega) | (right; (try simp) <;> omega)) _) | (with_reducible refine Tb.below ?_ (by with_reducible assumption))))) (by (repeat' (first | (with_reducible assumption) | (with_reducible exact Hid.out (by assumption)) | (with_reducible refine Tb.alloc ?_ _) | (with_reducible refine Tb.drewN ?_ _) | (with_reducible refine Tb.drew ?_) | (with_reducible refine Tb.set_ ?_ (by first | (left; (try simp) <;> omega) | (right; (try simp) <;> omega)) _) | (with_reducible refine Tb.below ?_ (by with_reducible assumption))))) (by omega) (by omega) (by omega) (by omega)).mono ?_; rintro e w32 ⟨rfl, hb32⟩; obtain ⟨hc32_a, hf32_a, hz32_a⟩ := bel_at hb32 (w1.heap.size) (by first | omega | (simp; omega)); obtain ⟨hc32_b, hf32_b, hz32_b⟩ := bel_at hb32 (w1.heap.size + 1) (by first | omega | (simp; omega))) | (go_at_call 15; have hz := HS9; refine (IK.out _ _ _ _ w.heap.size w1.heap.size _ (HF.out.below (by (repeat' (first | (with_reducible assumption) | (with_reducible exact Hid.out (by assumption)) | (with_reducible refine balloc ?_ _) | (with_reducible refine bdrew ?_) | (with_reducible refine bdrewN ?_ _) | (with_reducible refine bstep ?_ (by with_reducible assumption)))))) (by (repeat' (first | (with_reducible assumption) | (with_reducible exact Hid.out (by assumption)) | (with_reducible refine Tb.alloc ?_ _) | (with_reducible refine Tb.drewN ?_ _) | (with_reducible refine Tb.drew ?_) | (with_reducible refine Tb.set_ ?_ (by first | (left; (try simp) <;> omega) | (right; (try simp) <;> omega)) _) | (with_reducible refine Tb.below ?_ (by with_reducible assumption)))))).mono ?_; rintro e w35 ⟨A10, c10, rfl, ⟨_, _⟩, HS10, hb35⟩; have HS9b := Lib.hid (by first | exact HS9.out.below hb35 | exact Sl.below (w := w33.drew) HS9.out hb35); obtain ⟨hc35_a, hf35_a, hz35_a⟩ := bel_at hb35 (w1.heap.size) (by first | omega | (simp; omega)); obtain ⟨hc35_b, hf35_b, hz35_b⟩ := bel_at hb35 (w1.heap.size + 1) (by first | omega | (simp; omega))) | (go_at_call 15; refine (IK.out _ _ _ _ w.heap.size w1.heap.size _ (HF.out.below (by (repeat' (first | (with_reducible assumption) | (with_reducible exact Hid.out (by assumption)) | (with_reducible refine balloc ?_ _) | (with_reducible refine bdrew ?_) | (with_reducible refine bdrewN ?_ _) | (with_reducible refine bstep ?_ (by with_reducible assumption)))))) (by (repeat' (first | (with_reducible assumption) | (with_reducible exact Hid.out (by assumption)) | (with_reducible refine Tb.alloc ?_ _) | (with_reducible refine Tb.drewN ?_ _) | (with_reducible refine Tb.drew ?_) | (with_reducible refine Tb.set_ ?_ (by first | (left; (try simp) <;> omega) | (right; (try simp) <;> omega)) _) | (with_reducible refine Tb.below ?_ (by with_reducible assumption)))))).mono ?_; rintro e w33 ⟨A9, c9, rfl, ⟨_, _⟩, HS9, hb33⟩; obtain ⟨hc33_a, hf33_a, hz33_a⟩ := bel_at hb33 (w1.heap.size) (by first | omega | (simp; omega)); obtain ⟨hc33_b, hf33_b, hz33_b⟩ := bel_at hb33 (w1.heap.size + 1) (by first | omega | (simp; omega))) | (go_at_call 23; refine (laws_ipKeys _ _ _ _ _ _ _ _ _ ks _ (by first | exact HS9b.out | exact Sl.drew HS9b.out) (by first | exact HS10.out | exact Sl.drew HS10.out) (by omega)).mono ?_; rintro e w34 ⟨rfl, hb34⟩; obtain ⟨hc34_a, hf34_a, hz34_a⟩ := bel_at hb34 (w1.heap.size) (by first | omega | (simp; omega)); obtain ⟨hc34_b, hf34_b, hz34_b⟩ := bel_at hb34 (w1.heap.size + 1) (by first | omega | (simp; omega))))
    go_wp2
    all_goals (go_ret; exact ⟨rfl, by (repeat' (first | (with_reducible assumption) | (with_reducible exact Hid.out (by assumption)) | (with_reducible refine balloc ?_ _) | (with_reducible refine bdrew ?_) | (with_reducible refine bdrewN ?_ _) | (with_reducible refine bstep ?_ (by with_reducible assumption))))⟩)
  · have t1 : tsB bk bk2 fs fs2 = false := tsB_false hab
    have t2 : tsB bk2 bk fs2 fs = false := tsB_false (fun h => hab ⟨h.1.symm, h.2.symm⟩)
    clear hkl hab
    go_wp2_with (fail)
    refine (impl_TsA _ _ _ _ _ _ _ _ _ _ _ _ bk bk2 fs fs2 _ ((HA1.out.alloc _).alloc _) ((HA2.out.alloc _).alloc _) (by omega) (by omega) (by omega) (by omega)).mono ?_
    rintro e w2 ⟨rfl, hb2⟩
    have hB2 : Below w1.heap.size w1 w2 := by (repeat' (first | with_reducible exact Below.refl _ _ | (with_reducible refine balloc ?_ _) | (with_reducible refine bset ?_ ?_ _) | (with_reducible refine bdrew ?_) | (with_reducible refine bdrewN ?_ _) | (with_reducible refine bstep ?_ (by with_reducible assumption)) | (with_reducible refine bgrow ?_ (by with_reducible assumption) (by omega)) | (simp; done) | (simp; omega)))
    obtain ⟨hc2_a, hf2_a, hz_a⟩ := bel_at hb2 (w1.heap.size) (by first | (simp; done) | (simp; omega))
    have v_a_0 : w2.cell? ⟨w1.heap.size, 0, none⟩ = some (.slice A1 bk.length c1) := by rw [hc2_a]; rw [oldc (by first | (simp; done) | (simp; omega))]; exact newc (by simp) _
    have v_a_1 : w2.cell? ⟨w1.heap.size, 1, none⟩ = some (.slice B1 fs.length d1) := by rw [hc2_a]; rw [oldc (by first | (simp; done) | (simp; omega))]; exact newc (by simp) _
    obtain ⟨hc2_b, hf2_b, hz_b⟩ := bel_at hb2 (w1.heap.size + 1) (by first | (simp; done) | (simp; omega))
    have v_b_0 : w2.cell? ⟨w1.heap.size + 1, 0, none⟩ = some (.slice A2 bk2.length c2) := by rw [hc2_b]; exact newc (by simp) _
    have v_b_1 : w2.cell? ⟨w1.heap.size + 1, 1, none⟩ = some (.slice B2 fs2.length d2) := by rw [hc2_b]; exact newc (by simp) _
    replace HA1 := Lib.hid (HA1.out.below hB2)
    replace HA2 := Lib.hid (HA2.out.below hB2)
    have HB2 := Lib.hid (bstep HB1.out hB2)
    have hs2 := hB2.size
    clear hc2_a hf2_a hc2_b hf2_b hb2 hB2
    go_wp2_with (fail)
    go_region_with (first | (go_at_call 22; refine (spec_TsA _ _ _ _ _ _ _ _ w.heap.size w1.heap.size w.heap.size w1.heap.size _ _ _ _ _ (by (repeat' (first | (with_reducible assumption) | (with_reducible exact Hid.out (by assumption)) | (with_reducible refine Tb.alloc ?_ _) | (with_reducible refine Tb.drewN ?_ _) | (with_reducible refine Tb.drew ?_) | (with_reducible refine Tb.set_ ?_ (by first | (left; (try simp) <;> omega) | (right; (try simp) <;> omega)) _) | (with_reducible refine Tb.below ?_ (by with_reducible assumption))))) (by (repeat' (first | (with_reducible assumption) | (with_reducible exact Hid.out (by assumption)) | (with_reducible refine Tb.alloc ?_ _) | (with_reducible refine Tb.drewN ?_ _) | (with_reducible refine Tb.drew ?_) | (with_reducible refine Tb.set_ ?_ (by first | (left; (try simp) <;> omega) | (right; (try simp) <;> omega)) _) | (with_reducible refine Tb.below ?_ (by with_reducible assumption))))) (by omega) (by omega) (by omega) (by omega)).mono ?_; rintro e w31 ⟨rfl, hb31⟩; obtain ⟨hc31_a, hf31_a, hz31_a⟩ := bel_at hb31 (w1.heap.size) (by first | omega | (simp; omega)); obtain ⟨hc31_b, hf31_b, hz31_b⟩ := bel_at hb31 (w1.heap.size + 1) (by first | omega | (simp; omega))) | (go_at_call 13; refine (impl_TsA _ _ _ _ _ _ _ _ w.heap.size w1.heap.size w.heap.size w1.heap.size _ _ _ _ _ (by (repeat' (first | (with_reducible assumption) | (with_reducible exact Hid.out (by assumption)) | (with_reducible refine Tb.alloc ?_ _) | (with_reducible refine Tb.drewN ?_ _) | (with_reducible refine Tb.drew ?_) | (with_reducible refine Tb.set_ ?_ (by first | (left; (try simp) <;> omega) | (right; (try simp) <;> omega)) _) | (with_reducible refine Tb.below ?_ (by with_reducible assumption))))) (by (repeat' (first | (with_reducible assumption) | (with_reducible exact Hid.out (by assumption)) | (with_reducible refine Tb.alloc ?_ _) | (with_reducible refine Tb.drewN ?_ _) | (with_reducible refine Tb.drew ?_) | (with_reducible refine Tb.set_ ?_ (by first | (left; (try simp) <;> omega) | (right; (try simp) <;> omega)) _) | (with_reducible refine Tb.below ?_ (by with_reducible assumption))))) (by omega) (by omega) (by omega) (by omega)).mono ?_; rintro e w32 ⟨rfl, hb32⟩; obtain ⟨hc32_a, hf32_a, hz32_a⟩ := bel_at hb32 (w1.heap.size) (by first | omega | (simp; omega)); obtain ⟨hc32_b, hf32_b, hz32_b⟩ := bel_at hb32 (w1.heap.size + 1) (by first | omega | (simp; omega))))
    go_wp2
    all_goals (go_ret; exact ⟨rfl, by (repeat' (first | (with_reducible assumption) | (with_reducible exact Hid.out (by assumption)) | (with_reducible refine balloc ?_ _) | (with_reducible refine bdrew ?_) | (with_reducible refine bdrewN ?_ _) | (with_reducible refine bstep ?_ (by with_reducible assumption))))⟩)
end Go.Proofs.YtjdoegekolbdpaaDoor
