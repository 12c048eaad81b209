/- Walk of the law FnNewTable: it returns true where the variable 'free' holds what its initialiser lays. No other conditions. -/
import Derived.Test.YtjdoegekolbdpaaDoorDrL
import Derived.Test.YtjdoegekolbdpaaDoorIpK
import Derived.Test.YtjdoegekolbdpaaDoorKoI
import Derived.Test.YtjdoegekolbdpaaDoorNewV
import Derived.Test.YtjdoegekolbdpaaDoorDoor
namespace Go.Proofs.YtjdoegekolbdpaaDoor
set_option linter.unusedVariables false
open Go.ChangeShapes Go.WideShapes Go.ChangeAt Go.RowKit
set_option maxHeartbeats 4000000 in
set_option maxRecDepth 100000 in
theorem law_FnNewTable (w : World) (ao : Option Addr) (len cap : Nat) (h : CodeIn w ao len cap) (hfree : FreeIn w) : Calls Tryd.prog 3 #[.slice ao len cap] w fun r w' => r = .returned (.bool true) ∧ Below w.heap.size w w' := by
  have HC := Lib.hid h
  have HF := Lib.hid hfree
  clear h hfree
  by_cases hl : 1048576 < len
  · go_enter Tryd.func3, Tryd.ntmps3
    go_wp2
    go_ret
    exact ⟨rfl, by (repeat' (first | with_reducible exact Below.refl _ _ | (with_reducible refine balloc ?_ _) | (with_reducible refine bset ?_ ?_ _) | (with_reducible refine bdrew ?_) | (with_reducible refine bdrewN ?_ _) | (with_reducible refine bstep ?_ (by with_reducible assumption)) | (with_reducible refine bgrow ?_ (by with_reducible assumption) (by omega)) | (simp; done) | (simp; omega)))⟩
  have hl' : len ≤ 1048576 := by omega
  clear hl
  go_enter Tryd.func3, Tryd.ntmps3
  go_wp2_with (fail)
  refine (spec_DrawNewTable _ _ _ _ HC.out).mono ?_
  rintro e w1 ⟨fr, bu, rfl, ⟨y1, y2⟩, ⟨y3, y4⟩, hb1⟩
  have hB1 : Below w.heap.size w w1 := by (repeat' (first | with_reducible exact Below.refl _ _ | (with_reducible refine balloc ?_ _) | (with_reducible refine bset ?_ ?_ _) | (with_reducible refine bdrew ?_) | (with_reducible refine bdrewN ?_ _) | (with_reducible refine bstep ?_ (by with_reducible assumption)) | (with_reducible refine bgrow ?_ (by with_reducible assumption) (by omega)) | (simp; done) | (simp; omega)))
  have HB1 := Lib.hid hB1
  have hs1 := hB1.size
  clear hb1 hB1
  have SK := Lib.hid (fun (W : World) => spec_NewTable fr bu W)
  have IK := Lib.hid (fun (W : World) (hf : FreeIn W) => impl_NewTable fr bu W hf)
  by_cases hok : ntOk fr bu = true
  · obtain ⟨⟨g1, g2⟩, g3, g4⟩ := ntOk_iff.1 hok
    obtain ⟨nf, rfl⟩ := Int.eq_ofNat_of_zero_le (show 0 ≤ fr by omega)
    obtain ⟨nb, rfl⟩ := Int.eq_ofNat_of_zero_le (show 0 ≤ bu by omega)
    have e3 : ntT (nf : Int) (nb : Int) = newT nf nb := by unfold ntT; rw [if_pos hok]; rfl
    rw [e3, hok] at SK IK
    have hv := newT_valid (nf := nf) (nb := nb) (by omega) (by omega) (by omega) (by omega)
    have hks := @newT_ks nf nb
    have hl1 : (newT nf nb).1.length = nb := by simp [newT]
    have hl2 : (newT nf nb).2.length = nf := by simp [newT]
    generalize newT nf nb = t2 at *
    obtain ⟨bk2, fs2⟩ := t2
    simp only [] at SK IK hv hks hl1 hl2
    subst hl1
    subst hl2
    have TV := Lib.hid (fun (A B : Option Addr) (ca cb lo hi : Nat) (w : World) (hf : FreeIn w) (h : Tb w lo hi A B bk2 fs2) => impl_TvA A B ca cb lo hi bk2 fs2 w hf h (by omega) (by omega))
    rw [hv] at TV
    have KO : Hid (∀ (A B : Option Addr) (ca cb lo hi : Nat) (w : World), FreeIn w → Tb w lo hi A B bk2 fs2 → Calls Tryd.prog 15 #[.agg #[.slice A bk2.length ca, .slice B fs2.length cb]] w fun e w' => (∃ A c, e = .returned (.slice A 0 c)) ∧ Below w.heap.size w w') := fun A B ca cb lo hi w hf h => (impl_KeysOf A B ca cb lo hi bk2 fs2 w hf h (by omega) (by omega)).mono (fun e w' ⟨A, c, e1, _, _, hb⟩ => ⟨⟨A, c, by rw [e1, hks]; rfl⟩, hb⟩)
    have TS := Lib.hid (fun (A B A' B' : Option Addr) (ca cb ca' cb' l1 h1 l2 h2 : Nat) (w : World) (h : Tb w l1 h1 A B bk2 fs2) (h' : Tb w l2 h2 A' B' bk2 fs2) => impl_TsE A B A' B' ca cb ca' cb' l1 h1 l2 h2 bk2 fs2 w h h' (by omega) (by omega))
    clear hv hks e3 hok
    go_wp2_with (fail)
    refine (IK.out _ (HF.out.below (by (repeat' (first | (with_reducible assumption) | (with_reducible exact Hid.out (by assumption)) | (with_reducible refine balloc ?_ _)))))).mono ?_
    rintro e w2 ⟨A2, c2, B2, d2, rfl, ⟨_, _⟩, ⟨_, _⟩, ht2, hb2⟩
    have hB2 : Below w1.heap.size w1 w2 := by (repeat' (first | with_reducible exact Below.refl _ _ | (with_reducible refine balloc ?_ _) | (with_reducible refine bset ?_ ?_ _) | (with_reducible refine bdrew ?_) | (with_reducible refine bdrewN ?_ _) | (with_reducible refine bstep ?_ (by with_reducible assumption)) | (with_reducible refine bgrow ?_ (by with_reducible assumption) (by omega)) | (simp; done) | (simp; omega)))
    have HT2 := Lib.hid ht2
    have HB2 := Lib.hid (bstep HB1.out hB2)
    have hs2 := hB2.size
    clear ht2 hb2 hB2
    try simp only []
    go_wp2_with (fail)
    refine (SK.out _).mono ?_
    rintro e w3 ⟨A3, c3, B3, d3, rfl, ⟨_, _⟩, ⟨_, _⟩, ht3, hb3⟩
    have hB3 : Below w2.heap.size w2 w3 := by (repeat' (first | with_reducible exact Below.refl _ _ | (with_reducible refine balloc ?_ _) | (with_reducible refine bset ?_ ?_ _) | (with_reducible refine bdrew ?_) | (with_reducible refine bdrewN ?_ _) | (with_reducible refine bstep ?_ (by with_reducible assumption)) | (with_reducible refine bgrow ?_ (by with_reducible assumption) (by omega)) | (simp; done) | (simp; omega)))
    obtain ⟨hc3_x, hf3_x, hz_x⟩ := bel_at hb3 (w2.heap.size) (by first | (simp; done) | (simp; omega))
    have v_x_0 : w3.cell? ⟨w2.heap.size, 0, none⟩ = some (.slice A2 bk2.length c2) := by rw [hc3_x]; repeat' (first | exact newc (by simp) _ | rw [oldc (by simp)])
    have v_x_1 : w3.cell? ⟨w2.heap.size, 1, none⟩ = some (.slice B2 fs2.length d2) := by rw [hc3_x]; repeat' (first | exact newc (by simp) _ | rw [oldc (by simp)])
    replace HT2 := Lib.hid (HT2.out.below hB3)
    have HT3 := Lib.hid ht3
    have HB3 := Lib.hid (bstep HB2.out hB3)
    have hs3 := hB3.size
    clear hc3_x hf3_x ht3 hb3 hB3
    try simp only []
    go_wp2_with (fail)
    refine (TS.out _ _ _ _ _ _ _ _ _ _ _ _ _ (HT2.out.alloc _) (HT3.out.alloc _)).mono ?_
    rintro e w4 ⟨rfl, hb4⟩
    have hB4 : Below w3.heap.size w3 w4 := by (repeat' (first | with_reducible exact Below.refl _ _ | (with_reducible refine balloc ?_ _) | (with_reducible refine bset ?_ ?_ _) | (with_reducible refine bdrew ?_) | (with_reducible refine bdrewN ?_ _) | (with_reducible refine bstep ?_ (by with_reducible assumption)) | (with_reducible refine bgrow ?_ (by with_reducible assumption) (by omega)) | (simp; done) | (simp; omega)))
    obtain ⟨hc4_x, hf4_x, hz_x⟩ := bel_at hB4 (w2.heap.size) (by omega)
    replace v_x_0 := (hc4_x 0).trans v_x_0
    replace v_x_1 := (hc4_x 1).trans v_x_1
    obtain ⟨hc4_u, hf4_u, hz_u⟩ := bel_at hb4 (w3.heap.size) (by first | (simp; done) | (simp; omega))
    have v_u_0 : w4.cell? ⟨w3.heap.size, 0, none⟩ = some (.slice A3 bk2.length c3) := by rw [hc4_u]; repeat' (first | exact newc (by simp) _ | rw [oldc (by simp)])
    have v_u_1 : w4.cell? ⟨w3.heap.size, 1, none⟩ = some (.slice B3 fs2.length d3) := by rw [hc4_u]; repeat' (first | exact newc (by simp) _ | rw [oldc (by simp)])
    replace HT2 := Lib.hid (HT2.out.below hB4)
    replace HT3 := Lib.hid (HT3.out.below hB4)
    have HB4 := Lib.hid (bstep HB3.out hB4)
    have hs4 := hB4.size
    clear hc4_x hf4_x hc4_u hf4_u hb4 hB4
    go_wp2_with (fail)
    refine (TV.out _ _ _ _ _ _ _ (HF.out.below (by (repeat' (first | (with_reducible assumption) | (with_reducible exact Hid.out (by assumption)) | (with_reducible refine balloc ?_ _))))) HT2.out).mono ?_
    rintro e w5 ⟨rfl, hb5⟩
    have hB5 : Below w4.heap.size w4 w5 := by (repeat' (first | with_reducible exact Below.refl _ _ | (with_reducible refine balloc ?_ _) | (with_reducible refine bset ?_ ?_ _) | (with_reducible refine bdrew ?_) | (with_reducible refine bdrewN ?_ _) | (with_reducible refine bstep ?_ (by with_reducible assumption)) | (with_reducible refine bgrow ?_ (by with_reducible assumption) (by omega)) | (simp; done) | (simp; omega)))
    obtain ⟨hc5_x, hf5_x, hz_x⟩ := bel_at hB5 (w2.heap.size) (by omega)
    replace v_x_0 := (hc5_x 0).trans v_x_0
    replace v_x_1 := (hc5_x 1).trans v_x_1
    obtain ⟨hc5_u, hf5_u, hz_u⟩ := bel_at hB5 (w3.heap.size) (by omega)
    replace v_u_0 := (hc5_u 0).trans v_u_0
    replace v_u_1 := (hc5_u 1).trans v_u_1
    replace HT2 := Lib.hid (HT2.out.below hB5)
    replace HT3 := Lib.hid (HT3.out.below hB5)
    have HB5 := Lib.hid (bstep HB4.out hB5)
    have hs5 := hB5.size
    clear hc5_x hf5_x hc5_u hf5_u hb5 hB5
    go_wp2_with (fail)
    refine (KO.out _ _ _ _ _ _ _ (HF.out.below (by (repeat' (first | (with_reducible assumption) | (with_reducible exact Hid.out (by assumption)) | (with_reducible refine balloc ?_ _))))) HT2.out).mono ?_
    rintro e w6 ⟨⟨A6, c6, rfl⟩, hb6⟩
    have hB6 : Below w5.heap.size w5 w6 := by (repeat' (first | with_reducible exact Below.refl _ _ | (with_reducible refine balloc ?_ _) | (with_reducible refine bset ?_ ?_ _) | (with_reducible refine bdrew ?_) | (with_reducible refine bdrewN ?_ _) | (with_reducible refine bstep ?_ (by with_reducible assumption)) | (with_reducible refine bgrow ?_ (by with_reducible assumption) (by omega)) | (simp; done) | (simp; omega)))
    obtain ⟨hc6_x, hf6_x, hz_x⟩ := bel_at hB6 (w2.heap.size) (by omega)
    replace v_x_0 := (hc6_x 0).trans v_x_0
    replace v_x_1 := (hc6_x 1).trans v_x_1
    obtain ⟨hc6_u, hf6_u, hz_u⟩ := bel_at hB6 (w3.heap.size) (by omega)
    replace v_u_0 := (hc6_u 0).trans v_u_0
    replace v_u_1 := (hc6_u 1).trans v_u_1
    replace HT2 := Lib.hid (HT2.out.below hB6)
    replace HT3 := Lib.hid (HT3.out.below hB6)
    have HB6 := Lib.hid (bstep HB5.out hB6)
    have hs6 := hB6.size
    clear hc6_x hf6_x hc6_u hf6_u hb6 hB6
    go_wp2
    all_goals (go_ret; exact ⟨rfl, HB6.out⟩)
  · have e1 : ntOk fr bu = false := by simpa using hok
    have e2 : ntT fr bu = ([], []) := nt_no e1
    rw [e1, e2] at SK IK
    have TS := Lib.hid (fun (A B A' B' : Option Addr) (ca cb ca' cb' l1 h1 l2 h2 : Nat) (w : World) (h : Tb w l1 h1 A B [] []) (h' : Tb w l2 h2 A' B' [] []) => impl_TsE A B A' B' ca cb ca' cb' l1 h1 l2 h2 [] [] w h h' (by simp) (by simp))
    clear hok e1 e2
    go_wp2_with (fail)
    refine (IK.out _ (HF.out.below (by (repeat' (first | (with_reducible assumption) | (with_reducible exact Hid.out (by assumption)) | (with_reducible refine balloc ?_ _)))))).mono ?_
    rintro e w2 ⟨A2, c2, B2, d2, rfl, ⟨_, _⟩, ⟨_, _⟩, ht2, hb2⟩
    have hB2 : Below w1.heap.size w1 w2 := by (repeat' (first | with_reducible exact Below.refl _ _ | (with_reducible refine balloc ?_ _) | (with_reducible refine bset ?_ ?_ _) | (with_reducible refine bdrew ?_) | (with_reducible refine bdrewN ?_ _) | (with_reducible refine bstep ?_ (by with_reducible assumption)) | (with_reducible refine bgrow ?_ (by with_reducible assumption) (by omega)) | (simp; done) | (simp; omega)))
    have HT2 := Lib.hid ht2
    have HB2 := Lib.hid (bstep HB1.out hB2)
    have hs2 := hB2.size
    clear ht2 hb2 hB2
    try simp only []
    go_wp2_with (fail)
    refine (SK.out _).mono ?_
    rintro e w3 ⟨A3, c3, B3, d3, rfl, ⟨_, _⟩, ⟨_, _⟩, ht3, hb3⟩
    have hB3 : Below w2.heap.size w2 w3 := by (repeat' (first | with_reducible exact Below.refl _ _ | (with_reducible refine balloc ?_ _) | (with_reducible refine bset ?_ ?_ _) | (with_reducible refine bdrew ?_) | (with_reducible refine bdrewN ?_ _) | (with_reducible refine bstep ?_ (by with_reducible assumption)) | (with_reducible refine bgrow ?_ (by with_reducible assumption) (by omega)) | (simp; done) | (simp; omega)))
    obtain ⟨hc3_x, hf3_x, hz_x⟩ := bel_at hb3 (w2.heap.size) (by first | (simp; done) | (simp; omega))
    have v_x_0 : w3.cell? ⟨w2.heap.size, 0, none⟩ = some (.slice A2 0 c2) := by rw [hc3_x]; repeat' (first | exact newc (by simp) _ | rw [oldc (by simp)])
    have v_x_1 : w3.cell? ⟨w2.heap.size, 1, none⟩ = some (.slice B2 0 d2) := by rw [hc3_x]; repeat' (first | exact newc (by simp) _ | rw [oldc (by simp)])
    replace HT2 := Lib.hid (HT2.out.below hB3)
    have HT3 := Lib.hid ht3
    have HB3 := Lib.hid (bstep HB2.out hB3)
    have hs3 := hB3.size
    clear hc3_x hf3_x ht3 hb3 hB3
    try simp only []
    go_wp2_with (fail)
    refine (TS.out _ _ _ _ _ _ _ _ _ _ _ _ _ (HT2.out.alloc _) (HT3.out.alloc _)).mono ?_
    rintro e w4 ⟨rfl, hb4⟩
    have hB4 : Below w3.heap.size w3 w4 := by (repeat' (first | with_reducible exact Below.refl _ _ | (with_reducible refine balloc ?_ _) | (with_reducible refine bset ?_ ?_ _) | (with_reducible refine bdrew ?_) | (with_reducible refine bdrewN ?_ _) | (with_reducible refine bstep ?_ (by with_reducible assumption)) | (with_reducible refine bgrow ?_ (by with_reducible assumption) (by omega)) | (simp; done) | (simp; omega)))
    obtain ⟨hc4_x, hf4_x, hz_x⟩ := bel_at hB4 (w2.heap.size) (by omega)
    replace v_x_0 := (hc4_x 0).trans v_x_0
    replace v_x_1 := (hc4_x 1).trans v_x_1
    obtain ⟨hc4_u, hf4_u, hz_u⟩ := bel_at hb4 (w3.heap.size) (by first | (simp; done) | (simp; omega))
    have v_u_0 : w4.cell? ⟨w3.heap.size, 0, none⟩ = some (.slice A3 0 c3) := by rw [hc4_u]; repeat' (first | exact newc (by simp) _ | rw [oldc (by simp)])
    have v_u_1 : w4.cell? ⟨w3.heap.size, 1, none⟩ = some (.slice B3 0 d3) := by rw [hc4_u]; repeat' (first | exact newc (by simp) _ | rw [oldc (by simp)])
    replace HT2 := Lib.hid (HT2.out.below hB4)
    replace HT3 := Lib.hid (HT3.out.below hB4)
    have HB4 := Lib.hid (bstep HB3.out hB4)
    have hs4 := hB4.size
    clear hc4_x hf4_x hc4_u hf4_u hb4 hB4
    go_wp2_with (fail)
    refine (TS.out _ _ _ _ _ _ _ _ _ _ _ _ _ HT2.out HT3.out).mono ?_
    rintro e w5 ⟨rfl, hb5⟩
    have hB5 : Below w4.heap.size w4 w5 := by (repeat' (first | with_reducible exact Below.refl _ _ | (with_reducible refine balloc ?_ _) | (with_reducible refine bset ?_ ?_ _) | (with_reducible refine bdrew ?_) | (with_reducible refine bdrewN ?_ _) | (with_reducible refine bstep ?_ (by with_reducible assumption)) | (with_reducible refine bgrow ?_ (by with_reducible assumption) (by omega)) | (simp; done) | (simp; omega)))
    obtain ⟨hc5_x, hf5_x, hz_x⟩ := bel_at hB5 (w2.heap.size) (by omega)
    replace v_x_0 := (hc5_x 0).trans v_x_0
    replace v_x_1 := (hc5_x 1).trans v_x_1
    obtain ⟨hc5_u, hf5_u, hz_u⟩ := bel_at hB5 (w3.heap.size) (by omega)
    replace v_u_0 := (hc5_u 0).trans v_u_0
    replace v_u_1 := (hc5_u 1).trans v_u_1
    replace HT2 := Lib.hid (HT2.out.below hB5)
    replace HT3 := Lib.hid (HT3.out.below hB5)
    have HB5 := Lib.hid (bstep HB4.out hB5)
    have hs5 := hB5.size
    clear hc5_x hf5_x hc5_u hf5_u hb5 hB5
    go_wp2
    all_goals (go_ret; exact ⟨rfl, HB5.out⟩)
end Go.Proofs.YtjdoegekolbdpaaDoor
