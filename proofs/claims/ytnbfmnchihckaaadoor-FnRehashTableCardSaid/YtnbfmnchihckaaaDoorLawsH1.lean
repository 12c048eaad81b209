/- Walk of the law FnRehashTable: it returns true where the variable 'free' holds what its initialiser lays. No other conditions. -/
import Derived.Test.YtnbfmnchihckaaaDoorRehS
import Derived.Test.YtnbfmnchihckaaaDoorDrL
import Derived.Test.YtnbfmnchihckaaaDoorDoor
import Derived.Test.YtnbfmnchihckaaaDoorSame
namespace Go.Proofs.YtnbfmnchihckaaaDoor
set_option linter.unusedVariables false
open Go.ChangeShapes Go.WideShapes Go.ChangeAt Go.RowKit
theorem impl_TsE (A B A' B' : Option Addr) (ca cb ca' cb' l1 h1 l2 h2 : Nat) (bk : List Int) (fs : List Fr) (w : World) (h : Tb w l1 h1 A B bk fs) (h' : Tb w l2 h2 A' B' bk fs) (hn : bk.length ≤ 1048576) (hn2 : fs.length ≤ 1048576) :
    Calls Tryd.prog 34 #[.agg #[.slice A bk.length ca, .slice B fs.length cb], .agg #[.slice A' bk.length ca', .slice B' fs.length cb']] w fun e w' => e = .returned (.bool true) ∧ Below w.heap.size w w' := by
  have h := impl_TableSame A B A' B' ca cb ca' cb' l1 h1 l2 h2 bk bk fs fs w h h' hn hn2 hn hn2
  rw [show tsB bk bk fs fs = true from decide_eq_true ⟨rfl, rfl⟩] at h
  exact h
set_option maxHeartbeats 4000000 in
set_option maxRecDepth 100000 in
theorem law_FnRehashTable (w : World) (ao : Option Addr) (len cap : Nat) (h : CodeIn w ao len cap) (hfree : FreeIn w) : Calls Tryd.prog 9 #[.slice ao len cap] w fun r w' => r = .returned (.bool true) ∧ Below w.heap.size w w' := by
  have HC := Lib.hid h
  have HF := Lib.hid hfree
  clear h hfree
  by_cases hl : 1048576 < len
  · go_enter Tryd.func9, Tryd.ntmps9
    go_wp2
    go_ret
    exact ⟨rfl, by (repeat' (first | with_reducible exact Below.refl _ _ | (with_reducible refine balloc ?_ _) | (with_reducible refine bset ?_ ?_ _) | (with_reducible refine bdrew ?_) | (with_reducible refine bdrewN ?_ _) | (with_reducible refine bstep ?_ (by with_reducible assumption)) | (with_reducible refine bgrow ?_ (by with_reducible assumption) (by omega)) | (simp; done) | (simp; omega)))⟩
  have hl' : len ≤ 1048576 := by omega
  clear hl
  go_enter Tryd.func9, Tryd.ntmps9
  go_wp2_with (fail)
  refine (spec_DrawRehashTable _ _ _ _ HC.out).mono ?_
  rintro e w1 ⟨A1, c1, B1, d1, bk, fs, b, rfl, ⟨y1, y2⟩, ⟨n1, n2⟩, n3, n4, n5, HT1, hb1⟩
  have hB1 : Below w.heap.size w w1 := by (repeat' (first | with_reducible exact Below.refl _ _ | (with_reducible refine balloc ?_ _) | (with_reducible refine bset ?_ ?_ _) | (with_reducible refine bdrew ?_) | (with_reducible refine bdrewN ?_ _) | (with_reducible refine bstep ?_ (by with_reducible assumption)) | (with_reducible refine bgrow ?_ (by with_reducible assumption) (by omega)) | (simp; done) | (simp; omega)))
  have HB1 := Lib.hid hB1
  have hs1 := hB1.size
  clear hb1 hB1
  have SK := Lib.hid (fun (A B : Option Addr) (ca cb lo hi : Nat) (w : World) (h : Tb w lo hi A B bk fs) => spec_RehashTable A B ca cb lo hi bk fs b w h (by omega) (by omega))
  have IK := Lib.hid (fun (A B : Option Addr) (ca cb lo hi : Nat) (w : World) (hf : FreeIn w) (h : Tb w lo hi A B bk fs) => impl_RehashTable A B ca cb lo hi bk fs b w hf h (by omega) (by omega))
  by_cases hok : rhOk bk fs b = true
  · obtain ⟨e1, e2⟩ : tvB bk fs = true ∧ ntOk fs.length b = true := by unfold rhOk at hok; rwa [Bool.and_eq_true] at hok
    obtain ⟨_, g1, g2⟩ := ntOk_iff.1 e2
    obtain ⟨nb, rfl⟩ := Int.eq_ofNat_of_zero_le (show 0 ≤ b by omega)
    have e3 : rhT bk fs (nb : Int) = rT fs nb := by unfold rhT; rw [if_pos hok]; rfl
    rw [e3, hok] at SK IK
    have hv := rT_valid (nb := nb) e1 (by omega) (by omega)
    have hag := rT_again nb e1
    have hpg := rT_pages nb e1
    have hl1 : (rT fs nb).1.length = nb := (rhs_len fs nb _).1
    have hok2 : rhOk (rT fs nb).1 (rT fs nb).2 (nb : Int) = true := by unfold rhOk; rw [hv, hpg.len, e2]; rfl
    have e4 : rhT (rT fs nb).1 (rT fs nb).2 (nb : Int) = rT fs nb := by unfold rhT; rw [if_pos hok2]; exact hag
    generalize rT fs nb = t2 at *
    obtain ⟨bk2, fs2⟩ := t2
    simp only [] at SK IK hv hpg hl1 hok2 e4
    subst hl1
    have hl2 := hpg.len
    have IK2 := Lib.hid (fun (A B : Option Addr) (ca cb lo hi : Nat) (w : World) (hf : FreeIn w) (h : Tb w lo hi A B bk2 fs2) => impl_RehashTable A B ca cb lo hi bk2 fs2 bk2.length w hf h (by omega) (by omega))
    rw [e4, hok2] at IK2
    try simp only [] at IK2
    have TV := Lib.hid (fun (A B : Option Addr) (ca cb lo hi : Nat) (w : World) (hf : FreeIn w) (h : Tb w lo hi A B bk2 fs2) => impl_TvA A B ca cb lo hi bk2 fs2 w hf h (by omega) (by omega))
    rw [hv] at TV
    have TS := Lib.hid (fun (A B A' B' : Option Addr) (ca cb ca' cb' l1 h1 l2 h2 : Nat) (w : World) (h : Tb w l1 h1 A B bk2 fs2) (h' : Tb w l2 h2 A' B' bk2 fs2) => impl_TsE A B A' B' ca cb ca' cb' l1 h1 l2 h2 bk2 fs2 w h h' (by omega) (by omega))
    have HPG := Lib.hid hpg
    have HL2 := Lib.hid hl2
    have hf2 : fs2.length ≤ 8 := by omega
    clear hv hag hpg e1 e2 e3 e4 hok hok2 hl2
    go_wp2_with (fail)
    refine (IK.out _ _ _ _ _ _ _ (HF.out.below (by (repeat' (first | (with_reducible assumption) | (with_reducible exact Hid.out (by assumption)) | (with_reducible refine balloc ?_ _))))) (HT1.out.alloc _)).mono ?_
    rintro e w2 ⟨A2, c2, B2, d2, rfl, ⟨_, _⟩, ⟨_, _⟩, ht2, hb2⟩
    have hB2 : Below w1.heap.size w1 w2 := by (repeat' (first | with_reducible exact Below.refl _ _ | (with_reducible refine balloc ?_ _) | (with_reducible refine bset ?_ ?_ _) | (with_reducible refine bdrew ?_) | (with_reducible refine bdrewN ?_ _) | (with_reducible refine bstep ?_ (by with_reducible assumption)) | (with_reducible refine bgrow ?_ (by with_reducible assumption) (by omega)) | (simp; done) | (simp; omega)))
    obtain ⟨hc2_t, hf2_t, hz_t⟩ := bel_at hb2 (w1.heap.size) (by first | (simp; done) | (simp; omega))
    have v_t_0 : w2.cell? ⟨w1.heap.size, 0, none⟩ = some (.slice A1 bk.length c1) := by rw [hc2_t]; repeat' (first | exact newc (by simp) _ | rw [oldc (by simp)])
    have v_t_1 : w2.cell? ⟨w1.heap.size, 1, none⟩ = some (.slice B1 fs.length d1) := by rw [hc2_t]; repeat' (first | exact newc (by simp) _ | rw [oldc (by simp)])
    replace HT1 := Lib.hid (HT1.out.below hB2)
    have HT2 := Lib.hid ht2
    have HB2 := Lib.hid (bstep HB1.out hB2)
    have hs2 := hB2.size
    clear hc2_t hf2_t ht2 hb2 hB2
    try simp only []
    go_wp2_with (fail)
    refine (SK.out _ _ _ _ _ _ _ (HT1.out.alloc _)).mono ?_
    rintro e w3 ⟨A3, c3, B3, d3, rfl, ⟨_, _⟩, ⟨_, _⟩, ht3, hb3⟩
    have hB3 : Below w2.heap.size w2 w3 := by (repeat' (first | with_reducible exact Below.refl _ _ | (with_reducible refine balloc ?_ _) | (with_reducible refine bset ?_ ?_ _) | (with_reducible refine bdrew ?_) | (with_reducible refine bdrewN ?_ _) | (with_reducible refine bstep ?_ (by with_reducible assumption)) | (with_reducible refine bgrow ?_ (by with_reducible assumption) (by omega)) | (simp; done) | (simp; omega)))
    obtain ⟨hc3_t, hf3_t, hz_t⟩ := bel_at hB3 (w1.heap.size) (by omega)
    replace v_t_0 := (hc3_t 0).trans v_t_0
    replace v_t_1 := (hc3_t 1).trans v_t_1
    obtain ⟨hc3_x, hf3_x, hz_x⟩ := bel_at hb3 (w2.heap.size) (by first | (simp; done) | (simp; omega))
    have v_x_0 : w3.cell? ⟨w2.heap.size, 0, none⟩ = some (.slice A2 bk2.length c2) := by rw [hc3_x]; repeat' (first | exact newc (by simp) _ | rw [oldc (by simp)])
    have v_x_1 : w3.cell? ⟨w2.heap.size, 1, none⟩ = some (.slice B2 fs2.length d2) := by rw [hc3_x]; repeat' (first | exact newc (by simp) _ | rw [oldc (by simp)])
    replace HT1 := Lib.hid (HT1.out.below hB3)
    replace HT2 := Lib.hid (HT2.out.below hB3)
    have HT3 := Lib.hid ht3
    have HB3 := Lib.hid (bstep HB2.out hB3)
    have hs3 := hB3.size
    clear hc3_t hf3_t hc3_x hf3_x ht3 hb3 hB3
    try simp only []
    go_wp2_with (fail)
    refine (TS.out _ _ _ _ _ _ _ _ _ _ _ _ _ (HT2.out.alloc _) (HT3.out.alloc _)).mono ?_
    rintro e w4 ⟨rfl, hb4⟩
    have hB4 : Below w3.heap.size w3 w4 := by (repeat' (first | with_reducible exact Below.refl _ _ | (with_reducible refine balloc ?_ _) | (with_reducible refine bset ?_ ?_ _) | (with_reducible refine bdrew ?_) | (with_reducible refine bdrewN ?_ _) | (with_reducible refine bstep ?_ (by with_reducible assumption)) | (with_reducible refine bgrow ?_ (by with_reducible assumption) (by omega)) | (simp; done) | (simp; omega)))
    obtain ⟨hc4_t, hf4_t, hz_t⟩ := bel_at hB4 (w1.heap.size) (by omega)
    replace v_t_0 := (hc4_t 0).trans v_t_0
    replace v_t_1 := (hc4_t 1).trans v_t_1
    obtain ⟨hc4_x, hf4_x, hz_x⟩ := bel_at hB4 (w2.heap.size) (by omega)
    replace v_x_0 := (hc4_x 0).trans v_x_0
    replace v_x_1 := (hc4_x 1).trans v_x_1
    obtain ⟨hc4_u, hf4_u, hz_u⟩ := bel_at hb4 (w3.heap.size) (by first | (simp; done) | (simp; omega))
    have v_u_0 : w4.cell? ⟨w3.heap.size, 0, none⟩ = some (.slice A3 bk2.length c3) := by rw [hc4_u]; repeat' (first | exact newc (by simp) _ | rw [oldc (by simp)])
    have v_u_1 : w4.cell? ⟨w3.heap.size, 1, none⟩ = some (.slice B3 fs2.length d3) := by rw [hc4_u]; repeat' (first | exact newc (by simp) _ | rw [oldc (by simp)])
    replace HT1 := Lib.hid (HT1.out.below hB4)
    replace HT2 := Lib.hid (HT2.out.below hB4)
    replace HT3 := Lib.hid (HT3.out.below hB4)
    have HB4 := Lib.hid (bstep HB3.out hB4)
    have hs4 := hB4.size
    clear hc4_t hf4_t hc4_x hf4_x hc4_u hf4_u hb4 hB4
    go_wp2_with (fail)
    go_loopw [9] (fun i wr => ∃ j : Nat, j ≤ fs.length ∧ i = .int .i64 j ∧ Below w4.heap.size w4 wr) (fun i _ => fs.length - (intOf i).toNat)
    case atStart => exact ⟨0, by omega, rfl, Below.refl _ _⟩
    case round =>
      obtain ⟨j, hj, rfl, hb5⟩ := hrel
      have HR := Lib.hid hb5
      have hB5 : Below w4.heap.size w4 wr := by (repeat' (first | with_reducible exact Below.refl _ _ | (with_reducible refine balloc ?_ _) | (with_reducible refine bset ?_ ?_ _) | (with_reducible refine bdrew ?_) | (with_reducible refine bdrewN ?_ _) | (with_reducible refine bstep ?_ (by with_reducible assumption)) | (with_reducible refine bgrow ?_ (by with_reducible assumption) (by omega)) | (simp; done) | (simp; omega)))
      obtain ⟨hc5_t, hf5_t, hz_t⟩ := bel_at hB5 (w1.heap.size) (by omega)
      replace v_t_0 := (hc5_t 0).trans v_t_0
      replace v_t_1 := (hc5_t 1).trans v_t_1
      obtain ⟨hc5_x, hf5_x, hz_x⟩ := bel_at hB5 (w2.heap.size) (by omega)
      replace v_x_0 := (hc5_x 0).trans v_x_0
      replace v_x_1 := (hc5_x 1).trans v_x_1
      obtain ⟨hc5_u, hf5_u, hz_u⟩ := bel_at hB5 (w3.heap.size) (by omega)
      replace v_u_0 := (hc5_u 0).trans v_u_0
      replace v_u_1 := (hc5_u 1).trans v_u_1
      replace HT1 := Lib.hid (HT1.out.below hB5)
      replace HT2 := Lib.hid (HT2.out.below hB5)
      replace HT3 := Lib.hid (HT3.out.below hB5)
      have HB5 := Lib.hid (bstep HB4.out hB5)
      have hs5 := hB5.size
      clear hc5_t hf5_t hc5_x hf5_x hc5_u hf5_u hb5 hB5
      by_cases hlt : j < fs.length
      · obtain ⟨g, rfl, _, _, sz1, ⟨f0, f1, f2, f3, f4⟩, _⟩ := HT1.out.2.frame hlt
        obtain ⟨g', rfl, _, _, sz2, ⟨k0, k1, k2, k3, k4⟩, _⟩ := HT2.out.2.frame (show j < fs2.length by rw [HL2.out]; omega)
        obtain ⟨p0, p1, p2, p3⟩ := HPG.out.at_ j hlt
        rw [p0] at k0
        rw [p1] at k1
        rw [p2] at k2
        rw [p3] at k3
        generalize fat fs j = f at *
        generalize (fat fs2 j).nx = x2 at *
        obtain ⟨u, s, p, r, nx⟩ := f
        simp only [] at f0 f1 f2 f3 f4 k0 k1 k2 k3
        clear p0 p1 p2 p3
        have i1 : (0 : Int) ≤ (j : Int) := by omega
        have i2 : (j : Int) < (fs.length : Int) := by omega
        have i3 : (j : Int) < (fs2.length : Int) := by rw [HL2.out]; omega
        go_wp2
        all_goals
          go_roundw
          case rel => exact ⟨j + 1, by omega, by go_num, by have hr := HR.out; (repeat' (first | with_reducible exact Below.refl _ _ | (with_reducible refine balloc ?_ _) | (with_reducible refine bset ?_ ?_ _) | (with_reducible refine bdrew ?_) | (with_reducible refine bdrewN ?_ _) | (with_reducible refine bstep ?_ (by with_reducible assumption)) | (with_reducible refine bgrow ?_ (by with_reducible assumption) (by omega)) | (simp; done) | (simp; omega)))⟩
          case measure => simp [intOf]; omega
      · have i2 : ¬ (j : Int) < (fs.length : Int) := by omega
        go_wp2_with (fail)
        refine (IK2.out _ _ _ _ _ _ _ (HF.out.below (by (repeat' (first | (with_reducible assumption) | (with_reducible exact Hid.out (by assumption)) | (with_reducible refine balloc ?_ _))))) HT2.out).mono ?_
        rintro e w6 ⟨A6, c6, B6, d6, rfl, ⟨_, _⟩, ⟨_, _⟩, ht6, hb6⟩
        have hB6 : Below wr.heap.size wr w6 := by (repeat' (first | with_reducible exact Below.refl _ _ | (with_reducible refine balloc ?_ _) | (with_reducible refine bset ?_ ?_ _) | (with_reducible refine bdrew ?_) | (with_reducible refine bdrewN ?_ _) | (with_reducible refine bstep ?_ (by with_reducible assumption)) | (with_reducible refine bgrow ?_ (by with_reducible assumption) (by omega)) | (simp; done) | (simp; omega)))
        obtain ⟨hc6_t, hf6_t, hz_t⟩ := bel_at hB6 (w1.heap.size) (by omega)
        replace v_t_0 := (hc6_t 0).trans v_t_0
        replace v_t_1 := (hc6_t 1).trans v_t_1
        obtain ⟨hc6_x, hf6_x, hz_x⟩ := bel_at hB6 (w2.heap.size) (by omega)
        replace v_x_0 := (hc6_x 0).trans v_x_0
        replace v_x_1 := (hc6_x 1).trans v_x_1
        obtain ⟨hc6_u, hf6_u, hz_u⟩ := bel_at hB6 (w3.heap.size) (by omega)
        replace v_u_0 := (hc6_u 0).trans v_u_0
        replace v_u_1 := (hc6_u 1).trans v_u_1
        replace HT1 := Lib.hid (HT1.out.below hB6)
        replace HT2 := Lib.hid (HT2.out.below hB6)
        replace HT3 := Lib.hid (HT3.out.below hB6)
        have HT6 := Lib.hid ht6
        have HB6 := Lib.hid (bstep HB5.out hB6)
        have hs6 := hB6.size
        clear hc6_t hf6_t hc6_x hf6_x hc6_u hf6_u ht6 hb6 hB6
        go_wp2_with (fail)
        refine (TV.out _ _ _ _ _ _ _ (HF.out.below (by (repeat' (first | (with_reducible assumption) | (with_reducible exact Hid.out (by assumption)) | (with_reducible refine balloc ?_ _))))) (HT2.out.alloc _)).mono ?_
        rintro e w7 ⟨rfl, hb7⟩
        have hB7 : Below w6.heap.size w6 w7 := by (repeat' (first | with_reducible exact Below.refl _ _ | (with_reducible refine balloc ?_ _) | (with_reducible refine bset ?_ ?_ _) | (with_reducible refine bdrew ?_) | (with_reducible refine bdrewN ?_ _) | (with_reducible refine bstep ?_ (by with_reducible assumption)) | (with_reducible refine bgrow ?_ (by with_reducible assumption) (by omega)) | (simp; done) | (simp; omega)))
        obtain ⟨hc7_t, hf7_t, hz_t⟩ := bel_at hB7 (w1.heap.size) (by omega)
        replace v_t_0 := (hc7_t 0).trans v_t_0
        replace v_t_1 := (hc7_t 1).trans v_t_1
        obtain ⟨hc7_x, hf7_x, hz_x⟩ := bel_at hB7 (w2.heap.size) (by omega)
        replace v_x_0 := (hc7_x 0).trans v_x_0
        replace v_x_1 := (hc7_x 1).trans v_x_1
        obtain ⟨hc7_u, hf7_u, hz_u⟩ := bel_at hB7 (w3.heap.size) (by omega)
        replace v_u_0 := (hc7_u 0).trans v_u_0
        replace v_u_1 := (hc7_u 1).trans v_u_1
        obtain ⟨hc7_a, hf7_a, hz_a⟩ := bel_at hb7 (w6.heap.size) (by first | (simp; done) | (simp; omega))
        have v_a_0 : w7.cell? ⟨w6.heap.size, 0, none⟩ = some (.slice A6 bk2.length c6) := by rw [hc7_a]; repeat' (first | exact newc (by simp) _ | rw [oldc (by simp)])
        have v_a_1 : w7.cell? ⟨w6.heap.size, 1, none⟩ = some (.slice B6 fs2.length d6) := by rw [hc7_a]; repeat' (first | exact newc (by simp) _ | rw [oldc (by simp)])
        replace HT1 := Lib.hid (HT1.out.below hB7)
        replace HT2 := Lib.hid (HT2.out.below hB7)
        replace HT3 := Lib.hid (HT3.out.below hB7)
        replace HT6 := Lib.hid (HT6.out.below hB7)
        have HB7 := Lib.hid (bstep HB6.out hB7)
        have hs7 := hB7.size
        clear hc7_t hf7_t hc7_x hf7_x hc7_u hf7_u hc7_a hf7_a hb7 hB7
        go_wp2_with (fail)
        refine (TS.out _ _ _ _ _ _ _ _ _ _ _ _ _ HT6.out HT2.out).mono ?_
        rintro e w8 ⟨rfl, hb8⟩
        have hB8 : Below w7.heap.size w7 w8 := by (repeat' (first | with_reducible exact Below.refl _ _ | (with_reducible refine balloc ?_ _) | (with_reducible refine bset ?_ ?_ _) | (with_reducible refine bdrew ?_) | (with_reducible refine bdrewN ?_ _) | (with_reducible refine bstep ?_ (by with_reducible assumption)) | (with_reducible refine bgrow ?_ (by with_reducible assumption) (by omega)) | (simp; done) | (simp; omega)))
        obtain ⟨hc8_t, hf8_t, hz_t⟩ := bel_at hB8 (w1.heap.size) (by omega)
        replace v_t_0 := (hc8_t 0).trans v_t_0
        replace v_t_1 := (hc8_t 1).trans v_t_1
        obtain ⟨hc8_x, hf8_x, hz_x⟩ := bel_at hB8 (w2.heap.size) (by omega)
        replace v_x_0 := (hc8_x 0).trans v_x_0
        replace v_x_1 := (hc8_x 1).trans v_x_1
        obtain ⟨hc8_u, hf8_u, hz_u⟩ := bel_at hB8 (w3.heap.size) (by omega)
        replace v_u_0 := (hc8_u 0).trans v_u_0
        replace v_u_1 := (hc8_u 1).trans v_u_1
        obtain ⟨hc8_a, hf8_a, hz_a⟩ := bel_at hB8 (w6.heap.size) (by omega)
        replace v_a_0 := (hc8_a 0).trans v_a_0
        replace v_a_1 := (hc8_a 1).trans v_a_1
        replace HT1 := Lib.hid (HT1.out.below hB8)
        replace HT2 := Lib.hid (HT2.out.below hB8)
        replace HT3 := Lib.hid (HT3.out.below hB8)
        replace HT6 := Lib.hid (HT6.out.below hB8)
        have HB8 := Lib.hid (bstep HB7.out hB8)
        have hs8 := hB8.size
        clear hc8_t hf8_t hc8_x hf8_x hc8_u hf8_u hc8_a hf8_a hb8 hB8
        go_wp2
        all_goals (go_ret; exact ⟨rfl, HB8.out⟩)
  · have e1 : rhOk bk fs b = false := by simpa using hok
    have e2 : rhT bk fs b = ([], []) := by unfold rhT; rw [if_neg hok]
    rw [e1, e2] at SK IK
    have TS := Lib.hid (fun (A B A' B' : Option Addr) (ca cb ca' cb' l1 h1 l2 h2 : Nat) (w : World) (h : Tb w l1 h1 A B [] []) (h' : Tb w l2 h2 A' B' [] []) => impl_TsE A B A' B' ca cb ca' cb' l1 h1 l2 h2 [] [] w h h' (by simp) (by simp))
    clear hok e1 e2
    go_wp2_with (fail)
    refine (IK.out _ _ _ _ _ _ _ (HF.out.below (by (repeat' (first | (with_reducible assumption) | (with_reducible exact Hid.out (by assumption)) | (with_reducible refine balloc ?_ _))))) (HT1.out.alloc _)).mono ?_
    rintro e w2 ⟨A2, c2, B2, d2, rfl, ⟨_, _⟩, ⟨_, _⟩, ht2, hb2⟩
    have hB2 : Below w1.heap.size w1 w2 := by (repeat' (first | with_reducible exact Below.refl _ _ | (with_reducible refine balloc ?_ _) | (with_reducible refine bset ?_ ?_ _) | (with_reducible refine bdrew ?_) | (with_reducible refine bdrewN ?_ _) | (with_reducible refine bstep ?_ (by with_reducible assumption)) | (with_reducible refine bgrow ?_ (by with_reducible assumption) (by omega)) | (simp; done) | (simp; omega)))
    obtain ⟨hc2_t, hf2_t, hz_t⟩ := bel_at hb2 (w1.heap.size) (by first | (simp; done) | (simp; omega))
    have v_t_0 : w2.cell? ⟨w1.heap.size, 0, none⟩ = some (.slice A1 bk.length c1) := by rw [hc2_t]; repeat' (first | exact newc (by simp) _ | rw [oldc (by simp)])
    have v_t_1 : w2.cell? ⟨w1.heap.size, 1, none⟩ = some (.slice B1 fs.length d1) := by rw [hc2_t]; repeat' (first | exact newc (by simp) _ | rw [oldc (by simp)])
    replace HT1 := Lib.hid (HT1.out.below hB2)
    have HT2 := Lib.hid ht2
    have HB2 := Lib.hid (bstep HB1.out hB2)
    have hs2 := hB2.size
    clear hc2_t hf2_t ht2 hb2 hB2
    try simp only []
    go_wp2_with (fail)
    refine (SK.out _ _ _ _ _ _ _ (HT1.out.alloc _)).mono ?_
    rintro e w3 ⟨A3, c3, B3, d3, rfl, ⟨_, _⟩, ⟨_, _⟩, ht3, hb3⟩
    have hB3 : Below w2.heap.size w2 w3 := by (repeat' (first | with_reducible exact Below.refl _ _ | (with_reducible refine balloc ?_ _) | (with_reducible refine bset ?_ ?_ _) | (with_reducible refine bdrew ?_) | (with_reducible refine bdrewN ?_ _) | (with_reducible refine bstep ?_ (by with_reducible assumption)) | (with_reducible refine bgrow ?_ (by with_reducible assumption) (by omega)) | (simp; done) | (simp; omega)))
    obtain ⟨hc3_t, hf3_t, hz_t⟩ := bel_at hB3 (w1.heap.size) (by omega)
    replace v_t_0 := (hc3_t 0).trans v_t_0
    replace v_t_1 := (hc3_t 1).trans v_t_1
    obtain ⟨hc3_x, hf3_x, hz_x⟩ := bel_at hb3 (w2.heap.size) (by first | (simp; done) | (simp; omega))
    have v_x_0 : w3.cell? ⟨w2.heap.size, 0, none⟩ = some (.slice A2 0 c2) := by rw [hc3_x]; repeat' (first | exact newc (by simp) _ | rw [oldc (by simp)])
    have v_x_1 : w3.cell? ⟨w2.heap.size, 1, none⟩ = some (.slice B2 0 d2) := by rw [hc3_x]; repeat' (first | exact newc (by simp) _ | rw [oldc (by simp)])
    replace HT1 := Lib.hid (HT1.out.below hB3)
    replace HT2 := Lib.hid (HT2.out.below hB3)
    have HT3 := Lib.hid ht3
    have HB3 := Lib.hid (bstep HB2.out hB3)
    have hs3 := hB3.size
    clear hc3_t hf3_t hc3_x hf3_x ht3 hb3 hB3
    try simp only []
    go_wp2_with (fail)
    refine (TS.out _ _ _ _ _ _ _ _ _ _ _ _ _ (HT2.out.alloc _) (HT3.out.alloc _)).mono ?_
    rintro e w4 ⟨rfl, hb4⟩
    have hB4 : Below w3.heap.size w3 w4 := by (repeat' (first | with_reducible exact Below.refl _ _ | (with_reducible refine balloc ?_ _) | (with_reducible refine bset ?_ ?_ _) | (with_reducible refine bdrew ?_) | (with_reducible refine bdrewN ?_ _) | (with_reducible refine bstep ?_ (by with_reducible assumption)) | (with_reducible refine bgrow ?_ (by with_reducible assumption) (by omega)) | (simp; done) | (simp; omega)))
    obtain ⟨hc4_t, hf4_t, hz_t⟩ := bel_at hB4 (w1.heap.size) (by omega)
    replace v_t_0 := (hc4_t 0).trans v_t_0
    replace v_t_1 := (hc4_t 1).trans v_t_1
    obtain ⟨hc4_x, hf4_x, hz_x⟩ := bel_at hB4 (w2.heap.size) (by omega)
    replace v_x_0 := (hc4_x 0).trans v_x_0
    replace v_x_1 := (hc4_x 1).trans v_x_1
    obtain ⟨hc4_u, hf4_u, hz_u⟩ := bel_at hb4 (w3.heap.size) (by first | (simp; done) | (simp; omega))
    have v_u_0 : w4.cell? ⟨w3.heap.size, 0, none⟩ = some (.slice A3 0 c3) := by rw [hc4_u]; repeat' (first | exact newc (by simp) _ | rw [oldc (by simp)])
    have v_u_1 : w4.cell? ⟨w3.heap.size, 1, none⟩ = some (.slice B3 0 d3) := by rw [hc4_u]; repeat' (first | exact newc (by simp) _ | rw [oldc (by simp)])
    replace HT1 := Lib.hid (HT1.out.below hB4)
    replace HT2 := Lib.hid (HT2.out.below hB4)
    replace HT3 := Lib.hid (HT3.out.below hB4)
    have HB4 := Lib.hid (bstep HB3.out hB4)
    have hs4 := hB4.size
    clear hc4_t hf4_t hc4_x hf4_x hc4_u hf4_u hb4 hB4
    go_wp2_with (fail)
    refine (TS.out _ _ _ _ _ _ _ _ _ _ _ _ _ HT2.out HT3.out).mono ?_
    rintro e w5 ⟨rfl, hb5⟩
    have hB5 : Below w4.heap.size w4 w5 := by (repeat' (first | with_reducible exact Below.refl _ _ | (with_reducible refine balloc ?_ _) | (with_reducible refine bset ?_ ?_ _) | (with_reducible refine bdrew ?_) | (with_reducible refine bdrewN ?_ _) | (with_reducible refine bstep ?_ (by with_reducible assumption)) | (with_reducible refine bgrow ?_ (by with_reducible assumption) (by omega)) | (simp; done) | (simp; omega)))
    obtain ⟨hc5_t, hf5_t, hz_t⟩ := bel_at hB5 (w1.heap.size) (by omega)
    replace v_t_0 := (hc5_t 0).trans v_t_0
    replace v_t_1 := (hc5_t 1).trans v_t_1
    obtain ⟨hc5_x, hf5_x, hz_x⟩ := bel_at hB5 (w2.heap.size) (by omega)
    replace v_x_0 := (hc5_x 0).trans v_x_0
    replace v_x_1 := (hc5_x 1).trans v_x_1
    obtain ⟨hc5_u, hf5_u, hz_u⟩ := bel_at hB5 (w3.heap.size) (by omega)
    replace v_u_0 := (hc5_u 0).trans v_u_0
    replace v_u_1 := (hc5_u 1).trans v_u_1
    replace HT1 := Lib.hid (HT1.out.below hB5)
    replace HT2 := Lib.hid (HT2.out.below hB5)
    replace HT3 := Lib.hid (HT3.out.below hB5)
    have HB5 := Lib.hid (bstep HB4.out hB5)
    have hs5 := hB5.size
    clear hc5_t hf5_t hc5_x hf5_x hc5_u hf5_u hb5 hB5
    go_wp2
    all_goals (go_ret; exact ⟨rfl, HB5.out⟩)
end Go.Proofs.YtnbfmnchihckaaaDoor
