/- Walk of the law FnTableValid: it returns true where the variable 'free' holds what its initialiser lays. No other conditions. -/
import Derived.Test.YtjdoegekolbdpaaDoorDrL
import Derived.Test.YtjdoegekolbdpaaDoorIpK
import Derived.Test.YtjdoegekolbdpaaDoorKoI
import Derived.Test.YtjdoegekolbdpaaDoorLawP
import Derived.Test.YtjdoegekolbdpaaDoorFind3
import Derived.Test.YtjdoegekolbdpaaDoorDoor
import Derived.BigQuiet
namespace Go.Proofs.YtjdoegekolbdpaaDoor
set_option linter.unusedVariables false
open Go.ChangeShapes Go.WideShapes Go.ChangeAt Go.RowKit
theorem impl_FpY (A B : Option Addr) (ca cb lo hi : Nat) (bk : List Int) (fs : List Fr) (s p : Int) (w : World) (hf : FreeIn w) (h : Tb w lo hi A B bk fs) (hn : bk.length ≤ 1048576) (hn2 : fs.length ≤ 1048576) (hk : fpOk bk fs s p = true) :
    Calls Tryd.prog 26 #[.agg #[.slice A bk.length ca, .slice B fs.length cb], .agg #[.int .i64 s, .int .i64 p]] w fun e w' => e = .returned (.tuple #[.int .i64 (fpF bk fs s p), .int .i64 (fpS bk fs s p), .bool true]) ∧ Below w.heap.size w w' := by
  have h := impl_FindPage A B ca cb lo hi bk fs s p w hf h hn hn2
  rw [hk] at h
  exact h
set_option maxHeartbeats 4000000 in
set_option maxRecDepth 100000 in
theorem law_FnTableValid (w : World) (ao : Option Addr) (len cap : Nat) (h : CodeIn w ao len cap) (hfree : FreeIn w) : Calls Tryd.prog 7 #[.slice ao len cap] w fun r w' => r = .returned (.bool true) ∧ Below w.heap.size w w' := by
  have HC := Lib.hid h
  have HF := Lib.hid hfree
  clear h hfree
  by_cases hl : 1048576 < len
  · go_enter Tryd.func7, Tryd.ntmps7
    go_wp2
    go_ret
    exact ⟨rfl, by (repeat' (first | with_reducible exact Below.refl _ _ | (with_reducible refine balloc ?_ _) | (with_reducible refine bset ?_ ?_ _) | (with_reducible refine bdrew ?_) | (with_reducible refine bdrewN ?_ _) | (with_reducible refine bstep ?_ (by with_reducible assumption)) | (with_reducible refine bgrow ?_ (by with_reducible assumption) (by omega)) | (simp; done) | (simp; omega)))⟩
  have hl' : len ≤ 1048576 := by omega
  clear hl
  go_enter Tryd.func7, Tryd.ntmps7
  go_wp2_with (fail)
  refine (spec_DrawTableValid _ _ _ _ HC.out).mono ?_
  rintro e w1 ⟨A1, c1, B1, d1, bk, fs, rfl, ⟨n1, n2⟩, n3, n4, n5, HT1, hb1⟩
  have hB1 : Below w.heap.size w w1 := by (repeat' (first | with_reducible exact Below.refl _ _ | (with_reducible refine balloc ?_ _) | (with_reducible refine bset ?_ ?_ _) | (with_reducible refine bdrew ?_) | (with_reducible refine bdrewN ?_ _) | (with_reducible refine bstep ?_ (by with_reducible assumption)) | (with_reducible refine bgrow ?_ (by with_reducible assumption) (by omega)) | (simp; done) | (simp; omega)))
  have HB1 := Lib.hid hB1
  have hs1 := hB1.size
  clear hb1 hB1
  have TV := Lib.hid (fun (A B : Option Addr) (ca cb lo hi : Nat) (w : World) (hf : FreeIn w) (h : Tb w lo hi A B bk fs) => impl_TvA A B ca cb lo hi bk fs w hf h (by omega) (by omega))
  have SV := Lib.hid (fun (A B : Option Addr) (ca cb lo hi : Nat) (w : World) (h : Tb w lo hi A B bk fs) => spec_TvA A B ca cb lo hi bk fs w h (by omega) (by omega))
  have IK := Lib.hid (fun (A B : Option Addr) (ca cb lo hi : Nat) (w : World) (hf : FreeIn w) (h : Tb w lo hi A B bk fs) => impl_KeysOf A B ca cb lo hi bk fs w hf h (by omega) (by omega))
  have SK := Lib.hid (fun (A B : Option Addr) (ca cb lo hi : Nat) (w : World) (h : Tb w lo hi A B bk fs) => spec_KeysOf A B ca cb lo hi bk fs w h (by omega) (by omega))
  have hkl := ksOf_len bk fs
  by_cases htv : tvB bk fs = true
  · have hfound := Lib.hid (fun i (hi : i < (ksOf bk fs).length) => ks_found htv hi)
    have hlt := Lib.hid (fun i (h0 : 0 < i) (hi : i < (ksOf bk fs).length) => ks_lt htv h0 hi)
    rw [htv] at TV SV
    unfold KsP at IK SK
    have FP := Lib.hid (fun (s p : Int) (hk : fpOk bk fs s p = true) (A B : Option Addr) (ca cb lo hi : Nat) (w : World) (hf : FreeIn w) (h : Tb w lo hi A B bk fs) => impl_FpY A B ca cb lo hi bk fs s p w hf h (by omega) (by omega) hk)
    generalize ksOf bk fs = ks at *
    clear htv
    go_wp2_with (fail)
    refine (TV.out _ _ _ _ _ _ _ (HF.out.below (by (repeat' (first | (with_reducible assumption) | (with_reducible exact Hid.out (by assumption)) | (with_reducible refine balloc ?_ _))))) (HT1.out.alloc _)).mono ?_
    rintro e w2 ⟨rfl, hb2⟩
    have hB2 : Below w1.heap.size w1 w2 := by (repeat' (first | with_reducible exact Below.refl _ _ | (with_reducible refine balloc ?_ _) | (with_reducible refine bset ?_ ?_ _) | (with_reducible refine bdrew ?_) | (with_reducible refine bdrewN ?_ _) | (with_reducible refine bstep ?_ (by with_reducible assumption)) | (with_reducible refine bgrow ?_ (by with_reducible assumption) (by omega)) | (simp; done) | (simp; omega)))
    obtain ⟨hc2_t, hf2_t, hz_t⟩ := bel_at hb2 (w1.heap.size) (by first | (simp; done) | (simp; omega))
    have v_t_0 : w2.cell? ⟨w1.heap.size, 0, none⟩ = some (.slice A1 bk.length c1) := by rw [hc2_t]; repeat' (first | exact newc (by simp) _ | rw [oldc (by simp)])
    have v_t_1 : w2.cell? ⟨w1.heap.size, 1, none⟩ = some (.slice B1 fs.length d1) := by rw [hc2_t]; repeat' (first | exact newc (by simp) _ | rw [oldc (by simp)])
    replace HT1 := Lib.hid (HT1.out.below hB2)
    have HB2 := Lib.hid (bstep HB1.out hB2)
    have hs2 := hB2.size
    clear hc2_t hf2_t hb2 hB2
    go_wp2_with (fail)
    refine (IK.out _ _ _ _ _ _ _ (HF.out.below (by (repeat' (first | (with_reducible assumption) | (with_reducible exact Hid.out (by assumption)) | (with_reducible refine balloc ?_ _))))) HT1.out).mono ?_
    rintro e w3 ⟨A3, c3, rfl, ⟨q1, q2⟩, HS3, hb3⟩
    have hB3 : Below w2.heap.size w2 w3 := by (repeat' (first | with_reducible exact Below.refl _ _ | (with_reducible refine balloc ?_ _) | (with_reducible refine bset ?_ ?_ _) | (with_reducible refine bdrew ?_) | (with_reducible refine bdrewN ?_ _) | (with_reducible refine bstep ?_ (by with_reducible assumption)) | (with_reducible refine bgrow ?_ (by with_reducible assumption) (by omega)) | (simp; done) | (simp; omega)))
    obtain ⟨hc3_t, hf3_t, hz_t⟩ := bel_at hB3 (w1.heap.size) (by omega)
    replace v_t_0 := (hc3_t 0).trans v_t_0
    replace v_t_1 := (hc3_t 1).trans v_t_1
    replace HT1 := Lib.hid (HT1.out.below hB3)
    have HB3 := Lib.hid (bstep HB2.out hB3)
    have hs3 := hB3.size
    clear hc3_t hf3_t hb3 hB3
    go_wp2_with (fail)
    refine (SV.out _ _ _ _ _ _ _ HT1.out).mono ?_
    rintro e w4 ⟨rfl, hb4⟩
    have hB4 : Below w3.heap.size w3 w4 := by (repeat' (first | with_reducible exact Below.refl _ _ | (with_reducible refine balloc ?_ _) | (with_reducible refine bset ?_ ?_ _) | (with_reducible refine bdrew ?_) | (with_reducible refine bdrewN ?_ _) | (with_reducible refine bstep ?_ (by with_reducible assumption)) | (with_reducible refine bgrow ?_ (by with_reducible assumption) (by omega)) | (simp; done) | (simp; omega)))
    obtain ⟨hc4_t, hf4_t, hz_t⟩ := bel_at hB4 (w1.heap.size) (by omega)
    replace v_t_0 := (hc4_t 0).trans v_t_0
    replace v_t_1 := (hc4_t 1).trans v_t_1
    replace HT1 := Lib.hid (HT1.out.below hB4)
    replace HS3 := Lib.hid (HS3.out.below hB4)
    have HB4 := Lib.hid (bstep HB3.out hB4)
    have hs4 := hB4.size
    clear hc4_t hf4_t hb4 hB4
    go_wp2_with (fail)
    refine (SK.out _ _ _ _ _ _ _ HT1.out).mono ?_
    rintro e w5 ⟨A5, c5, rfl, ⟨_, _⟩, HS5, hb5⟩
    have hB5 : Below w4.heap.size w4 w5 := by (repeat' (first | with_reducible exact Below.refl _ _ | (with_reducible refine balloc ?_ _) | (with_reducible refine bset ?_ ?_ _) | (with_reducible refine bdrew ?_) | (with_reducible refine bdrewN ?_ _) | (with_reducible refine bstep ?_ (by with_reducible assumption)) | (with_reducible refine bgrow ?_ (by with_reducible assumption) (by omega)) | (simp; done) | (simp; omega)))
    obtain ⟨hc5_t, hf5_t, hz_t⟩ := bel_at hB5 (w1.heap.size) (by omega)
    replace v_t_0 := (hc5_t 0).trans v_t_0
    replace v_t_1 := (hc5_t 1).trans v_t_1
    replace HT1 := Lib.hid (HT1.out.below hB5)
    replace HS3 := Lib.hid (HS3.out.below hB5)
    have HB5 := Lib.hid (bstep HB4.out hB5)
    have hs5 := hB5.size
    clear hc5_t hf5_t hb5 hB5
    go_wp2_with (fail)
    refine (laws_ipKeys _ _ _ _ _ _ _ _ _ _ _ HS3.out HS5.out (by omega)).mono ?_
    rintro e w6 ⟨rfl, hb6⟩
    have hB6 : Below w5.heap.size w5 w6 := by (repeat' (first | with_reducible exact Below.refl _ _ | (with_reducible refine balloc ?_ _) | (with_reducible refine bset ?_ ?_ _) | (with_reducible refine bdrew ?_) | (with_reducible refine bdrewN ?_ _) | (with_reducible refine bstep ?_ (by with_reducible assumption)) | (with_reducible refine bgrow ?_ (by with_reducible assumption) (by omega)) | (simp; done) | (simp; omega)))
    obtain ⟨hc6_t, hf6_t, hz_t⟩ := bel_at hB6 (w1.heap.size) (by omega)
    replace v_t_0 := (hc6_t 0).trans v_t_0
    replace v_t_1 := (hc6_t 1).trans v_t_1
    replace HT1 := Lib.hid (HT1.out.below hB6)
    replace HS3 := Lib.hid (HS3.out.below hB6)
    replace HS5 := Lib.hid (HS5.out.below hB6)
    have HB6 := Lib.hid (bstep HB5.out hB6)
    have hs6 := hB6.size
    clear hc6_t hf6_t hb6 hB6
    go_wp2_with (fail)
    go_loopw [6] (fun i wr => ∃ j : Nat, j ≤ ks.length ∧ i = .int .i64 j ∧ Below w6.heap.size w6 wr) (fun i _ => ks.length - (intOf i).toNat)
    case atStart => exact ⟨0, by omega, rfl, Below.refl _ _⟩
    case round =>
      obtain ⟨j, hj, rfl, hb7⟩ := hrel
      have HR := Lib.hid hb7
      have hB7 : Below w6.heap.size w6 wr := by (repeat' (first | with_reducible exact Below.refl _ _ | (with_reducible refine balloc ?_ _) | (with_reducible refine bset ?_ ?_ _) | (with_reducible refine bdrew ?_) | (with_reducible refine bdrewN ?_ _) | (with_reducible refine bstep ?_ (by with_reducible assumption)) | (with_reducible refine bgrow ?_ (by with_reducible assumption) (by omega)) | (simp; done) | (simp; omega)))
      obtain ⟨hc7_t, hf7_t, hz_t⟩ := bel_at hB7 (w1.heap.size) (by omega)
      replace v_t_0 := (hc7_t 0).trans v_t_0
      replace v_t_1 := (hc7_t 1).trans v_t_1
      replace HT1 := Lib.hid (HT1.out.below hB7)
      replace HS3 := Lib.hid (HS3.out.below hB7)
      replace HS5 := Lib.hid (HS5.out.below hB7)
      have HB7 := Lib.hid (bstep HB6.out hB7)
      have hs7 := hB7.size
      clear hc7_t hf7_t hb7 hB7
      by_cases hlj : j < ks.length
      · obtain ⟨g, e, _, _, hg1, f1, f2, _⟩ := HS3.out.key hlj
        have hfd := (hfound.out j hlj).2
        have hX : ks.getD j (0, 0) = kat ks j := rfl
        rw [hX] at f1 f2
        have hlp := hlt.out j
        have i1 : (0 : Int) ≤ (j : Int) := by omega
        have i2 : (j : Int) < (ks.length : Int) := by omega
        by_cases hj0 : j = 0
        · subst hj0
          cases e
          generalize hK : kat ks 0 = K at *
          obtain ⟨s, p⟩ := K
          simp only [] at f1 f2 hfd
          have FPH := Lib.hid (FP.out s p hfd)
          clear hX hfd hlp
          go_wp2_with (fail)
          go_region_held3 (fun W' => W'.cell? ⟨w1.heap.size, 0, none⟩ = some (.slice A1 bk.length c1) ∧ W'.cell? ⟨w1.heap.size, 1, none⟩ = some (.slice B1 fs.length d1) ∧ W'.cell? ⟨g, 0 * 2, none⟩ = some (.int .i64 s) ∧ W'.cell? ⟨g, 0 * 2 + 1, none⟩ = some (.int .i64 p)) (go_keep)
            (first | (go_at_call 26; refine (FPH.out _ _ _ _ _ _ _ (HF.out.below (by first | exact HB7.out | exact bdrew HB7.out)) (by first | exact HT1.out | exact Tb.drew HT1.out)).mono ?_; rintro e w20 ⟨rfl, hb20⟩; obtain ⟨hc_t, hf_t, hz20⟩ := bel_at hb20 (w1.heap.size) (by first | omega | (simp; omega)); obtain ⟨hc_g, hf_g, hz_g⟩ := bel_at hb20 g (by first | omega | (simp; omega))))
          go_wp2_with (fail)
          go_quiet (fail)
          go_wp2
          go_roundw
          case rel => exact ⟨1, by omega, by go_num, by have hr := HR.out; (repeat' (first | with_reducible exact Below.refl _ _ | (with_reducible refine balloc ?_ _) | (with_reducible refine bset ?_ ?_ _) | (with_reducible refine bdrew ?_) | (with_reducible refine bdrewN ?_ _) | (with_reducible refine bstep ?_ (by with_reducible assumption)) | (with_reducible refine bgrow ?_ (by with_reducible assumption) (by omega)) | (simp; done) | (simp; omega)))⟩
          case measure => simp [intOf]; omega
        · obtain ⟨g', e', _, _, hg2, f3, f4, _⟩ := HS3.out.key (k := j - 1) (by omega)
          have hX' : ks.getD (j - 1) (0, 0) = kat ks (j - 1) := rfl
          rw [hX'] at f3 f4
          have hlp := hlp (by omega) hlj
          obtain ⟨q, hq⟩ : ∃ q, j - 1 = q := ⟨_, rfl⟩
          rw [hq] at hlp f3 f4 hX'
          have e1 : (j : Int) - 1 = (q : Int) := by omega
          have e2 : IntKind.i64.wrap ((j : Int) - 1) = (q : Int) := by rw [e1]; exact IntWalk.i64_in _ (by omega)
          have e3 : IntKind.i64.wrap (q : Int) = (q : Int) := IntWalk.i64_in _ (by omega)
          have i3 : (0 : Int) ≤ (q : Int) := by omega
          have i4 : (q : Int) < (ks.length : Int) := by omega
          have i5 : (0 : Int) < (j : Int) := by omega
          have i6 : 0 < j := by omega
          subst e
          cases e'
          generalize kat ks j = K at *
          generalize kat ks q = K' at *
          obtain ⟨s, p⟩ := K
          obtain ⟨s', p'⟩ := K'
          simp only [] at f1 f2 f3 f4 hfd
          have hkb : kbB s' p' s p = true := hlp
          have FPH := Lib.hid (FP.out s p hfd)
          clear hX hX' hfd hlp
          go_wp2_with (fail)
          go_region_held3 (fun W' => W'.cell? ⟨w1.heap.size, 0, none⟩ = some (.slice A1 bk.length c1) ∧ W'.cell? ⟨w1.heap.size, 1, none⟩ = some (.slice B1 fs.length d1) ∧ W'.cell? ⟨g, j * 2, none⟩ = some (.int .i64 s) ∧ W'.cell? ⟨g, j * 2 + 1, none⟩ = some (.int .i64 p)) (go_keep)
            (first | (go_at_call 26; refine (FPH.out _ _ _ _ _ _ _ (HF.out.below (by first | exact HB7.out | exact bdrew HB7.out)) (by first | exact HT1.out | exact Tb.drew HT1.out)).mono ?_; rintro e w20 ⟨rfl, hb20⟩; obtain ⟨hc_t, hf_t, hz20⟩ := bel_at hb20 (w1.heap.size) (by first | omega | (simp; omega)); obtain ⟨hc_g, hf_g, hz_g⟩ := bel_at hb20 g (by first | omega | (simp; omega))))
          go_wp2_with (fail)
          go_region_held3 (fun W' => W'.cell? ⟨g, j * 2, none⟩ = some (.int .i64 s) ∧ W'.cell? ⟨g, j * 2 + 1, none⟩ = some (.int .i64 p) ∧ W'.cell? ⟨g, q * 2, none⟩ = some (.int .i64 s') ∧ W'.cell? ⟨g, q * 2 + 1, none⟩ = some (.int .i64 p')) (go_keep)
            (first | (go_at_call 29; refine (impl_KeyBefore_b _ _ _ _ _).mono ?_; rintro e w21 ⟨rfl, hb21⟩; obtain ⟨hc_h, hf_h, hz_h⟩ := bel_at hb21 g (by first | assumption | (simp; omega))))
          go_wp2
          go_roundw
          case rel => exact ⟨j + 1, by omega, by go_num, by have hr := HR.out; (repeat' (first | with_reducible exact Below.refl _ _ | (with_reducible refine balloc ?_ _) | (with_reducible refine bset ?_ ?_ _) | (with_reducible refine bdrew ?_) | (with_reducible refine bdrewN ?_ _) | (with_reducible refine bstep ?_ (by with_reducible assumption)) | (with_reducible refine bgrow ?_ (by with_reducible assumption) (by omega)) | (simp; done) | (simp; omega)))⟩
          case measure => simp [intOf]; omega
      · have i2 : ¬ (j : Int) < (ks.length : Int) := by omega
        go_wp2
        all_goals (go_ret; exact ⟨rfl, HB7.out⟩)
  · have e1 : tvB bk fs = false := by simpa using htv
    have e2 := ksOf_no htv
    rw [e1] at TV SV
    unfold KsP at IK SK
    rw [e2] at IK SK
    rw [e2] at hkl
    simp only [List.length_nil] at IK SK
    clear htv e1 e2
    go_wp2_with (fail)
    refine (TV.out _ _ _ _ _ _ _ (HF.out.below (by (repeat' (first | (with_reducible assumption) | (with_reducible exact Hid.out (by assumption)) | (with_reducible refine balloc ?_ _))))) (HT1.out.alloc _)).mono ?_
    rintro e w2 ⟨rfl, hb2⟩
    have hB2 : Below w1.heap.size w1 w2 := by (repeat' (first | with_reducible exact Below.refl _ _ | (with_reducible refine balloc ?_ _) | (with_reducible refine bset ?_ ?_ _) | (with_reducible refine bdrew ?_) | (with_reducible refine bdrewN ?_ _) | (with_reducible refine bstep ?_ (by with_reducible assumption)) | (with_reducible refine bgrow ?_ (by with_reducible assumption) (by omega)) | (simp; done) | (simp; omega)))
    obtain ⟨hc2_t, hf2_t, hz_t⟩ := bel_at hb2 (w1.heap.size) (by first | (simp; done) | (simp; omega))
    have v_t_0 : w2.cell? ⟨w1.heap.size, 0, none⟩ = some (.slice A1 bk.length c1) := by rw [hc2_t]; repeat' (first | exact newc (by simp) _ | rw [oldc (by simp)])
    have v_t_1 : w2.cell? ⟨w1.heap.size, 1, none⟩ = some (.slice B1 fs.length d1) := by rw [hc2_t]; repeat' (first | exact newc (by simp) _ | rw [oldc (by simp)])
    replace HT1 := Lib.hid (HT1.out.below hB2)
    have HB2 := Lib.hid (bstep HB1.out hB2)
    have hs2 := hB2.size
    clear hc2_t hf2_t hb2 hB2
    go_wp2_with (fail)
    refine (IK.out _ _ _ _ _ _ _ (HF.out.below (by (repeat' (first | (with_reducible assumption) | (with_reducible exact Hid.out (by assumption)) | (with_reducible refine balloc ?_ _))))) HT1.out).mono ?_
    rintro e w3 ⟨A3, c3, rfl, ⟨q1, q2⟩, HS3, hb3⟩
    have hB3 : Below w2.heap.size w2 w3 := by (repeat' (first | with_reducible exact Below.refl _ _ | (with_reducible refine balloc ?_ _) | (with_reducible refine bset ?_ ?_ _) | (with_reducible refine bdrew ?_) | (with_reducible refine bdrewN ?_ _) | (with_reducible refine bstep ?_ (by with_reducible assumption)) | (with_reducible refine bgrow ?_ (by with_reducible assumption) (by omega)) | (simp; done) | (simp; omega)))
    obtain ⟨hc3_t, hf3_t, hz_t⟩ := bel_at hB3 (w1.heap.size) (by omega)
    replace v_t_0 := (hc3_t 0).trans v_t_0
    replace v_t_1 := (hc3_t 1).trans v_t_1
    replace HT1 := Lib.hid (HT1.out.below hB3)
    have HB3 := Lib.hid (bstep HB2.out hB3)
    have hs3 := hB3.size
    clear hc3_t hf3_t hb3 hB3
    go_wp2_with (fail)
    refine (SV.out _ _ _ _ _ _ _ HT1.out).mono ?_
    rintro e w4 ⟨rfl, hb4⟩
    have hB4 : Below w3.heap.size w3 w4 := by (repeat' (first | with_reducible exact Below.refl _ _ | (with_reducible refine balloc ?_ _) | (with_reducible refine bset ?_ ?_ _) | (with_reducible refine bdrew ?_) | (with_reducible refine bdrewN ?_ _) | (with_reducible refine bstep ?_ (by with_reducible assumption)) | (with_reducible refine bgrow ?_ (by with_reducible assumption) (by omega)) | (simp; done) | (simp; omega)))
    obtain ⟨hc4_t, hf4_t, hz_t⟩ := bel_at hB4 (w1.heap.size) (by omega)
    replace v_t_0 := (hc4_t 0).trans v_t_0
    replace v_t_1 := (hc4_t 1).trans v_t_1
    replace HT1 := Lib.hid (HT1.out.below hB4)
    replace HS3 := Lib.hid (HS3.out.below hB4)
    have HB4 := Lib.hid (bstep HB3.out hB4)
    have hs4 := hB4.size
    clear hc4_t hf4_t hb4 hB4
    go_wp2_with (fail)
    refine (SK.out _ _ _ _ _ _ _ HT1.out).mono ?_
    rintro e w5 ⟨A5, c5, rfl, ⟨_, _⟩, HS5, hb5⟩
    have hB5 : Below w4.heap.size w4 w5 := by (repeat' (first | with_reducible exact Below.refl _ _ | (with_reducible refine balloc ?_ _) | (with_reducible refine bset ?_ ?_ _) | (with_reducible refine bdrew ?_) | (with_reducible refine bdrewN ?_ _) | (with_reducible refine bstep ?_ (by with_reducible assumption)) | (with_reducible refine bgrow ?_ (by with_reducible assumption) (by omega)) | (simp; done) | (simp; omega)))
    obtain ⟨hc5_t, hf5_t, hz_t⟩ := bel_at hB5 (w1.heap.size) (by omega)
    replace v_t_0 := (hc5_t 0).trans v_t_0
    replace v_t_1 := (hc5_t 1).trans v_t_1
    replace HT1 := Lib.hid (HT1.out.below hB5)
    replace HS3 := Lib.hid (HS3.out.below hB5)
    have HB5 := Lib.hid (bstep HB4.out hB5)
    have hs5 := hB5.size
    clear hc5_t hf5_t hb5 hB5
    go_wp2_with (fail)
    refine (laws_ipKeys _ _ _ _ _ _ _ _ _ _ _ HS3.out HS5.out (by simp)).mono ?_
    rintro e w6 ⟨rfl, hb6⟩
    have hB6 : Below w5.heap.size w5 w6 := by (repeat' (first | with_reducible exact Below.refl _ _ | (with_reducible refine balloc ?_ _) | (with_reducible refine bset ?_ ?_ _) | (with_reducible refine bdrew ?_) | (with_reducible refine bdrewN ?_ _) | (with_reducible refine bstep ?_ (by with_reducible assumption)) | (with_reducible refine bgrow ?_ (by with_reducible assumption) (by omega)) | (simp; done) | (simp; omega)))
    obtain ⟨hc6_t, hf6_t, hz_t⟩ := bel_at hB6 (w1.heap.size) (by omega)
    replace v_t_0 := (hc6_t 0).trans v_t_0
    replace v_t_1 := (hc6_t 1).trans v_t_1
    replace HT1 := Lib.hid (HT1.out.below hB6)
    replace HS3 := Lib.hid (HS3.out.below hB6)
    replace HS5 := Lib.hid (HS5.out.below hB6)
    have HB6 := Lib.hid (bstep HB5.out hB6)
    have hs6 := hB6.size
    clear hc6_t hf6_t hb6 hB6
    go_wp2_with (fail)
    refine (SV.out _ _ _ _ _ _ _ HT1.out).mono ?_
    rintro e w7 ⟨rfl, hb7⟩
    have hB7 : Below w6.heap.size w6 w7 := by (repeat' (first | with_reducible exact Below.refl _ _ | (with_reducible refine balloc ?_ _) | (with_reducible refine bset ?_ ?_ _) | (with_reducible refine bdrew ?_) | (with_reducible refine bdrewN ?_ _) | (with_reducible refine bstep ?_ (by with_reducible assumption)) | (with_reducible refine bgrow ?_ (by with_reducible assumption) (by omega)) | (simp; done) | (simp; omega)))
    obtain ⟨hc7_t, hf7_t, hz_t⟩ := bel_at hB7 (w1.heap.size) (by omega)
    replace v_t_0 := (hc7_t 0).trans v_t_0
    replace v_t_1 := (hc7_t 1).trans v_t_1
    replace HT1 := Lib.hid (HT1.out.below hB7)
    replace HS3 := Lib.hid (HS3.out.below hB7)
    replace HS5 := Lib.hid (HS5.out.below hB7)
    have HB7 := Lib.hid (bstep HB6.out hB7)
    have hs7 := hB7.size
    clear hc7_t hf7_t hb7 hB7
    go_wp2
    all_goals (go_ret; exact ⟨rfl, HB7.out⟩)
end Go.Proofs.YtjdoegekolbdpaaDoor
