/- Walks of the laws FnChainOf and FnChainLoad: they return true where the variable 'free' holds what its initialiser lays. No other conditions. -/
import Derived.Test.YtjdoegekolbdpaaDoorDrC
import Derived.Test.YtjdoegekolbdpaaDoorClP
import Derived.Test.YtjdoegekolbdpaaDoorKoI
import Derived.Test.YtjdoegekolbdpaaDoorFind
import Derived.Test.YtjdoegekolbdpaaDoorDoor
import Derived.BigQuiet
namespace Go.Proofs.YtjdoegekolbdpaaDoor
set_option linter.unusedVariables false
open Go.ChangeShapes Go.WideShapes Go.ChangeAt Go.RowKit
set_option maxHeartbeats 4000000 in
set_option maxRecDepth 100000 in
theorem law_FnChainLoad (w : World) (ao : Option Addr) (len cap : Nat) (h : CodeIn w ao len cap) (hfree : FreeIn w) : Calls Tryd.prog 9 #[.slice ao len cap] w fun r w' => r = .returned (.bool true) ∧ Below w.heap.size w w' := by
  have HC := Lib.hid h
  have HF := Lib.hid hfree
  clear h hfree
  by_cases hl : 1048576 < len
  · go_enter Tryd.func9, Tryd.ntmps9
    go_wp2
    go_ret
    exact ⟨rfl, by (repeat' (first | with_reducible exact Below.refl _ _ | (with_reducible refine balloc ?_ _) | (with_reducible refine bset ?_ ?_ _) | (with_reducible refine bdrew ?_) | (with_reducible refine bdrewN ?_ _) | (with_reducible refine bstep ?_ (by with_reducible assumption)) | (with_reducible refine bgrow ?_ (by with_reducible assumption) (by omega)) | (simp; done) | (simp; omega)))⟩
  have hl' : len ≤ 1048576 := by omega
  clear hl
  go_enter Tryd.func9, Tryd.ntmps9
  go_wp2_with (fail)
  refine (spec_DrawChainOf _ _ _ _ HC.out).mono ?_
  rintro e w1 ⟨A1, c1, B1, d1, bk, fs, b, rfl, ⟨y1, y2⟩, ⟨n1, n2⟩, n3, n4, n5, HT1, hb1⟩
  have hB1 : Below w.heap.size w w1 := by (repeat' (first | with_reducible exact Below.refl _ _ | (with_reducible refine balloc ?_ _) | (with_reducible refine bset ?_ ?_ _) | (with_reducible refine bdrew ?_) | (with_reducible refine bdrewN ?_ _) | (with_reducible refine bstep ?_ (by with_reducible assumption)) | (with_reducible refine bgrow ?_ (by with_reducible assumption) (by omega)) | (simp; done) | (simp; omega)))
  have HB1 := Lib.hid hB1
  have hs1 := hB1.size
  clear hb1 hB1
  have IC := Lib.hid (fun (b : Int) (A B : Option Addr) (ca cb lo hi : Nat) (w : World) (hf : FreeIn w) (h : Tb w lo hi A B bk fs) => impl_ChainOf A B ca cb lo hi bk fs b w hf h (by omega) (by omega))
  have SC := Lib.hid (fun (A B : Option Addr) (ca cb lo hi : Nat) (w : World) (h : Tb w lo hi A B bk fs) => spec_ChainOf A B ca cb lo hi bk fs b w h (by omega) (by omega))
  unfold SlB at IC SC
  have hkl := ksOf_len bk fs
  by_cases hok : coOk bk fs b = true
  · have e1 : tvB bk fs = true ∧ withinB b bk.length = true := by unfold coOk at hok; rwa [Bool.and_eq_true] at hok
    obtain ⟨htv, hw⟩ := e1
    have hw2 := withinB_iff.1 hw
    obtain ⟨b, rfl⟩ := Int.eq_ofNat_of_zero_le (show 0 ≤ b by omega)
    have hb : b < bk.length := by omega
    obtain ⟨g1, g2, g3⟩ := co_yes htv hb
    have hcl := chn_len g3
    have hnl : (nats (chL fs (bk.getD b 0))).length = (chL fs (bk.getD b 0)).length := nats_len _
    have IC1 := Lib.hid (IC.out b)
    rw [g1, g2, hnl] at IC1 SC
    have IK := Lib.hid (fun (A B : Option Addr) (ca cb lo hi : Nat) (w : World) (hf : FreeIn w) (h : Tb w lo hi A B bk fs) => impl_KeysOf A B ca cb lo hi bk fs w hf h (by omega) (by omega))
    unfold KsP at IK
    obtain ⟨k1, k2⟩ := ks_kaB htv
    have hcc := cl_count htv hb
    have CB := Lib.hid (fun (A : Option Addr) (n c lo hi : Nat) (w : World) (h : Sl w lo hi 44 2 A n (kcells (ksOf bk fs))) (hn : n ≤ 1048576) => impl_CountBuckets A n c lo hi bk.length (ksOf bk fs) w h hn)
    unfold SlB at CB
    have e5 : cbL (ksOf bk fs) bk.length = cntL (ksOf bk fs) bk.length := by unfold cbL; rw [if_pos k2]; rfl
    rw [k2, e5, cntL_len] at CB
    have hcn : (cntL (ksOf bk fs) bk.length).getD b 0 = ((chL fs (bk.getD b 0)).length : Int) := by rw [cntL_at _ hb, hcc]
    have HCN := Lib.hid hcn
    clear hcn hcc e5 k1 k2 hok htv hw hw2 g1 g2 g3 hnl
    generalize ksOf bk fs = ks at *
    generalize hC : chL fs (bk.getD b 0) = C at *
    clear hC
    have hn8 : C.length ≤ fs.length := hcl
    have i1 : (0 : Int) ≤ (b : Int) := by omega
    have i2 : (b : Int) < (bk.length : Int) := by omega
    generalize hD : nats C = D at *
    clear hD
    go_wp2_with (fail)
    refine (IC1.out _ _ _ _ _ _ _ (HF.out.below (by (repeat' (first | (with_reducible assumption) | (with_reducible exact Hid.out (by assumption)) | (with_reducible refine balloc ?_ _))))) (HT1.out.alloc _)).mono ?_
    rintro e w2 ⟨A3, c3, rfl, _, _, hx3, hb2⟩
    have hB2 : Below w1.heap.size w1 w2 := by (repeat' (first | with_reducible exact Below.refl _ _ | (with_reducible refine balloc ?_ _) | (with_reducible refine bset ?_ ?_ _) | (with_reducible refine bdrew ?_) | (with_reducible refine bdrewN ?_ _) | (with_reducible refine bstep ?_ (by with_reducible assumption)) | (with_reducible refine bgrow ?_ (by with_reducible assumption) (by omega)) | (simp; done) | (simp; omega)))
    obtain ⟨hc2_t, hf2_t, hz_t⟩ := bel_at hb2 (w1.heap.size) (by first | (simp; done) | (simp; omega))
    have v_t_0 : w2.cell? ⟨w1.heap.size, 0, none⟩ = some (.slice A1 bk.length c1) := by rw [hc2_t]; exact newc (by simp) _
    have v_t_1 : w2.cell? ⟨w1.heap.size, 1, none⟩ = some (.slice B1 fs.length d1) := by rw [hc2_t]; exact newc (by simp) _
    replace HT1 := Lib.hid (HT1.out.below hB2)
    have HS3 := Lib.hid hx3
    have HB2 := Lib.hid (bstep HB1.out hB2)
    have hs2 := hB2.size
    clear hc2_t hf2_t hx3 hb2 hB2
    go_wp2_with (fail)
    refine (SC.out _ _ _ _ _ _ _ HT1.out).mono ?_
    rintro e w3 ⟨A5, c5, rfl, _, _, hx5, hb3⟩
    have hB3 : Below w2.heap.size w2 w3 := by (repeat' (first | with_reducible exact Below.refl _ _ | (with_reducible refine balloc ?_ _) | (with_reducible refine bset ?_ ?_ _) | (with_reducible refine bdrew ?_) | (with_reducible refine bdrewN ?_ _) | (with_reducible refine bstep ?_ (by with_reducible assumption)) | (with_reducible refine bgrow ?_ (by with_reducible assumption) (by omega)) | (simp; done) | (simp; omega)))
    obtain ⟨hc3_t, hf3_t, hz_t⟩ := bel_at hB3 (w1.heap.size) (by omega)
    replace v_t_0 := (hc3_t 0).trans v_t_0
    replace v_t_1 := (hc3_t 1).trans v_t_1
    replace HT1 := Lib.hid (HT1.out.below hB3)
    replace HS3 := Lib.hid (HS3.out.below hB3)
    have HS5 := Lib.hid hx5
    have HB3 := Lib.hid (bstep HB2.out hB3)
    have hs3 := hB3.size
    clear hc3_t hf3_t hx5 hb3 hB3
    go_wp2_with (fail)
    refine (laws_ipInts _ _ _ _ _ _ _ _ _ _ _ HS3.out HS5.out (by omega)).mono ?_
    rintro e w4 ⟨rfl, hb4⟩
    have hB4 : Below w3.heap.size w3 w4 := by (repeat' (first | with_reducible exact Below.refl _ _ | (with_reducible refine balloc ?_ _) | (with_reducible refine bset ?_ ?_ _) | (with_reducible refine bdrew ?_) | (with_reducible refine bdrewN ?_ _) | (with_reducible refine bstep ?_ (by with_reducible assumption)) | (with_reducible refine bgrow ?_ (by with_reducible assumption) (by omega)) | (simp; done) | (simp; omega)))
    obtain ⟨hc4_t, hf4_t, hz_t⟩ := bel_at hB4 (w1.heap.size) (by omega)
    replace v_t_0 := (hc4_t 0).trans v_t_0
    replace v_t_1 := (hc4_t 1).trans v_t_1
    replace HT1 := Lib.hid (HT1.out.below hB4)
    replace HS3 := Lib.hid (HS3.out.below hB4)
    replace HS5 := Lib.hid (HS5.out.below hB4)
    have HB4 := Lib.hid (bstep HB3.out hB4)
    have hs4 := hB4.size
    clear hc4_t hf4_t hb4 hB4
    go_wp2_with (fail)
    go_region_held3 (fun W' => W'.cell? ⟨w1.heap.size, 0, none⟩ = some (.slice A1 bk.length c1) ∧ W'.cell? ⟨w1.heap.size, 1, none⟩ = some (.slice B1 fs.length d1)) (go_keep)
      (first | (go_at_call 15; refine (IK.out _ _ _ _ w.heap.size w1.heap.size _ (HF.out.below (by (repeat' (first | (with_reducible assumption) | (with_reducible exact Hid.out (by assumption)) | (with_reducible refine balloc ?_ _) | (with_reducible refine bdrew ?_) | (with_reducible refine bdrewN ?_ _) | (with_reducible refine bstep ?_ (by with_reducible assumption)))))) (by first | exact HT1.out | exact Tb.drew HT1.out)).mono ?_; rintro e w33 ⟨A9, c9, rfl, ⟨_, _⟩, HS9, hb33⟩; obtain ⟨hc33_t, hf33_t, hz33_t⟩ := bel_at hb33 (w1.heap.size) (by first | omega | (simp; omega))) | (go_at_call 37; refine (CB.out _ _ _ _ _ _ (by first | exact HS9.out | exact Sl.drew HS9.out) (by omega)).mono ?_; rintro e w34 ⟨A10, c10, rfl, _, _, hs10, hb34⟩; obtain ⟨hc34_t, hf34_t, hz34_t⟩ := bel_at hb34 (w1.heap.size) (by first | omega | (simp; omega))))
    obtain ⟨g10, e10, _, _, hg10, f10, _⟩ := hs10.int hb
    rw [HCN.out] at f10
    subst e10
    clear hs10
    go_wp2
    all_goals (go_ret; exact ⟨rfl, by (repeat' (first | (with_reducible assumption) | (with_reducible exact Hid.out (by assumption)) | (with_reducible refine balloc ?_ _) | (with_reducible refine bdrew ?_) | (with_reducible refine bdrewN ?_ _) | (with_reducible refine bstep ?_ (by with_reducible assumption))))⟩)
  · have e0 : coOk bk fs b = false := by simpa using hok
    have e1 := co_no e0
    have IC1 := Lib.hid (IC.out b)
    rw [e0, e1] at IC1 SC
    simp only [List.length_nil] at IC1 SC
    clear hok e0 e1
    go_wp2_with (fail)
    refine (IC1.out _ _ _ _ _ _ _ (HF.out.below (by (repeat' (first | (with_reducible assumption) | (with_reducible exact Hid.out (by assumption)) | (with_reducible refine balloc ?_ _))))) (HT1.out.alloc _)).mono ?_
    rintro e w2 ⟨A3, c3, rfl, _, _, hx3, hb2⟩
    have hB2 : Below w1.heap.size w1 w2 := by (repeat' (first | with_reducible exact Below.refl _ _ | (with_reducible refine balloc ?_ _) | (with_reducible refine bset ?_ ?_ _) | (with_reducible refine bdrew ?_) | (with_reducible refine bdrewN ?_ _) | (with_reducible refine bstep ?_ (by with_reducible assumption)) | (with_reducible refine bgrow ?_ (by with_reducible assumption) (by omega)) | (simp; done) | (simp; omega)))
    obtain ⟨hc2_t, hf2_t, hz_t⟩ := bel_at hb2 (w1.heap.size) (by first | (simp; done) | (simp; omega))
    have v_t_0 : w2.cell? ⟨w1.heap.size, 0, none⟩ = some (.slice A1 bk.length c1) := by rw [hc2_t]; exact newc (by simp) _
    have v_t_1 : w2.cell? ⟨w1.heap.size, 1, none⟩ = some (.slice B1 fs.length d1) := by rw [hc2_t]; exact newc (by simp) _
    replace HT1 := Lib.hid (HT1.out.below hB2)
    have HS3 := Lib.hid hx3
    have HB2 := Lib.hid (bstep HB1.out hB2)
    have hs2 := hB2.size
    clear hc2_t hf2_t hx3 hb2 hB2
    go_wp2_with (fail)
    refine (SC.out _ _ _ _ _ _ _ HT1.out).mono ?_
    rintro e w3 ⟨A5, c5, rfl, _, _, hx5, hb3⟩
    have hB3 : Below w2.heap.size w2 w3 := by (repeat' (first | with_reducible exact Below.refl _ _ | (with_reducible refine balloc ?_ _) | (with_reducible refine bset ?_ ?_ _) | (with_reducible refine bdrew ?_) | (with_reducible refine bdrewN ?_ _) | (with_reducible refine bstep ?_ (by with_reducible assumption)) | (with_reducible refine bgrow ?_ (by with_reducible assumption) (by omega)) | (simp; done) | (simp; omega)))
    obtain ⟨hc3_t, hf3_t, hz_t⟩ := bel_at hB3 (w1.heap.size) (by omega)
    replace v_t_0 := (hc3_t 0).trans v_t_0
    replace v_t_1 := (hc3_t 1).trans v_t_1
    replace HT1 := Lib.hid (HT1.out.below hB3)
    replace HS3 := Lib.hid (HS3.out.below hB3)
    have HS5 := Lib.hid hx5
    have HB3 := Lib.hid (bstep HB2.out hB3)
    have hs3 := hB3.size
    clear hc3_t hf3_t hx5 hb3 hB3
    go_wp2_with (fail)
    refine (laws_ipInts _ _ _ _ _ _ _ _ _ _ _ HS3.out HS5.out (by simp)).mono ?_
    rintro e w4 ⟨rfl, hb4⟩
    have hB4 : Below w3.heap.size w3 w4 := by (repeat' (first | with_reducible exact Below.refl _ _ | (with_reducible refine balloc ?_ _) | (with_reducible refine bset ?_ ?_ _) | (with_reducible refine bdrew ?_) | (with_reducible refine bdrewN ?_ _) | (with_reducible refine bstep ?_ (by with_reducible assumption)) | (with_reducible refine bgrow ?_ (by with_reducible assumption) (by omega)) | (simp; done) | (simp; omega)))
    obtain ⟨hc4_t, hf4_t, hz_t⟩ := bel_at hB4 (w1.heap.size) (by omega)
    replace v_t_0 := (hc4_t 0).trans v_t_0
    replace v_t_1 := (hc4_t 1).trans v_t_1
    replace HT1 := Lib.hid (HT1.out.below hB4)
    replace HS3 := Lib.hid (HS3.out.below hB4)
    replace HS5 := Lib.hid (HS5.out.below hB4)
    have HB4 := Lib.hid (bstep HB3.out hB4)
    have hs4 := hB4.size
    clear hc4_t hf4_t hb4 hB4
    go_wp2_with (fail)
    refine (laws_ipInts _ _ _ _ _ _ _ _ _ _ _ HS3.out HS5.out (by simp)).mono ?_
    rintro e w5 ⟨rfl, hb5⟩
    have hB5 : Below w4.heap.size w4 w5 := by (repeat' (first | with_reducible exact Below.refl _ _ | (with_reducible refine balloc ?_ _) | (with_reducible refine bset ?_ ?_ _) | (with_reducible refine bdrew ?_) | (with_reducible refine bdrewN ?_ _) | (with_reducible refine bstep ?_ (by with_reducible assumption)) | (with_reducible refine bgrow ?_ (by with_reducible assumption) (by omega)) | (simp; done) | (simp; omega)))
    obtain ⟨hc5_t, hf5_t, hz_t⟩ := bel_at hB5 (w1.heap.size) (by omega)
    replace v_t_0 := (hc5_t 0).trans v_t_0
    replace v_t_1 := (hc5_t 1).trans v_t_1
    replace HT1 := Lib.hid (HT1.out.below hB5)
    replace HS3 := Lib.hid (HS3.out.below hB5)
    replace HS5 := Lib.hid (HS5.out.below hB5)
    have HB5 := Lib.hid (bstep HB4.out hB5)
    have hs5 := hB5.size
    clear hc5_t hf5_t hb5 hB5
    go_wp2
    all_goals (go_ret; exact ⟨rfl, HB5.out⟩)
set_option maxHeartbeats 4000000 in
set_option maxRecDepth 100000 in
theorem law_FnChainOf (w : World) (ao : Option Addr) (len cap : Nat) (h : CodeIn w ao len cap) (hfree : FreeIn w) : Calls Tryd.prog 4 #[.slice ao len cap] w fun r w' => r = .returned (.bool true) ∧ Below w.heap.size w w' := by
  have HC := Lib.hid h
  have HF := Lib.hid hfree
  clear h hfree
  by_cases hl : 1048576 < len
  · go_enter Tryd.func4, Tryd.ntmps4
    go_wp2
    go_ret
    exact ⟨rfl, by (repeat' (first | with_reducible exact Below.refl _ _ | (with_reducible refine balloc ?_ _) | (with_reducible refine bset ?_ ?_ _) | (with_reducible refine bdrew ?_) | (with_reducible refine bdrewN ?_ _) | (with_reducible refine bstep ?_ (by with_reducible assumption)) | (with_reducible refine bgrow ?_ (by with_reducible assumption) (by omega)) | (simp; done) | (simp; omega)))⟩
  have hl' : len ≤ 1048576 := by omega
  clear hl
  go_enter Tryd.func4, Tryd.ntmps4
  go_wp2_with (fail)
  refine (spec_DrawChainOf _ _ _ _ HC.out).mono ?_
  rintro e w1 ⟨A1, c1, B1, d1, bk, fs, b, rfl, ⟨y1, y2⟩, ⟨n1, n2⟩, n3, n4, n5, HT1, hb1⟩
  have hB1 : Below w.heap.size w w1 := by (repeat' (first | with_reducible exact Below.refl _ _ | (with_reducible refine balloc ?_ _) | (with_reducible refine bset ?_ ?_ _) | (with_reducible refine bdrew ?_) | (with_reducible refine bdrewN ?_ _) | (with_reducible refine bstep ?_ (by with_reducible assumption)) | (with_reducible refine bgrow ?_ (by with_reducible assumption) (by omega)) | (simp; done) | (simp; omega)))
  have HB1 := Lib.hid hB1
  have hs1 := hB1.size
  clear hb1 hB1
  have IC := Lib.hid (fun (b : Int) (A B : Option Addr) (ca cb lo hi : Nat) (w : World) (hf : FreeIn w) (h : Tb w lo hi A B bk fs) => impl_ChainOf A B ca cb lo hi bk fs b w hf h (by omega) (by omega))
  have SC := Lib.hid (fun (A B : Option Addr) (ca cb lo hi : Nat) (w : World) (h : Tb w lo hi A B bk fs) => spec_ChainOf A B ca cb lo hi bk fs b w h (by omega) (by omega))
  unfold SlB at IC SC
  have hkl := ksOf_len bk fs
  by_cases hok : coOk bk fs b = true
  · have e1 : tvB bk fs = true ∧ withinB b bk.length = true := by unfold coOk at hok; rwa [Bool.and_eq_true] at hok
    obtain ⟨htv, hw⟩ := e1
    have hw2 := withinB_iff.1 hw
    obtain ⟨b, rfl⟩ := Int.eq_ofNat_of_zero_le (show 0 ≤ b by omega)
    have hb : b < bk.length := by omega
    obtain ⟨g1, g2, g3⟩ := co_yes htv hb
    have hcl := chn_len g3
    have hnl : (nats (chL fs (bk.getD b 0))).length = (chL fs (bk.getD b 0)).length := nats_len _
    have IC1 := Lib.hid (IC.out b)
    rw [g1, g2, hnl] at IC1 SC
    have IK := Lib.hid (fun (A B : Option Addr) (ca cb lo hi : Nat) (w : World) (hf : FreeIn w) (h : Tb w lo hi A B bk fs) => impl_KeysOf A B ca cb lo hi bk fs w hf h (by omega) (by omega))
    unfold KsP at IK
    have hku := ks_used htv
    have HKU := Lib.hid hku
    have ICB := Lib.hid (fun (q : Nat) (hq : q < bk.length) (A B : Option Addr) (ca cb lo hi : Nat) (w : World) (hf : FreeIn w) (h : Tb w lo hi A B bk fs) => by
      have hh := IC.out q A B ca cb lo hi w hf h
      obtain ⟨z1, z2, _⟩ := co_yes htv hq
      rw [z1, z2, nats_len] at hh
      exact hh)
    have HSTEP := Lib.hid (fun q => chSum_step bk fs q)
    have HMONO := Lib.hid (fun q m e => chSum_mono htv q m e)
    have HMEM := Lib.hid (tv_chn htv hb).2
    have HKV := Lib.hid (fun i (hi : i < fs.length) (hu : (fat fs i).u = true) => (frOk_key ((tvB_iff.1 htv).2.1 _ (fat_mem hi)) hu).1)
    obtain ⟨⟨_, _⟩, _, d2⟩ := dimB_iff.1 (tvB_iff.1 htv).1
    have HK := Lib.hid (fun (s p : Int) (w : World) => impl_HashKey s p bk.length w)
    have hsm : chSum bk fs bk.length ≤ 8 := by omega
    have hCL : ∀ q, q < bk.length → (chL fs (bk.getD q 0)).length ≤ fs.length := fun q hq => chn_len (co_yes htv hq).2.2
    have HCL := Lib.hid hCL
    generalize hKS : ksOf bk fs = ks at *
    generalize hC : chL fs (bk.getD b 0) = C at *
    have hn8 : C.length ≤ fs.length := hcl
    have HCE := Lib.hid hC
    clear hC hKS hku hok htv hw g1 g2 g3 hnl hCL
    have i1 : (0 : Int) ≤ (b : Int) := by omega
    have i2 : (b : Int) < (bk.length : Int) := by omega
    go_wp2_with (fail)
    refine (IC1.out _ _ _ _ _ _ _ (HF.out.below (by (repeat' (first | (with_reducible assumption) | (with_reducible exact Hid.out (by assumption)) | (with_reducible refine balloc ?_ _))))) (HT1.out.alloc _)).mono ?_
    rintro e w2 ⟨A3, c3, rfl, _, _, hx3, hb2⟩
    have hB2 : Below w1.heap.size w1 w2 := by (repeat' (first | with_reducible exact Below.refl _ _ | (with_reducible refine balloc ?_ _) | (with_reducible refine bset ?_ ?_ _) | (with_reducible refine bdrew ?_) | (with_reducible refine bdrewN ?_ _) | (with_reducible refine bstep ?_ (by with_reducible assumption)) | (with_reducible refine bgrow ?_ (by with_reducible assumption) (by omega)) | (simp; done) | (simp; omega)))
    obtain ⟨hc2_t, hf2_t, hz_t⟩ := bel_at hb2 (w1.heap.size) (by first | (simp; done) | (simp; omega))
    have v_t_0 : w2.cell? ⟨w1.heap.size, 0, none⟩ = some (.slice A1 bk.length c1) := by rw [hc2_t]; exact newc (by simp) _
    have v_t_1 : w2.cell? ⟨w1.heap.size, 1, none⟩ = some (.slice B1 fs.length d1) := by rw [hc2_t]; exact newc (by simp) _
    replace HT1 := Lib.hid (HT1.out.below hB2)
    have HS3 := Lib.hid hx3
    have HB2 := Lib.hid (bstep HB1.out hB2)
    have hs2 := hB2.size
    clear hc2_t hf2_t hx3 hb2 hB2
    go_wp2_with (fail)
    refine (SC.out _ _ _ _ _ _ _ HT1.out).mono ?_
    rintro e w3 ⟨A5, c5, rfl, _, _, hx5, hb3⟩
    have hB3 : Below w2.heap.size w2 w3 := by (repeat' (first | with_reducible exact Below.refl _ _ | (with_reducible refine balloc ?_ _) | (with_reducible refine bset ?_ ?_ _) | (with_reducible refine bdrew ?_) | (with_reducible refine bdrewN ?_ _) | (with_reducible refine bstep ?_ (by with_reducible assumption)) | (with_reducible refine bgrow ?_ (by with_reducible assumption) (by omega)) | (simp; done) | (simp; omega)))
    obtain ⟨hc3_t, hf3_t, hz_t⟩ := bel_at hB3 (w1.heap.size) (by omega)
    replace v_t_0 := (hc3_t 0).trans v_t_0
    replace v_t_1 := (hc3_t 1).trans v_t_1
    replace HT1 := Lib.hid (HT1.out.below hB3)
    replace HS3 := Lib.hid (HS3.out.below hB3)
    have HS5 := Lib.hid hx5
    have HB3 := Lib.hid (bstep HB2.out hB3)
    have hs3 := hB3.size
    clear hc3_t hf3_t hx5 hb3 hB3
    go_wp2_with (fail)
    refine (laws_ipInts _ _ _ _ _ _ _ _ _ _ _ HS3.out HS5.out (by omega)).mono ?_
    rintro e w4 ⟨rfl, hb4⟩
    have hB4 : Below w3.heap.size w3 w4 := by (repeat' (first | with_reducible exact Below.refl _ _ | (with_reducible refine balloc ?_ _) | (with_reducible refine bset ?_ ?_ _) | (with_reducible refine bdrew ?_) | (with_reducible refine bdrewN ?_ _) | (with_reducible refine bstep ?_ (by with_reducible assumption)) | (with_reducible refine bgrow ?_ (by with_reducible assumption) (by omega)) | (simp; done) | (simp; omega)))
    obtain ⟨hc4_t, hf4_t, hz_t⟩ := bel_at hB4 (w1.heap.size) (by omega)
    replace v_t_0 := (hc4_t 0).trans v_t_0
    replace v_t_1 := (hc4_t 1).trans v_t_1
    replace HT1 := Lib.hid (HT1.out.below hB4)
    replace HS3 := Lib.hid (HS3.out.below hB4)
    replace HS5 := Lib.hid (HS5.out.below hB4)
    have HB4 := Lib.hid (bstep HB3.out hB4)
    have hs4 := hB4.size
    clear hc4_t hf4_t hb4 hB4
    go_wp2_with (fail)
    go_loopw [9, 10] (fun v i wr => ∃ q : Nat, q ≤ bk.length ∧ i = .int .i64 q ∧ v = .int .i64 (chSum bk fs q) ∧ Below w4.heap.size w4 wr) (fun _ i _ => bk.length - (intOf i).toNat)
    case atStart => exact ⟨0, by omega, rfl, rfl, Below.refl _ _⟩
    case round =>
      obtain ⟨q, hq, rfl, rfl, hb5⟩ := hrel
      have HR := Lib.hid hb5
      have hB5 : Below w4.heap.size w4 wr := by (repeat' (first | with_reducible exact Below.refl _ _ | (with_reducible refine balloc ?_ _) | (with_reducible refine bset ?_ ?_ _) | (with_reducible refine bdrew ?_) | (with_reducible refine bdrewN ?_ _) | (with_reducible refine bstep ?_ (by with_reducible assumption)) | (with_reducible refine bgrow ?_ (by with_reducible assumption) (by omega)) | (simp; done) | (simp; omega)))
      obtain ⟨hc5_t, hf5_t, hz_t⟩ := bel_at hB5 (w1.heap.size) (by omega)
      replace v_t_0 := (hc5_t 0).trans v_t_0
      replace v_t_1 := (hc5_t 1).trans v_t_1
      replace HT1 := Lib.hid (HT1.out.below hB5)
      replace HS3 := Lib.hid (HS3.out.below hB5)
      replace HS5 := Lib.hid (HS5.out.below hB5)
      have HB5 := Lib.hid (bstep HB4.out hB5)
      have hs5 := hB5.size
      clear hc5_t hf5_t hb5 hB5
      by_cases hlq : q < bk.length
      · have i3 : (0 : Int) ≤ (q : Int) := by omega
        have i4 : (q : Int) < (bk.length : Int) := by omega
        have z1 := HSTEP.out q
        have z2 := HMONO.out (q + 1) (bk.length - (q + 1)) (by omega)
        have z3 := HCL.out q hlq
        rw [z1] at z2
        generalize hSQ : chSum bk fs q = SQ at *
        have ICQ := Lib.hid (ICB.out q hlq)
        generalize hCQ : chL fs (bk.getD q 0) = CQ at *
        have HZ1 := Lib.hid z1
        clear z1 hCQ hSQ
        go_wp2_with (fail)
        refine (ICQ.out _ _ _ _ _ _ _ (HF.out.below (by (repeat' (first | (with_reducible assumption) | (with_reducible exact Hid.out (by assumption)) | (with_reducible refine balloc ?_ _))))) HT1.out).mono ?_
        rintro e w6 ⟨A8, c8, rfl, _, _, hx8, hb6⟩
        have hB6 : Below wr.heap.size wr w6 := by (repeat' (first | with_reducible exact Below.refl _ _ | (with_reducible refine balloc ?_ _) | (with_reducible refine bset ?_ ?_ _) | (with_reducible refine bdrew ?_) | (with_reducible refine bdrewN ?_ _) | (with_reducible refine bstep ?_ (by with_reducible assumption)) | (with_reducible refine bgrow ?_ (by with_reducible assumption) (by omega)) | (simp; done) | (simp; omega)))
        obtain ⟨hc6_t, hf6_t, hz_t⟩ := bel_at hB6 (w1.heap.size) (by omega)
        replace v_t_0 := (hc6_t 0).trans v_t_0
        replace v_t_1 := (hc6_t 1).trans v_t_1
        replace HT1 := Lib.hid (HT1.out.below hB6)
        replace HS3 := Lib.hid (HS3.out.below hB6)
        replace HS5 := Lib.hid (HS5.out.below hB6)
        have HB6 := Lib.hid (bstep HB5.out hB6)
        have hs6 := hB6.size
        have hQ := hB6
        clear hc6_t hf6_t hb6 hB6
        go_wp2
        go_roundw
        case rel => exact ⟨q + 1, by omega, by go_num, by rw [HZ1.out]; go_num, by have hr := HR.out; exact bstep hr hQ⟩
        case measure => simp [intOf]; omega
      · obtain rfl : q = bk.length := by omega
        have i3 : ¬ (bk.length : Int) < (bk.length : Int) := by omega
        obtain ⟨ws, hws⟩ : ∃ ws, ws = wr := ⟨_, rfl⟩
        subst hws
        go_wp2_with (fail)
        go_loopw [13] (fun i wq => ∃ q : Nat, q ≤ C.length ∧ i = .int .i64 q ∧ Below ws.heap.size ws wq) (fun i _ => C.length - (intOf i).toNat)
        case atStart => exact ⟨0, by omega, rfl, Below.refl _ _⟩
        case round =>
          obtain ⟨q, hq, rfl, hb6⟩ := hrel
          have HR2 := Lib.hid hb6
          have hB6 : Below ws.heap.size ws wr := by (repeat' (first | with_reducible exact Below.refl _ _ | (with_reducible refine balloc ?_ _) | (with_reducible refine bset ?_ ?_ _) | (with_reducible refine bdrew ?_) | (with_reducible refine bdrewN ?_ _) | (with_reducible refine bstep ?_ (by with_reducible assumption)) | (with_reducible refine bgrow ?_ (by with_reducible assumption) (by omega)) | (simp; done) | (simp; omega)))
          obtain ⟨hc6_t, hf6_t, hz_t⟩ := bel_at hB6 (w1.heap.size) (by omega)
          replace v_t_0 := (hc6_t 0).trans v_t_0
          replace v_t_1 := (hc6_t 1).trans v_t_1
          replace HT1 := Lib.hid (HT1.out.below hB6)
          replace HS3 := Lib.hid (HS3.out.below hB6)
          replace HS5 := Lib.hid (HS5.out.below hB6)
          have HB6 := Lib.hid (bstep HB5.out hB6)
          have hs6 := hB6.size
          clear hc6_t hf6_t hb6 hB6
          by_cases hlq : q < C.length
          · have hcm : C.getD q 0 ∈ C := by rw [List.getD_eq_getElem?_getD, List.getElem?_eq_getElem hlq]; exact List.getElem_mem hlq
            obtain ⟨h1, h2, h3⟩ := HMEM.out _ hcm
            obtain ⟨g3, e3, _, _, hg3, f3, _⟩ := HS3.out.int hlq
            have hnq : (nats C).getD q 0 = ((C.getD q 0 : Nat) : Int) := by unfold nats; rw [List.getD_eq_getElem?_getD, List.getD_eq_getElem?_getD, List.getElem?_map]; cases C[q]? <;> rfl
            rw [hnq] at f3
            have hkv := HKV.out _ h1 h2
            generalize C.getD q 0 = f at *
            obtain ⟨gf, rfl, _, _, hgf, ⟨_, k1, k2, _, _⟩, _⟩ := HT1.out.2.frame h1
            unfold fhash at h3
            generalize fat fs f = ff at *
            obtain ⟨uf, sf, pf, rf, nf'⟩ := ff
            simp only [] at k1 k2 h2 h3 hkv
            have ho : hkOk sf pf bk.length = true := by unfold hkOk; rw [hkv, withinB_iff.2 ⟨by omega, by omega⟩]; rfl
            have hn : hkN sf pf bk.length = (b : Int) := by unfold hkN; rw [if_pos ho]; exact h3
            have HKF := Lib.hid (HK.out sf pf)
            rw [ho, hn] at HKF
            subst e3
            have i4 : (0 : Int) ≤ (q : Int) := by omega
            have i5 : (q : Int) < (C.length : Int) := by omega
            have i6 : (0 : Int) ≤ (f : Int) := by omega
            have i7 : (f : Int) < (fs.length : Int) := by omega
            clear hcm h2 h3 hnq hkv ho hn
            go_wp2_with (fail)
            go_region_held3 (fun W' => W'.cell? ⟨w1.heap.size, 0, none⟩ = some (.slice A1 bk.length c1) ∧ W'.cell? ⟨w1.heap.size, 1, none⟩ = some (.slice (some ⟨gf, 0, none⟩) fs.length d1) ∧ W'.cell? ⟨g3, q, none⟩ = some (.int .i64 f) ∧ W'.cell? ⟨gf, f * 5 + 1, none⟩ = some (.int .i64 sf) ∧ W'.cell? ⟨gf, f * 5 + 2, none⟩ = some (.int .i64 pf)) (go_keep)
              (first | (go_at_call 20; refine (HKF.out _).mono ?_; rintro e w41 ⟨rfl, hb41⟩; obtain ⟨hc41_t, hf41_t, hz41_t⟩ := bel_at hb41 (w1.heap.size) (by first | omega | (simp; omega)); obtain ⟨hc41_g, hf41_g, hz41_g⟩ := bel_at hb41 g3 (by first | omega | (simp; omega)); obtain ⟨hc41_f, hf41_f, hz41_f⟩ := bel_at hb41 gf (by first | omega | (simp; omega))))
            go_wp2
            go_roundw
            case rel => exact ⟨q + 1, by omega, by go_num, by have hr := HR2.out; first | exact bstep hr hb41 | exact bstep (bdrew hr) hb41⟩
            case measure => simp [intOf]; omega
          · have i4 : ¬ (q : Int) < (C.length : Int) := by omega
            go_wp2_with (fail)
            refine (IK.out _ _ _ _ _ _ _ (HF.out.below (by (repeat' (first | (with_reducible assumption) | (with_reducible exact Hid.out (by assumption)) | (with_reducible refine balloc ?_ _))))) HT1.out).mono ?_
            rintro e w7 ⟨A20, c20, rfl, ⟨_, _⟩, HS20, hb7⟩
            have hB7 : Below wr.heap.size wr w7 := by (repeat' (first | with_reducible exact Below.refl _ _ | (with_reducible refine balloc ?_ _) | (with_reducible refine bset ?_ ?_ _) | (with_reducible refine bdrew ?_) | (with_reducible refine bdrewN ?_ _) | (with_reducible refine bstep ?_ (by with_reducible assumption)) | (with_reducible refine bgrow ?_ (by with_reducible assumption) (by omega)) | (simp; done) | (simp; omega)))
            obtain ⟨hc7_t, hf7_t, hz_t⟩ := bel_at hB7 (w1.heap.size) (by omega)
            replace v_t_0 := (hc7_t 0).trans v_t_0
            replace v_t_1 := (hc7_t 1).trans v_t_1
            replace HT1 := Lib.hid (HT1.out.below hB7)
            replace HS3 := Lib.hid (HS3.out.below hB7)
            replace HS5 := Lib.hid (HS5.out.below hB7)
            have HB7 := Lib.hid (bstep HB6.out hB7)
            have hs7 := hB7.size
            clear hc7_t hf7_t hb7 hB7
            have hku := HKU.out
            go_wp2
            all_goals (go_ret; exact ⟨rfl, HB7.out⟩)
  · have e0 : coOk bk fs b = false := by simpa using hok
    have e1 := co_no e0
    have IC1 := Lib.hid (IC.out b)
    rw [e0, e1] at IC1 SC
    simp only [List.length_nil] at IC1 SC
    clear hok e0 e1
    go_wp2_with (fail)
    refine (IC1.out _ _ _ _ _ _ _ (HF.out.below (by (repeat' (first | (with_reducible assumption) | (with_reducible exact Hid.out (by assumption)) | (with_reducible refine balloc ?_ _))))) (HT1.out.alloc _)).mono ?_
    rintro e w2 ⟨A3, c3, rfl, _, _, hx3, hb2⟩
    have hB2 : Below w1.heap.size w1 w2 := by (repeat' (first | with_reducible exact Below.refl _ _ | (with_reducible refine balloc ?_ _) | (with_reducible refine bset ?_ ?_ _) | (with_reducible refine bdrew ?_) | (with_reducible refine bdrewN ?_ _) | (with_reducible refine bstep ?_ (by with_reducible assumption)) | (with_reducible refine bgrow ?_ (by with_reducible assumption) (by omega)) | (simp; done) | (simp; omega)))
    obtain ⟨hc2_t, hf2_t, hz_t⟩ := bel_at hb2 (w1.heap.size) (by first | (simp; done) | (simp; omega))
    have v_t_0 : w2.cell? ⟨w1.heap.size, 0, none⟩ = some (.slice A1 bk.length c1) := by rw [hc2_t]; exact newc (by simp) _
    have v_t_1 : w2.cell? ⟨w1.heap.size, 1, none⟩ = some (.slice B1 fs.length d1) := by rw [hc2_t]; exact newc (by simp) _
    replace HT1 := Lib.hid (HT1.out.below hB2)
    have HS3 := Lib.hid hx3
    have HB2 := Lib.hid (bstep HB1.out hB2)
    have hs2 := hB2.size
    clear hc2_t hf2_t hx3 hb2 hB2
    go_wp2_with (fail)
    refine (SC.out _ _ _ _ _ _ _ HT1.out).mono ?_
    rintro e w3 ⟨A5, c5, rfl, _, _, hx5, hb3⟩
    have hB3 : Below w2.heap.size w2 w3 := by (repeat' (first | with_reducible exact Below.refl _ _ | (with_reducible refine balloc ?_ _) | (with_reducible refine bset ?_ ?_ _) | (with_reducible refine bdrew ?_) | (with_reducible refine bdrewN ?_ _) | (with_reducible refine bstep ?_ (by with_reducible assumption)) | (with_reducible refine bgrow ?_ (by with_reducible assumption) (by omega)) | (simp; done) | (simp; omega)))
    obtain ⟨hc3_t, hf3_t, hz_t⟩ := bel_at hB3 (w1.heap.size) (by omega)
    replace v_t_0 := (hc3_t 0).trans v_t_0
    replace v_t_1 := (hc3_t 1).trans v_t_1
    replace HT1 := Lib.hid (HT1.out.below hB3)
    replace HS3 := Lib.hid (HS3.out.below hB3)
    have HS5 := Lib.hid hx5
    have HB3 := Lib.hid (bstep HB2.out hB3)
    have hs3 := hB3.size
    clear hc3_t hf3_t hx5 hb3 hB3
    go_wp2_with (fail)
    refine (laws_ipInts _ _ _ _ _ _ _ _ _ _ _ HS3.out HS5.out (by simp)).mono ?_
    rintro e w4 ⟨rfl, hb4⟩
    have hB4 : Below w3.heap.size w3 w4 := by (repeat' (first | with_reducible exact Below.refl _ _ | (with_reducible refine balloc ?_ _) | (with_reducible refine bset ?_ ?_ _) | (with_reducible refine bdrew ?_) | (with_reducible refine bdrewN ?_ _) | (with_reducible refine bstep ?_ (by with_reducible assumption)) | (with_reducible refine bgrow ?_ (by with_reducible assumption) (by omega)) | (simp; done) | (simp; omega)))
    obtain ⟨hc4_t, hf4_t, hz_t⟩ := bel_at hB4 (w1.heap.size) (by omega)
    replace v_t_0 := (hc4_t 0).trans v_t_0
    replace v_t_1 := (hc4_t 1).trans v_t_1
    replace HT1 := Lib.hid (HT1.out.below hB4)
    replace HS3 := Lib.hid (HS3.out.below hB4)
    replace HS5 := Lib.hid (HS5.out.below hB4)
    have HB4 := Lib.hid (bstep HB3.out hB4)
    have hs4 := hB4.size
    clear hc4_t hf4_t hb4 hB4
    go_wp2_with (fail)
    refine (laws_ipInts _ _ _ _ _ _ _ _ _ _ _ HS3.out HS5.out (by simp)).mono ?_
    rintro e w5 ⟨rfl, hb5⟩
    have hB5 : Below w4.heap.size w4 w5 := by (repeat' (first | with_reducible exact Below.refl _ _ | (with_reducible refine balloc ?_ _) | (with_reducible refine bset ?_ ?_ _) | (with_reducible refine bdrew ?_) | (with_reducible refine bdrewN ?_ _) | (with_reducible refine bstep ?_ (by with_reducible assumption)) | (with_reducible refine bgrow ?_ (by with_reducible assumption) (by omega)) | (simp; done) | (simp; omega)))
    obtain ⟨hc5_t, hf5_t, hz_t⟩ := bel_at hB5 (w1.heap.size) (by omega)
    replace v_t_0 := (hc5_t 0).trans v_t_0
    replace v_t_1 := (hc5_t 1).trans v_t_1
    replace HT1 := Lib.hid (HT1.out.below hB5)
    replace HS3 := Lib.hid (HS3.out.below hB5)
    replace HS5 := Lib.hid (HS5.out.below hB5)
    have HB5 := Lib.hid (bstep HB4.out hB5)
    have hs5 := hB5.size
    clear hc5_t hf5_t hb5 hB5
    go_wp2
    all_goals (go_ret; exact ⟨rfl, HB5.out⟩)
end Go.Proofs.YtjdoegekolbdpaaDoor
