/- Walks of the laws FnMissSteps and FnFindPage: they return true where the variable 'free' holds what its initialiser lays. No other conditions. -/
import Derived.Test.YtnbfmnchihckaaaDoorAt
import Derived.Test.YtnbfmnchihckaaaDoorFind3
import Derived.Test.YtnbfmnchihckaaaDoorDoor
import Derived.BigQuiet
namespace Go.Proofs.YtnbfmnchihckaaaDoor
set_option linter.unusedVariables false
open Go.ChangeShapes Go.WideShapes Go.ChangeAt Go.RowKit
theorem fp_miss {bk : List Int} {fs : List Fr} {s p : Int} (h : tvB bk fs = true) (hk : kvB s p = true) (hok : ¬ fpOk bk fs s p = true) : fpOk bk fs s p = false ∧ fpF bk fs s p = 0 ∧ fpS bk fs s p = ((kch bk fs s p).length : Int) := by
  refine fp_no h hk ?_
  rcases Nat.lt_or_eq_of_le (kpos_le fs s p (kch bk fs s p)) with h1 | h1
  · exact absurd (by unfold fpOk; rw [h, hk]; simpa using h1) hok
  · exact h1
theorem fp_hit {bk : List Int} {fs : List Fr} {s p : Int} (h : tvB bk fs = true) (hk : kvB s p = true) (hok : fpOk bk fs s p = true) : ∃ j f : Nat, j < (kch bk fs s p).length ∧ (kch bk fs s p).getD j 0 = f ∧ f < fs.length ∧ (fat fs f).s = s ∧ (fat fs f).p = p ∧ fpF bk fs s p = (f : Int) ∧ fpS bk fs s p = (j : Int) + 1 := by
  have hkp : kpos fs s p (kch bk fs s p) < (kch bk fs s p).length := by
    unfold fpOk at hok
    rw [h, hk] at hok
    simpa using hok
  obtain ⟨_, e2, e3⟩ := fp_yes h hk rfl hkp
  have hkey := kpos_at hkp
  have hmem : (kch bk fs s p).getD (kpos fs s p (kch bk fs s p)) 0 ∈ kch bk fs s p := by
    rw [List.getD_eq_getElem?_getD, List.getElem?_eq_getElem hkp]
    exact List.getElem_mem hkp
  obtain ⟨m1, m2⟩ := chL_mem h hmem
  unfold fkey at hkey
  simp only [Prod.mk.injEq] at hkey
  exact ⟨_, _, hkp, rfl, m1, hkey.1, hkey.2, e2, e3⟩
theorem hk_facts {bk : List Int} {fs : List Fr} {s p : Int} (h : tvB bk fs = true) (hk : kvB s p = true) : ∃ b : Nat, b < bk.length ∧ hkN s p bk.length = (b : Int) ∧ hkOk s p bk.length = true ∧ kch bk fs s p = chL fs (bk.getD b 0) := by
  obtain ⟨⟨_, _⟩, d1, d2⟩ := dimB_iff.1 (tvB_iff.1 h).1
  have hr := @hashN_range s p (bk.length : Int) (by omega)
  have ho : hkOk s p bk.length = true := by unfold hkOk; rw [hk, withinB_iff.2 ⟨by omega, by omega⟩]; rfl
  refine ⟨(hashN s p bk.length).toNat, by omega, ?_, ho, rfl⟩
  unfold hkN
  rw [if_pos ho]
  omega
theorem nats_getD (l : List Nat) (j : Nat) : (nats l).getD j 0 = ((l.getD j 0 : Nat) : Int) := by
  unfold nats
  rw [List.getD_eq_getElem?_getD, List.getD_eq_getElem?_getD, List.getElem?_map]
  cases l[j]? <;> rfl
/-- a used frame before i has the key -/
def someB (fs : List Fr) (s p : Int) (i : Nat) : Bool := (List.range i).any fun j => (fat fs j).u && (decide ((fat fs j).s = s) && decide ((fat fs j).p = p))
theorem someB_step (fs : List Fr) (s p : Int) (i : Nat) : someB fs s p (i + 1) = (someB fs s p i || ((fat fs i).u && (decide ((fat fs i).s = s) && decide ((fat fs i).p = p)))) := by
  unfold someB
  rw [List.range_succ, List.any_append]
  simp
theorem someB_all {bk : List Int} {fs : List Fr} {s p : Int} (h : tvB bk fs = true) (hk : kvB s p = true) : someB fs s p fs.length = fpOk bk fs s p := by
  have e : fpOk bk fs s p = true ↔ someB fs s p fs.length = true := by
    unfold fpOk
    rw [h, hk, Bool.true_and, Bool.true_and, decide_eq_true_iff, kpos_iff h]
    unfold someB
    rw [List.any_eq_true]
    constructor
    · rintro ⟨i, hi, hu, e⟩
      unfold fkey at e
      simp only [Prod.mk.injEq] at e
      exact ⟨i, List.mem_range.2 hi, by simp [hu, e.1, e.2]⟩
    · rintro ⟨i, hi, e⟩
      simp at e
      exact ⟨i, List.mem_range.1 hi, e.1, Prod.ext e.2.1 e.2.2⟩
  rcases h1 : fpOk bk fs s p with _ | _
  · rw [h1] at e; simpa using e
  · exact e.1 h1
set_option maxHeartbeats 4000000 in
set_option maxRecDepth 100000 in
theorem law_FnMissSteps (w : World) (ao : Option Addr) (len cap : Nat) (h : CodeIn w ao len cap) (hfree : FreeIn w) : Calls Tryd.prog 8 #[.slice ao len cap] w fun r w' => r = .returned (.bool true) ∧ Below w.heap.size w w' := by
  have HC := Lib.hid h
  have HF := Lib.hid hfree
  clear h hfree
  by_cases hl : 1048576 < len
  · go_enter Tryd.func8, Tryd.ntmps8
    go_wp2
    go_ret
    exact ⟨rfl, by (repeat' (first | with_reducible exact Below.refl _ _ | (with_reducible refine balloc ?_ _) | (with_reducible refine bset ?_ ?_ _) | (with_reducible refine bdrew ?_) | (with_reducible refine bdrewN ?_ _) | (with_reducible refine bstep ?_ (by with_reducible assumption)) | (with_reducible refine bgrow ?_ (by with_reducible assumption) (by omega)) | (simp; done) | (simp; omega)))⟩
  have hl' : len ≤ 1048576 := by omega
  clear hl
  go_enter Tryd.func8, Tryd.ntmps8
  go_wp2_with (fail)
  refine (spec_DrawFindPage _ _ _ _ HC.out).mono ?_
  rintro e w1 ⟨A1, c1, B1, d1, bk, fs, s, p, rfl, ⟨n1, n2⟩, n3, n4, n5, HT1, hb1⟩
  have hB1 : Below w.heap.size w w1 := by (repeat' (first | with_reducible exact Below.refl _ _ | (with_reducible refine balloc ?_ _) | (with_reducible refine bset ?_ ?_ _) | (with_reducible refine bdrew ?_) | (with_reducible refine bdrewN ?_ _) | (with_reducible refine bstep ?_ (by with_reducible assumption)) | (with_reducible refine bgrow ?_ (by with_reducible assumption) (by omega)) | (simp; done) | (simp; omega)))
  have HB1 := Lib.hid hB1
  have hs1 := hB1.size
  clear hb1 hB1
  have IF := Lib.hid (fun (A B : Option Addr) (ca cb lo hi : Nat) (w : World) (hf : FreeIn w) (h : Tb w lo hi A B bk fs) => impl_FindPage A B ca cb lo hi bk fs s p w hf h (by omega) (by omega))
  have SF := Lib.hid (fun (A B : Option Addr) (ca cb lo hi : Nat) (w : World) (h : Tb w lo hi A B bk fs) => spec_FindPage A B ca cb lo hi bk fs s p w h (by omega) (by omega))
  have TV := Lib.hid (fun (A B : Option Addr) (ca cb lo hi : Nat) (w : World) (hf : FreeIn w) (h : Tb w lo hi A B bk fs) => impl_TvA A B ca cb lo hi bk fs w hf h (by omega) (by omega))
  have KV := Lib.hid (fun (w : World) => impl_KeyValid_b s p w)
  by_cases htv : tvB bk fs = true
  · by_cases hkv : kvB s p = true
    · by_cases hok : fpOk bk fs s p = true
      · have HTV := Lib.hid htv
        have HKV := Lib.hid hkv
        obtain ⟨b, hb, b1, b2, b3⟩ := hk_facts htv hkv
        obtain ⟨g1, g2, g3⟩ := co_yes htv hb
        have hcl := chn_len g3
        obtain ⟨j, f, j1, j2, j3, j4, j5, j6, j7⟩ := fp_hit htv hkv hok
        rw [hok, j6, j7] at IF SF
        rw [b3] at j1 j2
        have hso := someB_all htv hkv (bk := bk) (fs := fs)
        rw [hok] at hso
        rw [htv] at TV
        rw [hkv] at KV
        have HK := Lib.hid (fun (w : World) => impl_HashKey s p bk.length w)
        rw [b1, b2] at HK
        have CO := Lib.hid (fun (A B : Option Addr) (ca cb lo hi : Nat) (w : World) (hf : FreeIn w) (h : Tb w lo hi A B bk fs) => impl_ChainOf A B ca cb lo hi bk fs b w hf h (by omega) (by omega))
        unfold SlB at CO
        rw [g1, g2] at CO
        have HSO := Lib.hid hso
        have hcl2 : (nats (chL fs (bk.getD b 0))).length = (chL fs (bk.getD b 0)).length := nats_len _
        rw [hcl2] at CO
        have hnj : (nats (chL fs (bk.getD b 0))).getD j 0 = (f : Int) := by rw [nats_getD, j2]
        have HNJ := Lib.hid hnj
        clear hnj j2 j6 j7
        have hcl3 : chL fs (bk.getD b 0) = chL fs (bk.getD b 0) := rfl
        have HCL : Hid ((nats (chL fs (bk.getD b 0))).length = (chL fs (bk.getD b 0)).length) := Lib.hid hcl2
        have hn8 : (chL fs (bk.getD b 0)).length ≤ fs.length := hcl
        clear hcl2 hcl3 hcl g1 g2 g3 b1 b2 b3 hso htv hkv hok
        generalize hC : chL fs (bk.getD b 0) = C at *
        clear hC
        have i1 : (0 : Int) ≤ (b : Int) := by omega
        go_wp2_with (fail)
        refine (IF.out _ _ _ _ _ _ _ (HF.out.below (by (repeat' (first | (with_reducible assumption) | (with_reducible exact Hid.out (by assumption)) | (with_reducible refine balloc ?_ _))))) ((HT1.out.alloc _).alloc _)).mono ?_
        rintro e w2 ⟨rfl, hb2⟩
        have hB2 : Below w1.heap.size w1 w2 := by (repeat' (first | with_reducible exact Below.refl _ _ | (with_reducible refine balloc ?_ _) | (with_reducible refine bset ?_ ?_ _) | (with_reducible refine bdrew ?_) | (with_reducible refine bdrewN ?_ _) | (with_reducible refine bstep ?_ (by with_reducible assumption)) | (with_reducible refine bgrow ?_ (by with_reducible assumption) (by omega)) | (simp; done) | (simp; omega)))
        obtain ⟨hc2_t, hf2_t, hz_t⟩ := bel_at hb2 (w1.heap.size) (by first | (simp; done) | (simp; omega))
        have v_t_0 : w2.cell? ⟨w1.heap.size, 0, none⟩ = some (.slice A1 bk.length c1) := by rw [hc2_t]; rw [oldc (by first | (simp; done) | (simp; omega))]; exact newc (by simp) _
        have v_t_1 : w2.cell? ⟨w1.heap.size, 1, none⟩ = some (.slice B1 fs.length d1) := by rw [hc2_t]; rw [oldc (by first | (simp; done) | (simp; omega))]; exact newc (by simp) _
        obtain ⟨hc2_k, hf2_k, hz_k⟩ := bel_at hb2 (w1.heap.size + 1) (by first | (simp; done) | (simp; omega))
        have v_k_0 : w2.cell? ⟨w1.heap.size + 1, 0, none⟩ = some (.int .i64 s) := by rw [hc2_k]; exact newc (by simp) _
        have v_k_1 : w2.cell? ⟨w1.heap.size + 1, 1, none⟩ = some (.int .i64 p) := by rw [hc2_k]; exact newc (by simp) _
        replace HT1 := Lib.hid (HT1.out.below hB2)
        have HB2 := Lib.hid (bstep HB1.out hB2)
        have hs2 := hB2.size
        clear hc2_t hf2_t hc2_k hf2_k hb2 hB2
        go_wp2_with (fail)
        refine (SF.out _ _ _ _ _ _ _ HT1.out).mono ?_
        rintro e w3 ⟨rfl, hb3⟩
        have hB3 : Below w2.heap.size w2 w3 := by (repeat' (first | with_reducible exact Below.refl _ _ | (with_reducible refine balloc ?_ _) | (with_reducible refine bset ?_ ?_ _) | (with_reducible refine bdrew ?_) | (with_reducible refine bdrewN ?_ _) | (with_reducible refine bstep ?_ (by with_reducible assumption)) | (with_reducible refine bgrow ?_ (by with_reducible assumption) (by omega)) | (simp; done) | (simp; omega)))
        obtain ⟨hc3_t, hf3_t, hz_t⟩ := bel_at hB3 (w1.heap.size) (by omega)
        replace v_t_0 := (hc3_t 0).trans v_t_0
        replace v_t_1 := (hc3_t 1).trans v_t_1
        obtain ⟨hc3_k, hf3_k, hz_k⟩ := bel_at hB3 (w1.heap.size + 1) (by omega)
        replace v_k_0 := (hc3_k 0).trans v_k_0
        replace v_k_1 := (hc3_k 1).trans v_k_1
        replace HT1 := Lib.hid (HT1.out.below hB3)
        have HB3 := Lib.hid (bstep HB2.out hB3)
        have hs3 := hB3.size
        clear hc3_t hf3_t hc3_k hf3_k hb3 hB3
        go_wp2_with (fail)
        refine (TV.out _ _ _ _ _ _ _ (HF.out.below (by (repeat' (first | (with_reducible assumption) | (with_reducible exact Hid.out (by assumption)) | (with_reducible refine balloc ?_ _))))) HT1.out).mono ?_
        rintro e w4 ⟨rfl, hb4⟩
        have hB4 : Below w3.heap.size w3 w4 := by (repeat' (first | with_reducible exact Below.refl _ _ | (with_reducible refine balloc ?_ _) | (with_reducible refine bset ?_ ?_ _) | (with_reducible refine bdrew ?_) | (with_reducible refine bdrewN ?_ _) | (with_reducible refine bstep ?_ (by with_reducible assumption)) | (with_reducible refine bgrow ?_ (by with_reducible assumption) (by omega)) | (simp; done) | (simp; omega)))
        obtain ⟨hc4_t, hf4_t, hz_t⟩ := bel_at hB4 (w1.heap.size) (by omega)
        replace v_t_0 := (hc4_t 0).trans v_t_0
        replace v_t_1 := (hc4_t 1).trans v_t_1
        obtain ⟨hc4_k, hf4_k, hz_k⟩ := bel_at hB4 (w1.heap.size + 1) (by omega)
        replace v_k_0 := (hc4_k 0).trans v_k_0
        replace v_k_1 := (hc4_k 1).trans v_k_1
        replace HT1 := Lib.hid (HT1.out.below hB4)
        have HB4 := Lib.hid (bstep HB3.out hB4)
        have hs4 := hB4.size
        clear hc4_t hf4_t hc4_k hf4_k hb4 hB4
        go_wp2_with (fail)
        refine (KV.out _).mono ?_
        rintro e w5 ⟨rfl, hb5⟩
        have hB5 : Below w4.heap.size w4 w5 := by (repeat' (first | with_reducible exact Below.refl _ _ | (with_reducible refine balloc ?_ _) | (with_reducible refine bset ?_ ?_ _) | (with_reducible refine bdrew ?_) | (with_reducible refine bdrewN ?_ _) | (with_reducible refine bstep ?_ (by with_reducible assumption)) | (with_reducible refine bgrow ?_ (by with_reducible assumption) (by omega)) | (simp; done) | (simp; omega)))
        obtain ⟨hc5_t, hf5_t, hz_t⟩ := bel_at hB5 (w1.heap.size) (by omega)
        replace v_t_0 := (hc5_t 0).trans v_t_0
        replace v_t_1 := (hc5_t 1).trans v_t_1
        obtain ⟨hc5_k, hf5_k, hz_k⟩ := bel_at hB5 (w1.heap.size + 1) (by omega)
        replace v_k_0 := (hc5_k 0).trans v_k_0
        replace v_k_1 := (hc5_k 1).trans v_k_1
        replace HT1 := Lib.hid (HT1.out.below hB5)
        have HB5 := Lib.hid (bstep HB4.out hB5)
        have hs5 := hB5.size
        clear hc5_t hf5_t hc5_k hf5_k hb5 hB5
        go_wp2
        all_goals (go_ret; exact ⟨rfl, by first | exact HB5.out | exact bdrewN HB5.out _⟩)
      · have HTV := Lib.hid htv
        have HKV := Lib.hid hkv
        obtain ⟨b, hb, b1, b2, b3⟩ := hk_facts htv hkv
        obtain ⟨g1, g2, g3⟩ := co_yes htv hb
        have hcl := chn_len g3
        obtain ⟨e1, e2, e3⟩ := fp_miss htv hkv hok
        rw [e1, e2, e3] at IF SF
        rw [b3] at IF SF
        have hso := someB_all htv hkv (bk := bk) (fs := fs)
        rw [e1] at hso
        rw [htv] at TV
        rw [hkv] at KV
        have HK := Lib.hid (fun (w : World) => impl_HashKey s p bk.length w)
        rw [b1, b2] at HK
        have CO := Lib.hid (fun (A B : Option Addr) (ca cb lo hi : Nat) (w : World) (hf : FreeIn w) (h : Tb w lo hi A B bk fs) => impl_ChainOf A B ca cb lo hi bk fs b w hf h (by omega) (by omega))
        unfold SlB at CO
        rw [g1, g2] at CO
        have HSO := Lib.hid hso
        have hcl2 : (nats (chL fs (bk.getD b 0))).length = (chL fs (bk.getD b 0)).length := nats_len _
        rw [hcl2] at CO
        have hcl3 : chL fs (bk.getD b 0) = chL fs (bk.getD b 0) := rfl
        have HCL : Hid ((nats (chL fs (bk.getD b 0))).length = (chL fs (bk.getD b 0)).length) := Lib.hid hcl2
        have hn8 : (chL fs (bk.getD b 0)).length ≤ fs.length := hcl
        clear hcl2 hcl3 hcl g1 g2 g3 b1 b2 b3 hso htv hkv hok e1 e2 e3
        generalize hC : chL fs (bk.getD b 0) = C at *
        clear hC
        have i1 : (0 : Int) ≤ (b : Int) := by omega
        go_wp2_with (fail)
        refine (IF.out _ _ _ _ _ _ _ (HF.out.below (by (repeat' (first | (with_reducible assumption) | (with_reducible exact Hid.out (by assumption)) | (with_reducible refine balloc ?_ _))))) ((HT1.out.alloc _).alloc _)).mono ?_
        rintro e w2 ⟨rfl, hb2⟩
        have hB2 : Below w1.heap.size w1 w2 := by (repeat' (first | with_reducible exact Below.refl _ _ | (with_reducible refine balloc ?_ _) | (with_reducible refine bset ?_ ?_ _) | (with_reducible refine bdrew ?_) | (with_reducible refine bdrewN ?_ _) | (with_reducible refine bstep ?_ (by with_reducible assumption)) | (with_reducible refine bgrow ?_ (by with_reducible assumption) (by omega)) | (simp; done) | (simp; omega)))
        obtain ⟨hc2_t, hf2_t, hz_t⟩ := bel_at hb2 (w1.heap.size) (by first | (simp; done) | (simp; omega))
        have v_t_0 : w2.cell? ⟨w1.heap.size, 0, none⟩ = some (.slice A1 bk.length c1) := by rw [hc2_t]; rw [oldc (by first | (simp; done) | (simp; omega))]; exact newc (by simp) _
        have v_t_1 : w2.cell? ⟨w1.heap.size, 1, none⟩ = some (.slice B1 fs.length d1) := by rw [hc2_t]; rw [oldc (by first | (simp; done) | (simp; omega))]; exact newc (by simp) _
        obtain ⟨hc2_k, hf2_k, hz_k⟩ := bel_at hb2 (w1.heap.size + 1) (by first | (simp; done) | (simp; omega))
        have v_k_0 : w2.cell? ⟨w1.heap.size + 1, 0, none⟩ = some (.int .i64 s) := by rw [hc2_k]; exact newc (by simp) _
        have v_k_1 : w2.cell? ⟨w1.heap.size + 1, 1, none⟩ = some (.int .i64 p) := by rw [hc2_k]; exact newc (by simp) _
        replace HT1 := Lib.hid (HT1.out.below hB2)
        have HB2 := Lib.hid (bstep HB1.out hB2)
        have hs2 := hB2.size
        clear hc2_t hf2_t hc2_k hf2_k hb2 hB2
        go_wp2_with (fail)
        refine (SF.out _ _ _ _ _ _ _ HT1.out).mono ?_
        rintro e w3 ⟨rfl, hb3⟩
        have hB3 : Below w2.heap.size w2 w3 := by (repeat' (first | with_reducible exact Below.refl _ _ | (with_reducible refine balloc ?_ _) | (with_reducible refine bset ?_ ?_ _) | (with_reducible refine bdrew ?_) | (with_reducible refine bdrewN ?_ _) | (with_reducible refine bstep ?_ (by with_reducible assumption)) | (with_reducible refine bgrow ?_ (by with_reducible assumption) (by omega)) | (simp; done) | (simp; omega)))
        obtain ⟨hc3_t, hf3_t, hz_t⟩ := bel_at hB3 (w1.heap.size) (by omega)
        replace v_t_0 := (hc3_t 0).trans v_t_0
        replace v_t_1 := (hc3_t 1).trans v_t_1
        obtain ⟨hc3_k, hf3_k, hz_k⟩ := bel_at hB3 (w1.heap.size + 1) (by omega)
        replace v_k_0 := (hc3_k 0).trans v_k_0
        replace v_k_1 := (hc3_k 1).trans v_k_1
        replace HT1 := Lib.hid (HT1.out.below hB3)
        have HB3 := Lib.hid (bstep HB2.out hB3)
        have hs3 := hB3.size
        clear hc3_t hf3_t hc3_k hf3_k hb3 hB3
        go_wp2_with (fail)
        refine (TV.out _ _ _ _ _ _ _ (HF.out.below (by (repeat' (first | (with_reducible assumption) | (with_reducible exact Hid.out (by assumption)) | (with_reducible refine balloc ?_ _))))) HT1.out).mono ?_
        rintro e w4 ⟨rfl, hb4⟩
        have hB4 : Below w3.heap.size w3 w4 := by (repeat' (first | with_reducible exact Below.refl _ _ | (with_reducible refine balloc ?_ _) | (with_reducible refine bset ?_ ?_ _) | (with_reducible refine bdrew ?_) | (with_reducible refine bdrewN ?_ _) | (with_reducible refine bstep ?_ (by with_reducible assumption)) | (with_reducible refine bgrow ?_ (by with_reducible assumption) (by omega)) | (simp; done) | (simp; omega)))
        obtain ⟨hc4_t, hf4_t, hz_t⟩ := bel_at hB4 (w1.heap.size) (by omega)
        replace v_t_0 := (hc4_t 0).trans v_t_0
        replace v_t_1 := (hc4_t 1).trans v_t_1
        obtain ⟨hc4_k, hf4_k, hz_k⟩ := bel_at hB4 (w1.heap.size + 1) (by omega)
        replace v_k_0 := (hc4_k 0).trans v_k_0
        replace v_k_1 := (hc4_k 1).trans v_k_1
        replace HT1 := Lib.hid (HT1.out.below hB4)
        have HB4 := Lib.hid (bstep HB3.out hB4)
        have hs4 := hB4.size
        clear hc4_t hf4_t hc4_k hf4_k hb4 hB4
        go_wp2_with (fail)
        refine (KV.out _).mono ?_
        rintro e w5 ⟨rfl, hb5⟩
        have hB5 : Below w4.heap.size w4 w5 := by (repeat' (first | with_reducible exact Below.refl _ _ | (with_reducible refine balloc ?_ _) | (with_reducible refine bset ?_ ?_ _) | (with_reducible refine bdrew ?_) | (with_reducible refine bdrewN ?_ _) | (with_reducible refine bstep ?_ (by with_reducible assumption)) | (with_reducible refine bgrow ?_ (by with_reducible assumption) (by omega)) | (simp; done) | (simp; omega)))
        obtain ⟨hc5_t, hf5_t, hz_t⟩ := bel_at hB5 (w1.heap.size) (by omega)
        replace v_t_0 := (hc5_t 0).trans v_t_0
        replace v_t_1 := (hc5_t 1).trans v_t_1
        obtain ⟨hc5_k, hf5_k, hz_k⟩ := bel_at hB5 (w1.heap.size + 1) (by omega)
        replace v_k_0 := (hc5_k 0).trans v_k_0
        replace v_k_1 := (hc5_k 1).trans v_k_1
        replace HT1 := Lib.hid (HT1.out.below hB5)
        have HB5 := Lib.hid (bstep HB4.out hB5)
        have hs5 := hB5.size
        clear hc5_t hf5_t hc5_k hf5_k hb5 hB5
        go_wp2_with (fail)
        refine (HK.out _).mono ?_
        rintro e w6 ⟨rfl, hb6⟩
        have hB6 : Below w5.heap.size w5 w6 := by (repeat' (first | with_reducible exact Below.refl _ _ | (with_reducible refine balloc ?_ _) | (with_reducible refine bset ?_ ?_ _) | (with_reducible refine bdrew ?_) | (with_reducible refine bdrewN ?_ _) | (with_reducible refine bstep ?_ (by with_reducible assumption)) | (with_reducible refine bgrow ?_ (by with_reducible assumption) (by omega)) | (simp; done) | (simp; omega)))
        obtain ⟨hc6_t, hf6_t, hz_t⟩ := bel_at hB6 (w1.heap.size) (by omega)
        replace v_t_0 := (hc6_t 0).trans v_t_0
        replace v_t_1 := (hc6_t 1).trans v_t_1
        obtain ⟨hc6_k, hf6_k, hz_k⟩ := bel_at hB6 (w1.heap.size + 1) (by omega)
        replace v_k_0 := (hc6_k 0).trans v_k_0
        replace v_k_1 := (hc6_k 1).trans v_k_1
        replace HT1 := Lib.hid (HT1.out.below hB6)
        have HB6 := Lib.hid (bstep HB5.out hB6)
        have hs6 := hB6.size
        clear hc6_t hf6_t hc6_k hf6_k hb6 hB6
        go_wp2_with (fail)
        refine (CO.out _ _ _ _ _ _ _ (HF.out.below (by (repeat' (first | (with_reducible assumption) | (with_reducible exact Hid.out (by assumption)) | (with_reducible refine balloc ?_ _))))) HT1.out).mono ?_
        rintro e w7 ⟨A8, c8, rfl, _, _, hsl8, hb7⟩
        have hB7 : Below w6.heap.size w6 w7 := by (repeat' (first | with_reducible exact Below.refl _ _ | (with_reducible refine balloc ?_ _) | (with_reducible refine bset ?_ ?_ _) | (with_reducible refine bdrew ?_) | (with_reducible refine bdrewN ?_ _) | (with_reducible refine bstep ?_ (by with_reducible assumption)) | (with_reducible refine bgrow ?_ (by with_reducible assumption) (by omega)) | (simp; done) | (simp; omega)))
        obtain ⟨hc7_t, hf7_t, hz_t⟩ := bel_at hB7 (w1.heap.size) (by omega)
        replace v_t_0 := (hc7_t 0).trans v_t_0
        replace v_t_1 := (hc7_t 1).trans v_t_1
        obtain ⟨hc7_k, hf7_k, hz_k⟩ := bel_at hB7 (w1.heap.size + 1) (by omega)
        replace v_k_0 := (hc7_k 0).trans v_k_0
        replace v_k_1 := (hc7_k 1).trans v_k_1
        replace HT1 := Lib.hid (HT1.out.below hB7)
        have HB7 := Lib.hid (bstep HB6.out hB7)
        have hs7 := hB7.size
        clear hc7_t hf7_t hc7_k hf7_k hb7 hB7
        go_wp2
        all_goals (go_ret; exact ⟨rfl, by first | exact HB7.out | exact bdrewN HB7.out _⟩)
    · have e0 : kvB s p = false := by simpa using hkv
      obtain ⟨e1, e2, e3⟩ := fp_bad (bk := bk) (fs := fs) (s := s) (p := p) (by rw [e0, Bool.and_false])
      rw [e1, e2, e3] at IF SF
      rw [htv] at TV
      rw [e0] at KV
      clear e0 e1 e2 e3 htv hkv
      go_wp2_with (fail)
      refine (IF.out _ _ _ _ _ _ _ (HF.out.below (by (repeat' (first | (with_reducible assumption) | (with_reducible exact Hid.out (by assumption)) | (with_reducible refine balloc ?_ _))))) ((HT1.out.alloc _).alloc _)).mono ?_
      rintro e w2 ⟨rfl, hb2⟩
      have hB2 : Below w1.heap.size w1 w2 := by (repeat' (first | with_reducible exact Below.refl _ _ | (with_reducible refine balloc ?_ _) | (with_reducible refine bset ?_ ?_ _) | (with_reducible refine bdrew ?_) | (with_reducible refine bdrewN ?_ _) | (with_reducible refine bstep ?_ (by with_reducible assumption)) | (with_reducible refine bgrow ?_ (by with_reducible assumption) (by omega)) | (simp; done) | (simp; omega)))
      obtain ⟨hc2_t, hf2_t, hz_t⟩ := bel_at hb2 (w1.heap.size) (by first | (simp; done) | (simp; omega))
      have v_t_0 : w2.cell? ⟨w1.heap.size, 0, none⟩ = some (.slice A1 bk.length c1) := by rw [hc2_t]; rw [oldc (by first | (simp; done) | (simp; omega))]; exact newc (by simp) _
      have v_t_1 : w2.cell? ⟨w1.heap.size, 1, none⟩ = some (.slice B1 fs.length d1) := by rw [hc2_t]; rw [oldc (by first | (simp; done) | (simp; omega))]; exact newc (by simp) _
      obtain ⟨hc2_k, hf2_k, hz_k⟩ := bel_at hb2 (w1.heap.size + 1) (by first | (simp; done) | (simp; omega))
      have v_k_0 : w2.cell? ⟨w1.heap.size + 1, 0, none⟩ = some (.int .i64 s) := by rw [hc2_k]; exact newc (by simp) _
      have v_k_1 : w2.cell? ⟨w1.heap.size + 1, 1, none⟩ = some (.int .i64 p) := by rw [hc2_k]; exact newc (by simp) _
      replace HT1 := Lib.hid (HT1.out.below hB2)
      have HB2 := Lib.hid (bstep HB1.out hB2)
      have hs2 := hB2.size
      clear hc2_t hf2_t hc2_k hf2_k hb2 hB2
      go_wp2_with (fail)
      refine (SF.out _ _ _ _ _ _ _ HT1.out).mono ?_
      rintro e w3 ⟨rfl, hb3⟩
      have hB3 : Below w2.heap.size w2 w3 := by (repeat' (first | with_reducible exact Below.refl _ _ | (with_reducible refine balloc ?_ _) | (with_reducible refine bset ?_ ?_ _) | (with_reducible refine bdrew ?_) | (with_reducible refine bdrewN ?_ _) | (with_reducible refine bstep ?_ (by with_reducible assumption)) | (with_reducible refine bgrow ?_ (by with_reducible assumption) (by omega)) | (simp; done) | (simp; omega)))
      obtain ⟨hc3_t, hf3_t, hz_t⟩ := bel_at hB3 (w1.heap.size) (by omega)
      replace v_t_0 := (hc3_t 0).trans v_t_0
      replace v_t_1 := (hc3_t 1).trans v_t_1
      obtain ⟨hc3_k, hf3_k, hz_k⟩ := bel_at hB3 (w1.heap.size + 1) (by omega)
      replace v_k_0 := (hc3_k 0).trans v_k_0
      replace v_k_1 := (hc3_k 1).trans v_k_1
      replace HT1 := Lib.hid (HT1.out.below hB3)
      have HB3 := Lib.hid (bstep HB2.out hB3)
      have hs3 := hB3.size
      clear hc3_t hf3_t hc3_k hf3_k hb3 hB3
      go_wp2_with (fail)
      refine (TV.out _ _ _ _ _ _ _ (HF.out.below (by (repeat' (first | (with_reducible assumption) | (with_reducible exact Hid.out (by assumption)) | (with_reducible refine balloc ?_ _))))) HT1.out).mono ?_
      rintro e w4 ⟨rfl, hb4⟩
      have hB4 : Below w3.heap.size w3 w4 := by (repeat' (first | with_reducible exact Below.refl _ _ | (with_reducible refine balloc ?_ _) | (with_reducible refine bset ?_ ?_ _) | (with_reducible refine bdrew ?_) | (with_reducible refine bdrewN ?_ _) | (with_reducible refine bstep ?_ (by with_reducible assumption)) | (with_reducible refine bgrow ?_ (by with_reducible assumption) (by omega)) | (simp; done) | (simp; omega)))
      obtain ⟨hc4_t, hf4_t, hz_t⟩ := bel_at hB4 (w1.heap.size) (by omega)
      replace v_t_0 := (hc4_t 0).trans v_t_0
      replace v_t_1 := (hc4_t 1).trans v_t_1
      obtain ⟨hc4_k, hf4_k, hz_k⟩ := bel_at hB4 (w1.heap.size + 1) (by omega)
      replace v_k_0 := (hc4_k 0).trans v_k_0
      replace v_k_1 := (hc4_k 1).trans v_k_1
      replace HT1 := Lib.hid (HT1.out.below hB4)
      have HB4 := Lib.hid (bstep HB3.out hB4)
      have hs4 := hB4.size
      clear hc4_t hf4_t hc4_k hf4_k hb4 hB4
      go_wp2_with (fail)
      refine (KV.out _).mono ?_
      rintro e w5 ⟨rfl, hb5⟩
      have hB5 : Below w4.heap.size w4 w5 := by (repeat' (first | with_reducible exact Below.refl _ _ | (with_reducible refine balloc ?_ _) | (with_reducible refine bset ?_ ?_ _) | (with_reducible refine bdrew ?_) | (with_reducible refine bdrewN ?_ _) | (with_reducible refine bstep ?_ (by with_reducible assumption)) | (with_reducible refine bgrow ?_ (by with_reducible assumption) (by omega)) | (simp; done) | (simp; omega)))
      obtain ⟨hc5_t, hf5_t, hz_t⟩ := bel_at hB5 (w1.heap.size) (by omega)
      replace v_t_0 := (hc5_t 0).trans v_t_0
      replace v_t_1 := (hc5_t 1).trans v_t_1
      obtain ⟨hc5_k, hf5_k, hz_k⟩ := bel_at hB5 (w1.heap.size + 1) (by omega)
      replace v_k_0 := (hc5_k 0).trans v_k_0
      replace v_k_1 := (hc5_k 1).trans v_k_1
      replace HT1 := Lib.hid (HT1.out.below hB5)
      have HB5 := Lib.hid (bstep HB4.out hB5)
      have hs5 := hB5.size
      clear hc5_t hf5_t hc5_k hf5_k hb5 hB5
      go_wp2
      all_goals (go_ret; exact ⟨rfl, by first | exact HB5.out | exact bdrewN HB5.out _⟩)
  · have e0 : tvB bk fs = false := by simpa using htv
    obtain ⟨e1, e2, e3⟩ := fp_bad (bk := bk) (fs := fs) (s := s) (p := p) (by rw [e0]; rfl)
    rw [e1, e2, e3] at IF SF
    rw [e0] at TV
    clear e0 e1 e2 e3 htv
    go_wp2_with (fail)
    refine (IF.out _ _ _ _ _ _ _ (HF.out.below (by (repeat' (first | (with_reducible assumption) | (with_reducible exact Hid.out (by assumption)) | (with_reducible refine balloc ?_ _))))) ((HT1.out.alloc _).alloc _)).mono ?_
    rintro e w2 ⟨rfl, hb2⟩
    have hB2 : Below w1.heap.size w1 w2 := by (repeat' (first | with_reducible exact Below.refl _ _ | (with_reducible refine balloc ?_ _) | (with_reducible refine bset ?_ ?_ _) | (with_reducible refine bdrew ?_) | (with_reducible refine bdrewN ?_ _) | (with_reducible refine bstep ?_ (by with_reducible assumption)) | (with_reducible refine bgrow ?_ (by with_reducible assumption) (by omega)) | (simp; done) | (simp; omega)))
    obtain ⟨hc2_t, hf2_t, hz_t⟩ := bel_at hb2 (w1.heap.size) (by first | (simp; done) | (simp; omega))
    have v_t_0 : w2.cell? ⟨w1.heap.size, 0, none⟩ = some (.slice A1 bk.length c1) := by rw [hc2_t]; rw [oldc (by first | (simp; done) | (simp; omega))]; exact newc (by simp) _
    have v_t_1 : w2.cell? ⟨w1.heap.size, 1, none⟩ = some (.slice B1 fs.length d1) := by rw [hc2_t]; rw [oldc (by first | (simp; done) | (simp; omega))]; exact newc (by simp) _
    obtain ⟨hc2_k, hf2_k, hz_k⟩ := bel_at hb2 (w1.heap.size + 1) (by first | (simp; done) | (simp; omega))
    have v_k_0 : w2.cell? ⟨w1.heap.size + 1, 0, none⟩ = some (.int .i64 s) := by rw [hc2_k]; exact newc (by simp) _
    have v_k_1 : w2.cell? ⟨w1.heap.size + 1, 1, none⟩ = some (.int .i64 p) := by rw [hc2_k]; exact newc (by simp) _
    replace HT1 := Lib.hid (HT1.out.below hB2)
    have HB2 := Lib.hid (bstep HB1.out hB2)
    have hs2 := hB2.size
    clear hc2_t hf2_t hc2_k hf2_k hb2 hB2
    go_wp2_with (fail)
    refine (SF.out _ _ _ _ _ _ _ HT1.out).mono ?_
    rintro e w3 ⟨rfl, hb3⟩
    have hB3 : Below w2.heap.size w2 w3 := by (repeat' (first | with_reducible exact Below.refl _ _ | (with_reducible refine balloc ?_ _) | (with_reducible refine bset ?_ ?_ _) | (with_reducible refine bdrew ?_) | (with_reducible refine bdrewN ?_ _) | (with_reducible refine bstep ?_ (by with_reducible assumption)) | (with_reducible refine bgrow ?_ (by with_reducible assumption) (by omega)) | (simp; done) | (simp; omega)))
    obtain ⟨hc3_t, hf3_t, hz_t⟩ := bel_at hB3 (w1.heap.size) (by omega)
    replace v_t_0 := (hc3_t 0).trans v_t_0
    replace v_t_1 := (hc3_t 1).trans v_t_1
    obtain ⟨hc3_k, hf3_k, hz_k⟩ := bel_at hB3 (w1.heap.size + 1) (by omega)
    replace v_k_0 := (hc3_k 0).trans v_k_0
    replace v_k_1 := (hc3_k 1).trans v_k_1
    replace HT1 := Lib.hid (HT1.out.below hB3)
    have HB3 := Lib.hid (bstep HB2.out hB3)
    have hs3 := hB3.size
    clear hc3_t hf3_t hc3_k hf3_k hb3 hB3
    go_wp2_with (fail)
    refine (TV.out _ _ _ _ _ _ _ (HF.out.below (by (repeat' (first | (with_reducible assumption) | (with_reducible exact Hid.out (by assumption)) | (with_reducible refine balloc ?_ _))))) HT1.out).mono ?_
    rintro e w4 ⟨rfl, hb4⟩
    have hB4 : Below w3.heap.size w3 w4 := by (repeat' (first | with_reducible exact Below.refl _ _ | (with_reducible refine balloc ?_ _) | (with_reducible refine bset ?_ ?_ _) | (with_reducible refine bdrew ?_) | (with_reducible refine bdrewN ?_ _) | (with_reducible refine bstep ?_ (by with_reducible assumption)) | (with_reducible refine bgrow ?_ (by with_reducible assumption) (by omega)) | (simp; done) | (simp; omega)))
    obtain ⟨hc4_t, hf4_t, hz_t⟩ := bel_at hB4 (w1.heap.size) (by omega)
    replace v_t_0 := (hc4_t 0).trans v_t_0
    replace v_t_1 := (hc4_t 1).trans v_t_1
    obtain ⟨hc4_k, hf4_k, hz_k⟩ := bel_at hB4 (w1.heap.size + 1) (by omega)
    replace v_k_0 := (hc4_k 0).trans v_k_0
    replace v_k_1 := (hc4_k 1).trans v_k_1
    replace HT1 := Lib.hid (HT1.out.below hB4)
    have HB4 := Lib.hid (bstep HB3.out hB4)
    have hs4 := hB4.size
    clear hc4_t hf4_t hc4_k hf4_k hb4 hB4
    go_wp2
    all_goals (go_ret; exact ⟨rfl, by first | exact HB4.out | exact bdrewN HB4.out _⟩)
set_option maxHeartbeats 4000000 in
set_option maxRecDepth 100000 in
theorem law_FnFindPage (w : World) (ao : Option Addr) (len cap : Nat) (h : CodeIn w ao len cap) (hfree : FreeIn w) : Calls Tryd.prog 7 #[.slice ao len cap] w fun r w' => r = .returned (.bool true) ∧ Below w.heap.size w w' := by
  have HC := Lib.hid h
  have HF := Lib.hid hfree
  clear h hfree
  by_cases hl : 1048576 < len
  · go_enter Tryd.func7, Tryd.ntmps7
    go_wp2
    go_ret
    exact ⟨rfl, by (repeat' (first | with_reducible exact Below.refl _ _ | (with_reducible refine balloc ?_ _) | (with_reducible refine bset ?_ ?_ _) | (with_reducible refine bdrew ?_) | (with_reducible refine bdrewN ?_ _) | (with_reducible refine bstep ?_ (by with_reducible assumption)) | (with_reducible refine bgrow ?_ (by with_reducible assumption) (by omega)) | (simp; done) | (simp; omega)))⟩
  have hl' : len ≤ 1048576 := by omega
  clear hl
  go_enter Tryd.func7, Tryd.ntmps7
  go_wp2_with (fail)
  refine (spec_DrawFindPage _ _ _ _ HC.out).mono ?_
  rintro e w1 ⟨A1, c1, B1, d1, bk, fs, s, p, rfl, ⟨n1, n2⟩, n3, n4, n5, HT1, hb1⟩
  have hB1 : Below w.heap.size w w1 := by (repeat' (first | with_reducible exact Below.refl _ _ | (with_reducible refine balloc ?_ _) | (with_reducible refine bset ?_ ?_ _) | (with_reducible refine bdrew ?_) | (with_reducible refine bdrewN ?_ _) | (with_reducible refine bstep ?_ (by with_reducible assumption)) | (with_reducible refine bgrow ?_ (by with_reducible assumption) (by omega)) | (simp; done) | (simp; omega)))
  have HB1 := Lib.hid hB1
  have hs1 := hB1.size
  clear hb1 hB1
  have IF := Lib.hid (fun (A B : Option Addr) (ca cb lo hi : Nat) (w : World) (hf : FreeIn w) (h : Tb w lo hi A B bk fs) => impl_FindPage A B ca cb lo hi bk fs s p w hf h (by omega) (by omega))
  have SF := Lib.hid (fun (A B : Option Addr) (ca cb lo hi : Nat) (w : World) (h : Tb w lo hi A B bk fs) => spec_FindPage A B ca cb lo hi bk fs s p w h (by omega) (by omega))
  have TV := Lib.hid (fun (A B : Option Addr) (ca cb lo hi : Nat) (w : World) (hf : FreeIn w) (h : Tb w lo hi A B bk fs) => impl_TvA A B ca cb lo hi bk fs w hf h (by omega) (by omega))
  have KV := Lib.hid (fun (w : World) => impl_KeyValid_b s p w)
  by_cases htv : tvB bk fs = true
  · by_cases hkv : kvB s p = true
    · by_cases hok : fpOk bk fs s p = true
      · have HTV := Lib.hid htv
        have HKV := Lib.hid hkv
        obtain ⟨b, hb, b1, b2, b3⟩ := hk_facts htv hkv
        obtain ⟨g1, g2, g3⟩ := co_yes htv hb
        have hcl := chn_len g3
        obtain ⟨j, f, j1, j2, j3, j4, j5, j6, j7⟩ := fp_hit htv hkv hok
        rw [hok, j6, j7] at IF SF
        rw [b3] at j1 j2
        have hso := someB_all htv hkv (bk := bk) (fs := fs)
        rw [hok] at hso
        rw [htv] at TV
        rw [hkv] at KV
        have HK := Lib.hid (fun (w : World) => impl_HashKey s p bk.length w)
        rw [b1, b2] at HK
        have CO := Lib.hid (fun (A B : Option Addr) (ca cb lo hi : Nat) (w : World) (hf : FreeIn w) (h : Tb w lo hi A B bk fs) => impl_ChainOf A B ca cb lo hi bk fs b w hf h (by omega) (by omega))
        unfold SlB at CO
        rw [g1, g2] at CO
        have HSO := Lib.hid hso
        have hcl2 : (nats (chL fs (bk.getD b 0))).length = (chL fs (bk.getD b 0)).length := nats_len _
        rw [hcl2] at CO
        have hnj : (nats (chL fs (bk.getD b 0))).getD j 0 = (f : Int) := by rw [nats_getD, j2]
        have HNJ := Lib.hid hnj
        clear hnj j2 j6 j7
        have hcl3 : chL fs (bk.getD b 0) = chL fs (bk.getD b 0) := rfl
        have HCL : Hid ((nats (chL fs (bk.getD b 0))).length = (chL fs (bk.getD b 0)).length) := Lib.hid hcl2
        have hn8 : (chL fs (bk.getD b 0)).length ≤ fs.length := hcl
        clear hcl2 hcl3 hcl g1 g2 g3 b1 b2 b3 hso htv hkv hok
        generalize hC : chL fs (bk.getD b 0) = C at *
        clear hC
        have i1 : (0 : Int) ≤ (b : Int) := by omega
        go_wp2_with (fail)
        refine (IF.out _ _ _ _ _ _ _ (HF.out.below (by (repeat' (first | (with_reducible assumption) | (with_reducible exact Hid.out (by assumption)) | (with_reducible refine balloc ?_ _))))) ((HT1.out.alloc _).alloc _)).mono ?_
        rintro e w2 ⟨rfl, hb2⟩
        have hB2 : Below w1.heap.size w1 w2 := by (repeat' (first | with_reducible exact Below.refl _ _ | (with_reducible refine balloc ?_ _) | (with_reducible refine bset ?_ ?_ _) | (with_reducible refine bdrew ?_) | (with_reducible refine bdrewN ?_ _) | (with_reducible refine bstep ?_ (by with_reducible assumption)) | (with_reducible refine bgrow ?_ (by with_reducible assumption) (by omega)) | (simp; done) | (simp; omega)))
        obtain ⟨hc2_t, hf2_t, hz_t⟩ := bel_at hb2 (w1.heap.size) (by first | (simp; done) | (simp; omega))
        have v_t_0 : w2.cell? ⟨w1.heap.size, 0, none⟩ = some (.slice A1 bk.length c1) := by rw [hc2_t]; rw [oldc (by first | (simp; done) | (simp; omega))]; exact newc (by simp) _
        have v_t_1 : w2.cell? ⟨w1.heap.size, 1, none⟩ = some (.slice B1 fs.length d1) := by rw [hc2_t]; rw [oldc (by first | (simp; done) | (simp; omega))]; exact newc (by simp) _
        obtain ⟨hc2_k, hf2_k, hz_k⟩ := bel_at hb2 (w1.heap.size + 1) (by first | (simp; done) | (simp; omega))
        have v_k_0 : w2.cell? ⟨w1.heap.size + 1, 0, none⟩ = some (.int .i64 s) := by rw [hc2_k]; exact newc (by simp) _
        have v_k_1 : w2.cell? ⟨w1.heap.size + 1, 1, none⟩ = some (.int .i64 p) := by rw [hc2_k]; exact newc (by simp) _
        replace HT1 := Lib.hid (HT1.out.below hB2)
        have HB2 := Lib.hid (bstep HB1.out hB2)
        have hs2 := hB2.size
        clear hc2_t hf2_t hc2_k hf2_k hb2 hB2
        go_wp2_with (fail)
        refine (SF.out _ _ _ _ _ _ _ HT1.out).mono ?_
        rintro e w3 ⟨rfl, hb3⟩
        have hB3 : Below w2.heap.size w2 w3 := by (repeat' (first | with_reducible exact Below.refl _ _ | (with_reducible refine balloc ?_ _) | (with_reducible refine bset ?_ ?_ _) | (with_reducible refine bdrew ?_) | (with_reducible refine bdrewN ?_ _) | (with_reducible refine bstep ?_ (by with_reducible assumption)) | (with_reducible refine bgrow ?_ (by with_reducible assumption) (by omega)) | (simp; done) | (simp; omega)))
        obtain ⟨hc3_t, hf3_t, hz_t⟩ := bel_at hB3 (w1.heap.size) (by omega)
        replace v_t_0 := (hc3_t 0).trans v_t_0
        replace v_t_1 := (hc3_t 1).trans v_t_1
        obtain ⟨hc3_k, hf3_k, hz_k⟩ := bel_at hB3 (w1.heap.size + 1) (by omega)
        replace v_k_0 := (hc3_k 0).trans v_k_0
        replace v_k_1 := (hc3_k 1).trans v_k_1
        replace HT1 := Lib.hid (HT1.out.below hB3)
        have HB3 := Lib.hid (bstep HB2.out hB3)
        have hs3 := hB3.size
        clear hc3_t hf3_t hc3_k hf3_k hb3 hB3
        go_wp2_with (fail)
        refine (TV.out _ _ _ _ _ _ _ (HF.out.below (by (repeat' (first | (with_reducible assumption) | (with_reducible exact Hid.out (by assumption)) | (with_reducible refine balloc ?_ _))))) HT1.out).mono ?_
        rintro e w4 ⟨rfl, hb4⟩
        have hB4 : Below w3.heap.size w3 w4 := by (repeat' (first | with_reducible exact Below.refl _ _ | (with_reducible refine balloc ?_ _) | (with_reducible refine bset ?_ ?_ _) | (with_reducible refine bdrew ?_) | (with_reducible refine bdrewN ?_ _) | (with_reducible refine bstep ?_ (by with_reducible assumption)) | (with_reducible refine bgrow ?_ (by with_reducible assumption) (by omega)) | (simp; done) | (simp; omega)))
        obtain ⟨hc4_t, hf4_t, hz_t⟩ := bel_at hB4 (w1.heap.size) (by omega)
        replace v_t_0 := (hc4_t 0).trans v_t_0
        replace v_t_1 := (hc4_t 1).trans v_t_1
        obtain ⟨hc4_k, hf4_k, hz_k⟩ := bel_at hB4 (w1.heap.size + 1) (by omega)
        replace v_k_0 := (hc4_k 0).trans v_k_0
        replace v_k_1 := (hc4_k 1).trans v_k_1
        replace HT1 := Lib.hid (HT1.out.below hB4)
        have HB4 := Lib.hid (bstep HB3.out hB4)
        have hs4 := hB4.size
        clear hc4_t hf4_t hc4_k hf4_k hb4 hB4
        go_wp2_with (fail)
        refine (KV.out _).mono ?_
        rintro e w5 ⟨rfl, hb5⟩
        have hB5 : Below w4.heap.size w4 w5 := by (repeat' (first | with_reducible exact Below.refl _ _ | (with_reducible refine balloc ?_ _) | (with_reducible refine bset ?_ ?_ _) | (with_reducible refine bdrew ?_) | (with_reducible refine bdrewN ?_ _) | (with_reducible refine bstep ?_ (by with_reducible assumption)) | (with_reducible refine bgrow ?_ (by with_reducible assumption) (by omega)) | (simp; done) | (simp; omega)))
        obtain ⟨hc5_t, hf5_t, hz_t⟩ := bel_at hB5 (w1.heap.size) (by omega)
        replace v_t_0 := (hc5_t 0).trans v_t_0
        replace v_t_1 := (hc5_t 1).trans v_t_1
        obtain ⟨hc5_k, hf5_k, hz_k⟩ := bel_at hB5 (w1.heap.size + 1) (by omega)
        replace v_k_0 := (hc5_k 0).trans v_k_0
        replace v_k_1 := (hc5_k 1).trans v_k_1
        replace HT1 := Lib.hid (HT1.out.below hB5)
        have HB5 := Lib.hid (bstep HB4.out hB5)
        have hs5 := hB5.size
        clear hc5_t hf5_t hc5_k hf5_k hb5 hB5
        go_wp2_with (fail)
        go_loopw [11, 12] (fun v i wr => ∃ q : Nat, q ≤ fs.length ∧ i = .int .i64 q ∧ v = .bool (someB fs s p q) ∧ Below w5.heap.size w5 wr) (fun _ i _ => fs.length - (intOf i).toNat)
        case atStart => exact ⟨0, by omega, rfl, rfl, Below.refl _ _⟩
        case round =>
          obtain ⟨q, hq, rfl, rfl, hb6⟩ := hrel
          have HR := Lib.hid hb6
          have hB6 : Below w5.heap.size w5 wr := by (repeat' (first | with_reducible exact Below.refl _ _ | (with_reducible refine balloc ?_ _) | (with_reducible refine bset ?_ ?_ _) | (with_reducible refine bdrew ?_) | (with_reducible refine bdrewN ?_ _) | (with_reducible refine bstep ?_ (by with_reducible assumption)) | (with_reducible refine bgrow ?_ (by with_reducible assumption) (by omega)) | (simp; done) | (simp; omega)))
          obtain ⟨hc6_t, hf6_t, hz_t⟩ := bel_at hB6 (w1.heap.size) (by omega)
          replace v_t_0 := (hc6_t 0).trans v_t_0
          replace v_t_1 := (hc6_t 1).trans v_t_1
          obtain ⟨hc6_k, hf6_k, hz_k⟩ := bel_at hB6 (w1.heap.size + 1) (by omega)
          replace v_k_0 := (hc6_k 0).trans v_k_0
          replace v_k_1 := (hc6_k 1).trans v_k_1
          replace HT1 := Lib.hid (HT1.out.below hB6)
          have HB6 := Lib.hid (bstep HB5.out hB6)
          have hs6 := hB6.size
          clear hc6_t hf6_t hc6_k hf6_k hb6 hB6
          by_cases hlq : q < fs.length
          · obtain ⟨gf, rfl, _, _, hgf, ⟨k0, k1, k2, _, _⟩, _⟩ := HT1.out.2.frame hlq
            have HST := Lib.hid (someB_step fs s p q)
            generalize fat fs q = fq at *
            obtain ⟨uq, sq, pq, rq, nq'⟩ := fq
            simp only [] at k0 k1 k2
            have i2 : (0 : Int) ≤ (q : Int) := by omega
            have i3 : (q : Int) < (fs.length : Int) := by omega
            generalize hsm : someB fs s p q = sm at *
            cases sm with
            | true =>
              go_wp2_with (fail)
              go_quiet (fail)
              go_wp2
              all_goals
                go_roundw
                case rel => exact ⟨q + 1, by omega, by go_num, by rw [HST.out]; rfl, by have hr := HR.out; (repeat' (first | with_reducible exact Below.refl _ _ | (with_reducible refine balloc ?_ _) | (with_reducible refine bset ?_ ?_ _) | (with_reducible refine bdrew ?_) | (with_reducible refine bdrewN ?_ _) | (with_reducible refine bstep ?_ (by with_reducible assumption)) | (with_reducible refine bgrow ?_ (by with_reducible assumption) (by omega)) | (simp; done) | (simp; omega)))⟩
                case measure => simp [intOf]; omega
            | false =>
              cases uq with
              | false =>
                go_wp2_with (fail)
                go_quiet (fail)
                go_wp2
                all_goals
                  go_roundw
                  case rel => exact ⟨q + 1, by omega, by go_num, by rw [HST.out]; rfl, by have hr := HR.out; (repeat' (first | with_reducible exact Below.refl _ _ | (with_reducible refine balloc ?_ _) | (with_reducible refine bset ?_ ?_ _) | (with_reducible refine bdrew ?_) | (with_reducible refine bdrewN ?_ _) | (with_reducible refine bstep ?_ (by with_reducible assumption)) | (with_reducible refine bgrow ?_ (by with_reducible assumption) (by omega)) | (simp; done) | (simp; omega)))⟩
                  case measure => simp [intOf]; omega
              | true =>
                by_cases h1 : sq = s
                · subst h1
                  by_cases h2 : pq = p
                  · subst h2
                    go_wp2_with (fail)
                    go_quiet (fail)
                    go_wp2
                    all_goals
                      go_roundw
                      case rel => exact ⟨q + 1, by omega, by go_num, by rw [HST.out]; simp, by have hr := HR.out; (repeat' (first | with_reducible exact Below.refl _ _ | (with_reducible refine balloc ?_ _) | (with_reducible refine bset ?_ ?_ _) | (with_reducible refine bdrew ?_) | (with_reducible refine bdrewN ?_ _) | (with_reducible refine bstep ?_ (by with_reducible assumption)) | (with_reducible refine bgrow ?_ (by with_reducible assumption) (by omega)) | (simp; done) | (simp; omega)))⟩
                      case measure => simp [intOf]; omega
                  · have h2' : (pq == p) = false := by simpa using h2
                    go_wp2_with (fail)
                    go_quiet (fail)
                    go_wp2
                    all_goals
                      go_roundw
                      case rel => exact ⟨q + 1, by omega, by go_num, by rw [HST.out]; simp [h2], by have hr := HR.out; (repeat' (first | with_reducible exact Below.refl _ _ | (with_reducible refine balloc ?_ _) | (with_reducible refine bset ?_ ?_ _) | (with_reducible refine bdrew ?_) | (with_reducible refine bdrewN ?_ _) | (with_reducible refine bstep ?_ (by with_reducible assumption)) | (with_reducible refine bgrow ?_ (by with_reducible assumption) (by omega)) | (simp; done) | (simp; omega)))⟩
                      case measure => simp [intOf]; omega
                · have h1' : (sq == s) = false := by simpa using h1
                  go_wp2_with (fail)
                  go_quiet (fail)
                  go_wp2
                  all_goals
                    go_roundw
                    case rel => exact ⟨q + 1, by omega, by go_num, by rw [HST.out]; simp [h1], by have hr := HR.out; (repeat' (first | with_reducible exact Below.refl _ _ | (with_reducible refine balloc ?_ _) | (with_reducible refine bset ?_ ?_ _) | (with_reducible refine bdrew ?_) | (with_reducible refine bdrewN ?_ _) | (with_reducible refine bstep ?_ (by with_reducible assumption)) | (with_reducible refine bgrow ?_ (by with_reducible assumption) (by omega)) | (simp; done) | (simp; omega)))⟩
                    case measure => simp [intOf]; omega
          · obtain rfl : q = fs.length := by omega
            rw [HSO.out]
            have i2 : ¬ (fs.length : Int) < (fs.length : Int) := by omega
            go_wp2_with (fail)
            refine (HK.out _).mono ?_
            rintro e w7 ⟨rfl, hb7⟩
            have hB7 : Below wr.heap.size wr w7 := by (repeat' (first | with_reducible exact Below.refl _ _ | (with_reducible refine balloc ?_ _) | (with_reducible refine bset ?_ ?_ _) | (with_reducible refine bdrew ?_) | (with_reducible refine bdrewN ?_ _) | (with_reducible refine bstep ?_ (by with_reducible assumption)) | (with_reducible refine bgrow ?_ (by with_reducible assumption) (by omega)) | (simp; done) | (simp; omega)))
            obtain ⟨hc7_t, hf7_t, hz_t⟩ := bel_at hB7 (w1.heap.size) (by omega)
            replace v_t_0 := (hc7_t 0).trans v_t_0
            replace v_t_1 := (hc7_t 1).trans v_t_1
            obtain ⟨hc7_k, hf7_k, hz_k⟩ := bel_at hB7 (w1.heap.size + 1) (by omega)
            replace v_k_0 := (hc7_k 0).trans v_k_0
            replace v_k_1 := (hc7_k 1).trans v_k_1
            replace HT1 := Lib.hid (HT1.out.below hB7)
            have HB7 := Lib.hid (bstep HB6.out hB7)
            have hs7 := hB7.size
            clear hc7_t hf7_t hc7_k hf7_k hb7 hB7
            go_wp2_with (fail)
            refine (CO.out _ _ _ _ _ _ _ (HF.out.below (by (repeat' (first | (with_reducible assumption) | (with_reducible exact Hid.out (by assumption)) | (with_reducible refine balloc ?_ _))))) HT1.out).mono ?_
            rintro e w8 ⟨A8, c8, rfl, _, _, hsl8, hb8⟩
            have hB8 : Below w7.heap.size w7 w8 := by (repeat' (first | with_reducible exact Below.refl _ _ | (with_reducible refine balloc ?_ _) | (with_reducible refine bset ?_ ?_ _) | (with_reducible refine bdrew ?_) | (with_reducible refine bdrewN ?_ _) | (with_reducible refine bstep ?_ (by with_reducible assumption)) | (with_reducible refine bgrow ?_ (by with_reducible assumption) (by omega)) | (simp; done) | (simp; omega)))
            obtain ⟨hc8_t, hf8_t, hz_t⟩ := bel_at hB8 (w1.heap.size) (by omega)
            replace v_t_0 := (hc8_t 0).trans v_t_0
            replace v_t_1 := (hc8_t 1).trans v_t_1
            obtain ⟨hc8_k, hf8_k, hz_k⟩ := bel_at hB8 (w1.heap.size + 1) (by omega)
            replace v_k_0 := (hc8_k 0).trans v_k_0
            replace v_k_1 := (hc8_k 1).trans v_k_1
            replace HT1 := Lib.hid (HT1.out.below hB8)
            have HB8 := Lib.hid (bstep HB7.out hB8)
            have hs8 := hB8.size
            clear hc8_t hf8_t hc8_k hf8_k hb8 hB8
            obtain ⟨gf, rfl, _, _, hgf, ⟨_, k1, k2, _, _⟩, _⟩ := HT1.out.2.frame j3
            rw [j4] at k1
            rw [j5] at k2
            obtain ⟨g8, e8, _, _, hg8, f8, _⟩ := hsl8.int j1
            rw [HNJ.out] at f8
            subst e8
            have i5 : (0 : Int) ≤ (f : Int) := by omega
            have i6 : (f : Int) < (fs.length : Int) := by omega
            have i7 : (0 : Int) ≤ (j : Int) := by omega
            have i8 : (j : Int) < (C.length : Int) := by omega
            have i9 : (j : Int) + 1 ≤ (C.length : Int) := by omega
            have e5 : (j : Int) + 1 - 1 = (j : Int) := by omega
            have e6 : IntKind.i64.wrap (j : Int) = (j : Int) := IntWalk.i64_in _ (by omega)
            have e7 : IntKind.i64.wrap ((j : Int) + 1 - 1) = (j : Int) := by rw [e5]; exact e6
            clear hsl8
            go_wp2_with (fail)
            go_quiet (fail)
            go_wp2
            all_goals (go_ret; exact ⟨rfl, by first | exact HB8.out | exact bdrewN HB8.out _⟩)
      · have HTV := Lib.hid htv
        have HKV := Lib.hid hkv
        obtain ⟨b, hb, b1, b2, b3⟩ := hk_facts htv hkv
        obtain ⟨g1, g2, g3⟩ := co_yes htv hb
        have hcl := chn_len g3
        obtain ⟨e1, e2, e3⟩ := fp_miss htv hkv hok
        rw [e1, e2, e3] at IF SF
        rw [b3] at IF SF
        have hso := someB_all htv hkv (bk := bk) (fs := fs)
        rw [e1] at hso
        rw [htv] at TV
        rw [hkv] at KV
        have HK := Lib.hid (fun (w : World) => impl_HashKey s p bk.length w)
        rw [b1, b2] at HK
        have CO := Lib.hid (fun (A B : Option Addr) (ca cb lo hi : Nat) (w : World) (hf : FreeIn w) (h : Tb w lo hi A B bk fs) => impl_ChainOf A B ca cb lo hi bk fs b w hf h (by omega) (by omega))
        unfold SlB at CO
        rw [g1, g2] at CO
        have HSO := Lib.hid hso
        have hcl2 : (nats (chL fs (bk.getD b 0))).length = (chL fs (bk.getD b 0)).length := nats_len _
        rw [hcl2] at CO
        have hcl3 : chL fs (bk.getD b 0) = chL fs (bk.getD b 0) := rfl
        have HCL : Hid ((nats (chL fs (bk.getD b 0))).length = (chL fs (bk.getD b 0)).length) := Lib.hid hcl2
        have hn8 : (chL fs (bk.getD b 0)).length ≤ fs.length := hcl
        clear hcl2 hcl3 hcl g1 g2 g3 b1 b2 b3 hso htv hkv hok e1 e2 e3
        generalize hC : chL fs (bk.getD b 0) = C at *
        clear hC
        have i1 : (0 : Int) ≤ (b : Int) := by omega
        go_wp2_with (fail)
        refine (IF.out _ _ _ _ _ _ _ (HF.out.below (by (repeat' (first | (with_reducible assumption) | (with_reducible exact Hid.out (by assumption)) | (with_reducible refine balloc ?_ _))))) ((HT1.out.alloc _).alloc _)).mono ?_
        rintro e w2 ⟨rfl, hb2⟩
        have hB2 : Below w1.heap.size w1 w2 := by (repeat' (first | with_reducible exact Below.refl _ _ | (with_reducible refine balloc ?_ _) | (with_reducible refine bset ?_ ?_ _) | (with_reducible refine bdrew ?_) | (with_reducible refine bdrewN ?_ _) | (with_reducible refine bstep ?_ (by with_reducible assumption)) | (with_reducible refine bgrow ?_ (by with_reducible assumption) (by omega)) | (simp; done) | (simp; omega)))
        obtain ⟨hc2_t, hf2_t, hz_t⟩ := bel_at hb2 (w1.heap.size) (by first | (simp; done) | (simp; omega))
        have v_t_0 : w2.cell? ⟨w1.heap.size, 0, none⟩ = some (.slice A1 bk.length c1) := by rw [hc2_t]; rw [oldc (by first | (simp; done) | (simp; omega))]; exact newc (by simp) _
        have v_t_1 : w2.cell? ⟨w1.heap.size, 1, none⟩ = some (.slice B1 fs.length d1) := by rw [hc2_t]; rw [oldc (by first | (simp; done) | (simp; omega))]; exact newc (by simp) _
        obtain ⟨hc2_k, hf2_k, hz_k⟩ := bel_at hb2 (w1.heap.size + 1) (by first | (simp; done) | (simp; omega))
        have v_k_0 : w2.cell? ⟨w1.heap.size + 1, 0, none⟩ = some (.int .i64 s) := by rw [hc2_k]; exact newc (by simp) _
        have v_k_1 : w2.cell? ⟨w1.heap.size + 1, 1, none⟩ = some (.int .i64 p) := by rw [hc2_k]; exact newc (by simp) _
        replace HT1 := Lib.hid (HT1.out.below hB2)
        have HB2 := Lib.hid (bstep HB1.out hB2)
        have hs2 := hB2.size
        clear hc2_t hf2_t hc2_k hf2_k hb2 hB2
        go_wp2_with (fail)
        refine (SF.out _ _ _ _ _ _ _ HT1.out).mono ?_
        rintro e w3 ⟨rfl, hb3⟩
        have hB3 : Below w2.heap.size w2 w3 := by (repeat' (first | with_reducible exact Below.refl _ _ | (with_reducible refine balloc ?_ _) | (with_reducible refine bset ?_ ?_ _) | (with_reducible refine bdrew ?_) | (with_reducible refine bdrewN ?_ _) | (with_reducible refine bstep ?_ (by with_reducible assumption)) | (with_reducible refine bgrow ?_ (by with_reducible assumption) (by omega)) | (simp; done) | (simp; omega)))
        obtain ⟨hc3_t, hf3_t, hz_t⟩ := bel_at hB3 (w1.heap.size) (by omega)
        replace v_t_0 := (hc3_t 0).trans v_t_0
        replace v_t_1 := (hc3_t 1).trans v_t_1
        obtain ⟨hc3_k, hf3_k, hz_k⟩ := bel_at hB3 (w1.heap.size + 1) (by omega)
        replace v_k_0 := (hc3_k 0).trans v_k_0
        replace v_k_1 := (hc3_k 1).trans v_k_1
        replace HT1 := Lib.hid (HT1.out.below hB3)
        have HB3 := Lib.hid (bstep HB2.out hB3)
        have hs3 := hB3.size
        clear hc3_t hf3_t hc3_k hf3_k hb3 hB3
        go_wp2_with (fail)
        refine (TV.out _ _ _ _ _ _ _ (HF.out.below (by (repeat' (first | (with_reducible assumption) | (with_reducible exact Hid.out (by assumption)) | (with_reducible refine balloc ?_ _))))) HT1.out).mono ?_
        rintro e w4 ⟨rfl, hb4⟩
        have hB4 : Below w3.heap.size w3 w4 := by (repeat' (first | with_reducible exact Below.refl _ _ | (with_reducible refine balloc ?_ _) | (with_reducible refine bset ?_ ?_ _) | (with_reducible refine bdrew ?_) | (with_reducible refine bdrewN ?_ _) | (with_reducible refine bstep ?_ (by with_reducible assumption)) | (with_reducible refine bgrow ?_ (by with_reducible assumption) (by omega)) | (simp; done) | (simp; omega)))
        obtain ⟨hc4_t, hf4_t, hz_t⟩ := bel_at hB4 (w1.heap.size) (by omega)
        replace v_t_0 := (hc4_t 0).trans v_t_0
        replace v_t_1 := (hc4_t 1).trans v_t_1
        obtain ⟨hc4_k, hf4_k, hz_k⟩ := bel_at hB4 (w1.heap.size + 1) (by omega)
        replace v_k_0 := (hc4_k 0).trans v_k_0
        replace v_k_1 := (hc4_k 1).trans v_k_1
        replace HT1 := Lib.hid (HT1.out.below hB4)
        have HB4 := Lib.hid (bstep HB3.out hB4)
        have hs4 := hB4.size
        clear hc4_t hf4_t hc4_k hf4_k hb4 hB4
        go_wp2_with (fail)
        refine (KV.out _).mono ?_
        rintro e w5 ⟨rfl, hb5⟩
        have hB5 : Below w4.heap.size w4 w5 := by (repeat' (first | with_reducible exact Below.refl _ _ | (with_reducible refine balloc ?_ _) | (with_reducible refine bset ?_ ?_ _) | (with_reducible refine bdrew ?_) | (with_reducible refine bdrewN ?_ _) | (with_reducible refine bstep ?_ (by with_reducible assumption)) | (with_reducible refine bgrow ?_ (by with_reducible assumption) (by omega)) | (simp; done) | (simp; omega)))
        obtain ⟨hc5_t, hf5_t, hz_t⟩ := bel_at hB5 (w1.heap.size) (by omega)
        replace v_t_0 := (hc5_t 0).trans v_t_0
        replace v_t_1 := (hc5_t 1).trans v_t_1
        obtain ⟨hc5_k, hf5_k, hz_k⟩ := bel_at hB5 (w1.heap.size + 1) (by omega)
        replace v_k_0 := (hc5_k 0).trans v_k_0
        replace v_k_1 := (hc5_k 1).trans v_k_1
        replace HT1 := Lib.hid (HT1.out.below hB5)
        have HB5 := Lib.hid (bstep HB4.out hB5)
        have hs5 := hB5.size
        clear hc5_t hf5_t hc5_k hf5_k hb5 hB5
        go_wp2_with (fail)
        go_loopw [11, 12] (fun v i wr => ∃ q : Nat, q ≤ fs.length ∧ i = .int .i64 q ∧ v = .bool (someB fs s p q) ∧ Below w5.heap.size w5 wr) (fun _ i _ => fs.length - (intOf i).toNat)
        case atStart => exact ⟨0, by omega, rfl, rfl, Below.refl _ _⟩
        case round =>
          obtain ⟨q, hq, rfl, rfl, hb6⟩ := hrel
          have HR := Lib.hid hb6
          have hB6 : Below w5.heap.size w5 wr := by (repeat' (first | with_reducible exact Below.refl _ _ | (with_reducible refine balloc ?_ _) | (with_reducible refine bset ?_ ?_ _) | (with_reducible refine bdrew ?_) | (with_reducible refine bdrewN ?_ _) | (with_reducible refine bstep ?_ (by with_reducible assumption)) | (with_reducible refine bgrow ?_ (by with_reducible assumption) (by omega)) | (simp; done) | (simp; omega)))
          obtain ⟨hc6_t, hf6_t, hz_t⟩ := bel_at hB6 (w1.heap.size) (by omega)
          replace v_t_0 := (hc6_t 0).trans v_t_0
          replace v_t_1 := (hc6_t 1).trans v_t_1
          obtain ⟨hc6_k, hf6_k, hz_k⟩ := bel_at hB6 (w1.heap.size + 1) (by omega)
          replace v_k_0 := (hc6_k 0).trans v_k_0
          replace v_k_1 := (hc6_k 1).trans v_k_1
          replace HT1 := Lib.hid (HT1.out.below hB6)
          have HB6 := Lib.hid (bstep HB5.out hB6)
          have hs6 := hB6.size
          clear hc6_t hf6_t hc6_k hf6_k hb6 hB6
          by_cases hlq : q < fs.length
          · obtain ⟨gf, rfl, _, _, hgf, ⟨k0, k1, k2, _, _⟩, _⟩ := HT1.out.2.frame hlq
            have HST := Lib.hid (someB_step fs s p q)
            generalize fat fs q = fq at *
            obtain ⟨uq, sq, pq, rq, nq'⟩ := fq
            simp only [] at k0 k1 k2
            have i2 : (0 : Int) ≤ (q : Int) := by omega
            have i3 : (q : Int) < (fs.length : Int) := by omega
            generalize hsm : someB fs s p q = sm at *
            cases sm with
            | true =>
              go_wp2_with (fail)
              go_quiet (fail)
              go_wp2
              all_goals
                go_roundw
                case rel => exact ⟨q + 1, by omega, by go_num, by rw [HST.out]; rfl, by have hr := HR.out; (repeat' (first | with_reducible exact Below.refl _ _ | (with_reducible refine balloc ?_ _) | (with_reducible refine bset ?_ ?_ _) | (with_reducible refine bdrew ?_) | (with_reducible refine bdrewN ?_ _) | (with_reducible refine bstep ?_ (by with_reducible assumption)) | (with_reducible refine bgrow ?_ (by with_reducible assumption) (by omega)) | (simp; done) | (simp; omega)))⟩
                case measure => simp [intOf]; omega
            | false =>
              cases uq with
              | false =>
                go_wp2_with (fail)
                go_quiet (fail)
                go_wp2
                all_goals
                  go_roundw
                  case rel => exact ⟨q + 1, by omega, by go_num, by rw [HST.out]; rfl, by have hr := HR.out; (repeat' (first | with_reducible exact Below.refl _ _ | (with_reducible refine balloc ?_ _) | (with_reducible refine bset ?_ ?_ _) | (with_reducible refine bdrew ?_) | (with_reducible refine bdrewN ?_ _) | (with_reducible refine bstep ?_ (by with_reducible assumption)) | (with_reducible refine bgrow ?_ (by with_reducible assumption) (by omega)) | (simp; done) | (simp; omega)))⟩
                  case measure => simp [intOf]; omega
              | true =>
                by_cases h1 : sq = s
                · subst h1
                  by_cases h2 : pq = p
                  · subst h2
                    go_wp2_with (fail)
                    go_quiet (fail)
                    go_wp2
                    all_goals
                      go_roundw
                      case rel => exact ⟨q + 1, by omega, by go_num, by rw [HST.out]; simp, by have hr := HR.out; (repeat' (first | with_reducible exact Below.refl _ _ | (with_reducible refine balloc ?_ _) | (with_reducible refine bset ?_ ?_ _) | (with_reducible refine bdrew ?_) | (with_reducible refine bdrewN ?_ _) | (with_reducible refine bstep ?_ (by with_reducible assumption)) | (with_reducible refine bgrow ?_ (by with_reducible assumption) (by omega)) | (simp; done) | (simp; omega)))⟩
                      case measure => simp [intOf]; omega
                  · have h2' : (pq == p) = false := by simpa using h2
                    go_wp2_with (fail)
                    go_quiet (fail)
                    go_wp2
                    all_goals
                      go_roundw
                      case rel => exact ⟨q + 1, by omega, by go_num, by rw [HST.out]; simp [h2], by have hr := HR.out; (repeat' (first | with_reducible exact Below.refl _ _ | (with_reducible refine balloc ?_ _) | (with_reducible refine bset ?_ ?_ _) | (with_reducible refine bdrew ?_) | (with_reducible refine bdrewN ?_ _) | (with_reducible refine bstep ?_ (by with_reducible assumption)) | (with_reducible refine bgrow ?_ (by with_reducible assumption) (by omega)) | (simp; done) | (simp; omega)))⟩
                      case measure => simp [intOf]; omega
                · have h1' : (sq == s) = false := by simpa using h1
                  go_wp2_with (fail)
                  go_quiet (fail)
                  go_wp2
                  all_goals
                    go_roundw
                    case rel => exact ⟨q + 1, by omega, by go_num, by rw [HST.out]; simp [h1], by have hr := HR.out; (repeat' (first | with_reducible exact Below.refl _ _ | (with_reducible refine balloc ?_ _) | (with_reducible refine bset ?_ ?_ _) | (with_reducible refine bdrew ?_) | (with_reducible refine bdrewN ?_ _) | (with_reducible refine bstep ?_ (by with_reducible assumption)) | (with_reducible refine bgrow ?_ (by with_reducible assumption) (by omega)) | (simp; done) | (simp; omega)))⟩
                    case measure => simp [intOf]; omega
          · obtain rfl : q = fs.length := by omega
            rw [HSO.out]
            have i2 : ¬ (fs.length : Int) < (fs.length : Int) := by omega
            go_wp2_with (fail)
            refine (HK.out _).mono ?_
            rintro e w7 ⟨rfl, hb7⟩
            have hB7 : Below wr.heap.size wr w7 := by (repeat' (first | with_reducible exact Below.refl _ _ | (with_reducible refine balloc ?_ _) | (with_reducible refine bset ?_ ?_ _) | (with_reducible refine bdrew ?_) | (with_reducible refine bdrewN ?_ _) | (with_reducible refine bstep ?_ (by with_reducible assumption)) | (with_reducible refine bgrow ?_ (by with_reducible assumption) (by omega)) | (simp; done) | (simp; omega)))
            obtain ⟨hc7_t, hf7_t, hz_t⟩ := bel_at hB7 (w1.heap.size) (by omega)
            replace v_t_0 := (hc7_t 0).trans v_t_0
            replace v_t_1 := (hc7_t 1).trans v_t_1
            obtain ⟨hc7_k, hf7_k, hz_k⟩ := bel_at hB7 (w1.heap.size + 1) (by omega)
            replace v_k_0 := (hc7_k 0).trans v_k_0
            replace v_k_1 := (hc7_k 1).trans v_k_1
            replace HT1 := Lib.hid (HT1.out.below hB7)
            have HB7 := Lib.hid (bstep HB6.out hB7)
            have hs7 := hB7.size
            clear hc7_t hf7_t hc7_k hf7_k hb7 hB7
            go_wp2_with (fail)
            refine (CO.out _ _ _ _ _ _ _ (HF.out.below (by (repeat' (first | (with_reducible assumption) | (with_reducible exact Hid.out (by assumption)) | (with_reducible refine balloc ?_ _))))) HT1.out).mono ?_
            rintro e w8 ⟨A8, c8, rfl, _, _, hsl8, hb8⟩
            have hB8 : Below w7.heap.size w7 w8 := by (repeat' (first | with_reducible exact Below.refl _ _ | (with_reducible refine balloc ?_ _) | (with_reducible refine bset ?_ ?_ _) | (with_reducible refine bdrew ?_) | (with_reducible refine bdrewN ?_ _) | (with_reducible refine bstep ?_ (by with_reducible assumption)) | (with_reducible refine bgrow ?_ (by with_reducible assumption) (by omega)) | (simp; done) | (simp; omega)))
            obtain ⟨hc8_t, hf8_t, hz_t⟩ := bel_at hB8 (w1.heap.size) (by omega)
            replace v_t_0 := (hc8_t 0).trans v_t_0
            replace v_t_1 := (hc8_t 1).trans v_t_1
            obtain ⟨hc8_k, hf8_k, hz_k⟩ := bel_at hB8 (w1.heap.size + 1) (by omega)
            replace v_k_0 := (hc8_k 0).trans v_k_0
            replace v_k_1 := (hc8_k 1).trans v_k_1
            replace HT1 := Lib.hid (HT1.out.below hB8)
            have HB8 := Lib.hid (bstep HB7.out hB8)
            have hs8 := hB8.size
            clear hc8_t hf8_t hc8_k hf8_k hb8 hB8
            go_wp2_with (fail)
            go_quiet (fail)
            go_wp2
            all_goals (go_ret; exact ⟨rfl, by first | exact HB8.out | exact bdrewN HB8.out _⟩)
    · have e0 : kvB s p = false := by simpa using hkv
      obtain ⟨e1, e2, e3⟩ := fp_bad (bk := bk) (fs := fs) (s := s) (p := p) (by rw [e0, Bool.and_false])
      rw [e1, e2, e3] at IF SF
      rw [htv] at TV
      rw [e0] at KV
      clear e0 e1 e2 e3 htv hkv
      go_wp2_with (fail)
      refine (IF.out _ _ _ _ _ _ _ (HF.out.below (by (repeat' (first | (with_reducible assumption) | (with_reducible exact Hid.out (by assumption)) | (with_reducible refine balloc ?_ _))))) ((HT1.out.alloc _).alloc _)).mono ?_
      rintro e w2 ⟨rfl, hb2⟩
      have hB2 : Below w1.heap.size w1 w2 := by (repeat' (first | with_reducible exact Below.refl _ _ | (with_reducible refine balloc ?_ _) | (with_reducible refine bset ?_ ?_ _) | (with_reducible refine bdrew ?_) | (with_reducible refine bdrewN ?_ _) | (with_reducible refine bstep ?_ (by with_reducible assumption)) | (with_reducible refine bgrow ?_ (by with_reducible assumption) (by omega)) | (simp; done) | (simp; omega)))
      obtain ⟨hc2_t, hf2_t, hz_t⟩ := bel_at hb2 (w1.heap.size) (by first | (simp; done) | (simp; omega))
      have v_t_0 : w2.cell? ⟨w1.heap.size, 0, none⟩ = some (.slice A1 bk.length c1) := by rw [hc2_t]; rw [oldc (by first | (simp; done) | (simp; omega))]; exact newc (by simp) _
      have v_t_1 : w2.cell? ⟨w1.heap.size, 1, none⟩ = some (.slice B1 fs.length d1) := by rw [hc2_t]; rw [oldc (by first | (simp; done) | (simp; omega))]; exact newc (by simp) _
      obtain ⟨hc2_k, hf2_k, hz_k⟩ := bel_at hb2 (w1.heap.size + 1) (by first | (simp; done) | (simp; omega))
      have v_k_0 : w2.cell? ⟨w1.heap.size + 1, 0, none⟩ = some (.int .i64 s) := by rw [hc2_k]; exact newc (by simp) _
      have v_k_1 : w2.cell? ⟨w1.heap.size + 1, 1, none⟩ = some (.int .i64 p) := by rw [hc2_k]; exact newc (by simp) _
      replace HT1 := Lib.hid (HT1.out.below hB2)
      have HB2 := Lib.hid (bstep HB1.out hB2)
      have hs2 := hB2.size
      clear hc2_t hf2_t hc2_k hf2_k hb2 hB2
      go_wp2_with (fail)
      refine (SF.out _ _ _ _ _ _ _ HT1.out).mono ?_
      rintro e w3 ⟨rfl, hb3⟩
      have hB3 : Below w2.heap.size w2 w3 := by (repeat' (first | with_reducible exact Below.refl _ _ | (with_reducible refine balloc ?_ _) | (with_reducible refine bset ?_ ?_ _) | (with_reducible refine bdrew ?_) | (with_reducible refine bdrewN ?_ _) | (with_reducible refine bstep ?_ (by with_reducible assumption)) | (with_reducible refine bgrow ?_ (by with_reducible assumption) (by omega)) | (simp; done) | (simp; omega)))
      obtain ⟨hc3_t, hf3_t, hz_t⟩ := bel_at hB3 (w1.heap.size) (by omega)
      replace v_t_0 := (hc3_t 0).trans v_t_0
      replace v_t_1 := (hc3_t 1).trans v_t_1
      obtain ⟨hc3_k, hf3_k, hz_k⟩ := bel_at hB3 (w1.heap.size + 1) (by omega)
      replace v_k_0 := (hc3_k 0).trans v_k_0
      replace v_k_1 := (hc3_k 1).trans v_k_1
      replace HT1 := Lib.hid (HT1.out.below hB3)
      have HB3 := Lib.hid (bstep HB2.out hB3)
      have hs3 := hB3.size
      clear hc3_t hf3_t hc3_k hf3_k hb3 hB3
      go_wp2_with (fail)
      refine (TV.out _ _ _ _ _ _ _ (HF.out.below (by (repeat' (first | (with_reducible assumption) | (with_reducible exact Hid.out (by assumption)) | (with_reducible refine balloc ?_ _))))) HT1.out).mono ?_
      rintro e w4 ⟨rfl, hb4⟩
      have hB4 : Below w3.heap.size w3 w4 := by (repeat' (first | with_reducible exact Below.refl _ _ | (with_reducible refine balloc ?_ _) | (with_reducible refine bset ?_ ?_ _) | (with_reducible refine bdrew ?_) | (with_reducible refine bdrewN ?_ _) | (with_reducible refine bstep ?_ (by with_reducible assumption)) | (with_reducible refine bgrow ?_ (by with_reducible assumption) (by omega)) | (simp; done) | (simp; omega)))
      obtain ⟨hc4_t, hf4_t, hz_t⟩ := bel_at hB4 (w1.heap.size) (by omega)
      replace v_t_0 := (hc4_t 0).trans v_t_0
      replace v_t_1 := (hc4_t 1).trans v_t_1
      obtain ⟨hc4_k, hf4_k, hz_k⟩ := bel_at hB4 (w1.heap.size + 1) (by omega)
      replace v_k_0 := (hc4_k 0).trans v_k_0
      replace v_k_1 := (hc4_k 1).trans v_k_1
      replace HT1 := Lib.hid (HT1.out.below hB4)
      have HB4 := Lib.hid (bstep HB3.out hB4)
      have hs4 := hB4.size
      clear hc4_t hf4_t hc4_k hf4_k hb4 hB4
      go_wp2_with (fail)
      refine (KV.out _).mono ?_
      rintro e w5 ⟨rfl, hb5⟩
      have hB5 : Below w4.heap.size w4 w5 := by (repeat' (first | with_reducible exact Below.refl _ _ | (with_reducible refine balloc ?_ _) | (with_reducible refine bset ?_ ?_ _) | (with_reducible refine bdrew ?_) | (with_reducible refine bdrewN ?_ _) | (with_reducible refine bstep ?_ (by with_reducible assumption)) | (with_reducible refine bgrow ?_ (by with_reducible assumption) (by omega)) | (simp; done) | (simp; omega)))
      obtain ⟨hc5_t, hf5_t, hz_t⟩ := bel_at hB5 (w1.heap.size) (by omega)
      replace v_t_0 := (hc5_t 0).trans v_t_0
      replace v_t_1 := (hc5_t 1).trans v_t_1
      obtain ⟨hc5_k, hf5_k, hz_k⟩ := bel_at hB5 (w1.heap.size + 1) (by omega)
      replace v_k_0 := (hc5_k 0).trans v_k_0
      replace v_k_1 := (hc5_k 1).trans v_k_1
      replace HT1 := Lib.hid (HT1.out.below hB5)
      have HB5 := Lib.hid (bstep HB4.out hB5)
      have hs5 := hB5.size
      clear hc5_t hf5_t hc5_k hf5_k hb5 hB5
      go_wp2
      all_goals (go_ret; exact ⟨rfl, by first | exact HB5.out | exact bdrewN HB5.out _⟩)
  · have e0 : tvB bk fs = false := by simpa using htv
    obtain ⟨e1, e2, e3⟩ := fp_bad (bk := bk) (fs := fs) (s := s) (p := p) (by rw [e0]; rfl)
    rw [e1, e2, e3] at IF SF
    rw [e0] at TV
    clear e0 e1 e2 e3 htv
    go_wp2_with (fail)
    refine (IF.out _ _ _ _ _ _ _ (HF.out.below (by (repeat' (first | (with_reducible assumption) | (with_reducible exact Hid.out (by assumption)) | (with_reducible refine balloc ?_ _))))) ((HT1.out.alloc _).alloc _)).mono ?_
    rintro e w2 ⟨rfl, hb2⟩
    have hB2 : Below w1.heap.size w1 w2 := by (repeat' (first | with_reducible exact Below.refl _ _ | (with_reducible refine balloc ?_ _) | (with_reducible refine bset ?_ ?_ _) | (with_reducible refine bdrew ?_) | (with_reducible refine bdrewN ?_ _) | (with_reducible refine bstep ?_ (by with_reducible assumption)) | (with_reducible refine bgrow ?_ (by with_reducible assumption) (by omega)) | (simp; done) | (simp; omega)))
    obtain ⟨hc2_t, hf2_t, hz_t⟩ := bel_at hb2 (w1.heap.size) (by first | (simp; done) | (simp; omega))
    have v_t_0 : w2.cell? ⟨w1.heap.size, 0, none⟩ = some (.slice A1 bk.length c1) := by rw [hc2_t]; rw [oldc (by first | (simp; done) | (simp; omega))]; exact newc (by simp) _
    have v_t_1 : w2.cell? ⟨w1.heap.size, 1, none⟩ = some (.slice B1 fs.length d1) := by rw [hc2_t]; rw [oldc (by first | (simp; done) | (simp; omega))]; exact newc (by simp) _
    obtain ⟨hc2_k, hf2_k, hz_k⟩ := bel_at hb2 (w1.heap.size + 1) (by first | (simp; done) | (simp; omega))
    have v_k_0 : w2.cell? ⟨w1.heap.size + 1, 0, none⟩ = some (.int .i64 s) := by rw [hc2_k]; exact newc (by simp) _
    have v_k_1 : w2.cell? ⟨w1.heap.size + 1, 1, none⟩ = some (.int .i64 p) := by rw [hc2_k]; exact newc (by simp) _
    replace HT1 := Lib.hid (HT1.out.below hB2)
    have HB2 := Lib.hid (bstep HB1.out hB2)
    have hs2 := hB2.size
    clear hc2_t hf2_t hc2_k hf2_k hb2 hB2
    go_wp2_with (fail)
    refine (SF.out _ _ _ _ _ _ _ HT1.out).mono ?_
    rintro e w3 ⟨rfl, hb3⟩
    have hB3 : Below w2.heap.size w2 w3 := by (repeat' (first | with_reducible exact Below.refl _ _ | (with_reducible refine balloc ?_ _) | (with_reducible refine bset ?_ ?_ _) | (with_reducible refine bdrew ?_) | (with_reducible refine bdrewN ?_ _) | (with_reducible refine bstep ?_ (by with_reducible assumption)) | (with_reducible refine bgrow ?_ (by with_reducible assumption) (by omega)) | (simp; done) | (simp; omega)))
    obtain ⟨hc3_t, hf3_t, hz_t⟩ := bel_at hB3 (w1.heap.size) (by omega)
    replace v_t_0 := (hc3_t 0).trans v_t_0
    replace v_t_1 := (hc3_t 1).trans v_t_1
    obtain ⟨hc3_k, hf3_k, hz_k⟩ := bel_at hB3 (w1.heap.size + 1) (by omega)
    replace v_k_0 := (hc3_k 0).trans v_k_0
    replace v_k_1 := (hc3_k 1).trans v_k_1
    replace HT1 := Lib.hid (HT1.out.below hB3)
    have HB3 := Lib.hid (bstep HB2.out hB3)
    have hs3 := hB3.size
    clear hc3_t hf3_t hc3_k hf3_k hb3 hB3
    go_wp2_with (fail)
    refine (TV.out _ _ _ _ _ _ _ (HF.out.below (by (repeat' (first | (with_reducible assumption) | (with_reducible exact Hid.out (by assumption)) | (with_reducible refine balloc ?_ _))))) HT1.out).mono ?_
    rintro e w4 ⟨rfl, hb4⟩
    have hB4 : Below w3.heap.size w3 w4 := by (repeat' (first | with_reducible exact Below.refl _ _ | (with_reducible refine balloc ?_ _) | (with_reducible refine bset ?_ ?_ _) | (with_reducible refine bdrew ?_) | (with_reducible refine bdrewN ?_ _) | (with_reducible refine bstep ?_ (by with_reducible assumption)) | (with_reducible refine bgrow ?_ (by with_reducible assumption) (by omega)) | (simp; done) | (simp; omega)))
    obtain ⟨hc4_t, hf4_t, hz_t⟩ := bel_at hB4 (w1.heap.size) (by omega)
    replace v_t_0 := (hc4_t 0).trans v_t_0
    replace v_t_1 := (hc4_t 1).trans v_t_1
    obtain ⟨hc4_k, hf4_k, hz_k⟩ := bel_at hB4 (w1.heap.size + 1) (by omega)
    replace v_k_0 := (hc4_k 0).trans v_k_0
    replace v_k_1 := (hc4_k 1).trans v_k_1
    replace HT1 := Lib.hid (HT1.out.below hB4)
    have HB4 := Lib.hid (bstep HB3.out hB4)
    have hs4 := hB4.size
    clear hc4_t hf4_t hc4_k hf4_k hb4 hB4
    go_wp2
    all_goals (go_ret; exact ⟨rfl, by first | exact HB4.out | exact bdrewN HB4.out _⟩)
end Go.Proofs.YtnbfmnchihckaaaDoor
