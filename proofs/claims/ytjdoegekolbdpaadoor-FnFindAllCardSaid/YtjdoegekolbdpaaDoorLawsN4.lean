/- Walk of the law FnFindAll: it returns true where the variable 'free' holds what its initialiser lays. No other conditions. -/
import Derived.Test.YtjdoegekolbdpaaDoorDrL
import Derived.Test.YtjdoegekolbdpaaDoorIpK
import Derived.Test.YtjdoegekolbdpaaDoorKoI
import Derived.Test.YtjdoegekolbdpaaDoorLawP
import Derived.Test.YtjdoegekolbdpaaDoorFind3
import Derived.Test.YtjdoegekolbdpaaDoorDoor
import Derived.BigQuiet
import Derived.OwnWalk
namespace Go.Proofs.YtjdoegekolbdpaaDoor
set_option linter.unusedVariables false
open Go.ChangeShapes Go.WideShapes Go.ChangeAt Go.RowKit
/-- frames whose key is among the first i keys -/
def seenL (fs : List Fr) (ks : List (Int × Int)) (i : Nat) : List Bool := (List.range fs.length).map fun j => (fat fs j).u && decide (fkey (fat fs j) ∈ ks.take i)
theorem seenL_len (fs : List Fr) (ks : List (Int × Int)) (i : Nat) : (seenL fs ks i).length = fs.length := by simp [seenL]
theorem seenL_at (fs : List Fr) (ks : List (Int × Int)) (i j : Nat) (hj : j < fs.length) : (seenL fs ks i).getD j false = ((fat fs j).u && decide (fkey (fat fs j) ∈ ks.take i)) := by
  simp [seenL, List.getD_eq_getElem?_getD, hj]
theorem seenL_start (fs : List Fr) (ks : List (Int × Int)) : seenL fs ks 0 = List.replicate fs.length false := by
  apply List.ext_getElem
  · simp [seenL]
  · intro i h1 h2; simp [seenL]
theorem take_kat {ks : List (Int × Int)} {i : Nat} (h : i < ks.length) : ks.take (i + 1) = ks.take i ++ [kat ks i] := by
  rw [List.take_succ_eq_append_getElem h]; simp [kat, List.getD_eq_getElem?_getD, h]
theorem fa_step {bk : List Int} {fs : List Fr} (h : tvB bk fs = true) {i : Nat} (hi : i < (ksOf bk fs).length) {s p : Int} (hk : kat (ksOf bk fs) i = (s, p)) :
    ∃ (f : Nat) (j : Nat), fpOk bk fs s p = true ∧ fpF bk fs s p = (f : Int) ∧ fpS bk fs s p = (j : Int) + 1 ∧ j ≤ fs.length ∧ f < fs.length ∧ (fat fs f).s = s ∧ (fat fs f).p = p ∧ (seenL fs (ksOf bk fs) i).getD f false = false ∧ (seenL fs (ksOf bk fs) i).set f true = seenL fs (ksOf bk fs) (i + 1) := by
  obtain ⟨hv, hf⟩ := ks_found h hi
  rw [hk] at hv hf
  have hkp : kpos fs s p (kch bk fs s p) < (kch bk fs s p).length := by
    unfold fpOk at hf
    rw [h, hv] at hf
    simpa using hf
  obtain ⟨_, e2, e3⟩ := fp_yes h hv rfl hkp
  have hkey := kpos_at hkp
  have hmem : (kch bk fs s p).getD (kpos fs s p (kch bk fs s p)) 0 ∈ kch bk fs s p := by
    rw [List.getD_eq_getElem?_getD, List.getElem?_eq_getElem hkp]
    exact List.getElem_mem hkp
  obtain ⟨m1, m2⟩ := chL_mem h hmem
  generalize (kch bk fs s p).getD (kpos fs s p (kch bk fs s p)) 0 = f at *
  have hkey' := hkey
  unfold fkey at hkey'
  simp only [Prod.mk.injEq] at hkey'
  have hnd := ks_nodup h
  have hnot : (s, p) ∉ (ksOf bk fs).take i := by
    rw [← hk]
    have h1 : ((ksOf bk fs).take (i + 1)).Nodup := hnd.sublist (List.take_sublist _ _)
    rw [take_kat hi, List.nodup_append] at h1
    exact fun hm => h1.2.2 _ hm _ (by simp) rfl
  refine ⟨f, kpos fs s p (kch bk fs s p), hf, e2, e3, ?_, m1, hkey'.1, hkey'.2, ?_, ?_⟩
  · have h1 : (kch bk fs s p).length ≤ fs.length := by
      obtain ⟨⟨_, _⟩, d1, d2⟩ := dimB_iff.1 (tvB_iff.1 h).1
      have := @hashN_range s p (bk.length : Int) (by omega)
      exact chn_len (tv_chn h (b := (hashN s p bk.length).toNat) (by omega)).1
    omega
  · rw [seenL_at _ _ _ _ m1, hkey]
    simp [hnot]
  · apply List.ext_getElem?
    intro j
    rw [List.getElem?_set]
    by_cases hj : j < fs.length
    · have g1 : ∀ i, (seenL fs (ksOf bk fs) i)[j]? = some ((fat fs j).u && decide (fkey (fat fs j) ∈ (ksOf bk fs).take i)) := fun i => by simp [seenL, hj]
      rw [g1, g1]
      by_cases hfj : f = j
      · subst hfj
        rw [if_pos rfl, if_pos (by rw [seenL_len]; exact m1), m2, hkey, take_kat hi, hk]
        simp
      · rw [if_neg hfj, take_kat hi, hk]
        rcases hu : (fat fs j).u with _ | _
        · simp
        · have : fkey (fat fs j) ≠ (s, p) := fun e => hfj (key_once h m1 hj m2 hu (hkey.trans e.symm))
          simp [this]
    · rw [List.getElem?_eq_none (by rw [seenL_len]; omega), List.getElem?_eq_none (by rw [seenL_len]; omega)]
      rw [if_neg (by omega)]
theorem seenL_end {bk : List Int} {fs : List Fr} (h : tvB bk fs = true) (j : Nat) (hj : j < fs.length) : (seenL fs (ksOf bk fs) (ksOf bk fs).length).getD j false = (fat fs j).u := by
  rw [seenL_at _ _ _ _ hj, List.take_length]
  rcases hu : (fat fs j).u with _ | _
  · rfl
  · simpa using (ks_mem h).2 ⟨j, hj, hu, rfl⟩
theorem impl_FpY (A B : Option Addr) (ca cb lo hi : Nat) (bk : List Int) (fs : List Fr) (s p : Int) (w : World) (hf : FreeIn w) (h : Tb w lo hi A B bk fs) (hn : bk.length ≤ 1048576) (hn2 : fs.length ≤ 1048576) (hk : fpOk bk fs s p = true) :
    Calls Tryd.prog 26 #[.agg #[.slice A bk.length ca, .slice B fs.length cb], .agg #[.int .i64 s, .int .i64 p]] w fun e w' => e = .returned (.tuple #[.int .i64 (fpF bk fs s p), .int .i64 (fpS bk fs s p), .bool true]) ∧ Below w.heap.size w w' := by
  have h := impl_FindPage A B ca cb lo hi bk fs s p w hf h hn hn2
  rw [hk] at h
  exact h
def bcells (bs : List Bool) : List Value := bs.map Value.bool
theorem bcells_set (bs : List Bool) (j : Nat) (b : Bool) : (bcells bs).set j (.bool b) = bcells (bs.set j b) := by simp [bcells, List.map_set]
theorem bool_info : (Tryd.prog.info? 4).map (fun i => (i.zero, i.size, i.bytes)) = some (some (.bool false), 1, 1) := by kernel_rfl
theorem bools_made (n : Nat) : (madeCells #[.bool false] (n * 1)).toList = bcells (List.replicate n false) := by
  have h := made_flat #[.bool false] n
  simp only [List.size_toArray, List.length_cons, List.length_nil] at h
  rw [h]
  induction n with
  | zero => rfl
  | succ n ih => simp [List.replicate_succ, bcells] at ih ⊢
theorem Sl.bool {w : World} {lo hi n : Nat} {e : TypeId} {A : Option Addr} {bs : List Bool} (h : Sl w lo hi e 1 A n (bcells bs)) {k : Nat} (hk : k < n) :
    ∃ g, A = some ⟨g, 0, none⟩ ∧ lo ≤ g ∧ g < hi ∧ g < w.heap.size ∧ w.cell? ⟨g, k, none⟩ = some (.bool (bs.getD k false)) ∧ w.frozen? ⟨g, k, none⟩ = false := by
  obtain ⟨g, h1, h2, h3, h4, h5, h6⟩ := h.at_ (k := k) (by omega) (by omega)
  refine ⟨g, h1, h2, h3, h4, ?_, h6⟩
  have hl : k < bs.length := by have := h.1; simp [bcells] at this; omega
  rw [h5]; simp [bcells, List.getD_eq_getElem?_getD, List.getElem?_eq_getElem hl]
theorem gb_row {w w1 : World} {g : Nat} (h : w.grownBy w1 (some g)) (j : Nat) (u : Value) : w.grownBy (w1.setCell ⟨g, j, none⟩ u) (some g) :=
  ⟨h.os, h.tape, h.output, by simpa using h.size, fun k hk hr => (Below.heap_setCell _ _ _ _ (fun e => hr (by rw [e]))).trans (h.block k hk hr)⟩
theorem Sl.grownR {w w' : World} {lo hi n size g : Nat} {e : TypeId} {A : Option Addr} {xs : List Value} (h : Sl w lo hi e size A n xs) (hg : w.grownBy w' (some g)) (hr : hi ≤ g) : Sl w' lo hi e size A n xs :=
  h.keep fun k h1 h2 h3 => hg.block k h3 (fun e => by injection e; omega)
set_option maxHeartbeats 4000000 in
set_option maxRecDepth 100000 in
theorem law_FnFindAll (w : World) (ao : Option Addr) (len cap : Nat) (h : CodeIn w ao len cap) (hfree : FreeIn w) : Calls Tryd.prog 6 #[.slice ao len cap] w fun r w' => r = .returned (.bool true) ∧ Below w.heap.size w w' := by
  have HC := Lib.hid h
  have HF := Lib.hid hfree
  clear h hfree
  by_cases hl : 1048576 < len
  · go_enter Tryd.func6, Tryd.ntmps6
    go_wp2
    go_ret
    exact ⟨rfl, by (repeat' (first | with_reducible exact Below.refl _ _ | (with_reducible refine balloc ?_ _) | (with_reducible refine bset ?_ ?_ _) | (with_reducible refine bdrew ?_) | (with_reducible refine bdrewN ?_ _) | (with_reducible refine bstep ?_ (by with_reducible assumption)) | (with_reducible refine bgrow ?_ (by with_reducible assumption) (by omega)) | (simp; done) | (simp; omega)))⟩
  have hl' : len ≤ 1048576 := by omega
  clear hl
  go_enter Tryd.func6, Tryd.ntmps6
  go_wp2_with (fail)
  refine (spec_DrawKeysOf _ _ _ _ HC.out).mono ?_
  rintro e w1 ⟨A1, c1, B1, d1, bk, fs, rfl, ⟨n1, n2⟩, n3, n4, n5, HT1, hb1⟩
  have hB1 : Below w.heap.size w w1 := by (repeat' (first | with_reducible exact Below.refl _ _ | (with_reducible refine balloc ?_ _) | (with_reducible refine bset ?_ ?_ _) | (with_reducible refine bdrew ?_) | (with_reducible refine bdrewN ?_ _) | (with_reducible refine bstep ?_ (by with_reducible assumption)) | (with_reducible refine bgrow ?_ (by with_reducible assumption) (by omega)) | (simp; done) | (simp; omega)))
  have HB1 := Lib.hid hB1
  have hs1 := hB1.size
  clear hb1 hB1
  have TV := Lib.hid (fun (A B : Option Addr) (ca cb lo hi : Nat) (w : World) (hf : FreeIn w) (h : Tb w lo hi A B bk fs) => impl_TvA A B ca cb lo hi bk fs w hf h (by omega) (by omega))
  have IK := Lib.hid (fun (A B : Option Addr) (ca cb lo hi : Nat) (w : World) (hf : FreeIn w) (h : Tb w lo hi A B bk fs) => impl_KeysOf A B ca cb lo hi bk fs w hf h (by omega) (by omega))
  have SK := Lib.hid (fun (A B : Option Addr) (ca cb lo hi : Nat) (w : World) (h : Tb w lo hi A B bk fs) => spec_KeysOf A B ca cb lo hi bk fs w h (by omega) (by omega))
  have hkl := ksOf_len bk fs
  by_cases htv : tvB bk fs = true
  · have FS := Lib.hid (fun i (hi : i < (ksOf bk fs).length) (s p : Int) (hk : kat (ksOf bk fs) i = (s, p)) => fa_step htv hi hk)
    have SE := Lib.hid (fun j (hj : j < fs.length) => seenL_end htv j hj)
    have h0 := seenL_start fs (ksOf bk fs)
    have hf1 := (dimB_iff.1 (tvB_iff.1 htv).1).1.1
    rw [htv] at TV
    unfold KsP at IK SK
    have FP := Lib.hid (fun (s p : Int) (f j : Nat) (hk : fpOk bk fs s p = true) (e1 : fpF bk fs s p = (f : Int)) (e2 : fpS bk fs s p = (j : Int) + 1) (A B : Option Addr) (ca cb lo hi : Nat) (w : World) (hf : FreeIn w) (h : Tb w lo hi A B bk fs) => by
      have h := impl_FpY A B ca cb lo hi bk fs s p w hf h (by omega) (by omega) hk
      rw [e1, e2] at h
      exact h)
    generalize ksOf bk fs = ks at *
    obtain ⟨ib, hib, hz0, hz1, hz2⟩ := info_parts bool_info
    clear htv
    go_wp2_with (fail)
    refine (IK.out _ _ _ _ _ _ _ (HF.out.below (by (repeat' (first | (with_reducible assumption) | (with_reducible exact Hid.out (by assumption)) | (with_reducible refine balloc ?_ _))))) (HT1.out.alloc _)).mono ?_
    rintro e w2 ⟨A3, c3, rfl, ⟨q1, q2⟩, HS3, hb2⟩
    have hB2 : Below w1.heap.size w1 w2 := by (repeat' (first | with_reducible exact Below.refl _ _ | (with_reducible refine balloc ?_ _) | (with_reducible refine bset ?_ ?_ _) | (with_reducible refine bdrew ?_) | (with_reducible refine bdrewN ?_ _) | (with_reducible refine bstep ?_ (by with_reducible assumption)) | (with_reducible refine bgrow ?_ (by with_reducible assumption) (by omega)) | (simp; done) | (simp; omega)))
    obtain ⟨hc2_t, hf2_t, hz_t⟩ := bel_at hb2 (w1.heap.size) (by first | (simp; done) | (simp; omega))
    have v_t_0 : w2.cell? ⟨w1.heap.size, 0, none⟩ = some (.slice A1 bk.length c1) := by rw [hc2_t]; exact newc (by simp) _
    have v_t_1 : w2.cell? ⟨w1.heap.size, 1, none⟩ = some (.slice B1 fs.length d1) := by rw [hc2_t]; exact newc (by simp) _
    replace HT1 := Lib.hid (HT1.out.below hB2)
    have HB2 := Lib.hid (bstep HB1.out hB2)
    have hs2 := hB2.size
    clear hc2_t hf2_t hb2 hB2
    go_wp2_with (fail)
    refine (SK.out _ _ _ _ _ _ _ HT1.out).mono ?_
    rintro e w3 ⟨A5, c5, rfl, ⟨_, _⟩, HS5, hb3⟩
    have hB3 : Below w2.heap.size w2 w3 := by (repeat' (first | with_reducible exact Below.refl _ _ | (with_reducible refine balloc ?_ _) | (with_reducible refine bset ?_ ?_ _) | (with_reducible refine bdrew ?_) | (with_reducible refine bdrewN ?_ _) | (with_reducible refine bstep ?_ (by with_reducible assumption)) | (with_reducible refine bgrow ?_ (by with_reducible assumption) (by omega)) | (simp; done) | (simp; omega)))
    obtain ⟨hc3_t, hf3_t, hz_t⟩ := bel_at hB3 (w1.heap.size) (by omega)
    replace v_t_0 := (hc3_t 0).trans v_t_0
    replace v_t_1 := (hc3_t 1).trans v_t_1
    replace HT1 := Lib.hid (HT1.out.below hB3)
    replace HS3 := Lib.hid (HS3.out.below hB3)
    have HB3 := Lib.hid (bstep HB2.out hB3)
    have hs3 := hB3.size
    clear hc3_t hf3_t hb3 hB3
    go_wp2_with (fail)
    refine (laws_ipKeys _ _ _ _ _ _ _ _ _ _ _ HS3.out HS5.out (by omega)).mono ?_
    rintro e w4 ⟨rfl, hb4⟩
    have hB4 : Below w3.heap.size w3 w4 := by (repeat' (first | with_reducible exact Below.refl _ _ | (with_reducible refine balloc ?_ _) | (with_reducible refine bset ?_ ?_ _) | (with_reducible refine bdrew ?_) | (with_reducible refine bdrewN ?_ _) | (with_reducible refine bstep ?_ (by with_reducible assumption)) | (with_reducible refine bgrow ?_ (by with_reducible assumption) (by omega)) | (simp; done) | (simp; omega)))
    obtain ⟨hc4_t, hf4_t, hz_t⟩ := bel_at hB4 (w1.heap.size) (by omega)
    replace v_t_0 := (hc4_t 0).trans v_t_0
    replace v_t_1 := (hc4_t 1).trans v_t_1
    replace HT1 := Lib.hid (HT1.out.below hB4)
    replace HS3 := Lib.hid (HS3.out.below hB4)
    replace HS5 := Lib.hid (HS5.out.below hB4)
    have HB4 := Lib.hid (bstep HB3.out hB4)
    have hs4 := hB4.size
    clear hc4_t hf4_t hb4 hB4
    go_wp2_with (fail)
    refine (TV.out _ _ _ _ _ _ _ (HF.out.below (by (repeat' (first | (with_reducible assumption) | (with_reducible exact Hid.out (by assumption)) | (with_reducible refine balloc ?_ _))))) HT1.out).mono ?_
    rintro e w5 ⟨rfl, hb5⟩
    have hB5 : Below w4.heap.size w4 w5 := by (repeat' (first | with_reducible exact Below.refl _ _ | (with_reducible refine balloc ?_ _) | (with_reducible refine bset ?_ ?_ _) | (with_reducible refine bdrew ?_) | (with_reducible refine bdrewN ?_ _) | (with_reducible refine bstep ?_ (by with_reducible assumption)) | (with_reducible refine bgrow ?_ (by with_reducible assumption) (by omega)) | (simp; done) | (simp; omega)))
    obtain ⟨hc5_t, hf5_t, hz_t⟩ := bel_at hB5 (w1.heap.size) (by omega)
    replace v_t_0 := (hc5_t 0).trans v_t_0
    replace v_t_1 := (hc5_t 1).trans v_t_1
    replace HT1 := Lib.hid (HT1.out.below hB5)
    replace HS3 := Lib.hid (HS3.out.below hB5)
    replace HS5 := Lib.hid (HS5.out.below hB5)
    have HB5 := Lib.hid (bstep HB4.out hB5)
    have hs5 := hB5.size
    clear hc5_t hf5_t hb5 hB5
    clear HS5
    go_wp2_with (at_make; refine wpList_make_full _ rfl _ _ 51 rfl w5.heap.size 4 ib _ 1 Tryd.underlying51 hib hz0 hz1 .i64 .i64 _ _ fs.length rfl rfl rfl rfl (by rw [hz2]; omega) (by unfold maxLen; omega) (Nat.le_refl _) ?_; intro w6 hown hg; have hb6 : Below w5.heap.size w5 w6 := (Below.refl _ _).grown hg (Nat.le_refl _) (by simp))
    obtain ⟨A8, c8, e8, _, _, hsl⟩ := Sl.own hown
    obtain ⟨rfl, rfl⟩ : A8 = some ⟨w5.heap.size, 0, none⟩ ∧ fs.length = c8 := by cases e8; exact ⟨rfl, rfl⟩
    simp only [Value.cells] at hsl
    rw [bools_made, ← h0] at hsl
    have HSN := Lib.hid hsl
    clear e8 hsl hown hg h0
    have hB6 : Below w5.heap.size w5 w6 := by (repeat' (first | with_reducible exact Below.refl _ _ | (with_reducible refine balloc ?_ _) | (with_reducible refine bset ?_ ?_ _) | (with_reducible refine bdrew ?_) | (with_reducible refine bdrewN ?_ _) | (with_reducible refine bstep ?_ (by with_reducible assumption)) | (with_reducible refine bgrow ?_ (by with_reducible assumption) (by omega)) | (simp; done) | (simp; omega)))
    obtain ⟨hc6_t, hf6_t, hz_t⟩ := bel_at hB6 (w1.heap.size) (by omega)
    replace v_t_0 := (hc6_t 0).trans v_t_0
    replace v_t_1 := (hc6_t 1).trans v_t_1
    replace HT1 := Lib.hid (HT1.out.below hB6)
    replace HS3 := Lib.hid (HS3.out.below hB6)
    have HB6 := Lib.hid (bstep HB5.out hB6)
    have hs6 := hB6.size
    clear hc6_t hf6_t hb6 hB6
    have HSN0 := HSN
    go_loopw [6] (fun i wr => ∃ j : Nat, j ≤ ks.length ∧ i = .int .i64 j ∧ Sl wr w5.heap.size w6.heap.size 4 1 (some ⟨w5.heap.size, 0, none⟩) fs.length (bcells (seenL fs ks j)) ∧ w6.grownBy wr (some w5.heap.size)) (fun i _ => ks.length - (intOf i).toNat)
    case atStart => exact ⟨0, by omega, rfl, HSN.out, gb_refl _ _⟩
    case round =>
      obtain ⟨j, hj, rfl, hsn, hgr⟩ := hrel
      obtain ⟨hcr_t, hfr_t, hzr_t⟩ := gb_at hgr (w1.heap.size) (by omega) (by omega)
      replace v_t_0 := (hcr_t 0).trans v_t_0
      replace v_t_1 := (hcr_t 1).trans v_t_1
      replace HT1 := Lib.hid (show Tb wr w.heap.size w1.heap.size A1 B1 bk fs from ⟨HT1.out.1.grownR hgr (by omega), HT1.out.2.grownR hgr (by omega)⟩)
      replace HS3 : Hid (Sl wr w.heap.size w5.heap.size 44 2 A3 ks.length (kcells ks)) := Lib.hid ((HS3.out.more (by first | omega | (simp; omega)) (by omega)).grownR hgr (Nat.le_refl _))
      have HBr : Hid (Below w.heap.size w wr) := Lib.hid (bgrow HB6.out hgr (by omega))
      have hsr := hgr.size
      have HGR := Lib.hid hgr
      have HSNr := Lib.hid hsn
      clear hgr hcr_t hfr_t hsn
      by_cases hlj : j < ks.length
      · obtain ⟨g, rfl, _, hgh, hg1, f1, f2, _⟩ := HS3.out.key hlj
        have hX : ks.getD j (0, 0) = kat ks j := rfl
        rw [hX] at f1 f2
        have hfs := FS.out j hlj
        clear hX
        generalize hK : kat ks j = K at *
        obtain ⟨s, p⟩ := K
        simp only [] at f1 f2
        obtain ⟨f, st, b1, b2, b3, b4, b5, b6, b7, b8, b9⟩ := hfs s p rfl
        have FPH := Lib.hid (FP.out s p f st b1 b2 b3)
        obtain ⟨gf, rfl, _, hgfh, hgf, ⟨_, k1, k2, _, _⟩, _⟩ := HT1.out.2.frame b5
        rw [b6] at k1
        rw [b7] at k2
        obtain ⟨gs, es, _, _, hgs, s1, s2⟩ := HSNr.out.bool b5
        cases es
        rw [b8] at s1
        have HST := Lib.hid (HSNr.out.stored (by omega) f (.bool true))
        have HB9 := Lib.hid b9
        have i1 : (0 : Int) ≤ (j : Int) := by omega
        have i2 : (j : Int) < (ks.length : Int) := by omega
        have i3 : (0 : Int) ≤ (f : Int) := by omega
        have i4 : (f : Int) < (fs.length : Int) := by omega
        have i5 : ¬ ((st : Int) + 1 < 1) := by omega
        have i6 : decide ((st : Int) + 1 < 1) = false := decide_eq_false i5
        clear b1 b2 b3 b6 b7 b8 b9 hfs
        go_wp2_with (fail)
        go_region_held3 (fun W' => W'.cell? ⟨w1.heap.size, 0, none⟩ = some (.slice A1 bk.length c1) ∧ W'.cell? ⟨w1.heap.size, 1, none⟩ = some (.slice (some ⟨gf, 0, none⟩) fs.length d1) ∧ W'.cell? ⟨g, j * 2, none⟩ = some (.int .i64 s) ∧ W'.cell? ⟨g, j * 2 + 1, none⟩ = some (.int .i64 p)) (go_keep)
          (first | (go_at_call 26; refine (FPH.out _ _ _ _ _ _ _ (HF.out.below (by first | exact HBr.out | exact bdrew HBr.out)) (by first | exact HT1.out | exact Tb.drew HT1.out)).mono ?_; rintro e w20 ⟨rfl, hb20⟩; obtain ⟨hc_t, hf_t, hz20⟩ := bel_at hb20 (w1.heap.size) (by first | omega | (simp; omega)); obtain ⟨hc_g, hf_g, hz_g⟩ := bel_at hb20 g (by first | omega | (simp; omega)); obtain ⟨hc_f, hf_f, hz_f⟩ := bel_at hb20 gf (by first | omega | (simp; omega)); obtain ⟨hc_s, hf_s, hz_s⟩ := bel_at hb20 (w5.heap.size) (by first | omega | (simp; omega))))
        go_wp2_with (fail)
        go_quiet (fail)
        go_wp2
        go_roundw
        case rel =>
          have h1 := (Sl.below (w := wr.drew) HSNr.out hb20).stored (by omega) f (.bool true)
          rw [bcells_set, HB9.out] at h1
          exact ⟨j + 1, by omega, by go_num, by first | exact h1 | exact h1.drewN _, by first | exact gb_row (gb_below (gb_drew HGR.out) hb20) _ _ | exact gb_row (gb_drewN (gb_below (gb_drew HGR.out) hb20) _) _ _⟩
        case measure => simp [intOf]; omega
      · obtain rfl : j = ks.length := by omega
        have i2 : ¬ ((ks.length : Int) < (ks.length : Int)) := by omega
        obtain ⟨ws, hws⟩ : ∃ ws, ws = wr := ⟨_, rfl⟩
        subst hws
        go_wp2_with (fail)
        go_loopw [10] (fun i wq => ∃ q : Nat, q ≤ fs.length ∧ i = .int .i64 q ∧ Below ws.heap.size ws wq) (fun i _ => fs.length - (intOf i).toNat)
        case atStart => exact ⟨0, by omega, rfl, Below.refl _ _⟩
        case round =>
          obtain ⟨q, hq, rfl, hbq⟩ := hrel
          obtain ⟨hcq_t, hfq_t, hzq_t⟩ := bel_at hbq (w1.heap.size) (by omega)
          replace v_t_0 := (hcq_t 0).trans v_t_0
          replace v_t_1 := (hcq_t 1).trans v_t_1
          have HBQ := Lib.hid hbq
          clear hcq_t hfq_t
          by_cases hlq : q < fs.length
          · obtain ⟨gf, rfl, _, _, hgf, ⟨k0, _, _, _, _⟩, _⟩ := (HT1.out.2.below hbq).frame hlq
            obtain ⟨gs, es, _, _, hgs, s1, _⟩ := (HSNr.out.below hbq).bool hlq
            cases es
            rw [SE.out q hlq] at s1
            generalize (fat fs q).u = u at *
            have i1 : (0 : Int) ≤ (q : Int) := by omega
            have i3 : (q : Int) < (fs.length : Int) := by omega
            clear hbq
            go_wp2_with (fail)
            go_quiet (fail)
            go_wp2
            all_goals
              go_roundw
              case rel => exact ⟨q + 1, by omega, by go_num, by have hr := HBQ.out; (repeat' (first | with_reducible exact Below.refl _ _ | (with_reducible refine balloc ?_ _) | (with_reducible refine bset ?_ ?_ _) | (with_reducible refine bdrew ?_) | (with_reducible refine bdrewN ?_ _) | (with_reducible refine bstep ?_ (by with_reducible assumption)) | (with_reducible refine bgrow ?_ (by with_reducible assumption) (by omega)) | (simp; done) | (simp; omega)))⟩
              case measure => simp [intOf]; omega
          · have i3 : ¬ ((q : Int) < (fs.length : Int)) := by omega
            go_wp2
            all_goals (go_ret; exact ⟨rfl, bstep HBr.out hbq⟩)
  · have e1 : tvB bk fs = false := by simpa using htv
    have e2 := ksOf_no htv
    rw [e1] at TV
    unfold KsP at IK SK
    rw [e2] at IK SK
    rw [e2] at hkl
    simp only [List.length_nil] at IK SK
    clear htv e1 e2
    go_wp2_with (fail)
    refine (IK.out _ _ _ _ _ _ _ (HF.out.below (by (repeat' (first | (with_reducible assumption) | (with_reducible exact Hid.out (by assumption)) | (with_reducible refine balloc ?_ _))))) (HT1.out.alloc _)).mono ?_
    rintro e w2 ⟨A3, c3, rfl, ⟨q1, q2⟩, HS3, hb2⟩
    have hB2 : Below w1.heap.size w1 w2 := by (repeat' (first | with_reducible exact Below.refl _ _ | (with_reducible refine balloc ?_ _) | (with_reducible refine bset ?_ ?_ _) | (with_reducible refine bdrew ?_) | (with_reducible refine bdrewN ?_ _) | (with_reducible refine bstep ?_ (by with_reducible assumption)) | (with_reducible refine bgrow ?_ (by with_reducible assumption) (by omega)) | (simp; done) | (simp; omega)))
    obtain ⟨hc2_t, hf2_t, hz_t⟩ := bel_at hb2 (w1.heap.size) (by first | (simp; done) | (simp; omega))
    have v_t_0 : w2.cell? ⟨w1.heap.size, 0, none⟩ = some (.slice A1 bk.length c1) := by rw [hc2_t]; exact newc (by simp) _
    have v_t_1 : w2.cell? ⟨w1.heap.size, 1, none⟩ = some (.slice B1 fs.length d1) := by rw [hc2_t]; exact newc (by simp) _
    replace HT1 := Lib.hid (HT1.out.below hB2)
    have HB2 := Lib.hid (bstep HB1.out hB2)
    have hs2 := hB2.size
    clear hc2_t hf2_t hb2 hB2
    go_wp2_with (fail)
    refine (SK.out _ _ _ _ _ _ _ HT1.out).mono ?_
    rintro e w3 ⟨A5, c5, rfl, ⟨_, _⟩, HS5, hb3⟩
    have hB3 : Below w2.heap.size w2 w3 := by (repeat' (first | with_reducible exact Below.refl _ _ | (with_reducible refine balloc ?_ _) | (with_reducible refine bset ?_ ?_ _) | (with_reducible refine bdrew ?_) | (with_reducible refine bdrewN ?_ _) | (with_reducible refine bstep ?_ (by with_reducible assumption)) | (with_reducible refine bgrow ?_ (by with_reducible assumption) (by omega)) | (simp; done) | (simp; omega)))
    obtain ⟨hc3_t, hf3_t, hz_t⟩ := bel_at hB3 (w1.heap.size) (by omega)
    replace v_t_0 := (hc3_t 0).trans v_t_0
    replace v_t_1 := (hc3_t 1).trans v_t_1
    replace HT1 := Lib.hid (HT1.out.below hB3)
    replace HS3 := Lib.hid (HS3.out.below hB3)
    have HB3 := Lib.hid (bstep HB2.out hB3)
    have hs3 := hB3.size
    clear hc3_t hf3_t hb3 hB3
    go_wp2_with (fail)
    refine (laws_ipKeys _ _ _ _ _ _ _ _ _ _ _ HS3.out HS5.out (by simp)).mono ?_
    rintro e w4 ⟨rfl, hb4⟩
    have hB4 : Below w3.heap.size w3 w4 := by (repeat' (first | with_reducible exact Below.refl _ _ | (with_reducible refine balloc ?_ _) | (with_reducible refine bset ?_ ?_ _) | (with_reducible refine bdrew ?_) | (with_reducible refine bdrewN ?_ _) | (with_reducible refine bstep ?_ (by with_reducible assumption)) | (with_reducible refine bgrow ?_ (by with_reducible assumption) (by omega)) | (simp; done) | (simp; omega)))
    obtain ⟨hc4_t, hf4_t, hz_t⟩ := bel_at hB4 (w1.heap.size) (by omega)
    replace v_t_0 := (hc4_t 0).trans v_t_0
    replace v_t_1 := (hc4_t 1).trans v_t_1
    replace HT1 := Lib.hid (HT1.out.below hB4)
    replace HS3 := Lib.hid (HS3.out.below hB4)
    replace HS5 := Lib.hid (HS5.out.below hB4)
    have HB4 := Lib.hid (bstep HB3.out hB4)
    have hs4 := hB4.size
    clear hc4_t hf4_t hb4 hB4
    go_wp2_with (fail)
    refine (TV.out _ _ _ _ _ _ _ (HF.out.below (by (repeat' (first | (with_reducible assumption) | (with_reducible exact Hid.out (by assumption)) | (with_reducible refine balloc ?_ _))))) HT1.out).mono ?_
    rintro e w5 ⟨rfl, hb5⟩
    have hB5 : Below w4.heap.size w4 w5 := by (repeat' (first | with_reducible exact Below.refl _ _ | (with_reducible refine balloc ?_ _) | (with_reducible refine bset ?_ ?_ _) | (with_reducible refine bdrew ?_) | (with_reducible refine bdrewN ?_ _) | (with_reducible refine bstep ?_ (by with_reducible assumption)) | (with_reducible refine bgrow ?_ (by with_reducible assumption) (by omega)) | (simp; done) | (simp; omega)))
    obtain ⟨hc5_t, hf5_t, hz_t⟩ := bel_at hB5 (w1.heap.size) (by omega)
    replace v_t_0 := (hc5_t 0).trans v_t_0
    replace v_t_1 := (hc5_t 1).trans v_t_1
    replace HT1 := Lib.hid (HT1.out.below hB5)
    replace HS3 := Lib.hid (HS3.out.below hB5)
    replace HS5 := Lib.hid (HS5.out.below hB5)
    have HB5 := Lib.hid (bstep HB4.out hB5)
    have hs5 := hB5.size
    clear hc5_t hf5_t hb5 hB5
    clear HS5
    go_wp2_with (fail)
    refine (SK.out _ _ _ _ _ _ _ HT1.out).mono ?_
    rintro e w6 ⟨A7, c7, rfl, ⟨_, _⟩, HS7, hb6⟩
    have hB6 : Below w5.heap.size w5 w6 := by (repeat' (first | with_reducible exact Below.refl _ _ | (with_reducible refine balloc ?_ _) | (with_reducible refine bset ?_ ?_ _) | (with_reducible refine bdrew ?_) | (with_reducible refine bdrewN ?_ _) | (with_reducible refine bstep ?_ (by with_reducible assumption)) | (with_reducible refine bgrow ?_ (by with_reducible assumption) (by omega)) | (simp; done) | (simp; omega)))
    obtain ⟨hc6_t, hf6_t, hz_t⟩ := bel_at hB6 (w1.heap.size) (by omega)
    replace v_t_0 := (hc6_t 0).trans v_t_0
    replace v_t_1 := (hc6_t 1).trans v_t_1
    replace HT1 := Lib.hid (HT1.out.below hB6)
    replace HS3 := Lib.hid (HS3.out.below hB6)
    have HB6 := Lib.hid (bstep HB5.out hB6)
    have hs6 := hB6.size
    clear hc6_t hf6_t hb6 hB6
    go_wp2_with (fail)
    refine (laws_ipKeys _ _ _ _ _ _ _ _ _ _ _ HS3.out HS7.out (by simp)).mono ?_
    rintro e w7 ⟨rfl, hb7⟩
    have hB7 : Below w6.heap.size w6 w7 := by (repeat' (first | with_reducible exact Below.refl _ _ | (with_reducible refine balloc ?_ _) | (with_reducible refine bset ?_ ?_ _) | (with_reducible refine bdrew ?_) | (with_reducible refine bdrewN ?_ _) | (with_reducible refine bstep ?_ (by with_reducible assumption)) | (with_reducible refine bgrow ?_ (by with_reducible assumption) (by omega)) | (simp; done) | (simp; omega)))
    obtain ⟨hc7_t, hf7_t, hz_t⟩ := bel_at hB7 (w1.heap.size) (by omega)
    replace v_t_0 := (hc7_t 0).trans v_t_0
    replace v_t_1 := (hc7_t 1).trans v_t_1
    replace HT1 := Lib.hid (HT1.out.below hB7)
    replace HS3 := Lib.hid (HS3.out.below hB7)
    replace HS7 := Lib.hid (HS7.out.below hB7)
    have HB7 := Lib.hid (bstep HB6.out hB7)
    have hs7 := hB7.size
    clear hc7_t hf7_t hb7 hB7
    go_wp2
    all_goals (go_ret; exact ⟨rfl, HB7.out⟩)
end Go.Proofs.YtjdoegekolbdpaaDoor
