/- FindPage of the program and of the reference returns what the plain function says. Asked: at most 1048576 frames and buckets; for the program: the variable 'free' holds what its initialiser lays. -/
import Derived.Test.YtjdoegekolbdpaaDoorFind
namespace Go.Proofs.YtjdoegekolbdpaaDoor
set_option linter.unusedVariables false
open Go.ChangeShapes Go.WideShapes Go.ChangeAt Go.RowKit
def f3 (bk : List Int) (fs : List Fr) (s p : Int) : Int := if fpOk bk fs s p = true then fpF bk fs s p else -1
theorem chain_A (A B : Option Addr) (ca cb lo hi : Nat) (bk : List Int) (fs : List Fr) (b : Nat) (l : List Nat) (w : World) (h : Tb w lo hi A B bk fs) (hb : b < bk.length) (hl : chn fs fs.length (bk.getD b 0) = some l) (hn : bk.length ≤ 1048576) (hn2 : fs.length ≤ 1048576) :
    Calls Tryd.prog 56 #[.agg #[.slice A bk.length ca, .slice B fs.length cb], .int .i64 (b : Int)] w (SlB (nats l) true w) := spec_l3Chain_yes A B ca cb lo hi bk fs b l w h hb hl hn hn2
/-- a key's bucket -/
theorem kb_of {bk : List Int} {fs : List Fr} (h : tvB bk fs = true) (s p : Int) : ∃ b : Nat, hashN s p bk.length = (b : Int) ∧ b < bk.length ∧ kch bk fs s p = chL fs (bk.getD b 0) ∧ chn fs fs.length (bk.getD b 0) = some (chL fs (bk.getD b 0)) ∧ 1 ≤ bk.length ∧ bk.length ≤ 16 := by
  obtain ⟨⟨_, _⟩, d1, d2⟩ := dimB_iff.1 (tvB_iff.1 h).1
  obtain ⟨h1, h2⟩ := @hashN_range s p (bk.length : Int) (by omega)
  obtain ⟨b, hb⟩ := Int.eq_ofNat_of_zero_le h1
  have hb2 : b < bk.length := by omega
  exact ⟨b, hb, hb2, by unfold kch; rw [hb]; rfl, (tv_chn h hb2).1, d1, d2⟩
set_option maxHeartbeats 1000000 in
theorem spec_l3Find (A B : Option Addr) (ca cb lo hi : Nat) (bk : List Int) (fs : List Fr) (s p : Int) (w : World) (h : Tb w lo hi A B bk fs) (htv : tvB bk fs = true) (hkv : kvB s p = true) (hn : bk.length ≤ 1048576) (hn2 : fs.length ≤ 1048576) :
    Calls Tryd.prog 96 #[.agg #[.slice A bk.length ca, .slice B fs.length cb], .agg #[.int .i64 s, .int .i64 p]] w fun e w' => e = .returned (.tuple #[.int .i64 (f3 bk fs s p), .int .i64 (fpS bk fs s p)]) ∧ Below w.heap.size w w' := by
  obtain ⟨b, hb1, hb2, hb3, hb4, d1, d2⟩ := kb_of htv s p
  have HHash := Lib.hid (fun W' : World => spec_l2Hash s p bk.length W' hkv (by omega) (by omega))
  have H := Lib.hid h.top
  have HTV := Lib.hid htv
  have HKV := Lib.hid hkv
  have HL := Lib.hid hb4
  rw [hb1] at HHash
  have hmem : ∀ i ∈ chL fs (bk.getD b 0), i < fs.length := fun i hi => ((tv_chn htv hb2).2 i hi).1
  have hyes := fun (j : Nat) => @fp_yes bk fs s p j
  have hno := @fp_no bk fs s p
  rw [hb3] at hyes hno
  have hhit := fun (j : Nat) => @kpos_hit fs s p (chL fs (bk.getD b 0)) j
  have hnone := @kpos_none fs s p (chL fs (bk.getD b 0))
  have hll : (chL fs (bk.getD b 0)).length ≤ fs.length := chn_len hb4
  generalize chL fs (bk.getD b 0) = l at *
  have HMem := Lib.hid hmem
  have HYes := Lib.hid hyes
  have HNo := Lib.hid hno
  have HHit := Lib.hid hhit
  have HNone := Lib.hid hnone
  clear h htv hkv hb1 hb3 hb4 hmem hyes hno hhit hnone
  go_enter Tryd.func96, Tryd.ntmps96
  go_wp2_with (fail)
  go_region_held3 (fun W' => W'.cell? ⟨w.heap.size, 0, none⟩ = some (.slice A bk.length ca) ∧ W'.cell? ⟨w.heap.size, 1, none⟩ = some (.slice B fs.length cb) ∧ W'.cell? ⟨w.heap.size + 1, 0, none⟩ = some (.int .i64 s) ∧ W'.cell? ⟨w.heap.size + 1, 1, none⟩ = some (.int .i64 p)) (go_keep)
    (first | (go_at_call 60; refine (HHash.out _).mono ?_; rintro e w' ⟨rfl, rfl⟩) | (go_at_call 56; refine (chain_A _ _ _ _ _ _ bk fs b l _ (H.out.below (by (repeat' (first | with_reducible exact Below.refl _ _ | (with_reducible refine balloc ?_ _) | (with_reducible refine bset ?_ ?_ _) | (with_reducible refine bdrew ?_) | (with_reducible refine bdrewN ?_ _) | (with_reducible refine bstep ?_ (by with_reducible assumption)) | (with_reducible refine bgrow ?_ (by with_reducible assumption) (by omega)) | (simp; done) | (simp; omega))))) hb2 HL.out hn hn2).mono ?_; rintro e w8 ⟨A8, c8, rfl, q1, q2, hs8, hb8⟩; obtain ⟨hc8_0, hf8_0, hz8_0⟩ := bel_at hb8 (w.heap.size) (by first | omega | (simp; done) | (simp; omega)); obtain ⟨hc8_1, hf8_1, hz8_1⟩ := bel_at hb8 (w.heap.size + 1) (by first | omega | (simp; done) | (simp; omega))))
  have hB8 : Below w.heap.size w w8 := by (repeat' (first | with_reducible exact Below.refl _ _ | (with_reducible refine balloc ?_ _) | (with_reducible refine bset ?_ ?_ _) | (with_reducible refine bdrew ?_) | (with_reducible refine bdrewN ?_ _) | (with_reducible refine bstep ?_ (by with_reducible assumption)) | (with_reducible refine bgrow ?_ (by with_reducible assumption) (by omega)) | (simp; done) | (simp; omega)))
  have HS8 := Lib.hid hs8
  have hnl := nats_len l
  clear hs8 hb8
  go_wp2
  go_loopw [8] (fun i wr => ∃ j : Nat, j ≤ l.length ∧ i = .int .i64 j ∧ (∀ i, i < j → fkey (fat fs (l.getD i 0)) ≠ (s, p)) ∧ Below w8.heap.size w8 wr) (fun i _ => l.length - (intOf i).toNat)
  case atStart => exact ⟨0, by omega, rfl, fun i hi => absurd hi (Nat.not_lt_zero i), Below.refl _ _⟩
  case round =>
    obtain ⟨j, hj, rfl, hne, hbq⟩ := hrel
    have HNe := Lib.hid hne
    have hbw : Below w.heap.size w wr := by (repeat' (first | with_reducible exact Below.refl _ _ | (with_reducible refine balloc ?_ _) | (with_reducible refine bset ?_ ?_ _) | (with_reducible refine bdrew ?_) | (with_reducible refine bdrewN ?_ _) | (with_reducible refine bstep ?_ (by with_reducible assumption)) | (with_reducible refine bgrow ?_ (by with_reducible assumption) (by omega)) | (simp; done) | (simp; omega)))
    obtain ⟨hcq0, hfq0, hzq0⟩ := bel_at hbq (w.heap.size) (by first | omega | (simp; done) | (simp; omega))
    obtain ⟨hcq1, hfq1, hzq1⟩ := bel_at hbq (w.heap.size + 1) (by first | omega | (simp; done) | (simp; omega))
    clear hne
    by_cases hlt : j < l.length
    · obtain ⟨g8, rfl, _, _, hg1, hg2, _⟩ := Nats.at_ (HS8.out.below hbq) hlt
      have hq := HMem.out (l.getD j 0) (by rw [List.getD_eq_getElem?_getD, List.getElem?_eq_getElem hlt]; exact List.getElem_mem hlt)
      have hy := HYes.out j HTV.out HKV.out
      have hhj := HHit.out j hlt
      have hstep : fkey (fat fs (l.getD j 0)) ≠ (s, p) → ∀ i, i < j + 1 → fkey (fat fs (l.getD i 0)) ≠ (s, p) := fun h i hi => by
        rcases Nat.lt_or_eq_of_le (Nat.le_of_lt_succ hi) with h1 | rfl
        · exact HNe.out i h1
        · exact h
      generalize l.getD j 0 = q at *
      obtain ⟨gf, hBe, _, hgl, hgf, hg4, _⟩ := (H.out.2.below hbw).frame hq
      subst hBe
      generalize fat fs q = f at *
      obtain ⟨u, s', p', r, nx⟩ := f
      obtain ⟨v0, v1, v2, v3, v4⟩ := hg4
      simp only [fkey] at hhj hstep v1 v2
      have HY := Lib.hid hy
      have HHJ := Lib.hid hhj
      have HSt := Lib.hid hstep
      have i1 : (0 : Int) ≤ (j : Int) := by omega
      have i2 : (j : Int) < (l.length : Int) := by omega
      have i3 : (0 : Int) ≤ (q : Int) := by omega
      have i4 : (q : Int) < (fs.length : Int) := by omega
      clear hy hhj hstep v0 v3 v4
      by_cases e1 : s' = s
      · by_cases e2 : p' = p
        · subst e1 e2
          obtain ⟨y1, y2, y3⟩ := HY.out (HHJ.out rfl HNe.out) hlt
          have hr : f3 bk fs s' p' = (q : Int) := by unfold f3; rw [if_pos y1, y2]
          have HR := Lib.hid hr
          have HR2 := Lib.hid y3
          clear y1 y2 y3 hr
          go_wp2
          go_quiet (fail)
          go_wp2
          go_ret2
          exact ⟨by rw [HR.out, HR2.out]; rfl, by (repeat' (first | with_reducible exact Below.refl _ _ | (with_reducible refine balloc ?_ _) | (with_reducible refine bset ?_ ?_ _) | (with_reducible refine bdrew ?_) | (with_reducible refine bdrewN ?_ _) | (with_reducible refine bstep ?_ (by with_reducible assumption)) | (with_reducible refine bgrow ?_ (by with_reducible assumption) (by omega)) | (simp; done) | (simp; omega)))⟩
        · have e2' : (p' == p) = false := by simpa using e2
          have hn2 := HSt.out (fun h => e2 (congrArg Prod.snd h))
          have HN2 := Lib.hid hn2
          clear e2 hn2
          go_wp2
          go_quiet (fail)
          go_wp2
          go_roundw
          case rel => exact ⟨j + 1, by omega, by go_num, HN2.out, by first | exact hbq | exact bdrewN hbq _⟩
          case measure => simp [intOf]; omega
      · have e1' : (s' == s) = false := by simpa using e1
        have hn2 := HSt.out (fun h => e1 (congrArg Prod.fst h))
        have HN2 := Lib.hid hn2
        clear e1 hn2
        go_wp2
        go_quiet (fail)
        go_wp2
        go_roundw
        case rel => exact ⟨j + 1, by omega, by go_num, HN2.out, by first | exact hbq | exact bdrewN hbq _⟩
        case measure => simp [intOf]; omega
    · obtain rfl : j = l.length := by omega
      obtain ⟨n1, n2, n3⟩ := HNo.out HTV.out HKV.out (HNone.out HNe.out)
      have hr : f3 bk fs s p = -1 := by unfold f3; rw [n1]; rfl
      have HR := Lib.hid hr
      have HR2 := Lib.hid n3
      clear n1 n2 n3 hr
      go_wp2
      go_ret2
      exact ⟨by rw [HR.out, HR2.out]; rfl, by (repeat' (first | with_reducible exact Below.refl _ _ | (with_reducible refine balloc ?_ _) | (with_reducible refine bset ?_ ?_ _) | (with_reducible refine bdrew ?_) | (with_reducible refine bdrewN ?_ _) | (with_reducible refine bstep ?_ (by with_reducible assumption)) | (with_reducible refine bgrow ?_ (by with_reducible assumption) (by omega)) | (simp; done) | (simp; omega)))⟩
theorem spec_FindPage (A B : Option Addr) (ca cb lo hi : Nat) (bk : List Int) (fs : List Fr) (s p : Int) (w : World) (h : Tb w lo hi A B bk fs) (hn : bk.length ≤ 1048576) (hn2 : fs.length ≤ 1048576) :
    Calls Tryd.prog 98 #[.agg #[.slice A bk.length ca, .slice B fs.length cb], .agg #[.int .i64 s, .int .i64 p]] w fun e w' => e = .returned (.tuple #[.int .i64 (fpF bk fs s p), .int .i64 (fpS bk fs s p), .bool (fpOk bk fs s p)]) ∧ Below w.heap.size w w' := by
  have H := Lib.hid h.top
  have TV := Lib.hid (fun (w' : World) (hb : Below w.heap.size w w') => spec_TvA A B ca cb lo w.heap.size bk fs w' (H.out.below hb) hn hn2)
  clear h
  have bad : (tvB bk fs && kvB s p) = false → fpOk bk fs s p = false ∧ fpF bk fs s p = 0 ∧ fpS bk fs s p = 0 := fp_bad
  rcases htv : tvB bk fs with _ | _
  · obtain ⟨e1, e2, e3⟩ := bad (by rw [htv]; rfl)
    rw [e1, e2, e3]
    rw [htv] at TV
    clear e1 e2 e3 bad htv
    go_enter Tryd.func98, Tryd.ntmps98
    go_wp2_with (fail)
    refine (TV.out _ (by (repeat' (first | with_reducible exact Below.refl _ _ | (with_reducible refine balloc ?_ _) | (with_reducible refine bset ?_ ?_ _) | (with_reducible refine bdrew ?_) | (with_reducible refine bdrewN ?_ _) | (with_reducible refine bstep ?_ (by with_reducible assumption)) | (with_reducible refine bgrow ?_ (by with_reducible assumption) (by omega)) | (simp; done) | (simp; omega))))).mono ?_
    rintro e w1 ⟨rfl, hb1⟩
    obtain ⟨hc1_0, hf1_0, hz1_0⟩ := bel_at hb1 (w.heap.size) (by first | omega | (simp; done) | (simp; omega))
    obtain ⟨hc1_1, hf1_1, hz1_1⟩ := bel_at hb1 (w.heap.size + 1) (by first | omega | (simp; done) | (simp; omega))
    go_wp2
    go_returns
    exact ⟨rfl, by (repeat' (first | with_reducible exact Below.refl _ _ | (with_reducible refine balloc ?_ _) | (with_reducible refine bset ?_ ?_ _) | (with_reducible refine bdrew ?_) | (with_reducible refine bdrewN ?_ _) | (with_reducible refine bstep ?_ (by with_reducible assumption)) | (with_reducible refine bgrow ?_ (by with_reducible assumption) (by omega)) | (simp; done) | (simp; omega)))⟩
  · rcases hkv : kvB s p with _ | _
    · obtain ⟨e1, e2, e3⟩ := bad (by rw [hkv, Bool.and_false])
      rw [e1, e2, e3]
      rw [htv] at TV
      clear e1 e2 e3 bad htv
      have KV := Lib.hid (fun w' => spec_KeyValid_b s p w')
      rw [hkv] at KV
      clear hkv
      go_enter Tryd.func98, Tryd.ntmps98
      go_wp2_with (fail)
      refine (TV.out _ (by (repeat' (first | with_reducible exact Below.refl _ _ | (with_reducible refine balloc ?_ _) | (with_reducible refine bset ?_ ?_ _) | (with_reducible refine bdrew ?_) | (with_reducible refine bdrewN ?_ _) | (with_reducible refine bstep ?_ (by with_reducible assumption)) | (with_reducible refine bgrow ?_ (by with_reducible assumption) (by omega)) | (simp; done) | (simp; omega))))).mono ?_
      rintro e w1 ⟨rfl, hb1⟩
      obtain ⟨hc1_0, hf1_0, hz1_0⟩ := bel_at hb1 (w.heap.size) (by first | omega | (simp; done) | (simp; omega))
      obtain ⟨hc1_1, hf1_1, hz1_1⟩ := bel_at hb1 (w.heap.size + 1) (by first | omega | (simp; done) | (simp; omega))
      go_wp2_with (fail)
      refine (KV.out _).mono ?_
      rintro e w2 ⟨rfl, hb2⟩
      go_wp2
      go_returns
      exact ⟨rfl, by (repeat' (first | with_reducible exact Below.refl _ _ | (with_reducible refine balloc ?_ _) | (with_reducible refine bset ?_ ?_ _) | (with_reducible refine bdrew ?_) | (with_reducible refine bdrewN ?_ _) | (with_reducible refine bstep ?_ (by with_reducible assumption)) | (with_reducible refine bgrow ?_ (by with_reducible assumption) (by omega)) | (simp; done) | (simp; omega)))⟩
    · have L3 := Lib.hid (fun (w' : World) (hb : Below w.heap.size w w') => spec_l3Find A B ca cb lo w.heap.size bk fs s p w' (H.out.below hb) htv hkv hn hn2)
      rw [htv] at TV
      have KV := Lib.hid (fun w' => spec_KeyValid_b s p w')
      rw [hkv] at KV
      have h0 : fpOk bk fs s p = true → 0 ≤ fpF bk fs s p := fun h => by unfold fpF; rw [if_pos h]; omega
      have h1 : fpOk bk fs s p = false → fpF bk fs s p = 0 := fun h => by unfold fpF; rw [h]; rfl
      clear htv hkv bad
      generalize fpS bk fs s p = st at *
      unfold f3 at L3
      generalize fpF bk fs s p = ff at *
      rcases hok : fpOk bk fs s p with _ | _
      · obtain rfl := h1 hok
        rw [hok] at L3
        rw [if_neg (by simp)] at L3
        clear h0 h1 hok
        go_enter Tryd.func98, Tryd.ntmps98
        go_wp2_with (fail)
        refine (TV.out _ (by (repeat' (first | with_reducible exact Below.refl _ _ | (with_reducible refine balloc ?_ _) | (with_reducible refine bset ?_ ?_ _) | (with_reducible refine bdrew ?_) | (with_reducible refine bdrewN ?_ _) | (with_reducible refine bstep ?_ (by with_reducible assumption)) | (with_reducible refine bgrow ?_ (by with_reducible assumption) (by omega)) | (simp; done) | (simp; omega))))).mono ?_
        rintro e w1 ⟨rfl, hb1⟩
        obtain ⟨hc1_0, hf1_0, hz1_0⟩ := bel_at hb1 (w.heap.size) (by first | omega | (simp; done) | (simp; omega))
        obtain ⟨hc1_1, hf1_1, hz1_1⟩ := bel_at hb1 (w.heap.size + 1) (by first | omega | (simp; done) | (simp; omega))
        go_wp2_with (fail)
        refine (KV.out _).mono ?_
        rintro e w2 ⟨rfl, hb2⟩
        obtain ⟨hc2_0, hf2_0, hz2_0⟩ := bel_at hb2 (w.heap.size) (by first | omega | (simp; done) | (simp; omega))
        obtain ⟨hc2_1, hf2_1, hz2_1⟩ := bel_at hb2 (w.heap.size + 1) (by first | omega | (simp; done) | (simp; omega))
        go_wp2_with (fail)
        refine (L3.out _ (by (repeat' (first | with_reducible exact Below.refl _ _ | (with_reducible refine balloc ?_ _) | (with_reducible refine bset ?_ ?_ _) | (with_reducible refine bdrew ?_) | (with_reducible refine bdrewN ?_ _) | (with_reducible refine bstep ?_ (by with_reducible assumption)) | (with_reducible refine bgrow ?_ (by with_reducible assumption) (by omega)) | (simp; done) | (simp; omega))))).mono ?_
        rintro e w3 ⟨rfl, hb3⟩
        go_wp2
        go_returns
        exact ⟨rfl, by (repeat' (first | with_reducible exact Below.refl _ _ | (with_reducible refine balloc ?_ _) | (with_reducible refine bset ?_ ?_ _) | (with_reducible refine bdrew ?_) | (with_reducible refine bdrewN ?_ _) | (with_reducible refine bstep ?_ (by with_reducible assumption)) | (with_reducible refine bgrow ?_ (by with_reducible assumption) (by omega)) | (simp; done) | (simp; omega)))⟩
      · have h2 := h0 hok
        rw [hok] at L3
        rw [if_pos rfl] at L3
        clear h0 h1 hok
        go_enter Tryd.func98, Tryd.ntmps98
        go_wp2_with (fail)
        refine (TV.out _ (by (repeat' (first | with_reducible exact Below.refl _ _ | (with_reducible refine balloc ?_ _) | (with_reducible refine bset ?_ ?_ _) | (with_reducible refine bdrew ?_) | (with_reducible refine bdrewN ?_ _) | (with_reducible refine bstep ?_ (by with_reducible assumption)) | (with_reducible refine bgrow ?_ (by with_reducible assumption) (by omega)) | (simp; done) | (simp; omega))))).mono ?_
        rintro e w1 ⟨rfl, hb1⟩
        obtain ⟨hc1_0, hf1_0, hz1_0⟩ := bel_at hb1 (w.heap.size) (by first | omega | (simp; done) | (simp; omega))
        obtain ⟨hc1_1, hf1_1, hz1_1⟩ := bel_at hb1 (w.heap.size + 1) (by first | omega | (simp; done) | (simp; omega))
        go_wp2_with (fail)
        refine (KV.out _).mono ?_
        rintro e w2 ⟨rfl, hb2⟩
        obtain ⟨hc2_0, hf2_0, hz2_0⟩ := bel_at hb2 (w.heap.size) (by first | omega | (simp; done) | (simp; omega))
        obtain ⟨hc2_1, hf2_1, hz2_1⟩ := bel_at hb2 (w.heap.size + 1) (by first | omega | (simp; done) | (simp; omega))
        go_wp2_with (fail)
        refine (L3.out _ (by (repeat' (first | with_reducible exact Below.refl _ _ | (with_reducible refine balloc ?_ _) | (with_reducible refine bset ?_ ?_ _) | (with_reducible refine bdrew ?_) | (with_reducible refine bdrewN ?_ _) | (with_reducible refine bstep ?_ (by with_reducible assumption)) | (with_reducible refine bgrow ?_ (by with_reducible assumption) (by omega)) | (simp; done) | (simp; omega))))).mono ?_
        rintro e w3 ⟨rfl, hb3⟩
        go_wp2
        go_returns
        exact ⟨rfl, by (repeat' (first | with_reducible exact Below.refl _ _ | (with_reducible refine balloc ?_ _) | (with_reducible refine bset ?_ ?_ _) | (with_reducible refine bdrew ?_) | (with_reducible refine bdrewN ?_ _) | (with_reducible refine bstep ?_ (by with_reducible assumption)) | (with_reducible refine bgrow ?_ (by with_reducible assumption) (by omega)) | (simp; done) | (simp; omega)))⟩
end Go.Proofs.YtjdoegekolbdpaaDoor
