/- Chains, ChainOf and FindPage of the program and of the reference return what the plain functions say. Asked: at most 1048576 frames and buckets; for the program: the variable 'free' holds what its initialiser lays. -/
import Derived.Test.YtjdoegekolbdpaaDoorAgg
namespace Go.Proofs.YtjdoegekolbdpaaDoor
set_option linter.unusedVariables false
open Go.ChangeShapes Go.WideShapes Go.ChangeAt Go.RowKit
theorem Nats.at_ {w : World} {lo hi : Nat} {A : Option Addr} {l : List Nat} (h : Sl w lo hi 3 1 A (nats l).length (ints (nats l))) {k : Nat} (hk : k < l.length) :
    ∃ g, A = some ⟨g, 0, none⟩ ∧ lo ≤ g ∧ g < hi ∧ g < w.heap.size ∧ w.cell? ⟨g, k, none⟩ = some (.int .i64 ((l.getD k 0 : Nat) : Int)) ∧ w.frozen? ⟨g, k, none⟩ = false := by
  obtain ⟨g, h1, h2, h3, h4, h5, h6⟩ := h.int (k := k) (by rw [nats_len]; exact hk)
  refine ⟨g, h1, h2, h3, h4, ?_, h6⟩
  rw [h5]
  simp [nats, List.getD_eq_getElem?_getD, hk]
theorem clip_ints (A : Option Addr) (n c : Nat) (w : World) (h1 : n ≤ c) (h2 : c ≤ maxLen) : Calls Tryd.prog 79 #[.slice A n c] w fun e w' => e = .returned (.slice A n n) ∧ w = w' := by
  unfold maxLen at h2
  go_enter Tryd.func79, Tryd.ntmps79
  go_wp2
  go_ret
  exact ⟨rfl, rfl⟩
set_option maxHeartbeats 1000000 in
set_option maxRecDepth 100000 in
theorem impl_chain (A B : Option Addr) (ca cb lo hi : Nat) (bk : List Int) (fs : List Fr) (b : Nat) (l : List Nat) (w : World) (h : Tb w lo hi A B bk fs) (hb : b < bk.length) (hl : chn fs fs.length (bk.getD b 0) = some l) (hn : bk.length ≤ 1048576) (hn2 : fs.length ≤ 1048576) :
    Calls Tryd.prog 55 #[.agg #[.slice A bk.length ca, .slice B fs.length cb], .int .i64 (b : Int)] w (SlI (nats l) w) := by
  have H := Lib.hid h.2.top
  have HL := Lib.hid hl
  obtain ⟨g, rfl, hg0, hg0', hg1, hg2, _⟩ := h.1.int hb
  clear h hl
  generalize bk.getD b 0 = x0 at *
  obtain ⟨i0, hi0, hz0, hz1, hz2⟩ := info_parts int_info
  have i1 : (0 : Int) ≤ (b : Int) := by omega
  have i2 : (b : Int) < (bk.length : Int) := by omega
  go_enter Tryd.func55, Tryd.ntmps55
  have HBZ : Hid (Below (w.heap.size + 1) (w.alloc (.cells #[.slice (some ⟨g, 0, none⟩) bk.length ca, .slice B fs.length cb] 28)) (w.alloc (.cells #[.slice (some ⟨g, 0, none⟩) bk.length ca, .slice B fs.length cb] 28))) := Below.refl _ _
  go_wp2
  go_loopw [5, 6] (fun v i wr => ∃ (p : List Nat) (x : Int), i = .int .i64 x ∧ wr.ownsRow (w.heap.size + 1) 3 1 v p.length (ints (nats p)) ∧ Wlk fs x0 p x ∧ p.length ≤ fs.length ∧ Below (w.heap.size + 1) (w.alloc (.cells #[.slice (some ⟨g, 0, none⟩) bk.length ca, .slice B fs.length cb] 28)) wr) (fun v _ _ => fs.length - slen v)
  case atStart => exact ⟨[], x0, rfl, World.ownsRow_nil _ _ _ _, Wlk.start _ _, by simp, HBZ.out⟩
  case round =>
    obtain ⟨p, x, rfl, hown, hwk, hpl, hbr⟩ := hrel
    have HO := Lib.hid hown
    have HW := Lib.hid hwk
    have hbw : Below w.heap.size w wr := (Joins.below_alloc1 w _).trans (hbr.mono (by omega))
    have hszr := hbr.size
    simp at hszr
    obtain ⟨A2, c2, rfl, hc1, hc2, hsl2⟩ := Sl.own hown
    have HS2 := Lib.hid hsl2
    have hT : ∀ o, wr.cell? ⟨w.heap.size, o, none⟩ = (w.alloc (.cells #[.slice (some ⟨g, 0, none⟩) bk.length ca, .slice B fs.length cb] 28)).cell? ⟨w.heap.size, o, none⟩ := fun o => hbr.cell (p := ⟨w.heap.size, o, none⟩) (by simp)
    clear hown hwk hsl2
    have HBR := Lib.hid hbr
    clear hbr
    by_cases hx : x = -1
    · subst hx
      have e := HW.out.done hpl
      rw [HL.out] at e
      obtain rfl : l = p := Option.some.inj e
      clear e
      go_wp2_with (fail)
      refine (clip_ints _ _ _ _ hc1 hc2).mono ?_
      rintro e w2 ⟨rfl, rfl⟩
      go_wp2
      go_ret
      exact ⟨A2, l.length, by simp [nats_len], by simp [nats_len], by omega, by rw [nats_len]; exact HS2.out.more (by omega) (Nat.le_refl _), hbw⟩
    · obtain ⟨l', hle, hs, hplt⟩ := HW.out.next hpl hx HL.out
      clear hle
      obtain ⟨s1, s2, s3⟩ := stepOk_iff.1 hs
      obtain ⟨k, rfl⟩ := Int.eq_ofNat_of_zero_le s1
      have hkf : k < fs.length := by omega
      obtain ⟨gf, hBe, _, hgl, hgf, hg4, _⟩ := (H.out.belowB hbw (Nat.le_refl _)).frame hkf
      subst hBe
      have hwk := HW.out.step hs
      simp only [Int.toNat_natCast] at s3 hwk
      generalize fat fs k = f at *
      obtain ⟨u, s, pp, r, nx⟩ := f
      obtain ⟨v0, v1, v2, v3, v4⟩ := hg4
      simp only [] at s3 v0 v1 v2 v3 v4 hwk
      subst s3
      have HW2 := Lib.hid hwk
      have i3 : (0 : Int) ≤ (k : Int) := by omega
      have i4 : (k : Int) < (fs.length : Int) := by omega
      have hx' : ((k : Int) == -1) = false := by simp
      clear hwk hs hx
      go_wp2_with (at_builtin; refine wpList_append_own _ rfl _ _ 25 rfl (w.heap.size + 1) 3 i0 (.int .i64 0) 1 8 Tryd.underlying25 hi0 hz0 hz1 hz2 rfl (by decide) _ _ _ rfl (HO.out.alloc (.cells #[.int .i64 k] 3)) _ _ _ [.int .i64 k] rfl rfl ?c1 ?c2 ?c3 ?c4 ?c5 ?_)
      case c1 => exact cell_new1 (by simp)
      case c2 => intro u hu; simp at hu; subst hu; rfl
      case c3 => unfold maxLen; omega
      case c4 => omega
      case c5 => simp; omega
      intro v' w6 hown' hgrow _
      have hb6 : Below (w.heap.size + 1) (w.alloc (.cells #[.slice (some ⟨g, 0, none⟩) bk.length ca, .slice (some ⟨gf, 0, none⟩) fs.length cb] 28)) w6 := below_app (HBR.out.alloc (by omega) _) (by simp; omega) (HO.out.alloc _) hgrow
      rw [ints_snoc, nats_snoc] at hown'
      obtain ⟨A6, c6, rfl, _, _, _⟩ := Sl.own hown'
      have R := Lib.hid (And.intro hown' hb6)
      clear hown' hb6 hgrow
      have hT6 : ∀ o, w6.cell? ⟨w.heap.size, o, none⟩ = (w.alloc (.cells #[.slice (some ⟨g, 0, none⟩) bk.length ca, .slice (some ⟨gf, 0, none⟩) fs.length cb] 28)).cell? ⟨w.heap.size, o, none⟩ := fun o => R.out.2.cell (p := ⟨w.heap.size, o, none⟩) (by simp)
      have q4 : w6.cell? ⟨gf, k * 5 + 4, none⟩ = some (.int .i64 nx) := by
        rw [R.out.2.cell (p := ⟨gf, k * 5 + 4, none⟩) (by have := hgl; simp; omega), ← HBR.out.cell (p := ⟨gf, k * 5 + 4, none⟩) (by have := hgl; simp; omega)]; exact v4
      go_wp2
      go_roundw
      case rel => exact ⟨p ++ [k], nx, rfl, by simpa using R.out.1, HW2.out, by simp; omega, R.out.2⟩
      case measure => simp [slen]; omega
def coOk (bk : List Int) (fs : List Fr) (b : Int) : Bool := tvB bk fs && withinB b bk.length
def coL (bk : List Int) (fs : List Fr) (b : Int) : List Int := if coOk bk fs b = true then nats (chL fs (bk.getD b.toNat 0)) else []
theorem co_yes {bk : List Int} {fs : List Fr} {b : Nat} (h : tvB bk fs = true) (hb : b < bk.length) : coOk bk fs b = true ∧ coL bk fs b = nats (chL fs (bk.getD b 0)) ∧ chn fs fs.length (bk.getD b 0) = some (chL fs (bk.getD b 0)) := by
  have e : coOk bk fs b = true := by unfold coOk; rw [h, withinB_iff.2 ⟨by omega, by omega⟩]; rfl
  exact ⟨e, by unfold coL; rw [if_pos e]; rfl, (tv_chn h hb).1⟩
theorem co_no {bk : List Int} {fs : List Fr} {b : Int} (h : coOk bk fs b = false) : coL bk fs b = [] := by unfold coL; rw [h]; rfl
theorem co_len (bk : List Int) (fs : List Fr) (b : Int) : (coL bk fs b).length ≤ fs.length := by
  unfold coL
  split
  · rw [nats_len]
    unfold chL
    rcases h : chn fs fs.length (bk.getD b.toNat 0) with _ | l
    · simp
    · exact chn_len h
  · simp
theorem spec_ChainOf (A B : Option Addr) (ca cb lo hi : Nat) (bk : List Int) (fs : List Fr) (b : Int) (w : World) (h : Tb w lo hi A B bk fs) (hn : bk.length ≤ 1048576) (hn2 : fs.length ≤ 1048576) :
    Calls Tryd.prog 18 #[.agg #[.slice A bk.length ca, .slice B fs.length cb], .int .i64 b] w (SlB (coL bk fs b) (coOk bk fs b) w) := by
  have TV := Lib.hid (spec_TvA A B ca cb lo hi bk fs (w.alloc (.cells #[.slice A bk.length ca, .slice B fs.length cb] 28)) (h.alloc _) hn hn2)
  have HT := Lib.hid h.top
  clear h
  have fin : ∀ (w' : World) (g : Nat), Below w.heap.size w w' → SlB [] false w (.returned (.tuple #[.slice (some ⟨g, 0, none⟩) 0 0, .bool false])) w' := fun w' g hb => ⟨some ⟨g, 0, none⟩, 0, rfl, Nat.le_refl _, by unfold maxLen; omega, Sl.empty, hb⟩
  have FIN := Lib.hid fin
  clear fin
  rcases htv : tvB bk fs with _ | _
  · have e : coOk bk fs b = false := by unfold coOk; rw [htv]; rfl
    rw [co_no e, e]
    rw [htv] at TV
    clear e htv
    go_enter Tryd.func18, Tryd.ntmps18
    go_wp2_with (fail)
    refine TV.out.mono ?_
    rintro e w1 ⟨rfl, hb1⟩
    go_wp2
    go_ret2
    exact FIN.out _ _ (by (repeat' (first | with_reducible exact Below.refl _ _ | (with_reducible refine balloc ?_ _) | (with_reducible refine bset ?_ ?_ _) | (with_reducible refine bdrew ?_) | (with_reducible refine bdrewN ?_ _) | (with_reducible refine bstep ?_ (by with_reducible assumption)) | (with_reducible refine bgrow ?_ (by with_reducible assumption) (by omega)) | (simp; done) | (simp; omega))))
  · rcases hwb : withinB b bk.length with _ | _
    · have e : coOk bk fs b = false := by unfold coOk; rw [hwb, Bool.and_false]
      rw [co_no e, e]
      rw [htv] at TV
      clear e htv
      rcases withinB_not.1 hwb with hb1 | hb1 <;> clear hwb
      · go_enter Tryd.func18, Tryd.ntmps18
        go_wp2_with (fail)
        refine TV.out.mono ?_
        rintro e w1 ⟨rfl, hb1⟩
        obtain ⟨hc1_0, hf1_0, hz1_0⟩ := bel_at hb1 (w.heap.size) (by first | omega | (simp; done) | (simp; omega))
        go_wp2
        go_ret2
        exact FIN.out _ _ (by (repeat' (first | with_reducible exact Below.refl _ _ | (with_reducible refine balloc ?_ _) | (with_reducible refine bset ?_ ?_ _) | (with_reducible refine bdrew ?_) | (with_reducible refine bdrewN ?_ _) | (with_reducible refine bstep ?_ (by with_reducible assumption)) | (with_reducible refine bgrow ?_ (by with_reducible assumption) (by omega)) | (simp; done) | (simp; omega))))
      · have hb0 : 0 ≤ b := by omega
        go_enter Tryd.func18, Tryd.ntmps18
        go_wp2_with (fail)
        refine TV.out.mono ?_
        rintro e w1 ⟨rfl, hb1⟩
        obtain ⟨hc1_0, hf1_0, hz1_0⟩ := bel_at hb1 (w.heap.size) (by first | omega | (simp; done) | (simp; omega))
        go_wp2
        go_ret2
        exact FIN.out _ _ (by (repeat' (first | with_reducible exact Below.refl _ _ | (with_reducible refine balloc ?_ _) | (with_reducible refine bset ?_ ?_ _) | (with_reducible refine bdrew ?_) | (with_reducible refine bdrewN ?_ _) | (with_reducible refine bstep ?_ (by with_reducible assumption)) | (with_reducible refine bgrow ?_ (by with_reducible assumption) (by omega)) | (simp; done) | (simp; omega))))
    · obtain ⟨b1, b2⟩ := withinB_iff.1 hwb
      obtain ⟨n, rfl⟩ := Int.eq_ofNat_of_zero_le b1
      obtain ⟨e1, e2, e3⟩ := co_yes htv (show n < bk.length by omega)
      rw [e1, e2]
      rw [htv] at TV
      clear e2
      generalize chL fs (bk.getD n 0) = l at *
      have HC := Lib.hid e3
      have hnl : n < bk.length := by omega
      clear e1 e3 htv hwb
      go_enter Tryd.func18, Tryd.ntmps18
      go_wp2_with (fail)
      refine TV.out.mono ?_
      rintro e w1 ⟨rfl, hb1⟩
      obtain ⟨hc1_0, hf1_0, hz1_0⟩ := bel_at hb1 (w.heap.size) (by first | omega | (simp; done) | (simp; omega))
      have hB1 : Below w.heap.size w w1 := by (repeat' (first | with_reducible exact Below.refl _ _ | (with_reducible refine balloc ?_ _) | (with_reducible refine bset ?_ ?_ _) | (with_reducible refine bdrew ?_) | (with_reducible refine bdrewN ?_ _) | (with_reducible refine bstep ?_ (by with_reducible assumption)) | (with_reducible refine bgrow ?_ (by with_reducible assumption) (by omega)) | (simp; done) | (simp; omega)))
      go_wp2_with (fail)
      refine (spec_l3Chain_yes _ _ _ _ _ _ bk fs n _ _ (HT.out.below hB1) hnl HC.out hn hn2).mono ?_
      rintro e w2 ⟨A2, c2, rfl, q1, q2, hs2, hb2⟩
      have R := Lib.hid (hs2.more hB1.size (Nat.le_refl _))
      clear hs2
      go_wp2
      go_ret2
      exact ⟨A2, c2, rfl, q1, q2, R.out, by (repeat' (first | with_reducible exact Below.refl _ _ | (with_reducible refine balloc ?_ _) | (with_reducible refine bset ?_ ?_ _) | (with_reducible refine bdrew ?_) | (with_reducible refine bdrewN ?_ _) | (with_reducible refine bstep ?_ (by with_reducible assumption)) | (with_reducible refine bgrow ?_ (by with_reducible assumption) (by omega)) | (simp; done) | (simp; omega)))⟩
theorem impl_ChainOf (A B : Option Addr) (ca cb lo hi : Nat) (bk : List Int) (fs : List Fr) (b : Int) (w : World) (hf : FreeIn w) (h : Tb w lo hi A B bk fs) (hn : bk.length ≤ 1048576) (hn2 : fs.length ≤ 1048576) :
    Calls Tryd.prog 17 #[.agg #[.slice A bk.length ca, .slice B fs.length cb], .int .i64 b] w (SlB (coL bk fs b) (coOk bk fs b) w) := by
  have TV := Lib.hid (impl_TvA A B ca cb lo hi bk fs (w.alloc (.cells #[.slice A bk.length ca, .slice B fs.length cb] 28)) (hf.below (Joins.below_alloc1 _ _)) (h.alloc _) hn hn2)
  have HT := Lib.hid h.top
  clear h hf
  have fin : ∀ (w' : World), Below w.heap.size w w' → SlB [] false w (.returned (.tuple #[.slice none 0 0, .bool false])) w' := fun w' hb => ⟨none, 0, rfl, Nat.le_refl _, by unfold maxLen; omega, Sl.none_, hb⟩
  have FIN := Lib.hid fin
  clear fin
  rcases htv : tvB bk fs with _ | _
  · have e : coOk bk fs b = false := by unfold coOk; rw [htv]; rfl
    rw [co_no e, e]
    rw [htv] at TV
    clear e htv
    go_enter Tryd.func17, Tryd.ntmps17
    go_wp2_with (fail)
    refine TV.out.mono ?_
    rintro e w1 ⟨rfl, hb1⟩
    go_wp2
    go_ret2
    exact FIN.out _ (by (repeat' (first | with_reducible exact Below.refl _ _ | (with_reducible refine balloc ?_ _) | (with_reducible refine bset ?_ ?_ _) | (with_reducible refine bdrew ?_) | (with_reducible refine bdrewN ?_ _) | (with_reducible refine bstep ?_ (by with_reducible assumption)) | (with_reducible refine bgrow ?_ (by with_reducible assumption) (by omega)) | (simp; done) | (simp; omega))))
  · rcases hwb : withinB b bk.length with _ | _
    · have e : coOk bk fs b = false := by unfold coOk; rw [hwb, Bool.and_false]
      rw [co_no e, e]
      rw [htv] at TV
      clear e htv
      go_enter Tryd.func17, Tryd.ntmps17
      go_wp2_with (fail)
      refine TV.out.mono ?_
      rintro e w1 ⟨rfl, hb1⟩
      obtain ⟨hc1_0, hf1_0, hz1_0⟩ := bel_at hb1 (w.heap.size) (by first | omega | (simp; done) | (simp; omega))
      go_wp2_with (go_at_call 48; refine (within_any _ _ _).mono ?_; rintro e w' ⟨rfl, rfl⟩)
      go_ret2
      exact FIN.out _ (by (repeat' (first | with_reducible exact Below.refl _ _ | (with_reducible refine balloc ?_ _) | (with_reducible refine bset ?_ ?_ _) | (with_reducible refine bdrew ?_) | (with_reducible refine bdrewN ?_ _) | (with_reducible refine bstep ?_ (by with_reducible assumption)) | (with_reducible refine bgrow ?_ (by with_reducible assumption) (by omega)) | (simp; done) | (simp; omega))))
    · obtain ⟨b1, b2⟩ := withinB_iff.1 hwb
      obtain ⟨n, rfl⟩ := Int.eq_ofNat_of_zero_le b1
      obtain ⟨e1, e2, e3⟩ := co_yes htv (show n < bk.length by omega)
      rw [e1, e2]
      rw [htv] at TV
      clear e2
      generalize chL fs (bk.getD n 0) = l at *
      have HC := Lib.hid e3
      have hnl : n < bk.length := by omega
      clear e1 e3 htv
      go_enter Tryd.func17, Tryd.ntmps17
      go_wp2_with (fail)
      refine TV.out.mono ?_
      rintro e w1 ⟨rfl, hb1⟩
      obtain ⟨hc1_0, hf1_0, hz1_0⟩ := bel_at hb1 (w.heap.size) (by first | omega | (simp; done) | (simp; omega))
      have hB1 : Below w.heap.size w w1 := by (repeat' (first | with_reducible exact Below.refl _ _ | (with_reducible refine balloc ?_ _) | (with_reducible refine bset ?_ ?_ _) | (with_reducible refine bdrew ?_) | (with_reducible refine bdrewN ?_ _) | (with_reducible refine bstep ?_ (by with_reducible assumption)) | (with_reducible refine bgrow ?_ (by with_reducible assumption) (by omega)) | (simp; done) | (simp; omega)))
      go_wp2_with (first | (go_at_call 48; refine (within_any _ _ _).mono ?_; rintro e w' ⟨rfl, rfl⟩) | fail)
      refine (impl_chain _ _ _ _ _ _ bk fs n _ _ (HT.out.below hB1) hnl HC.out hn hn2).mono ?_
      rintro e w2 ⟨A2, c2, rfl, q1, q2, hs2, hb2⟩
      have R := Lib.hid (hs2.more hB1.size (Nat.le_refl _))
      clear hs2
      go_wp2
      go_ret2
      exact ⟨A2, c2, rfl, q1, q2, R.out, by (repeat' (first | with_reducible exact Below.refl _ _ | (with_reducible refine balloc ?_ _) | (with_reducible refine bset ?_ ?_ _) | (with_reducible refine bdrew ?_) | (with_reducible refine bdrewN ?_ _) | (with_reducible refine bstep ?_ (by with_reducible assumption)) | (with_reducible refine bgrow ?_ (by with_reducible assumption) (by omega)) | (simp; done) | (simp; omega)))⟩
end Go.Proofs.YtjdoegekolbdpaaDoor
