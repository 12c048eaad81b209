/- Tables in memory; the reference's chains and validity return what the plain functions say. Asked: at most 1048576 frames and buckets. -/
import Derived.Test.YtjdoegekolbdpaaDoorFrF
import Derived.Test.YtjdoegekolbdpaaDoorAccept
import Derived.Test.YtjdoegekolbdpaaDoorAddr
namespace Go.Proofs.YtjdoegekolbdpaaDoor
set_option linter.unusedVariables false
open Go.ChangeShapes Go.WideShapes Go.ChangeAt Go.RowKit

/-- a table's value -/
def tabV (A : Option Addr) (nb ca : Nat) (B : Option Addr) (nf cb : Nat) : Value := .agg #[.slice A nb ca, .slice B nf cb]
/-- its two slices in memory -/
def Tb (w : World) (lo hi : Nat) (A B : Option Addr) (bk : List Int) (fs : List Fr) : Prop :=
  Sl w lo hi 3 1 A bk.length (ints bk) ∧ Sl w lo hi 46 5 B fs.length (fcells fs)
theorem Tb.below {w w' : World} {lo hi : Nat} {A B : Option Addr} {bk : List Int} {fs : List Fr} (h : Tb w lo hi A B bk fs) (hb : Below w.heap.size w w') : Tb w' lo hi A B bk fs := ⟨h.1.below hb, h.2.below hb⟩
theorem Tb.more {w : World} {lo hi lo' hi' : Nat} {A B : Option Addr} {bk : List Int} {fs : List Fr} (h : Tb w lo hi A B bk fs) (h1 : lo' ≤ lo) (h2 : hi ≤ hi') : Tb w lo' hi' A B bk fs := ⟨h.1.more h1 h2, h.2.more h1 h2⟩
theorem Tb.alloc {w : World} {lo hi : Nat} {A B : Option Addr} {bk : List Int} {fs : List Fr} (h : Tb w lo hi A B bk fs) (o : Obj) : Tb (w.alloc o) lo hi A B bk fs := h.below (Joins.below_alloc1 _ _)
theorem Tb.drewN {w : World} {lo hi : Nat} {A B : Option Addr} {bk : List Int} {fs : List Fr} (h : Tb w lo hi A B bk fs) (n : Nat) : Tb (w.drewN n) lo hi A B bk fs := ⟨h.1.drewN n, h.2.drewN n⟩
theorem Tb.only {w w' : World} {lo hi lo' hi' : Nat} {A B : Option Addr} {bk : List Int} {fs : List Fr} (h : Tb w lo hi A B bk fs) (ho : Only lo' hi' w w') (hd : hi ≤ lo' ∨ hi' ≤ lo) : Tb w' lo hi A B bk fs := ⟨h.1.only ho hd, h.2.only ho hd⟩
theorem Tb.top {w : World} {lo hi : Nat} {A B : Option Addr} {bk : List Int} {fs : List Fr} (h : Tb w lo hi A B bk fs) : Tb w lo w.heap.size A B bk fs := ⟨h.1.top, h.2.top⟩
theorem spec_l3Frame (f : Fr) (w : World) : Calls Tryd.prog 59 #[.agg #[.bool f.u, .int .i64 f.s, .int .i64 f.p, .int .i64 f.r, .int .i64 f.nx]] w fun e w' => e = .returned (.bool (frOk f)) ∧ Below w.heap.size w w' := by
  obtain ⟨u, s, p, r, x⟩ := f
  rcases u with _ | _
  · have e : frOk ⟨false, s, p, r, x⟩ = (s == 0 && p == 0 && r == 0 && x == -1) := rfl
    rw [e]
    go_enter Tryd.func59, Tryd.ntmps59
    clear e
    go_wp2
    all_goals (go_ret; exact ⟨ret_bool (by first | (simp [*]; done) | (simp_all; done)), by (repeat' (first | with_reducible exact Below.refl _ _ | (with_reducible refine balloc ?_ _) | (with_reducible refine bset ?_ ?_ _) | (with_reducible refine bdrew ?_) | (with_reducible refine bdrewN ?_ _) | (with_reducible refine bstep ?_ (by with_reducible assumption)) | (with_reducible refine bgrow ?_ (by with_reducible assumption) (by omega)) | (simp; done) | (simp; omega)))⟩)
  · have e : frOk ⟨true, s, p, r, x⟩ = (kvB s p && withinB r 8) := rfl
    rw [e]
    clear e
    rcases hk : kvB s p with _ | _
    · go_enter Tryd.func59, Tryd.ntmps59
      go_wp2_with (fail)
      refine (spec_KeyValid_b _ _ _).mono ?_
      rintro e w1 ⟨rfl, hb1⟩
      obtain ⟨hc, hf, hz⟩ := bel_at hb1 (w.heap.size) (by first | omega | (simp; done) | (simp; omega))
      go_wp2_with (go_at_call 81; refine (spec_RightsValid _ _).mono ?_; rintro e w' ⟨rfl, rfl⟩)
      all_goals (go_ret; exact ⟨rfl, by (repeat' (first | with_reducible exact Below.refl _ _ | (with_reducible refine balloc ?_ _) | (with_reducible refine bset ?_ ?_ _) | (with_reducible refine bdrew ?_) | (with_reducible refine bdrewN ?_ _) | (with_reducible refine bstep ?_ (by with_reducible assumption)) | (with_reducible refine bgrow ?_ (by with_reducible assumption) (by omega)) | (simp; done) | (simp; omega)))⟩)
    · go_enter Tryd.func59, Tryd.ntmps59
      go_wp2_with (fail)
      refine (spec_KeyValid_b _ _ _).mono ?_
      rintro e w1 ⟨rfl, hb1⟩
      obtain ⟨hc, hf, hz⟩ := bel_at hb1 (w.heap.size) (by first | omega | (simp; done) | (simp; omega))
      go_wp2_with (go_at_call 81; refine (spec_RightsValid _ _).mono ?_; rintro e w' ⟨rfl, rfl⟩)
      all_goals (go_ret; exact ⟨rfl, by (repeat' (first | with_reducible exact Below.refl _ _ | (with_reducible refine balloc ?_ _) | (with_reducible refine bset ?_ ?_ _) | (with_reducible refine bdrew ?_) | (with_reducible refine bdrewN ?_ _) | (with_reducible refine bstep ?_ (by with_reducible assumption)) | (with_reducible refine bgrow ?_ (by with_reducible assumption) (by omega)) | (simp; done) | (simp; omega)))⟩)
def TIn (w : World) (A : Option Addr) (nb : Nat) (B : Option Addr) (nf : Nat) (bk : List Int) (fs : List Fr) : Prop := IIn w A nb bk ∧ FIn w B nf fs
theorem TIn.below {w w' : World} {A B : Option Addr} {nb nf : Nat} {bk : List Int} {fs : List Fr} (h : TIn w A nb B nf bk fs) (hb : Below w.heap.size w w') : TIn w' A nb B nf bk fs := ⟨h.1.below hb, h.2.below hb⟩
def ToTab (bk : List Int) (fs : List Fr) (w : World) (e : Ending) (w' : World) : Prop :=
  ∃ ga gb, e = .returned (tabV (some ⟨ga, 0, none⟩) bk.length bk.length (some ⟨gb, 0, none⟩) fs.length fs.length) ∧ Tb w' w.heap.size w'.heap.size (some ⟨ga, 0, none⟩) (some ⟨gb, 0, none⟩) bk fs ∧ Below w.heap.size w w'
theorem laws_toTable (A B : Option Addr) (nb ca nf cb : Nat) (bk : List Int) (fs : List Fr) (w : World) (h : TIn w A nb B nf bk fs) (hn : nb ≤ 1048576) (hn2 : nf ≤ 1048576) :
    Calls Tryd.prog 31 #[tabV A nb ca B nf cb] w (ToTab bk fs w) := by
  have H := Lib.hid h
  obtain rfl : bk.length = nb := h.1.1
  obtain rfl : fs.length = nf := h.2.1
  clear h
  unfold tabV
  go_enter Tryd.func31, Tryd.ntmps31
  go_wp2_with (fail)
  refine (laws_toIntS A _ ca bk _ (((H.out.1.below (Joins.below_alloc1 _ _)).below (Joins.below_alloc1 _ _)).below (Joins.below_alloc1 _ _)) hn).mono ?_
  rintro e w1 ⟨ga, rfl, hs1, hb1⟩
  obtain ⟨hc1_0, hf1_0, hz1_0⟩ := bel_at hb1 (w.heap.size) (by first | omega | (simp; done) | (simp; omega))
  obtain ⟨hc1_1, hf1_1, hz1_1⟩ := bel_at hb1 (w.heap.size + 1) (by first | omega | (simp; done) | (simp; omega))
  obtain ⟨hc1_2, hf1_2, hz1_2⟩ := bel_at hb1 (w.heap.size + 1 + 1) (by first | omega | (simp; done) | (simp; omega))
  have HS1 := Lib.hid hs1
  clear hs1
  go_wp2_with (fail)
  refine (laws_toFrameS B _ cb fs _ (H.out.2.below (by (repeat' (first | with_reducible exact Below.refl _ _ | (with_reducible refine balloc ?_ _) | (with_reducible refine bset ?_ ?_ _) | (with_reducible refine bdrew ?_) | (with_reducible refine bdrewN ?_ _) | (with_reducible refine bstep ?_ (by with_reducible assumption)) | (with_reducible refine bgrow ?_ (by with_reducible assumption) (by omega)) | (simp; done) | (simp; omega))))) hn2).mono ?_
  rintro e w2 ⟨gb, rfl, hs2, hb2⟩
  obtain ⟨hc2_0, hf2_0, hz2_0⟩ := bel_at hb2 (w.heap.size) (by first | omega | (simp; done) | (simp; omega))
  obtain ⟨hc2_1, hf2_1, hz2_1⟩ := bel_at hb2 (w.heap.size + 1) (by first | omega | (simp; done) | (simp; omega))
  obtain ⟨hc2_2, hf2_2, hz2_2⟩ := bel_at hb2 (w.heap.size + 1 + 1) (by first | omega | (simp; done) | (simp; omega))
  have hB2 : Below w.heap.size w w2 := by (repeat' (first | with_reducible exact Below.refl _ _ | (with_reducible refine balloc ?_ _) | (with_reducible refine bset ?_ ?_ _) | (with_reducible refine bdrew ?_) | (with_reducible refine bdrewN ?_ _) | (with_reducible refine bstep ?_ (by with_reducible assumption)) | (with_reducible refine bgrow ?_ (by with_reducible assumption) (by omega)) | (simp; done) | (simp; omega)))
  have hz1 := hb1.size
  have hz2 := hb2.size
  simp at hz1 hz2
  have hA : Sl w2 (w.heap.size + 3) w2.heap.size 3 1 (some ⟨ga, 0, none⟩) bk.length (ints bk) := ((HS1.out.set_ (p := ⟨w.heap.size + 1 + 1, 0, none⟩) (.inr (by simp)) _).below hb2).more (by simp) (by omega)
  have hB : Sl w2 (w.heap.size + 3) w2.heap.size 46 5 (some ⟨gb, 0, none⟩) fs.length (fcells fs) := hs2.more (by simp; omega) (Nat.le_refl _)
  have HA := Lib.hid hA
  have HB := Lib.hid hB
  clear hs2 HS1 hA hB
  go_wp2
  refine bodyPost_ret (v := .agg #[.slice (some ⟨ga, 0, none⟩) bk.length bk.length, .slice (some ⟨gb, 0, none⟩) fs.length fs.length]) (by simp [results, Tryd.results31, go_sem, *]) rfl ?_
  exact ⟨ga, gb, rfl, ⟨(show Sl _ (w.heap.size + 3) w2.heap.size _ _ _ _ _ by (repeat' (first | (with_reducible assumption) | (with_reducible exact Hid.out (by assumption)) | (with_reducible refine Sl.alloc ?_ _) | (with_reducible refine Sl.drewN ?_ _) | (with_reducible refine Sl.drew ?_) | (with_reducible refine Sl.set_ ?_ (by first | (left; (try simp) <;> omega) | (right; (try simp) <;> omega)) _) | (with_reducible refine Sl.below ?_ (by with_reducible assumption))))).more (by omega) (by simp), (show Sl _ (w.heap.size + 3) w2.heap.size _ _ _ _ _ by (repeat' (first | (with_reducible assumption) | (with_reducible exact Hid.out (by assumption)) | (with_reducible refine Sl.alloc ?_ _) | (with_reducible refine Sl.drewN ?_ _) | (with_reducible refine Sl.drew ?_) | (with_reducible refine Sl.set_ ?_ (by first | (left; (try simp) <;> omega) | (right; (try simp) <;> omega)) _) | (with_reducible refine Sl.below ?_ (by with_reducible assumption))))).more (by omega) (by simp)⟩, by (repeat' (first | with_reducible exact Below.refl _ _ | (with_reducible refine balloc ?_ _) | (with_reducible refine bset ?_ ?_ _) | (with_reducible refine bdrew ?_) | (with_reducible refine bdrewN ?_ _) | (with_reducible refine bstep ?_ (by with_reducible assumption)) | (with_reducible refine bgrow ?_ (by with_reducible assumption) (by omega)) | (simp; done) | (simp; omega)))⟩
theorem laws_szTable (A B : Option Addr) (nb ca nf cb : Nat) (left : Int) (w : World) (hn : nb ≤ maxLen) (hn2 : nf ≤ maxLen) (h0 : 0 ≤ left) (h1 : left ≤ 1048576) :
    Calls Tryd.prog 30 #[tabV A nb ca B nf cb, .int .i64 left] w fun e w' => e = .returned (.int .i64 (if left < nb + nf then -1 else left - nb - nf)) ∧ Below w.heap.size w w' := by
  unfold tabV
  by_cases c1 : left < nb
  · rw [if_pos (by omega)]
    have SZ := laws_szIntS A nb ca left (w.alloc (.cells #[.slice A nb ca, .slice B nf cb] 57)) hn h0 h1
    rw [if_pos c1] at SZ
    have SZH := Lib.hid SZ
    clear SZ
    go_enter Tryd.func30, Tryd.ntmps30
    go_wp2_with (fail)
    refine (SZH.out).mono ?_
    rintro e w' ⟨rfl, rfl⟩
    go_wp2
    go_ret
    exact ⟨rfl, by (repeat' (first | with_reducible exact Below.refl _ _ | (with_reducible refine balloc ?_ _) | (with_reducible refine bset ?_ ?_ _) | (with_reducible refine bdrew ?_) | (with_reducible refine bdrewN ?_ _) | (with_reducible refine bstep ?_ (by with_reducible assumption)) | (with_reducible refine bgrow ?_ (by with_reducible assumption) (by omega)) | (simp; done) | (simp; omega)))⟩
  · have SZ := laws_szIntS A nb ca left (w.alloc (.cells #[.slice A nb ca, .slice B nf cb] 57)) hn h0 h1
    rw [if_neg c1] at SZ
    have SZH := Lib.hid SZ
    have SZ2 := laws_szFrameS B nf cb (left - nb) (w.alloc (.cells #[.slice A nb ca, .slice B nf cb] 57)) hn2 (by omega) (by omega)
    have hle : 0 ≤ left - nb := by omega
    have hle2 : left - nb ≤ 1048576 := by omega
    by_cases c2 : left - nb < nf
    · rw [if_pos (by omega)]
      rw [if_pos c2] at SZ2
      have SZH2 := Lib.hid SZ2
      clear SZ SZ2
      unfold maxLen at hn hn2
      go_enter Tryd.func30, Tryd.ntmps30
      go_wp2_with (fail)
      refine (SZH.out).mono ?_
      rintro e w' ⟨rfl, rfl⟩
      go_wp2_with (fail)
      refine (SZH2.out).mono ?_
      rintro e w' ⟨rfl, rfl⟩
      go_wp2
      go_ret
      exact ⟨rfl, by (repeat' (first | with_reducible exact Below.refl _ _ | (with_reducible refine balloc ?_ _) | (with_reducible refine bset ?_ ?_ _) | (with_reducible refine bdrew ?_) | (with_reducible refine bdrewN ?_ _) | (with_reducible refine bstep ?_ (by with_reducible assumption)) | (with_reducible refine bgrow ?_ (by with_reducible assumption) (by omega)) | (simp; done) | (simp; omega)))⟩
    · rw [if_neg (by omega)]
      rw [if_neg c2] at SZ2
      have SZH2 := Lib.hid SZ2
      have hle3 : 0 ≤ left - nb - nf := by omega
      clear SZ SZ2
      unfold maxLen at hn hn2
      go_enter Tryd.func30, Tryd.ntmps30
      go_wp2_with (fail)
      refine (SZH.out).mono ?_
      rintro e w' ⟨rfl, rfl⟩
      go_wp2_with (fail)
      refine (SZH2.out).mono ?_
      rintro e w' ⟨rfl, rfl⟩
      go_wp2
      go_ret
      exact ⟨rfl, by (repeat' (first | with_reducible exact Below.refl _ _ | (with_reducible refine balloc ?_ _) | (with_reducible refine bset ?_ ?_ _) | (with_reducible refine bdrew ?_) | (with_reducible refine bdrewN ?_ _) | (with_reducible refine bstep ?_ (by with_reducible assumption)) | (with_reducible refine bgrow ?_ (by with_reducible assumption) (by omega)) | (simp; done) | (simp; omega)))⟩
theorem laws_eqTable (A B A' B' : Option Addr) (ca cb ca' cb' lo hi lo' hi' : Nat) (bk : List Int) (fs : List Fr) (w : World) (h : Tb w lo hi A B bk fs) (h' : Tb w lo' hi' A' B' bk fs) (hn : bk.length ≤ 1048576) (hn2 : fs.length ≤ 1048576) :
    Calls Tryd.prog 33 #[tabV A bk.length ca B fs.length cb, tabV A' bk.length ca' B' fs.length cb'] w fun e w' => e = .returned (.bool true) ∧ Below w.heap.size w w' := by
  have H := Lib.hid h
  have H' := Lib.hid h'
  clear h h'
  unfold tabV
  go_enter Tryd.func33, Tryd.ntmps33
  go_wp2_with (fail)
  refine (laws_eqIntS A A' _ ca ca' _ _ _ _ bk _ ((H.out.1.alloc _).alloc _) ((H'.out.1.alloc _).alloc _) hn).mono ?_
  rintro e w1 ⟨rfl, hb1⟩
  obtain ⟨hc1_0, hf1_0, hz1_0⟩ := bel_at hb1 (w.heap.size) (by first | omega | (simp; done) | (simp; omega))
  obtain ⟨hc1_1, hf1_1, hz1_1⟩ := bel_at hb1 (w.heap.size + 1) (by first | omega | (simp; done) | (simp; omega))
  go_wp2_with (fail)
  refine (laws_eqFrameS B B' _ cb cb' _ _ _ _ fs _ (((H.out.2.alloc _).alloc _).below hb1) (((H'.out.2.alloc _).alloc _).below hb1) (by omega)).mono ?_
  rintro e w2 ⟨rfl, hb2⟩
  go_wp2
  all_goals (go_ret; exact ⟨rfl, by (repeat' (first | with_reducible exact Below.refl _ _ | (with_reducible refine balloc ?_ _) | (with_reducible refine bset ?_ ?_ _) | (with_reducible refine bdrew ?_) | (with_reducible refine bdrewN ?_ _) | (with_reducible refine bstep ?_ (by with_reducible assumption)) | (with_reducible refine bgrow ?_ (by with_reducible assumption) (by omega)) | (simp; done) | (simp; omega)))⟩)
theorem laws_markTable (A B : Option Addr) (ca cb lo hi : Nat) (q : Int) (bk : List Int) (fs : List Fr) (w : World) (h : Tb w lo hi A B bk fs) (hhi : hi ≤ w.heap.size) (hn : bk.length ≤ 1048576) (hn2 : fs.length ≤ 1048576) (q1 : 0 ≤ q) (q2 : q ≤ 1000) :
    Calls Tryd.prog 34 #[tabV A bk.length ca B fs.length cb, .int .i64 q] w fun e w' => e = .returned (.int .i64 (q + bk.length + 5 * fs.length)) ∧ Tb w' lo hi A B (marks q bk.length) (frMarks (q + bk.length) fs.length) ∧ Only lo hi w w' := by
  have H := Lib.hid h
  clear h
  unfold tabV
  go_enter Tryd.func34, Tryd.ntmps34
  go_wp2_with (fail)
  refine (laws_markIntST A _ ca _ _ q bk _ (H.out.1.alloc _) hn q1 (by omega)).mono ?_
  rintro e w1 ⟨rfl, hs1, ho1, hk1⟩
  obtain ⟨hc1, hf1, hz1⟩ := only_at ho1 w.heap.size (by simp) (.inr hhi)
  have HS1 := Lib.hid hs1
  have HO1 := Lib.hid (((Only.refl lo hi w).alloc (.cells #[.slice A bk.length ca, .slice B fs.length cb] 28)).trans2 ho1)
  have HB1 := Lib.hid (hk1 _ _ _ _ _ _ _ (by decide) (H.out.2.alloc _))
  clear hs1 ho1 hk1
  go_wp2_with (fail)
  refine (laws_markFrameS B _ cb _ _ (q + bk.length) fs _ HB1.out (by omega) (by omega) (by omega)).mono ?_
  rintro e w2 ⟨rfl, hs2, ho2, hk2⟩
  have R : Hid (Tb w2 lo hi A B (marks q bk.length) (frMarks (q + bk.length) fs.length) ∧ Only lo hi w w2) := by
    refine ⟨⟨?_, ?_⟩, HO1.out.trans2 ho2⟩
    · rw [marks_len]; exact hk2 _ _ _ _ _ _ _ (by decide) HS1.out
    · rw [frMarks_len]; exact hs2
  clear hs2 ho2 hk2 HS1 HO1 HB1
  go_wp2
  go_ret
  exact ⟨rfl, R.out⟩
end Go.Proofs.YtjdoegekolbdpaaDoor
