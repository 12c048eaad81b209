/- TableSame, the program's and the reference's: both return whether the buckets and the frames are equal. Asked: at most 1048576 frames and buckets. -/
import Derived.Test.YtjdoegekolbdpaaDoorTab
namespace Go.Proofs.YtjdoegekolbdpaaDoor
set_option linter.unusedVariables false
open Go.ChangeShapes Go.WideShapes Go.ChangeAt Go.RowKit
/-- two lists agree before a place -/
def SameTo {α : Type} (xs ys : List α) (d : α) (k : Nat) : Prop := ∀ j, j < k → xs.getD j d = ys.getD j d
theorem SameTo.zero {α : Type} (xs ys : List α) (d : α) : SameTo xs ys d 0 := fun j h => absurd h (Nat.not_lt_zero j)
theorem SameTo.next {α : Type} {xs ys : List α} {d : α} {k : Nat} (h : SameTo xs ys d k) (h1 : xs.getD k d = ys.getD k d) : SameTo xs ys d (k + 1) := by
  intro j hj
  rcases Nat.lt_succ_iff_lt_or_eq.1 hj with h2 | rfl
  · exact h j h2
  · exact h1
theorem SameTo.eq {α : Type} {xs ys : List α} {d : α} (hl : xs.length = ys.length) (h : SameTo xs ys d xs.length) : xs = ys := by
  apply List.ext_getElem hl
  intro j h1 h2
  have := h j h1
  simpa [List.getD_eq_getElem?_getD, h1, h2] using this
theorem same_ne {α : Type} {xs ys : List α} {d : α} {k : Nat} (h : ¬ xs.getD k d = ys.getD k d) : xs ≠ ys := fun e => h (by rw [e])
instance frDec : DecidableEq Fr := fun f g =>
  if h : f.u = g.u ∧ f.s = g.s ∧ f.p = g.p ∧ f.r = g.r ∧ f.nx = g.nx then isTrue (by cases f; cases g; simp only at h; obtain ⟨rfl, rfl, rfl, rfl, rfl⟩ := h; rfl)
  else isFalse (fun e => h (by subst e; exact ⟨rfl, rfl, rfl, rfl, rfl⟩))
/-- whether two tables are equal -/
def tsB (bk bk' : List Int) (fs fs' : List Fr) : Bool := decide (bk = bk' ∧ fs = fs')
theorem fr_cases (u u' : Bool) (s s' p p' r r' nx nx' : Int) : (u = u' ∧ s = s' ∧ p = p' ∧ r = r' ∧ nx = nx') ∨
    ((⟨u, s, p, r, nx⟩ : Fr) ≠ ⟨u', s', p', r', nx'⟩ ∧ (((u == u') = false) ∨ (u = u' ∧ (s == s') = false) ∨ (u = u' ∧ s = s' ∧ (p == p') = false) ∨ (u = u' ∧ s = s' ∧ p = p' ∧ (r == r') = false) ∨ (u = u' ∧ s = s' ∧ p = p' ∧ r = r' ∧ (nx == nx') = false))) := by
  by_cases hxy : u = u' ∧ s = s' ∧ p = p' ∧ r = r' ∧ nx = nx'
  · exact .inl hxy
  · refine .inr ⟨fun e => hxy (by cases e; exact ⟨rfl, rfl, rfl, rfl, rfl⟩), ?_⟩
    simp only [beq_eq_false_iff_ne]
    by_cases c0 : u = u'
    · by_cases c1 : s = s'
      · by_cases c2 : p = p'
        · by_cases c3 : r = r'
          · exact .inr (.inr (.inr (.inr ⟨c0, c1, c2, c3, fun c4 => hxy ⟨c0, c1, c2, c3, c4⟩⟩)))
          · exact .inr (.inr (.inr (.inl ⟨c0, c1, c2, c3⟩)))
        · exact .inr (.inr (.inl ⟨c0, c1, c2⟩))
      · exact .inr (.inl ⟨c0, c1⟩)
    · exact .inl c0
theorem equal_ints (A B : Option Addr) (ca cb l1 h1 l2 h2 : Nat) (xs ys : List Int) (w : World) (h : Sl w l1 h1 3 1 A xs.length (ints xs)) (h' : Sl w l2 h2 3 1 B ys.length (ints ys)) (hn : xs.length ≤ 1048576) (hn2 : ys.length ≤ 1048576) :
    Calls Tryd.prog 44 #[.slice A xs.length ca, .slice B ys.length cb] w fun e w' => e = .returned (.bool (decide (xs = ys))) ∧ Below w.heap.size w w' := by
  by_cases hl : xs.length = ys.length
  · rw [← hl] at h' ⊢
    have H := Lib.hid h
    have H' := Lib.hid h'
    have HL := Lib.hid hl
    clear h h' hl hn2
    go_enter Tryd.func44, Tryd.ntmps44
    go_wp2
    go_loopw [13] (fun i wr => ∃ k : Nat, k ≤ xs.length ∧ i = .int .i64 k ∧ SameTo xs ys 0 k ∧ Below w.heap.size w wr) (fun i _ => xs.length - (intOf i).toNat)
    case atStart => exact ⟨0, Nat.zero_le _, rfl, SameTo.zero _ _ _, by (repeat' (first | with_reducible exact Below.refl _ _ | (with_reducible refine balloc ?_ _) | (with_reducible refine bset ?_ ?_ _) | (with_reducible refine bdrew ?_) | (with_reducible refine bdrewN ?_ _) | (with_reducible refine bstep ?_ (by with_reducible assumption)) | (with_reducible refine bgrow ?_ (by with_reducible assumption) (by omega)) | (simp; done) | (simp; omega)))⟩
    case round =>
      obtain ⟨k, hk, rfl, hst, hb⟩ := hrel
      by_cases hlt : k < xs.length
      · obtain ⟨g, rfl, _, _, hg1, hg2, _⟩ := (H.out.below hb).int hlt
        obtain ⟨g', rfl, _, _, hg4, hg5, _⟩ := (H'.out.below hb).int hlt
        have hnx := @SameTo.next _ xs ys 0 k hst
        have hne := @same_ne _ xs ys 0 k
        generalize xs.getD k 0 = x at *
        generalize ys.getD k 0 = y at *
        have HN := Lib.hid hnx
        have HE := Lib.hid hne
        clear hnx hne hst
        have i1 : (0 : Int) ≤ (k : Int) := by omega
        have i2 : (k : Int) < (xs.length : Int) := by omega
        by_cases hxy : x = y
        · subst hxy
          go_wp2
          go_quiet (fail)
          go_wp2
          go_roundw
          case rel => exact ⟨k + 1, by omega, by go_num, HN.out (by first | rfl | trivial), by (repeat' (first | with_reducible exact Below.refl _ _ | (with_reducible refine balloc ?_ _) | (with_reducible refine bset ?_ ?_ _) | (with_reducible refine bdrew ?_) | (with_reducible refine bdrewN ?_ _) | (with_reducible refine bstep ?_ (by with_reducible assumption)) | (with_reducible refine bgrow ?_ (by with_reducible assumption) (by omega)) | (simp; done) | (simp; omega)))⟩
          case measure => simp [intOf]; omega
        · have hf : (x == y) = false := by simpa using hxy
          go_wp2
          go_quiet (fail)
          go_wp2
          go_ret
          exact ⟨by rw [decide_eq_false (HE.out hxy)]; rfl, by (repeat' (first | with_reducible exact Below.refl _ _ | (with_reducible refine balloc ?_ _) | (with_reducible refine bset ?_ ?_ _) | (with_reducible refine bdrew ?_) | (with_reducible refine bdrewN ?_ _) | (with_reducible refine bstep ?_ (by with_reducible assumption)) | (with_reducible refine bgrow ?_ (by with_reducible assumption) (by omega)) | (simp; done) | (simp; omega)))⟩
      · obtain rfl : k = xs.length := by omega
        have HS := Lib.hid hst
        clear hst
        go_wp2
        go_ret
        exact ⟨by rw [decide_eq_true (SameTo.eq HL.out HS.out)]; rfl, by (repeat' (first | with_reducible exact Below.refl _ _ | (with_reducible refine balloc ?_ _) | (with_reducible refine bset ?_ ?_ _) | (with_reducible refine bdrew ?_) | (with_reducible refine bdrewN ?_ _) | (with_reducible refine bstep ?_ (by with_reducible assumption)) | (with_reducible refine bgrow ?_ (by with_reducible assumption) (by omega)) | (simp; done) | (simp; omega)))⟩
  · have e : decide (xs = ys) = false := decide_eq_false (fun e => hl (by rw [e]))
    rw [e]
    have i1 : ((xs.length : Int) == (ys.length : Int)) = false := by simp; omega
    go_enter Tryd.func44, Tryd.ntmps44
    go_wp2
    go_ret
    exact ⟨rfl, by (repeat' (first | with_reducible exact Below.refl _ _ | (with_reducible refine balloc ?_ _) | (with_reducible refine bset ?_ ?_ _) | (with_reducible refine bdrew ?_) | (with_reducible refine bdrewN ?_ _) | (with_reducible refine bstep ?_ (by with_reducible assumption)) | (with_reducible refine bgrow ?_ (by with_reducible assumption) (by omega)) | (simp; done) | (simp; omega)))⟩
theorem equal_frames (A B : Option Addr) (ca cb l1 h1 l2 h2 : Nat) (xs ys : List Fr) (w : World) (h : Sl w l1 h1 46 5 A xs.length (fcells xs)) (h' : Sl w l2 h2 46 5 B ys.length (fcells ys)) (hn : xs.length ≤ 1048576) (hn2 : ys.length ≤ 1048576) :
    Calls Tryd.prog 45 #[.slice A xs.length ca, .slice B ys.length cb] w fun e w' => e = .returned (.bool (decide (xs = ys))) ∧ Below w.heap.size w w' := by
  by_cases hl : xs.length = ys.length
  · rw [← hl] at h' ⊢
    have H := Lib.hid h
    have H' := Lib.hid h'
    have HL := Lib.hid hl
    clear h h' hl hn2
    go_enter Tryd.func45, Tryd.ntmps45
    go_wp2
    go_loopw [13] (fun i wr => ∃ k : Nat, k ≤ xs.length ∧ i = .int .i64 k ∧ SameTo xs ys fr0 k ∧ Below w.heap.size w wr) (fun i _ => xs.length - (intOf i).toNat)
    case atStart => exact ⟨0, Nat.zero_le _, rfl, SameTo.zero _ _ _, by (repeat' (first | with_reducible exact Below.refl _ _ | (with_reducible refine balloc ?_ _) | (with_reducible refine bset ?_ ?_ _) | (with_reducible refine bdrew ?_) | (with_reducible refine bdrewN ?_ _) | (with_reducible refine bstep ?_ (by with_reducible assumption)) | (with_reducible refine bgrow ?_ (by with_reducible assumption) (by omega)) | (simp; done) | (simp; omega)))⟩
    case round =>
      obtain ⟨k, hk, rfl, hst, hb⟩ := hrel
      by_cases hlt : k < xs.length
      · obtain ⟨g, rfl, _, _, hg1, hg2, _⟩ := (H.out.below hb).frame hlt
        obtain ⟨g', rfl, _, _, hg4, hg5, _⟩ := (H'.out.below hb).frame hlt
        have hnx := @SameTo.next _ xs ys fr0 k hst
        have hne := @same_ne _ xs ys fr0 k
        change (¬ fat xs k = fat ys k → _) at hne
        change (fat xs k = fat ys k → _) at hnx
        generalize fat xs k = x at *
        generalize fat ys k = y at *
        have HN := Lib.hid hnx
        have HE := Lib.hid hne
        clear hnx hne hst
        have i1 : (0 : Int) ≤ (k : Int) := by omega
        have i2 : (k : Int) < (xs.length : Int) := by omega
        obtain ⟨u, s, p, r, nx⟩ := x
        obtain ⟨u', s', p', r', nx'⟩ := y
        obtain ⟨v0, v1, v2, v3, v4⟩ := hg2
        obtain ⟨y0, y1, y2, y3, y4⟩ := hg5
        simp only [] at v0 v1 v2 v3 v4 y0 y1 y2 y3 y4
        rcases fr_cases u u' s s' p p' r r' nx nx' with ⟨rfl, rfl, rfl, rfl, rfl⟩ | ⟨hx, hcases⟩
        · go_wp2
          go_quiet (fail)
          go_wp2
          go_roundw
          case rel => exact ⟨k + 1, by omega, by go_num, HN.out (by first | rfl | trivial), by (repeat' (first | with_reducible exact Below.refl _ _ | (with_reducible refine balloc ?_ _) | (with_reducible refine bset ?_ ?_ _) | (with_reducible refine bdrew ?_) | (with_reducible refine bdrewN ?_ _) | (with_reducible refine bstep ?_ (by with_reducible assumption)) | (with_reducible refine bgrow ?_ (by with_reducible assumption) (by omega)) | (simp; done) | (simp; omega)))⟩
          case measure => simp [intOf]; omega
        · have HF := Lib.hid (HE.out hx)
          rcases hcases with h1 | ⟨rfl, h1⟩ | ⟨rfl, rfl, h1⟩ | ⟨rfl, rfl, rfl, h1⟩ | ⟨rfl, rfl, rfl, rfl, h1⟩
          all_goals
            go_wp2
            go_quiet (fail)
            go_wp2
            go_ret
            exact ⟨by rw [decide_eq_false HF.out]; rfl, by (repeat' (first | with_reducible exact Below.refl _ _ | (with_reducible refine balloc ?_ _) | (with_reducible refine bset ?_ ?_ _) | (with_reducible refine bdrew ?_) | (with_reducible refine bdrewN ?_ _) | (with_reducible refine bstep ?_ (by with_reducible assumption)) | (with_reducible refine bgrow ?_ (by with_reducible assumption) (by omega)) | (simp; done) | (simp; omega)))⟩
      · obtain rfl : k = xs.length := by omega
        have HS := Lib.hid hst
        clear hst
        go_wp2
        go_ret
        exact ⟨by rw [decide_eq_true (SameTo.eq HL.out HS.out)]; rfl, by (repeat' (first | with_reducible exact Below.refl _ _ | (with_reducible refine balloc ?_ _) | (with_reducible refine bset ?_ ?_ _) | (with_reducible refine bdrew ?_) | (with_reducible refine bdrewN ?_ _) | (with_reducible refine bstep ?_ (by with_reducible assumption)) | (with_reducible refine bgrow ?_ (by with_reducible assumption) (by omega)) | (simp; done) | (simp; omega)))⟩
  · have e : decide (xs = ys) = false := decide_eq_false (fun e => hl (by rw [e]))
    rw [e]
    have i1 : ((xs.length : Int) == (ys.length : Int)) = false := by simp; omega
    go_enter Tryd.func45, Tryd.ntmps45
    go_wp2
    go_ret
    exact ⟨rfl, by (repeat' (first | with_reducible exact Below.refl _ _ | (with_reducible refine balloc ?_ _) | (with_reducible refine bset ?_ ?_ _) | (with_reducible refine bdrew ?_) | (with_reducible refine bdrewN ?_ _) | (with_reducible refine bstep ?_ (by with_reducible assumption)) | (with_reducible refine bgrow ?_ (by with_reducible assumption) (by omega)) | (simp; done) | (simp; omega)))⟩
theorem impl_TableSame (A B A' B' : Option Addr) (ca cb ca' cb' l1 h1 l2 h2 : Nat) (bk bk' : List Int) (fs fs' : List Fr) (w : World) (h : Tb w l1 h1 A B bk fs) (h' : Tb w l2 h2 A' B' bk' fs') (hn : bk.length ≤ 1048576) (hn2 : fs.length ≤ 1048576) (hn3 : bk'.length ≤ 1048576) (hn4 : fs'.length ≤ 1048576) :
    Calls Tryd.prog 13 #[tabV A bk.length ca B fs.length cb, tabV A' bk'.length ca' B' fs'.length cb'] w fun e w' => e = .returned (.bool (tsB bk bk' fs fs')) ∧ Below w.heap.size w w' := by
  have H := Lib.hid h
  have H' := Lib.hid h'
  clear h h'
  have e0 : tsB bk bk' fs fs' = (decide (bk = bk') && decide (fs = fs')) := by unfold tsB; rw [Bool.decide_and]
  rw [e0]
  clear e0
  unfold tabV
  go_enter Tryd.func13, Tryd.ntmps13
  go_wp2_with (fail)
  refine (equal_ints A A' ca ca' l1 h1 l2 h2 bk bk' _ ((H.out.1.alloc _).alloc _) ((H'.out.1.alloc _).alloc _) hn hn3).mono ?_
  rintro e w1 ⟨rfl, hb1⟩
  have hB1 : Below w.heap.size w w1 := by (repeat' (first | with_reducible exact Below.refl _ _ | (with_reducible refine balloc ?_ _) | (with_reducible refine bset ?_ ?_ _) | (with_reducible refine bdrew ?_) | (with_reducible refine bdrewN ?_ _) | (with_reducible refine bstep ?_ (by with_reducible assumption)) | (with_reducible refine bgrow ?_ (by with_reducible assumption) (by omega)) | (simp; done) | (simp; omega)))
  obtain ⟨hc1, hf1, hz1⟩ := bel_at hb1 (w.heap.size) (by first | omega | (simp; done) | (simp; omega))
  obtain ⟨hc2, hf2, hz2⟩ := bel_at hb1 (w.heap.size + 1) (by first | omega | (simp; done) | (simp; omega))
  rcases hq : decide (bk = bk') with _ | _
  · go_wp2
    go_ret
    exact ⟨by rw [hq]; rfl, by (repeat' (first | with_reducible exact Below.refl _ _ | (with_reducible refine balloc ?_ _) | (with_reducible refine bset ?_ ?_ _) | (with_reducible refine bdrew ?_) | (with_reducible refine bdrewN ?_ _) | (with_reducible refine bstep ?_ (by with_reducible assumption)) | (with_reducible refine bgrow ?_ (by with_reducible assumption) (by omega)) | (simp; done) | (simp; omega)))⟩
  · go_wp2_with (fail)
    refine (equal_frames B B' cb cb' l1 h1 l2 h2 fs fs' _ (H.out.2.below hB1) (H'.out.2.below hB1) hn2 hn4).mono ?_
    rintro e w2 ⟨rfl, hb2⟩
    go_wp2
    go_ret
    exact ⟨by rw [hq, Bool.true_and]; rfl, by (repeat' (first | with_reducible exact Below.refl _ _ | (with_reducible refine balloc ?_ _) | (with_reducible refine bset ?_ ?_ _) | (with_reducible refine bdrew ?_) | (with_reducible refine bdrewN ?_ _) | (with_reducible refine bstep ?_ (by with_reducible assumption)) | (with_reducible refine bgrow ?_ (by with_reducible assumption) (by omega)) | (simp; done) | (simp; omega)))⟩
theorem tsB_false {bk bk' : List Int} {fs fs' : List Fr} (h : ¬ (bk = bk' ∧ fs = fs')) : tsB bk bk' fs fs' = false := decide_eq_false h
theorem spec_TableSame (A B A' B' : Option Addr) (ca cb ca' cb' l1 h1 l2 h2 : Nat) (bk bk' : List Int) (fs fs' : List Fr) (w : World) (h : Tb w l1 h1 A B bk fs) (h' : Tb w l2 h2 A' B' bk' fs') (hn : bk.length ≤ 1048576) (hn2 : fs.length ≤ 1048576) (hn3 : bk'.length ≤ 1048576) (hn4 : fs'.length ≤ 1048576) :
    Calls Tryd.prog 22 #[tabV A bk.length ca B fs.length cb, tabV A' bk'.length ca' B' fs'.length cb'] w fun e w' => e = .returned (.bool (tsB bk bk' fs fs')) ∧ Below w.heap.size w w' := by
  have H := Lib.hid h
  have H' := Lib.hid h'
  clear h h'
  unfold tabV
  by_cases hl : bk.length = bk'.length
  · by_cases hm : fs.length = fs'.length
    · have hs1 := H'.out.1
      have hs2 := H'.out.2
      rw [← hl] at hs1 ⊢
      rw [← hm] at hs2 ⊢
      have HA := Lib.hid hs1
      have HB := Lib.hid hs2
      clear hs1 hs2
      have HL := Lib.hid hl
      have HM := Lib.hid hm
      clear hl hm hn3 hn4
      go_enter Tryd.func22, Tryd.ntmps22
      go_wp2
      go_loopw [5] (fun i wr => ∃ k : Nat, k ≤ bk.length ∧ i = .int .i64 k ∧ SameTo bk bk' 0 k ∧ Below ((w.alloc (.cells #[.slice A bk.length ca, .slice B fs.length cb] 28)).alloc (.cells #[.slice A' bk.length ca', .slice B' fs.length cb'] 28)).heap.size ((w.alloc (.cells #[.slice A bk.length ca, .slice B fs.length cb] 28)).alloc (.cells #[.slice A' bk.length ca', .slice B' fs.length cb'] 28)) wr) (fun i _ => bk.length - (intOf i).toNat)
      case atStart => exact ⟨0, Nat.zero_le _, rfl, SameTo.zero _ _ _, Below.refl _ _⟩
      case round =>
        obtain ⟨k, hk, rfl, hst, hb⟩ := hrel
        have hbw : Below w.heap.size w wr := ((Joins.below_alloc1 w (.cells #[.slice A bk.length ca, .slice B fs.length cb] 28)).trans ((Joins.below_alloc1 _ (.cells #[.slice A' bk.length ca', .slice B' fs.length cb'] 28)).mono (by simp only [World.alloc, Array.size_push]; omega))).trans (hb.mono (by simp only [World.alloc, Array.size_push]; omega))
        obtain ⟨hc1, hf1, hz1⟩ := bel_at hb (w.heap.size) (by simp; omega)
        obtain ⟨hc2, hf2, hz2⟩ := bel_at hb (w.heap.size + 1) (by simp)
        by_cases hlt : k < bk.length
        · obtain ⟨g, rfl, _, _, hg1, hg2, _⟩ := (H.out.1.below hbw).int hlt
          obtain ⟨g', rfl, _, _, hg4, hg5, _⟩ := (HA.out.below hbw).int hlt
          have hnx := @SameTo.next _ bk bk' 0 k hst
          have hne := @same_ne _ bk bk' 0 k
          generalize bk.getD k 0 = x at *
          generalize bk'.getD k 0 = y at *
          have HN := Lib.hid hnx
          have HE := Lib.hid hne
          clear hnx hne hst
          have i1 : (0 : Int) ≤ (k : Int) := by omega
          have i2 : (k : Int) < (bk.length : Int) := by omega
          by_cases hxy : x = y
          · subst hxy
            go_wp2
            go_quiet (fail)
            go_wp2
            go_roundw
            case rel => exact ⟨k + 1, by omega, by go_num, HN.out (by first | rfl | trivial), by (repeat' (first | with_reducible exact Below.refl _ _ | (with_reducible refine balloc ?_ _) | (with_reducible refine bset ?_ ?_ _) | (with_reducible refine bdrew ?_) | (with_reducible refine bdrewN ?_ _) | (with_reducible refine bstep ?_ (by with_reducible assumption)) | (with_reducible refine bgrow ?_ (by with_reducible assumption) (by omega)) | (simp; done) | (simp; omega)))⟩
            case measure => simp [intOf]; omega
          · have hf : (x == y) = false := by simpa using hxy
            go_wp2
            go_quiet (fail)
            go_wp2
            go_ret
            exact ⟨by rw [tsB_false (fun c => (HE.out hxy) c.1)]; rfl, by (repeat' (first | with_reducible exact Below.refl _ _ | (with_reducible refine balloc ?_ _) | (with_reducible refine bset ?_ ?_ _) | (with_reducible refine bdrew ?_) | (with_reducible refine bdrewN ?_ _) | (with_reducible refine bstep ?_ (by with_reducible assumption)) | (with_reducible refine bgrow ?_ (by with_reducible assumption) (by omega)) | (simp; done) | (simp; omega)))⟩
        · obtain rfl : k = bk.length := by omega
          have HBk := Lib.hid (SameTo.eq HL.out hst)
          clear hst
          go_wp2
          go_loopw [6] (fun i wr => ∃ k : Nat, k ≤ fs.length ∧ i = .int .i64 k ∧ SameTo fs fs' fr0 k ∧ Below ((w.alloc (.cells #[.slice A bk.length ca, .slice B fs.length cb] 28)).alloc (.cells #[.slice A' bk.length ca', .slice B' fs.length cb'] 28)).heap.size ((w.alloc (.cells #[.slice A bk.length ca, .slice B fs.length cb] 28)).alloc (.cells #[.slice A' bk.length ca', .slice B' fs.length cb'] 28)) wr) (fun i _ => fs.length - (intOf i).toNat)
          case atStart => exact ⟨0, Nat.zero_le _, rfl, SameTo.zero _ _ _, hb⟩
          case round =>
            clear hb hbw hc1 hc2 hf1 hf2 hz1 hz2 hlt hk
            obtain ⟨k, hk, rfl, hst, hb⟩ := hrel
            have hbw : Below w.heap.size w wr := ((Joins.below_alloc1 w (.cells #[.slice A bk.length ca, .slice B fs.length cb] 28)).trans ((Joins.below_alloc1 _ (.cells #[.slice A' bk.length ca', .slice B' fs.length cb'] 28)).mono (by simp only [World.alloc, Array.size_push]; omega))).trans (hb.mono (by simp only [World.alloc, Array.size_push]; omega))
            obtain ⟨hc1, hf1, hz1⟩ := bel_at hb (w.heap.size) (by simp; omega)
            obtain ⟨hc2, hf2, hz2⟩ := bel_at hb (w.heap.size + 1) (by simp)
            by_cases hlt : k < fs.length
            · obtain ⟨g, rfl, _, _, hg1, hg2, _⟩ := (H.out.2.below hbw).frame hlt
              obtain ⟨g', rfl, _, _, hg4, hg5, _⟩ := (HB.out.below hbw).frame hlt
              have hnx := @SameTo.next _ fs fs' fr0 k hst
              have hne := @same_ne _ fs fs' fr0 k
              change (¬ fat fs k = fat fs' k → _) at hne
              change (fat fs k = fat fs' k → _) at hnx
              generalize fat fs k = x at *
              generalize fat fs' k = y at *
              have HN := Lib.hid hnx
              have HE := Lib.hid hne
              clear hnx hne hst
              have i1 : (0 : Int) ≤ (k : Int) := by omega
              have i2 : (k : Int) < (fs.length : Int) := by omega
              obtain ⟨u, s, p, r, nx⟩ := x
              obtain ⟨u', s', p', r', nx'⟩ := y
              obtain ⟨v0, v1, v2, v3, v4⟩ := hg2
              obtain ⟨y0, y1, y2, y3, y4⟩ := hg5
              simp only [] at v0 v1 v2 v3 v4 y0 y1 y2 y3 y4
              rcases fr_cases u u' s s' p p' r r' nx nx' with ⟨rfl, rfl, rfl, rfl, rfl⟩ | ⟨hx, hcases⟩
              · go_wp2
                go_quiet (fail)
                go_wp2
                go_roundw
                case rel => exact ⟨k + 1, by omega, by go_num, HN.out (by first | rfl | trivial), by (repeat' (first | with_reducible exact Below.refl _ _ | (with_reducible refine balloc ?_ _) | (with_reducible refine bset ?_ ?_ _) | (with_reducible refine bdrew ?_) | (with_reducible refine bdrewN ?_ _) | (with_reducible refine bstep ?_ (by with_reducible assumption)) | (with_reducible refine bgrow ?_ (by with_reducible assumption) (by omega)) | (simp; done) | (simp; omega)))⟩
                case measure => simp [intOf]; omega
              · have HF := Lib.hid (HE.out hx)
                rcases hcases with h1 | ⟨rfl, h1⟩ | ⟨rfl, rfl, h1⟩ | ⟨rfl, rfl, rfl, h1⟩ | ⟨rfl, rfl, rfl, rfl, h1⟩
                all_goals
                  go_wp2
                  go_quiet (fail)
                  go_wp2
                  go_ret
                  exact ⟨by rw [tsB_false (fun c => HF.out c.2)]; rfl, by (repeat' (first | with_reducible exact Below.refl _ _ | (with_reducible refine balloc ?_ _) | (with_reducible refine bset ?_ ?_ _) | (with_reducible refine bdrew ?_) | (with_reducible refine bdrewN ?_ _) | (with_reducible refine bstep ?_ (by with_reducible assumption)) | (with_reducible refine bgrow ?_ (by with_reducible assumption) (by omega)) | (simp; done) | (simp; omega)))⟩
            · obtain rfl : k = fs.length := by omega
              have HFs := Lib.hid (SameTo.eq HM.out hst)
              clear hst
              go_wp2
              go_ret
              exact ⟨by rw [show tsB bk bk' fs fs' = true from decide_eq_true ⟨HBk.out, HFs.out⟩]; rfl, by (repeat' (first | with_reducible exact Below.refl _ _ | (with_reducible refine balloc ?_ _) | (with_reducible refine bset ?_ ?_ _) | (with_reducible refine bdrew ?_) | (with_reducible refine bdrewN ?_ _) | (with_reducible refine bstep ?_ (by with_reducible assumption)) | (with_reducible refine bgrow ?_ (by with_reducible assumption) (by omega)) | (simp; done) | (simp; omega)))⟩
    · rw [tsB_false (fun c => hm (by rw [c.2]))]
      rw [← hl]
      have i1 : ((fs.length : Int) == (fs'.length : Int)) = false := by simp; omega
      clear hl hm
      go_enter Tryd.func22, Tryd.ntmps22
      go_wp2
      go_ret
      exact ⟨rfl, by (repeat' (first | with_reducible exact Below.refl _ _ | (with_reducible refine balloc ?_ _) | (with_reducible refine bset ?_ ?_ _) | (with_reducible refine bdrew ?_) | (with_reducible refine bdrewN ?_ _) | (with_reducible refine bstep ?_ (by with_reducible assumption)) | (with_reducible refine bgrow ?_ (by with_reducible assumption) (by omega)) | (simp; done) | (simp; omega)))⟩
  · rw [tsB_false (fun c => hl (by rw [c.1]))]
    have i1 : ((bk.length : Int) == (bk'.length : Int)) = false := by simp; omega
    go_enter Tryd.func22, Tryd.ntmps22
    go_wp2
    go_ret
    exact ⟨rfl, by (repeat' (first | with_reducible exact Below.refl _ _ | (with_reducible refine balloc ?_ _) | (with_reducible refine bset ?_ ?_ _) | (with_reducible refine bdrew ?_) | (with_reducible refine bdrewN ?_ _) | (with_reducible refine bstep ?_ (by with_reducible assumption)) | (with_reducible refine bgrow ?_ (by with_reducible assumption) (by omega)) | (simp; done) | (simp; omega)))⟩
end Go.Proofs.YtjdoegekolbdpaaDoor
