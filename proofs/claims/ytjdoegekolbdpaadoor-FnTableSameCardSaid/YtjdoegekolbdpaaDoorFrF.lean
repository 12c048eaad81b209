/- Contracts of the laws' helpers on frames and on ints that came in. No conditions but lengths of at most 1048576. -/
import Derived.Test.YtjdoegekolbdpaaDoorFrS
namespace Go.Proofs.YtjdoegekolbdpaaDoor
open Go.ChangeShapes Go.WideShapes Go.ChangeAt Go.RowKit
theorem fr_info : (Tryd.prog.info? 46).map (fun i => (i.zero, i.size, i.bytes)) = some (some (.agg #[.bool false, .int .i64 0, .int .i64 0, .int .i64 0, .int .i64 0]), 5, 40) := by kernel_rfl
theorem laws_szIntS (A : Option Addr) (n c : Nat) (left : Int) (w : World) (hn : n ≤ maxLen) (h0 : 0 ≤ left) (h1 : left ≤ 1048576) :
    Calls Tryd.prog 61 #[.slice A n c, .int .i64 left] w fun e w' => e = .returned (.int .i64 (if left < n then -1 else left - n)) ∧ w = w' := by
  unfold maxLen at hn
  by_cases hl : left < n
  · rw [if_pos hl]
    go_enter Tryd.func61, Tryd.ntmps61
    go_wp2
    all_goals (go_ret; exact ⟨rfl, rfl⟩)
  · rw [if_neg hl]
    go_enter Tryd.func61, Tryd.ntmps61
    go_wp2
    all_goals (go_ret; exact ⟨rfl, rfl⟩)
theorem laws_szFrameS (A : Option Addr) (n c : Nat) (left : Int) (w : World) (hn : n ≤ maxLen) (h0 : 0 ≤ left) (h1 : left ≤ 1048576) :
    Calls Tryd.prog 62 #[.slice A n c, .int .i64 left] w fun e w' => e = .returned (.int .i64 (if left < n then -1 else left - n)) ∧ w = w' := by
  unfold maxLen at hn
  by_cases hl : left < n
  · rw [if_pos hl]
    go_enter Tryd.func62, Tryd.ntmps62
    go_wp2
    all_goals (go_ret; exact ⟨rfl, rfl⟩)
  · rw [if_neg hl]
    go_enter Tryd.func62, Tryd.ntmps62
    go_wp2
    all_goals (go_ret; exact ⟨rfl, rfl⟩)
theorem laws_toIntS (A : Option Addr) (n c : Nat) (zs : List Int) (w : World) (h : IIn w A n zs) (hn : n ≤ 1048576) :
    Calls Tryd.prog 63 #[.slice A n c] w fun e w' => ∃ g, e = .returned (.slice (some ⟨g, 0, none⟩) n n) ∧ Sl w' w.heap.size w'.heap.size 3 1 (some ⟨g, 0, none⟩) n (ints zs) ∧ Below w.heap.size w w' := by
  have H := Lib.hid h
  clear h
  obtain ⟨i0, hi, hz0, hz1, hz2⟩ := info_parts int_info
  go_enter Tryd.func63, Tryd.ntmps63
  go_wp2_with (at_make; refine wpList_make_full _ rfl _ _ 25 rfl w.heap.size 3 i0 _ 1 Tryd.underlying25 hi hz0 hz1 .i64 .i64 _ _ n rfl rfl rfl rfl (by rw [hz2]; omega) (by unfold maxLen; omega) (Nat.le_refl _) ?_; intro w1 hown hg)
  obtain ⟨A', c', e, _, _, hsl⟩ := Sl.own hown
  obtain ⟨rfl, rfl⟩ : A' = some ⟨w.heap.size, 0, none⟩ ∧ n = c' := by cases e; exact ⟨rfl, rfl⟩
  simp only [Value.cells] at hsl
  rw [ints_made] at hsl
  have HS := Lib.hid hsl
  have hbw : Below w.heap.size w w1 := (Below.refl _ _).grown hg (Nat.le_refl _) (fun k e => by cases e)
  clear hown hg e hsl
  go_loopw [4] (fun i wr => ∃ k : Nat, k ≤ n ∧ i = .int .i64 k ∧ Sl wr w.heap.size w1.heap.size 3 1 (some ⟨w.heap.size, 0, none⟩) n (ints (cpd (fun j => zs.getD j 0) (List.replicate n 0) k)) ∧ Below w.heap.size w wr) (fun i _ => n - (intOf i).toNat)
  case atStart => exact ⟨0, Nat.zero_le _, rfl, HS.out, hbw⟩
  case round =>
    obtain ⟨k, hk, rfl, hs, hb⟩ := hrel
    by_cases hlt : k < n
    · obtain ⟨b, off, rfl, _, hg2⟩ := (H.out.below hb).at_ hlt
      obtain ⟨g', e, hg0, hg0', hg1, hg4, hg5⟩ := hs.int hlt
      obtain rfl : w.heap.size = g' := by simpa using e
      have i1 : (0 : Int) ≤ (k : Int) := by omega
      have i2 : (k : Int) < (n : Int) := by omega
      have hs6 := hs.stored (by omega) k (.int .i64 (zs.getD k 0))
      rw [ints_set] at hs6
      generalize hzk : zs.getD k 0 = z at *
      have R := Lib.hid (And.intro hs6 hzk)
      clear hs hs6 e hzk
      go_wp2
      go_roundw
      case rel => exact ⟨k + 1, by omega, by go_num, by have := R.out.1; rw [← R.out.2] at this ⊢; exact this, by (repeat' (first | with_reducible exact Below.refl _ _ | (with_reducible refine balloc ?_ _) | (with_reducible refine bset ?_ ?_ _) | (with_reducible refine bdrew ?_) | (with_reducible refine bdrewN ?_ _) | (with_reducible refine bstep ?_ (by with_reducible assumption)) | (with_reducible refine bgrow ?_ (by with_reducible assumption) (by omega)) | (simp; done) | (simp; omega)))⟩
      case measure => simp [intOf]; omega
    · obtain rfl : k = n := by omega
      rw [cpd_all _ _ _ (by simp), range_getD _ _ _ H.out.1] at hs
      have hs := hs.top
      go_wp2
      go_ret
      exact ⟨_, rfl, hs, hb⟩
theorem laws_toFrame (u : Bool) (s p r x : Int) (w : World) : Calls Tryd.prog 82 #[.agg #[.bool u, .int .i64 s, .int .i64 p, .int .i64 r, .int .i64 x]] w fun e w' => e = .returned (.agg #[.bool u, .int .i64 s, .int .i64 p, .int .i64 r, .int .i64 x]) ∧ Below w.heap.size w w' := by
  go_enter Tryd.func82, Tryd.ntmps82
  go_wp2
  go_returns
  exact ⟨rfl, by (repeat' (first | with_reducible exact Below.refl _ _ | (with_reducible refine balloc ?_ _) | (with_reducible refine bset ?_ ?_ _) | (with_reducible refine bdrew ?_) | (with_reducible refine bdrewN ?_ _) | (with_reducible refine bstep ?_ (by with_reducible assumption)) | (with_reducible refine bgrow ?_ (by with_reducible assumption) (by omega)) | (simp; done) | (simp; omega)))⟩
theorem laws_toFrameS (A : Option Addr) (n c : Nat) (fs : List Fr) (w : World) (h : FIn w A n fs) (hn : n ≤ 1048576) :
    Calls Tryd.prog 64 #[.slice A n c] w fun e w' => ∃ g, e = .returned (.slice (some ⟨g, 0, none⟩) n n) ∧ Sl w' w.heap.size w'.heap.size 46 5 (some ⟨g, 0, none⟩) n (fcells fs) ∧ Below w.heap.size w w' := by
  have H := Lib.hid h
  clear h
  obtain ⟨i0, hi, hz0, hz1, hz2⟩ := info_parts fr_info
  go_enter Tryd.func64, Tryd.ntmps64
  go_wp2_with (at_make; refine wpList_make_full _ rfl _ _ 26 rfl w.heap.size 46 i0 _ 5 Tryd.underlying26 hi hz0 hz1 .i64 .i64 _ _ n rfl rfl rfl rfl (by rw [hz2]; omega) (by unfold maxLen; omega) (Nat.le_refl _) ?_; intro w1 hown hg)
  obtain ⟨A', c', e, _, _, hsl⟩ := Sl.own hown
  obtain ⟨rfl, rfl⟩ : A' = some ⟨w.heap.size, 0, none⟩ ∧ n = c' := by cases e; exact ⟨rfl, rfl⟩
  simp only [Value.cells] at hsl
  rw [fcells_made] at hsl
  have HS := Lib.hid hsl
  have hbw : Below w.heap.size w w1 := (Below.refl _ _).grown hg (Nat.le_refl _) (fun k e => by cases e)
  clear hown hg e hsl
  go_loopw [4] (fun i wr => ∃ k : Nat, k ≤ n ∧ i = .int .i64 k ∧ Sl wr w.heap.size w1.heap.size 46 5 (some ⟨w.heap.size, 0, none⟩) n (fcells (cpd (fun j => fat fs j) (List.replicate n fr0) k)) ∧ Below w.heap.size w wr) (fun i _ => n - (intOf i).toNat)
  case atStart => exact ⟨0, Nat.zero_le _, rfl, HS.out, hbw⟩
  case round =>
    obtain ⟨k, hk, rfl, hs, hb⟩ := hrel
    by_cases hlt : k < n
    · obtain ⟨b, off, rfl, _, hg2⟩ := (H.out.below hb).at_ hlt
      obtain ⟨g', e, hg0, hg0', hg1, hg4, hg6⟩ := hs.frame hlt
      obtain rfl : w.heap.size = g' := by simpa using e
      generalize hfk : fat fs k = f at *
      obtain ⟨u, s, p, r, x⟩ := f
      obtain ⟨v0, v1, v2, v3, v4⟩ := hg2
      obtain ⟨y0, y1, y2, y3, y4⟩ := hg4
      simp only [] at v0 v1 v2 v3 v4
      have i1 : (0 : Int) ≤ (k : Int) := by omega
      have i2 : (k : Int) < (n : Int) := by omega
      have HF := Lib.hid hfk
      clear e hfk
      go_wp2_with (fail)
      refine (laws_toFrame _ _ _ _ _ _).mono ?_
      rintro e w6 ⟨rfl, hb6⟩
      obtain ⟨hc, hf, hz⟩ := bel_at hb6 (w.heap.size) (by first | assumption | simpa using hg1)
      rw [← hc] at y0 y1 y2 y3 y4
      have hf0 : ∀ o, w6.frozen? ⟨w.heap.size, o, none⟩ = false := fun o => (hf o).trans (hg6 o)
      have hs6 := (((((hs.below hb6).stored (by omega) (k * 5) (.bool u)).stored (by omega) (k * 5 + 1) (.int .i64 s)).stored (by omega) (k * 5 + 2) (.int .i64 p)).stored (by omega) (k * 5 + 3) (.int .i64 r)).stored (by omega) (k * 5 + 4) (.int .i64 x)
      have e5 := fcells_set (cpd (fun j => fat fs j) (List.replicate n fr0) k) ⟨u, s, p, r, x⟩ k
      simp only [] at e5
      rw [e5] at hs6
      have R := Lib.hid hs6
      clear hs hs6 hc hf hg6 e5
      go_wp2
      go_roundw
      case rel => exact ⟨k + 1, by omega, by go_num, by have := R.out; rw [← HF.out] at this; exact this, by (repeat' (first | with_reducible exact Below.refl _ _ | (with_reducible refine balloc ?_ _) | (with_reducible refine bset ?_ ?_ _) | (with_reducible refine bdrew ?_) | (with_reducible refine bdrewN ?_ _) | (with_reducible refine bstep ?_ (by with_reducible assumption)) | (with_reducible refine bgrow ?_ (by with_reducible assumption) (by omega)) | (simp; done) | (simp; omega)))⟩
      case measure => simp [intOf]; omega
    · obtain rfl : k = n := by omega
      rw [cpd_all _ _ _ (by simp)] at hs
      have e : (List.range k).map (fun j => fat fs j) = fs := range_getD fs fr0 k H.out.1
      rw [e] at hs
      have hs := hs.top
      clear e
      go_wp2
      go_ret
      exact ⟨_, rfl, hs, hb⟩
theorem laws_eqFrame (u : Bool) (s p r x : Int) (w : World) : Calls Tryd.prog 83 #[.agg #[.bool u, .int .i64 s, .int .i64 p, .int .i64 r, .int .i64 x], .agg #[.bool u, .int .i64 s, .int .i64 p, .int .i64 r, .int .i64 x]] w fun e w' => e = .returned (.bool true) ∧ Below w.heap.size w w' := by
  go_enter Tryd.func83, Tryd.ntmps83
  go_wp2
  all_goals (go_ret; exact ⟨rfl, by (repeat' (first | with_reducible exact Below.refl _ _ | (with_reducible refine balloc ?_ _) | (with_reducible refine bset ?_ ?_ _) | (with_reducible refine bdrew ?_) | (with_reducible refine bdrewN ?_ _) | (with_reducible refine bstep ?_ (by with_reducible assumption)) | (with_reducible refine bgrow ?_ (by with_reducible assumption) (by omega)) | (simp; done) | (simp; omega)))⟩)
theorem laws_eqFrameS (A B : Option Addr) (n c d l1 h1 l2 h2 : Nat) (fs : List Fr) (w : World) (h : Sl w l1 h1 46 5 A n (fcells fs)) (h' : Sl w l2 h2 46 5 B n (fcells fs)) (hn : n ≤ 1048576) :
    Calls Tryd.prog 67 #[.slice A n c, .slice B n d] w fun e w' => e = .returned (.bool true) ∧ Below w.heap.size w w' := by
  have H := Lib.hid h
  have H' := Lib.hid h'
  clear h h'
  go_enter Tryd.func67, Tryd.ntmps67
  go_wp2
  go_loopw [5] (fun i wr => ∃ k : Nat, k ≤ n ∧ i = .int .i64 k ∧ Below w.heap.size w wr) (fun i _ => n - (intOf i).toNat)
  case atStart => exact ⟨0, Nat.zero_le _, rfl, by (repeat' (first | with_reducible exact Below.refl _ _ | (with_reducible refine balloc ?_ _) | (with_reducible refine bset ?_ ?_ _) | (with_reducible refine bdrew ?_) | (with_reducible refine bdrewN ?_ _) | (with_reducible refine bstep ?_ (by with_reducible assumption)) | (with_reducible refine bgrow ?_ (by with_reducible assumption) (by omega)) | (simp; done) | (simp; omega)))⟩
  case round =>
    obtain ⟨k, hk, rfl, hb⟩ := hrel
    by_cases hlt : k < n
    · obtain ⟨g, rfl, _, _, hg1, hg2, _⟩ := (H.out.below hb).frame hlt
      obtain ⟨g', rfl, _, _, hg4, hg5, _⟩ := (H'.out.below hb).frame hlt
      generalize fat fs k = f at *
      obtain ⟨u, s, p, r, x⟩ := f
      obtain ⟨v0, v1, v2, v3, v4⟩ := hg2
      obtain ⟨y0, y1, y2, y3, y4⟩ := hg5
      simp only [] at v0 v1 v2 v3 v4 y0 y1 y2 y3 y4
      have i1 : (0 : Int) ≤ (k : Int) := by omega
      have i2 : (k : Int) < (n : Int) := by omega
      go_wp2
      go_region_held3 (fun W' => W'.cell? ⟨g, k * 5, none⟩ = some (.bool u) ∧ W'.cell? ⟨g, k * 5 + 1, none⟩ = some (.int .i64 s) ∧ W'.cell? ⟨g, k * 5 + 2, none⟩ = some (.int .i64 p) ∧ W'.cell? ⟨g, k * 5 + 3, none⟩ = some (.int .i64 r) ∧ W'.cell? ⟨g, k * 5 + 4, none⟩ = some (.int .i64 x) ∧
          W'.cell? ⟨g', k * 5, none⟩ = some (.bool u) ∧ W'.cell? ⟨g', k * 5 + 1, none⟩ = some (.int .i64 s) ∧ W'.cell? ⟨g', k * 5 + 2, none⟩ = some (.int .i64 p) ∧ W'.cell? ⟨g', k * 5 + 3, none⟩ = some (.int .i64 r) ∧ W'.cell? ⟨g', k * 5 + 4, none⟩ = some (.int .i64 x)) (go_keep)
        (first | (go_at_call 83; refine (laws_eqFrame _ _ _ _ _ _).mono ?_; rintro e w' ⟨rfl, hb7⟩; obtain ⟨hc, hf, hz⟩ := bel_at hb7 g (by first | assumption | simpa using hg1); obtain ⟨hc', hf', hz'⟩ := bel_at hb7 g' (by first | assumption | simpa using hg4)))
      go_wp2
      all_goals
        go_roundw
        case rel => exact ⟨k + 1, by omega, by go_num, by (repeat' (first | with_reducible exact Below.refl _ _ | (with_reducible refine balloc ?_ _) | (with_reducible refine bset ?_ ?_ _) | (with_reducible refine bdrew ?_) | (with_reducible refine bdrewN ?_ _) | (with_reducible refine bstep ?_ (by with_reducible assumption)) | (with_reducible refine bgrow ?_ (by with_reducible assumption) (by omega)) | (simp; done) | (simp; omega)))⟩
        case measure => simp [intOf]; omega
    · go_wp2
      go_ret
      exact ⟨rfl, hb⟩
/-- the marks of frames -/
def frMark (q : Int) : Fr := ⟨q % 3 == 0, q + 1, q + 2, q + 3, q + 4⟩
def frMarks (q : Int) (n : Nat) : List Fr := (List.range n).map fun (j : Nat) => frMark (q + 5 * (j : Int))
theorem frMarks_len (q : Int) (n : Nat) : (frMarks q n).length = n := by simp [frMarks]
theorem frMarks_at (q : Int) {n j : Nat} (h : j < n) : fat (frMarks q n) j = frMark (q + 5 * (j : Int)) := by simp [fat, frMarks, List.getD_eq_getElem?_getD, h]
theorem laws_markFrameS (A : Option Addr) (n c l1 h1 : Nat) (q : Int) (fs : List Fr) (w : World) (h : Sl w l1 h1 46 5 A n (fcells fs)) (hn : n ≤ 1048576) (q1 : 0 ≤ q) (q2 : q ≤ 100000000) :
    Calls Tryd.prog 69 #[.slice A n c, .int .i64 q] w fun e w' => e = .returned (.int .i64 (q + 5 * n)) ∧ Sl w' l1 h1 46 5 A n (fcells (frMarks q n)) ∧ Only l1 h1 w w' ∧ KeepT 46 w w' := by
  have H := Lib.hid h
  have hfl : fs.length = n := by have := h.1; rw [fcells_len] at this; omega
  have HF := Lib.hid hfl
  clear h hfl
  go_enter Tryd.func69, Tryd.ntmps69
  go_wp2
  go_loopw [1, 5] (fun v i wr => ∃ k : Nat, k ≤ n ∧ i = .int .i64 k ∧ v = .int .i64 (q + 5 * k) ∧ Sl wr l1 h1 46 5 A n (fcells (cpd (fun j => frMark (q + 5 * (j : Int))) fs k)) ∧ Only l1 h1 w wr ∧ KeepT 46 w wr) (fun _ i _ => n - (intOf i).toNat)
  case atStart => exact ⟨0, Nat.zero_le _, rfl, by go_num, H.out, Only.refl _ _ _, KeepT.refl _ _⟩
  case round =>
    obtain ⟨k, hk, rfl, rfl, hs, ho, hkt⟩ := hrel
    by_cases hlt : k < n
    · obtain ⟨g, rfl, hg0, hg0', hg1, hg2, hg3⟩ := hs.frame hlt
      obtain ⟨v0, v1, v2, v3, v4⟩ := hg2
      generalize fat (cpd (fun j => frMark (q + 5 * (j : Int))) fs k) k = f0 at *
      obtain ⟨u, s, p, r, x⟩ := f0
      simp only [] at v0 v1 v2 v3 v4
      have hsA := (((((hs.stored (by omega) (k * 5) (.bool ((q + 5 * (k : Int)) % 3 == 0))).stored (by omega) (k * 5 + 1) (.int .i64 (q + 5 * (k : Int) + 1))).stored (by omega) (k * 5 + 2) (.int .i64 (q + 5 * (k : Int) + 1 + 1))).stored (by omega) (k * 5 + 3) (.int .i64 (q + 5 * (k : Int) + 1 + 1 + 1))).stored (by omega) (k * 5 + 4) (.int .i64 (q + 5 * (k : Int) + 1 + 1 + 1 + 1)))
      have ea : q + 5 * (k : Int) + 1 + 1 = q + 5 * (k : Int) + 2 := by omega
      have eb : q + 5 * (k : Int) + 1 + 1 + 1 = q + 5 * (k : Int) + 3 := by omega
      have ec : q + 5 * (k : Int) + 1 + 1 + 1 + 1 = q + 5 * (k : Int) + 4 := by omega
      have hs6 : Sl (((((wr.setCell ⟨g, k * 5, none⟩ (.bool ((q + 5 * (k : Int)) % 3 == 0))).setCell ⟨g, k * 5 + 1, none⟩ (.int .i64 (q + 5 * (k : Int) + 1))).setCell ⟨g, k * 5 + 2, none⟩ (.int .i64 (q + 5 * (k : Int) + 1 + 1))).setCell ⟨g, k * 5 + 3, none⟩ (.int .i64 (q + 5 * (k : Int) + 1 + 1 + 1))).setCell ⟨g, k * 5 + 4, none⟩ (.int .i64 (q + 5 * (k : Int) + 1 + 1 + 1 + 1))) l1 h1 46 5 (some ⟨g, 0, none⟩) n (fcells (cpd (fun j => frMark (q + 5 * (j : Int))) fs (k + 1))) := by
        have := hsA
        rw [show (.int .i64 (q + 5 * (k : Int) + 1 + 1) : Value) = .int .i64 (q + 5 * (k : Int) + 2) by rw [ea], show (.int .i64 (q + 5 * (k : Int) + 1 + 1 + 1) : Value) = .int .i64 (q + 5 * (k : Int) + 3) by rw [eb], show (.int .i64 (q + 5 * (k : Int) + 1 + 1 + 1 + 1) : Value) = .int .i64 (q + 5 * (k : Int) + 4) by rw [ec]] at this ⊢
        exact Eq.mp (congrArg (fun X => Sl _ l1 h1 46 5 (some ⟨g, 0, none⟩) n X) (fcells_set (cpd (fun j => frMark (q + 5 * (j : Int))) fs k) (frMark (q + 5 * (k : Int))) k)) this
      have ho6 := ((((ho.setCell (p := ⟨g, k * 5, none⟩) hg0 hg0' (.bool ((q + 5 * (k : Int)) % 3 == 0))).setCell (p := ⟨g, k * 5 + 1, none⟩) hg0 hg0' (.int .i64 (q + 5 * (k : Int) + 1))).setCell (p := ⟨g, k * 5 + 2, none⟩) hg0 hg0' (.int .i64 (q + 5 * (k : Int) + 1 + 1))).setCell (p := ⟨g, k * 5 + 3, none⟩) hg0 hg0' (.int .i64 (q + 5 * (k : Int) + 1 + 1 + 1))).setCell (p := ⟨g, k * 5 + 4, none⟩) hg0 hg0' (.int .i64 (q + 5 * (k : Int) + 1 + 1 + 1 + 1))
      have t1 := hs.stored (by omega) (k * 5) (.bool ((q + 5 * (k : Int)) % 3 == 0))
      have t2 := t1.stored (by omega) (k * 5 + 1) (.int .i64 (q + 5 * (k : Int) + 1))
      have t3 := t2.stored (by omega) (k * 5 + 2) (.int .i64 (q + 5 * (k : Int) + 1 + 1))
      have t4 := t3.stored (by omega) (k * 5 + 3) (.int .i64 (q + 5 * (k : Int) + 1 + 1 + 1))
      have hk6 := ((((hkt.trans (hs.keepT (by omega) (k * 5) (.bool ((q + 5 * (k : Int)) % 3 == 0)))).trans (t1.keepT (by omega) (k * 5 + 1) (.int .i64 (q + 5 * (k : Int) + 1)))).trans (t2.keepT (by omega) (k * 5 + 2) (.int .i64 (q + 5 * (k : Int) + 1 + 1)))).trans (t3.keepT (by omega) (k * 5 + 3) (.int .i64 (q + 5 * (k : Int) + 1 + 1 + 1)))).trans (t4.keepT (by omega) (k * 5 + 4) (.int .i64 (q + 5 * (k : Int) + 1 + 1 + 1 + 1)))
      have R := Lib.hid (And.intro hs6 (And.intro ho6 hk6))
      clear hs6 ho6 hk6 hsA ea eb ec hs ho hkt t1 t2 t3 t4
      have i1 : (0 : Int) ≤ (k : Int) := by omega
      have i2 : (k : Int) < (n : Int) := by omega
      have i3 : 0 ≤ q + 5 * (k : Int) := by omega
      have i4 : q + 5 * (k : Int) ≤ 200000000 := by omega
      go_wp2
      go_roundw
      case rel => exact ⟨k + 1, by omega, by go_num, by (congr 1; omega), R.out.1, R.out.2.1, R.out.2.2⟩
      case measure => simp [intOf]; omega
    · obtain rfl : k = n := by omega
      rw [cpd_all _ _ _ HF.out] at hs
      have hs' : Sl wr l1 h1 46 5 A k (fcells (frMarks q k)) := hs
      clear hs
      go_wp2
      go_ret
      exact ⟨rfl, hs', ho, hkt⟩
end Go.Proofs.YtjdoegekolbdpaaDoor
