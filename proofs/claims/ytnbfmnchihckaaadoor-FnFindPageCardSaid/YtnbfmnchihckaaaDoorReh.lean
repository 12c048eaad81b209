/- The program's RehashTable returns what the plain function says. Asked: at most 1048576 frames and buckets; the variable 'free' holds what its initialiser lays. -/
import Derived.Test.YtnbfmnchihckaaaDoorLink
namespace Go.Proofs.YtnbfmnchihckaaaDoor
set_option linter.unusedVariables false
open Go.ChangeShapes Go.WideShapes Go.ChangeAt Go.RowKit
def rhOk (bk : List Int) (fs : List Fr) (b : Int) : Bool := tvB bk fs && ntOk fs.length b
def rhT (bk : List Int) (fs : List Fr) (b : Int) : List Int × List Fr := if rhOk bk fs b = true then rT fs b.toNat else ([], [])
theorem rh_no {bk : List Int} {fs : List Fr} {b : Int} (h : rhOk bk fs b = false) : rhT bk fs b = ([], []) := by unfold rhT; rw [h]; rfl
theorem nt_len {f b : Nat} (h : ntOk f b = true) : ntT f b = newT f b := by unfold ntT; rw [if_pos h]; rfl
/-- a frame's cells copied into a variable of its own -/
theorem Tb.addr {w : World} {lo hi : Nat} {A B : Option Addr} {bk : List Int} {fs : List Fr} (h : Tb w lo hi A B bk fs) (h1 : 0 < bk.length) (h2 : 0 < fs.length) : ∃ ga gb, A = some ⟨ga, 0, none⟩ ∧ B = some ⟨gb, 0, none⟩ ∧ lo ≤ ga ∧ ga < hi ∧ lo ≤ gb ∧ gb < hi := by
  obtain ⟨ga, _, e1, a, b, _⟩ := h.1.2 h1
  obtain ⟨gb, _, e2, c, d, _⟩ := h.2.2 h2
  exact ⟨ga, gb, e1, e2, a, b, c, d⟩
set_option maxHeartbeats 1000000 in
set_option maxRecDepth 100000 in
theorem impl_RehashTable (A B : Option Addr) (ca cb lo hi : Nat) (bk : List Int) (fs : List Fr) (b : Int) (w : World) (hf : FreeIn w) (h : Tb w lo hi A B bk fs) (hn : bk.length ≤ 1048576) (hn2 : fs.length ≤ 1048576) :
    Calls Tryd.prog 32 #[.agg #[.slice A bk.length ca, .slice B fs.length cb], .int .i64 b] w (TabB (rhT bk fs b) (rhOk bk fs b) w) := by
  have H := Lib.hid h.top
  have HFr := Lib.hid hf
  have TV := Lib.hid (fun (w' : World) (hb : Below w.heap.size w w') => impl_TvA A B ca cb lo w.heap.size bk fs w' (hf.below hb) (H.out.below hb) hn hn2)
  have NT := Lib.hid (fun (w' : World) (hb : Below w.heap.size w w') => impl_NewTable fs.length b w' (hf.below hb))
  have FIN := Lib.hid (fun (w' : World) (hb : Below w.heap.size w w') => TabB.none_ hb)
  clear h hf
  rcases htv : tvB bk fs with _ | _
  · have e : rhOk bk fs b = false := by unfold rhOk; rw [htv]; rfl
    rw [rh_no e, e]
    rw [htv] at TV
    clear e htv
    go_enter Tryd.func32, Tryd.ntmps32
    go_wp2_with (fail)
    refine (TV.out _ (by (repeat' (first | with_reducible exact Below.refl _ _ | (with_reducible refine balloc ?_ _) | (with_reducible refine bset ?_ ?_ _) | (with_reducible refine bdrew ?_) | (with_reducible refine bdrewN ?_ _) | (with_reducible refine bstep ?_ (by with_reducible assumption)) | (with_reducible refine bgrow ?_ (by with_reducible assumption) (by omega)) | (simp; done) | (simp; omega))))).mono ?_
    rintro e w1 ⟨rfl, hb1⟩
    obtain ⟨hc1_0, hf1_0, hz1_0⟩ := bel_at hb1 (w.heap.size) (by first | omega | (simp; done) | (simp; omega))
    obtain ⟨hc1_1, hf1_1, hz1_1⟩ := bel_at hb1 (w.heap.size + 1) (by first | omega | (simp; done) | (simp; omega))
    go_wp2
    refine bodyPost_ret (v := .tuple #[.agg #[.slice none 0 0, .slice none 0 0], .bool false]) (by simp [results, Tryd.results32, go_sem, *]) rfl ?_
    exact FIN.out _ (by (repeat' (first | with_reducible exact Below.refl _ _ | (with_reducible refine balloc ?_ _) | (with_reducible refine bset ?_ ?_ _) | (with_reducible refine bdrew ?_) | (with_reducible refine bdrewN ?_ _) | (with_reducible refine bstep ?_ (by with_reducible assumption)) | (with_reducible refine bgrow ?_ (by with_reducible assumption) (by omega)) | (simp; done) | (simp; omega))))
  rcases hok : ntOk fs.length b with _ | _
  · have e : rhOk bk fs b = false := by unfold rhOk; rw [hok, Bool.and_false]
    rw [rh_no e, e]
    rw [htv] at TV
    rw [hok, nt_no hok] at NT
    clear e htv hok
    go_enter Tryd.func32, Tryd.ntmps32
    go_wp2_with (fail)
    refine (TV.out _ (by (repeat' (first | with_reducible exact Below.refl _ _ | (with_reducible refine balloc ?_ _) | (with_reducible refine bset ?_ ?_ _) | (with_reducible refine bdrew ?_) | (with_reducible refine bdrewN ?_ _) | (with_reducible refine bstep ?_ (by with_reducible assumption)) | (with_reducible refine bgrow ?_ (by with_reducible assumption) (by omega)) | (simp; done) | (simp; omega))))).mono ?_
    rintro e w1 ⟨rfl, hb1⟩
    obtain ⟨hc1_0, hf1_0, hz1_0⟩ := bel_at hb1 (w.heap.size) (by first | omega | (simp; done) | (simp; omega))
    obtain ⟨hc1_1, hf1_1, hz1_1⟩ := bel_at hb1 (w.heap.size + 1) (by first | omega | (simp; done) | (simp; omega))
    go_wp2_with (fail)
    refine (NT.out _ (by (repeat' (first | with_reducible exact Below.refl _ _ | (with_reducible refine balloc ?_ _) | (with_reducible refine bset ?_ ?_ _) | (with_reducible refine bdrew ?_) | (with_reducible refine bdrewN ?_ _) | (with_reducible refine bstep ?_ (by with_reducible assumption)) | (with_reducible refine bgrow ?_ (by with_reducible assumption) (by omega)) | (simp; done) | (simp; omega))))).mono ?_
    rintro e w2 ⟨A2, c2, B2, d2, rfl, _, _, _, hb2⟩
    obtain ⟨hc2_0, hf2_0, hz2_0⟩ := bel_at hb2 (w.heap.size) (by first | omega | (simp; done) | (simp; omega))
    obtain ⟨hc2_1, hf2_1, hz2_1⟩ := bel_at hb2 (w.heap.size + 1) (by first | omega | (simp; done) | (simp; omega))
    go_wp2
    refine bodyPost_ret (v := .tuple #[.agg #[.slice none 0 0, .slice none 0 0], .bool false]) (by simp [results, Tryd.results32, go_sem, *]) rfl ?_
    exact FIN.out _ (by (repeat' (first | with_reducible exact Below.refl _ _ | (with_reducible refine balloc ?_ _) | (with_reducible refine bset ?_ ?_ _) | (with_reducible refine bdrew ?_) | (with_reducible refine bdrewN ?_ _) | (with_reducible refine bstep ?_ (by with_reducible assumption)) | (with_reducible refine bgrow ?_ (by with_reducible assumption) (by omega)) | (simp; done) | (simp; omega))))
  have e : rhOk bk fs b = true := by unfold rhOk; rw [hok, htv]; rfl
  obtain ⟨⟨f1, f2⟩, b1, b2⟩ := ntOk_iff.1 hok
  obtain ⟨nb, rfl⟩ := Int.eq_ofNat_of_zero_le (show 0 ≤ b by omega)
  have e2 : rhT bk fs (nb : Int) = rT fs nb := by unfold rhT; rw [if_pos e]; rfl
  rw [e2, e]
  rw [htv] at TV
  rw [hok, nt_len hok] at NT
  have hfr := (tvB_iff.1 htv).2.1
  have HFR := Lib.hid hfr
  clear e e2 htv hok hfr
  go_enter Tryd.func32, Tryd.ntmps32
  go_wp2_with (fail)
  refine (TV.out _ (by (repeat' (first | with_reducible exact Below.refl _ _ | (with_reducible refine balloc ?_ _) | (with_reducible refine bset ?_ ?_ _) | (with_reducible refine bdrew ?_) | (with_reducible refine bdrewN ?_ _) | (with_reducible refine bstep ?_ (by with_reducible assumption)) | (with_reducible refine bgrow ?_ (by with_reducible assumption) (by omega)) | (simp; done) | (simp; omega))))).mono ?_
  rintro e w1 ⟨rfl, hb1⟩
  obtain ⟨hc1_0, hf1_0, hz1_0⟩ := bel_at hb1 (w.heap.size) (by first | omega | (simp; done) | (simp; omega))
  obtain ⟨hc1_1, hf1_1, hz1_1⟩ := bel_at hb1 (w.heap.size + 1) (by first | omega | (simp; done) | (simp; omega))
  go_wp2_with (fail)
  refine (NT.out _ (by (repeat' (first | with_reducible exact Below.refl _ _ | (with_reducible refine balloc ?_ _) | (with_reducible refine bset ?_ ?_ _) | (with_reducible refine bdrew ?_) | (with_reducible refine bdrewN ?_ _) | (with_reducible refine bstep ?_ (by with_reducible assumption)) | (with_reducible refine bgrow ?_ (by with_reducible assumption) (by omega)) | (simp; done) | (simp; omega))))).mono ?_
  rintro e w2 ⟨A2, c2, B2, d2, rfl, ⟨q1, q2⟩, ⟨q3, q4⟩, ht2, hb2⟩
  obtain ⟨l2, hl2, HT2⟩ : ∃ lo, w.heap.size + 2 ≤ lo ∧ Hid (Tb w2 lo w2.heap.size A2 B2 (newT fs.length nb).1 (newT fs.length nb).2) := ⟨_, by have := hb1.size; simp at this; omega, Lib.hid ht2⟩
  have n1 : (newT fs.length nb).1.length = nb := by simp [newT]
  have n2 : (newT fs.length nb).2.length = fs.length := by simp [newT]
  obtain ⟨ga, gb, rfl, rfl, la, ha, lb, hb⟩ := HT2.out.addr (by omega) (by omega)
  rw [n1, n2]
  rw [n1] at q1
  rw [n2] at q3
  obtain ⟨hc2_0, hf2_0, hz2_0⟩ := bel_at hb2 (w.heap.size) (by first | omega | (simp; done) | (simp; omega))
  obtain ⟨hc2_1, hf2_1, hz2_1⟩ := bel_at hb2 (w.heap.size + 1) (by first | omega | (simp; done) | (simp; omega))
  have hB2 : Below w.heap.size w w2 := by (repeat' (first | with_reducible exact Below.refl _ _ | (with_reducible refine balloc ?_ _) | (with_reducible refine bset ?_ ?_ _) | (with_reducible refine bdrew ?_) | (with_reducible refine bdrewN ?_ _) | (with_reducible refine bstep ?_ (by with_reducible assumption)) | (with_reducible refine bgrow ?_ (by with_reducible assumption) (by omega)) | (simp; done) | (simp; omega)))
  clear ht2 n1 n2
  go_wp2
  have hT0 : Tb (w2.alloc (.cells #[.slice (some ⟨ga, 0, none⟩) nb c2, .slice (some ⟨gb, 0, none⟩) fs.length d2] 25)) l2 w2.heap.size (some ⟨ga, 0, none⟩) (some ⟨gb, 0, none⟩) (rhs fs nb 0).1 (rhs fs nb 0).2 := HT2.out.alloc _
  have HT0 := Lib.hid hT0
  clear hT0 ha hb
  go_loopw [28] (fun i wr => ∃ k : Nat, k ≤ fs.length ∧ i = .int .i64 k ∧ Tb wr l2 w2.heap.size (some ⟨ga, 0, none⟩) (some ⟨gb, 0, none⟩) (rhs fs nb k).1 (rhs fs nb k).2 ∧ Only l2 w2.heap.size (w2.alloc (.cells #[.slice (some ⟨ga, 0, none⟩) nb c2, .slice (some ⟨gb, 0, none⟩) fs.length d2] 25)) wr) (fun i _ => fs.length - (intOf i).toNat)
  case atStart => exact ⟨0, by omega, rfl, HT0.out, Only.refl _ _ _⟩
  case round =>
    obtain ⟨k, hk, rfl, hT, ho⟩ := hrel
    obtain ⟨co, fo, zo⟩ := only_at ho w2.heap.size (by simp) (.inr (Nat.le_refl _))
    obtain ⟨cr, fr, zr⟩ := only_at ho (w.heap.size + 1) (by simp; omega) (.inl (by omega))
    have hbw : Below w.heap.size w wr := bonly (balloc hB2 _) ho (by omega) (balloc hB2 _).size
    have HT := Lib.hid hT
    have HO := Lib.hid ho
    clear hT ho
    by_cases hlt : k < fs.length
    · obtain ⟨gf, hBe, _, hgl, hgf, hg4, _⟩ := (H.out.2.belowB hbw (Nat.le_refl _)).frame hlt
      subst hBe
      have hok := HFR.out _ (fat_mem hlt)
      have hs1 : (fat fs k).u = true → rhs fs nb (k + 1) = lnk (rhs fs nb k) (pg (fat fs k).s (fat fs k).p (fat fs k).r) k := fun h => by simp only [rhs]; rw [if_pos h]; rfl
      have hs0 : (fat fs k).u = false → rhs fs nb (k + 1) = rhs fs nb k := fun h => by simp only [rhs]; rw [if_neg (by rw [h]; simp)]
      generalize fat fs k = f at *
      obtain ⟨u, s, p, r, nx⟩ := f
      obtain ⟨v0, v1, v2, v3, v4⟩ := hg4
      simp only [] at v0 v1 v2 v3 v4 hs1 hs0 hok
      have HS1 := Lib.hid hs1
      have HS0 := Lib.hid hs0
      have HOK := Lib.hid hok
      have i1 : (0 : Int) ≤ (k : Int) := by omega
      have i2 : (k : Int) < (fs.length : Int) := by omega
      clear hs1 hs0 hok
      rcases u with _ | _
      · have R : Hid (Tb wr l2 w2.heap.size (some ⟨ga, 0, none⟩) (some ⟨gb, 0, none⟩) (rhs fs nb (k + 1)).1 (rhs fs nb (k + 1)).2) := by rw [HS0.out rfl]; exact HT.out
        go_wp2
        go_roundw
        case rel => exact ⟨k + 1, by omega, by go_num, R.out.alloc _, HO.out.alloc _⟩
        case measure => simp [intOf]; omega
      · obtain ⟨hkv, _⟩ := frOk_key HOK.out rfl
        simp only [] at hkv
        have hst := HS1.out rfl
        obtain ⟨ht1, ht2⟩ := rhs_len fs nb k
        generalize hrk : rhs fs nb k = t at *
        obtain ⟨tb, tf⟩ := t
        simp only [] at ht1 ht2
        have hL := fun (W : World) (hT : Tb W l2 w2.heap.size (some ⟨ga, 0, none⟩) (some ⟨gb, 0, none⟩) tb tf) (hh : w2.heap.size ≤ W.heap.size) => impl_link ga gb c2 d2 l2 w2.heap.size tb tf s p k r W hT hh (by omega) hkv (by omega) (by omega) (by omega)
        rw [ht1, ht2] at hL
        have HL := Lib.hid hL
        have HST := Lib.hid hst
        clear hL hst hrk hkv ht1 ht2
        go_wp2_with (fail)
        refine (HL.out _ (HT.out.alloc _) (by simp; omega)).mono ?_
        rintro e w7 ⟨rfl, hT7, ho7⟩
        have R : Hid (Tb w7 l2 w2.heap.size (some ⟨ga, 0, none⟩) (some ⟨gb, 0, none⟩) (rhs fs nb (k + 1)).1 (rhs fs nb (k + 1)).2 ∧ Only l2 w2.heap.size (w2.alloc (.cells #[.slice (some ⟨ga, 0, none⟩) nb c2, .slice (some ⟨gb, 0, none⟩) fs.length d2] 25)) w7) := by
          refine ⟨?_, (HO.out.alloc _).trans2 ho7⟩
          rw [HST.out]; exact hT7
        clear hT7 ho7
        go_wp2
        go_roundw
        case rel => exact ⟨k + 1, by omega, by go_num, R.out.1, R.out.2⟩
        case measure => simp [intOf]; omega
    · obtain rfl : k = fs.length := by omega
      have q0 : wr.cell? ⟨w.heap.size + 1, 0, none⟩ = some (.slice none 0 0) := by
        rw [cr 0, oldc (by simp at *; omega)]; simp [*]
      have q1' : wr.cell? ⟨w.heap.size + 1, 1, none⟩ = some (.slice none 0 0) := by
        rw [cr 1, oldc (by simp at *; omega)]; simp [*]
      go_wp2
      refine bodyPost_ret (v := .tuple #[.agg #[.slice (some ⟨ga, 0, none⟩) nb c2, .slice (some ⟨gb, 0, none⟩) fs.length d2], .bool true]) (by simp [results, Tryd.results32, go_sem, *]) rfl ?_
      obtain ⟨r1, r2⟩ := rhs_len fs nb fs.length
      have hT9 := ((HT.out.set_ (p := ⟨w.heap.size + 1, 0, none⟩) (.inr (by simp; omega)) (.slice (some ⟨ga, 0, none⟩) nb c2)).set_ (p := ⟨w.heap.size + 1, 1, none⟩) (.inr (by simp; omega)) (.slice (some ⟨gb, 0, none⟩) fs.length d2)).top.more (lo' := w.heap.size) (by omega) (Nat.le_refl _)
      refine ⟨some ⟨ga, 0, none⟩, c2, some ⟨gb, 0, none⟩, d2, ?_, ⟨?_, q2⟩, ⟨?_, q4⟩, hT9, bset (bset hbw (by simp) _) (by simp) _⟩
      · unfold rT; rw [r1, r2]
      · unfold rT; rw [r1]; exact q1
      · unfold rT; rw [r2]; exact q3
end Go.Proofs.YtnbfmnchihckaaaDoor
