/- The reference's MapPage: a table with as many frames and buckets comes back, or none. Asked: at most 1048576 frames and buckets. -/
import Derived.Test.YtjdoegekolbdpaaDoorMap
import Derived.Test.YtjdoegekolbdpaaDoorFind2
namespace Go.Proofs.YtjdoegekolbdpaaDoor
set_option linter.unusedVariables false
open Go.ChangeShapes Go.WideShapes Go.ChangeAt Go.RowKit
/-- a table of nb buckets and nf frames comes back, or none -/
def TabW (nb nf : Nat) (w : World) (e : Ending) (w' : World) : Prop :=
  (e = .returned (.tuple #[.agg #[.slice none 0 0, .slice none 0 0], .bool false]) ∧ Below w.heap.size w w') ∨
  ∃ A ca B cb bk fs, e = .returned (.tuple #[.agg #[.slice A nb ca, .slice B nf cb], .bool true]) ∧ bk.length = nb ∧ fs.length = nf ∧ (nb ≤ ca ∧ ca ≤ maxLen) ∧ (nf ≤ cb ∧ cb ≤ maxLen) ∧ Hid (Tb w' w.heap.size w'.heap.size A B bk fs) ∧ Below w.heap.size w w'
theorem TabW.none_ {nb nf : Nat} {w w' : World} (hb : Below w.heap.size w w') : TabW nb nf w (.returned (.tuple #[.agg #[.slice none 0 0, .slice none 0 0], .bool false])) w' := .inl ⟨rfl, hb⟩
set_option maxHeartbeats 2000000 in
set_option maxRecDepth 100000 in
theorem spec_MapPage (A B : Option Addr) (ca cb lo hi : Nat) (bk : List Int) (fs : List Fr) (s p f r : Int) (w : World) (h : Tb w lo hi A B bk fs) (hn : bk.length ≤ 1048576) (hn2 : fs.length ≤ 1048576) :
    Calls Tryd.prog 75 #[.agg #[.slice A bk.length ca, .slice B fs.length cb], .agg #[.int .i64 s, .int .i64 p], .int .i64 f, .int .i64 r] w (TabW bk.length fs.length w) := by
  have H := Lib.hid h.top
  have TV := Lib.hid (fun (w' : World) (hb : Below w.heap.size w w') => spec_TvA A B ca cb lo w.heap.size bk fs w' (H.out.below hb) hn hn2)
  have KV := Lib.hid (fun w' => spec_KeyValid_b s p w')
  have FIN := Lib.hid (fun (w' : World) (hb : Below w.heap.size w w') => @TabW.none_ bk.length fs.length w w' hb)
  clear h
  rcases htv : tvB bk fs with _ | _
  · rw [htv] at TV
    clear htv
    go_enter Tryd.func75, Tryd.ntmps75
    go_wp2_with (fail)
    refine (TV.out _ (by (repeat' (first | with_reducible exact Below.refl _ _ | (with_reducible refine balloc ?_ _) | (with_reducible refine bset ?_ ?_ _) | (with_reducible refine bdrew ?_) | (with_reducible refine bdrewN ?_ _) | (with_reducible refine bstep ?_ (by with_reducible assumption)) | (with_reducible refine bgrow ?_ (by with_reducible assumption) (by omega)) | (simp; done) | (simp; omega))))).mono ?_
    rintro e w1 ⟨rfl, hb1⟩
    obtain ⟨hc1_0, hf1_0, hz1_0⟩ := bel_at hb1 (w.heap.size) (by first | omega | (simp; done) | (simp; omega))
    obtain ⟨hc1_1, hf1_1, hz1_1⟩ := bel_at hb1 (w.heap.size + 1) (by first | omega | (simp; done) | (simp; omega))
    obtain ⟨hc1_2, hf1_2, hz1_2⟩ := bel_at hb1 (w.heap.size + 1 + 1) (by first | omega | (simp; done) | (simp; omega))
    go_wp2
    refine bodyPost_ret (v := .tuple #[.agg #[.slice none 0 0, .slice none 0 0], .bool false]) (by simp [results, Tryd.results75, go_sem, *]) rfl ?_
    exact FIN.out _ (by (repeat' (first | with_reducible exact Below.refl _ _ | (with_reducible refine balloc ?_ _) | (with_reducible refine bset ?_ ?_ _) | (with_reducible refine bdrew ?_) | (with_reducible refine bdrewN ?_ _) | (with_reducible refine bstep ?_ (by with_reducible assumption)) | (with_reducible refine bgrow ?_ (by with_reducible assumption) (by omega)) | (simp; done) | (simp; omega))))
  rw [htv] at TV
  rcases hkv : kvB s p with _ | _
  · rw [hkv] at KV
    clear htv hkv
    go_enter Tryd.func75, Tryd.ntmps75
    go_wp2_with (fail)
    refine (TV.out _ (by (repeat' (first | with_reducible exact Below.refl _ _ | (with_reducible refine balloc ?_ _) | (with_reducible refine bset ?_ ?_ _) | (with_reducible refine bdrew ?_) | (with_reducible refine bdrewN ?_ _) | (with_reducible refine bstep ?_ (by with_reducible assumption)) | (with_reducible refine bgrow ?_ (by with_reducible assumption) (by omega)) | (simp; done) | (simp; omega))))).mono ?_
    rintro e w1 ⟨rfl, hb1⟩
    obtain ⟨hc1_0, hf1_0, hz1_0⟩ := bel_at hb1 (w.heap.size) (by first | omega | (simp; done) | (simp; omega))
    obtain ⟨hc1_1, hf1_1, hz1_1⟩ := bel_at hb1 (w.heap.size + 1) (by first | omega | (simp; done) | (simp; omega))
    obtain ⟨hc1_2, hf1_2, hz1_2⟩ := bel_at hb1 (w.heap.size + 1 + 1) (by first | omega | (simp; done) | (simp; omega))
    go_wp2_with (fail)
    refine (KV.out _).mono ?_
    rintro e w2 ⟨rfl, hb2⟩
    obtain ⟨hc2_0, hf2_0, hz2_0⟩ := bel_at hb2 (w.heap.size) (by first | omega | (simp; done) | (simp; omega))
    obtain ⟨hc2_1, hf2_1, hz2_1⟩ := bel_at hb2 (w.heap.size + 1) (by first | omega | (simp; done) | (simp; omega))
    obtain ⟨hc2_2, hf2_2, hz2_2⟩ := bel_at hb2 (w.heap.size + 1 + 1) (by first | omega | (simp; done) | (simp; omega))
    go_wp2
    refine bodyPost_ret (v := .tuple #[.agg #[.slice none 0 0, .slice none 0 0], .bool false]) (by simp [results, Tryd.results75, go_sem, *]) rfl ?_
    exact FIN.out _ (by (repeat' (first | with_reducible exact Below.refl _ _ | (with_reducible refine balloc ?_ _) | (with_reducible refine bset ?_ ?_ _) | (with_reducible refine bdrew ?_) | (with_reducible refine bdrewN ?_ _) | (with_reducible refine bstep ?_ (by with_reducible assumption)) | (with_reducible refine bgrow ?_ (by with_reducible assumption) (by omega)) | (simp; done) | (simp; omega))))
  rw [hkv] at KV
  go_enter Tryd.func75, Tryd.ntmps75
  go_wp2_with (fail)
  refine (TV.out _ (by (repeat' (first | with_reducible exact Below.refl _ _ | (with_reducible refine balloc ?_ _) | (with_reducible refine bset ?_ ?_ _) | (with_reducible refine bdrew ?_) | (with_reducible refine bdrewN ?_ _) | (with_reducible refine bstep ?_ (by with_reducible assumption)) | (with_reducible refine bgrow ?_ (by with_reducible assumption) (by omega)) | (simp; done) | (simp; omega))))).mono ?_
  rintro e w1 ⟨rfl, hb1⟩
  obtain ⟨hc1_0, hf1_0, hz1_0⟩ := bel_at hb1 (w.heap.size) (by first | omega | (simp; done) | (simp; omega))
  obtain ⟨hc1_1, hf1_1, hz1_1⟩ := bel_at hb1 (w.heap.size + 1) (by first | omega | (simp; done) | (simp; omega))
  obtain ⟨hc1_2, hf1_2, hz1_2⟩ := bel_at hb1 (w.heap.size + 1 + 1) (by first | omega | (simp; done) | (simp; omega))
  go_wp2_with (fail)
  refine (KV.out _).mono ?_
  rintro e w2 ⟨rfl, hb2⟩
  obtain ⟨hc2_0, hf2_0, hz2_0⟩ := bel_at hb2 (w.heap.size) (by first | omega | (simp; done) | (simp; omega))
  obtain ⟨hc2_1, hf2_1, hz2_1⟩ := bel_at hb2 (w.heap.size + 1) (by first | omega | (simp; done) | (simp; omega))
  obtain ⟨hc2_2, hf2_2, hz2_2⟩ := bel_at hb2 (w.heap.size + 1 + 1) (by first | omega | (simp; done) | (simp; omega))
  have hB2 : Below w.heap.size w w2 := by (repeat' (first | with_reducible exact Below.refl _ _ | (with_reducible refine balloc ?_ _) | (with_reducible refine bset ?_ ?_ _) | (with_reducible refine bdrew ?_) | (with_reducible refine bdrewN ?_ _) | (with_reducible refine bstep ?_ (by with_reducible assumption)) | (with_reducible refine bgrow ?_ (by with_reducible assumption) (by omega)) | (simp; done) | (simp; omega)))
  have t0 : w2.cell? ⟨w.heap.size, 0, none⟩ = some (.slice A bk.length ca) := by rw [hc2_0, hc1_0, oldc (by simp; omega), oldc (by simp), newc rfl]; rfl
  have t1 : w2.cell? ⟨w.heap.size, 1, none⟩ = some (.slice B fs.length cb) := by rw [hc2_0, hc1_0, oldc (by simp; omega), oldc (by simp), newc rfl]; rfl
  have k0 : w2.cell? ⟨w.heap.size + 1, 0, none⟩ = some (.int .i64 s) := by rw [hc2_1, hc1_1, oldc (by simp), newc (by simp)]; rfl
  have k1 : w2.cell? ⟨w.heap.size + 1, 1, none⟩ = some (.int .i64 p) := by rw [hc2_1, hc1_1, oldc (by simp), newc (by simp)]; rfl
  have r0 : w2.cell? ⟨w.heap.size + 1 + 1, 0, none⟩ = some (.slice none 0 0) := by rw [hc2_2, hc1_2, newc (by simp)]; rfl
  have r1 : w2.cell? ⟨w.heap.size + 1 + 1, 1, none⟩ = some (.slice none 0 0) := by rw [hc2_2, hc1_2, newc (by simp)]; rfl
  have r2 : w2.frozen? ⟨w.heap.size + 1 + 1, 0, none⟩ = false := by rw [hf2_2, hf1_2]; exact Joins.unfrozen_of_block (heap_new (by simp)) 0
  have r3 : w2.frozen? ⟨w.heap.size + 1 + 1, 1, none⟩ = false := by rw [hf2_2, hf1_2]; exact Joins.unfrozen_of_block (heap_new (by simp)) 1
  clear hc1_0 hc1_1 hc1_2 hc2_0 hc2_1 hc2_2 hf1_0 hf1_1 hf1_2 hf2_0 hf2_1 hf2_2 hb1 hb2
  rcases hr : withinB r 8 with _ | _
  · go_wp2_with (go_at_call 81; refine (spec_RightsValid _ _).mono ?_; rintro e w' ⟨rfl, rfl⟩)
    refine bodyPost_ret (v := .tuple #[.agg #[.slice none 0 0, .slice none 0 0], .bool false]) (by simp [results, Tryd.results75, go_sem, *]) rfl ?_
    exact FIN.out _ (by (repeat' (first | with_reducible exact Below.refl _ _ | (with_reducible refine balloc ?_ _) | (with_reducible refine bset ?_ ?_ _) | (with_reducible refine bdrew ?_) | (with_reducible refine bdrewN ?_ _) | (with_reducible refine bstep ?_ (by with_reducible assumption)) | (with_reducible refine bgrow ?_ (by with_reducible assumption) (by omega)) | (simp; done) | (simp; omega))))
  rcases (show f < 0 ∨ (0 ≤ f ∧ (fs.length : Int) ≤ f) ∨ (0 ≤ f ∧ f < fs.length) from by omega) with hf | ⟨hf0, hf⟩ | ⟨hf0, hf⟩
  · go_wp2_with (go_at_call 81; refine (spec_RightsValid _ _).mono ?_; rintro e w' ⟨rfl, rfl⟩)
    refine bodyPost_ret (v := .tuple #[.agg #[.slice none 0 0, .slice none 0 0], .bool false]) (by simp [results, Tryd.results75, go_sem, *]) rfl ?_
    exact FIN.out _ (by (repeat' (first | with_reducible exact Below.refl _ _ | (with_reducible refine balloc ?_ _) | (with_reducible refine bset ?_ ?_ _) | (with_reducible refine bdrew ?_) | (with_reducible refine bdrewN ?_ _) | (with_reducible refine bstep ?_ (by with_reducible assumption)) | (with_reducible refine bgrow ?_ (by with_reducible assumption) (by omega)) | (simp; done) | (simp; omega))))
  · go_wp2_with (go_at_call 81; refine (spec_RightsValid _ _).mono ?_; rintro e w' ⟨rfl, rfl⟩)
    refine bodyPost_ret (v := .tuple #[.agg #[.slice none 0 0, .slice none 0 0], .bool false]) (by simp [results, Tryd.results75, go_sem, *]) rfl ?_
    exact FIN.out _ (by (repeat' (first | with_reducible exact Below.refl _ _ | (with_reducible refine balloc ?_ _) | (with_reducible refine bset ?_ ?_ _) | (with_reducible refine bdrew ?_) | (with_reducible refine bdrewN ?_ _) | (with_reducible refine bstep ?_ (by with_reducible assumption)) | (with_reducible refine bgrow ?_ (by with_reducible assumption) (by omega)) | (simp; done) | (simp; omega))))
  obtain ⟨k, rfl⟩ := Int.eq_ofNat_of_zero_le hf0
  have hkf : k < fs.length := by omega
  obtain ⟨gf, hBe, _, hgl, hgf, hg4, _⟩ := (H.out.2.below hB2).frame hkf
  subst hBe
  obtain ⟨v0, _⟩ := hg4
  obtain ⟨⟨_, _⟩, d1, d2⟩ := dimB_iff.1 (tvB_iff.1 htv).1
  have L3 := Lib.hid (fun (w' : World) (hb : Below w.heap.size w w') => spec_l3Find A (some ⟨gf, 0, none⟩) ca cb lo w.heap.size bk fs s p w' (H.out.below hb) htv hkv hn hn2)
  have hf3 : f3 bk fs s p = -1 ∨ 0 ≤ f3 bk fs s p := by
    unfold f3
    split
    · right; rename_i h; unfold fpF; rw [if_pos h]; omega
    · left; rfl
  have LM := Lib.hid (fun (w' : World) (hb : Below w.heap.size w w') => spec_l3Map A (some ⟨gf, 0, none⟩) ca cb lo w.heap.size bk fs s p k r w' (H.out.below hb) hkf hkv d1 d2 hn2)
  obtain ⟨ll1, ll2⟩ := lnk_len (bk, fs) (pg s p r) k
  generalize lnk (bk, fs) (pg s p r) k = t at *
  generalize (fat fs k).u = u at v0
  generalize f3 bk fs s p = at_ at *
  generalize fpS bk fs s p = st at *
  obtain ⟨tb, tf⟩ := t
  simp only [] at ll1 ll2
  clear htv hkv
  rcases u with _ | _
  · rcases hf3 with rfl | hf3
    · go_wp2_with (go_at_call 81; refine (spec_RightsValid _ _).mono ?_; rintro e w' ⟨rfl, rfl⟩)
      refine (L3.out _ hB2).mono ?_
      rintro e w3 ⟨rfl, hb3⟩
      obtain ⟨hc3_0, hf3_0, hz3_0⟩ := bel_at hb3 (w.heap.size) (by first | omega | (simp; done) | (simp; omega))
      obtain ⟨hc3_1, hf3_1, hz3_1⟩ := bel_at hb3 (w.heap.size + 1) (by first | omega | (simp; done) | (simp; omega))
      obtain ⟨hc3_2, hf3_2, hz3_2⟩ := bel_at hb3 (w.heap.size + 1 + 1) (by first | omega | (simp; done) | (simp; omega))
      have hB3 := bstep hB2 hb3
      go_wp2_with (fail)
      refine (LM.out _ hB3).mono ?_
      rintro e w4 ⟨A4, c4, B4, d4, rfl, ⟨p4, q4⟩, ⟨p5, q5⟩, ht4, hb4⟩
      obtain ⟨hc4_0, hf4_0, hz4_0⟩ := bel_at hb4 (w.heap.size) (by first | omega | (simp; done) | (simp; omega))
      obtain ⟨hc4_1, hf4_1, hz4_1⟩ := bel_at hb4 (w.heap.size + 1) (by first | omega | (simp; done) | (simp; omega))
      obtain ⟨hc4_2, hf4_2, hz4_2⟩ := bel_at hb4 (w.heap.size + 1 + 1) (by first | omega | (simp; done) | (simp; omega))
      simp only [] at p4 p5 ht4
      rw [ll1] at p4
      rw [ll2] at p5
      have z4 := hB3.size
      have R := Lib.hid ((ht4.set_ (p := ⟨w.heap.size + 1 + 1, 0, none⟩) (.inr (by simp; omega)) (.slice A4 bk.length c4)).set_ (p := ⟨w.heap.size + 1 + 1, 1, none⟩) (.inr (by simp; omega)) (.slice B4 fs.length d4))
      have hB4 := bstep hB3 hb4
      clear ht4 hb4 hb3
      simp only []
      rw [ll1, ll2]
      go_wp2
      refine bodyPost_ret (v := .tuple #[.agg #[.slice A4 bk.length c4, .slice B4 fs.length d4], .bool true]) (by simp [results, Tryd.results75, go_sem, *]) rfl ?_
      exact .inr ⟨A4, c4, B4, d4, tb, tf, rfl, ll1, ll2, ⟨p4, q4⟩, ⟨p5, q5⟩, R.out.top.more (by omega) (Nat.le_refl _), bset (bset hB4 (by simp; omega) _) (by simp; omega) _⟩
    · go_wp2_with (go_at_call 81; refine (spec_RightsValid _ _).mono ?_; rintro e w' ⟨rfl, rfl⟩)
      refine (L3.out _ hB2).mono ?_
      rintro e w3 ⟨rfl, hb3⟩
      obtain ⟨hc3_0, hf3_0, hz3_0⟩ := bel_at hb3 (w.heap.size) (by first | omega | (simp; done) | (simp; omega))
      obtain ⟨hc3_1, hf3_1, hz3_1⟩ := bel_at hb3 (w.heap.size + 1) (by first | omega | (simp; done) | (simp; omega))
      obtain ⟨hc3_2, hf3_2, hz3_2⟩ := bel_at hb3 (w.heap.size + 1 + 1) (by first | omega | (simp; done) | (simp; omega))
      have hB3 := bstep hB2 hb3
      go_wp2
      refine bodyPost_ret (v := .tuple #[.agg #[.slice none 0 0, .slice none 0 0], .bool false]) (by simp [results, Tryd.results75, go_sem, *]) rfl ?_
      exact FIN.out _ (by (repeat' (first | with_reducible exact Below.refl _ _ | (with_reducible refine balloc ?_ _) | (with_reducible refine bset ?_ ?_ _) | (with_reducible refine bdrew ?_) | (with_reducible refine bdrewN ?_ _) | (with_reducible refine bstep ?_ (by with_reducible assumption)) | (with_reducible refine bgrow ?_ (by with_reducible assumption) (by omega)) | (simp; done) | (simp; omega))))
  · go_wp2_with (go_at_call 81; refine (spec_RightsValid _ _).mono ?_; rintro e w' ⟨rfl, rfl⟩)
    refine bodyPost_ret (v := .tuple #[.agg #[.slice none 0 0, .slice none 0 0], .bool false]) (by simp [results, Tryd.results75, go_sem, *]) rfl ?_
    exact FIN.out _ (by (repeat' (first | with_reducible exact Below.refl _ _ | (with_reducible refine balloc ?_ _) | (with_reducible refine bset ?_ ?_ _) | (with_reducible refine bdrew ?_) | (with_reducible refine bdrewN ?_ _) | (with_reducible refine bstep ?_ (by with_reducible assumption)) | (with_reducible refine bgrow ?_ (by with_reducible assumption) (by omega)) | (simp; done) | (simp; omega))))
end Go.Proofs.YtjdoegekolbdpaaDoor
