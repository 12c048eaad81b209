/- The reference's RehashTable returns what the plain function says. Asked: at most 1048576 frames and buckets. -/
import Derived.Test.YtnbfmnchihckaaaDoorMap
import Derived.StillTailTactics
namespace Go.Proofs.YtnbfmnchihckaaaDoor
set_option linter.unusedVariables false
open Go.ChangeShapes Go.WideShapes Go.ChangeAt Go.RowKit
set_option maxHeartbeats 1000000 in
set_option maxRecDepth 100000 in
theorem spec_RehashTable (A B : Option Addr) (ca cb lo hi : Nat) (bk : List Int) (fs : List Fr) (b : Int) (w : World) (h : Tb w lo hi A B bk fs) (hn : bk.length ≤ 1048576) (hn2 : fs.length ≤ 1048576) :
    Calls Tryd.prog 33 #[.agg #[.slice A bk.length ca, .slice B fs.length cb], .int .i64 b] w (TabB (rhT bk fs b) (rhOk bk fs b) w) := by
  have H := Lib.hid h.top
  have TV := Lib.hid (fun (w' : World) (hb : Below w.heap.size w w') => spec_TvA A B ca cb lo w.heap.size bk fs w' (H.out.below hb) hn hn2)
  have NT := Lib.hid (fun (w' : World) => spec_NewTable fs.length b w')
  have FIN := Lib.hid (fun (w' : World) (hb : Below w.heap.size w w') => TabB.none_ hb)
  clear h
  rcases htv : tvB bk fs with _ | _
  · have e : rhOk bk fs b = false := by unfold rhOk; rw [htv]; rfl
    rw [rh_no e, e]
    rw [htv] at TV
    clear e htv
    generalize ntT (fs.length : Int) b = t at *
    generalize ntOk (fs.length : Int) b = ok at *
    go_enter Tryd.func33, Tryd.ntmps33
    go_wp2_with (fail)
    refine (NT.out _).mono ?_
    rintro e w1 ⟨A2, c2, B2, d2, rfl, _, _, _, hb1⟩
    obtain ⟨hc1_0, hf1_0, hz1_0⟩ := bel_at hb1 (w.heap.size) (by first | omega | (simp; done) | (simp; omega))
    obtain ⟨hc1_1, hf1_1, hz1_1⟩ := bel_at hb1 (w.heap.size + 1) (by first | omega | (simp; done) | (simp; omega))
    go_wp2_with (fail)
    refine (TV.out _ (by (repeat' (first | with_reducible exact Below.refl _ _ | (with_reducible refine balloc ?_ _) | (with_reducible refine bset ?_ ?_ _) | (with_reducible refine bdrew ?_) | (with_reducible refine bdrewN ?_ _) | (with_reducible refine bstep ?_ (by with_reducible assumption)) | (with_reducible refine bgrow ?_ (by with_reducible assumption) (by omega)) | (simp; done) | (simp; omega))))).mono ?_
    rintro e w2 ⟨rfl, hb2⟩
    obtain ⟨hc2_0, hf2_0, hz2_0⟩ := bel_at hb2 (w.heap.size) (by first | omega | (simp; done) | (simp; omega))
    obtain ⟨hc2_1, hf2_1, hz2_1⟩ := bel_at hb2 (w.heap.size + 1) (by first | omega | (simp; done) | (simp; omega))
    go_wp2
    refine bodyPost_ret (v := .tuple #[.agg #[.slice none 0 0, .slice none 0 0], .bool false]) (by simp [results, Tryd.results33, go_sem, *]) rfl ?_
    exact FIN.out _ (by (repeat' (first | with_reducible exact Below.refl _ _ | (with_reducible refine balloc ?_ _) | (with_reducible refine bset ?_ ?_ _) | (with_reducible refine bdrew ?_) | (with_reducible refine bdrewN ?_ _) | (with_reducible refine bstep ?_ (by with_reducible assumption)) | (with_reducible refine bgrow ?_ (by with_reducible assumption) (by omega)) | (simp; done) | (simp; omega))))
  rcases hok : ntOk fs.length b with _ | _
  · have e : rhOk bk fs b = false := by unfold rhOk; rw [hok, Bool.and_false]
    rw [rh_no e, e]
    rw [htv] at TV
    rw [hok, nt_no hok] at NT
    clear e htv hok
    go_enter Tryd.func33, Tryd.ntmps33
    go_wp2_with (fail)
    refine (NT.out _).mono ?_
    rintro e w1 ⟨A2, c2, B2, d2, rfl, _, _, _, hb1⟩
    obtain ⟨hc1_0, hf1_0, hz1_0⟩ := bel_at hb1 (w.heap.size) (by first | omega | (simp; done) | (simp; omega))
    obtain ⟨hc1_1, hf1_1, hz1_1⟩ := bel_at hb1 (w.heap.size + 1) (by first | omega | (simp; done) | (simp; omega))
    go_wp2_with (fail)
    refine (TV.out _ (by (repeat' (first | with_reducible exact Below.refl _ _ | (with_reducible refine balloc ?_ _) | (with_reducible refine bset ?_ ?_ _) | (with_reducible refine bdrew ?_) | (with_reducible refine bdrewN ?_ _) | (with_reducible refine bstep ?_ (by with_reducible assumption)) | (with_reducible refine bgrow ?_ (by with_reducible assumption) (by omega)) | (simp; done) | (simp; omega))))).mono ?_
    rintro e w2 ⟨rfl, hb2⟩
    obtain ⟨hc2_0, hf2_0, hz2_0⟩ := bel_at hb2 (w.heap.size) (by first | omega | (simp; done) | (simp; omega))
    obtain ⟨hc2_1, hf2_1, hz2_1⟩ := bel_at hb2 (w.heap.size + 1) (by first | omega | (simp; done) | (simp; omega))
    go_wp2
    refine bodyPost_ret (v := .tuple #[.agg #[.slice none 0 0, .slice none 0 0], .bool false]) (by simp [results, Tryd.results33, go_sem, *]) rfl ?_
    exact FIN.out _ (by (repeat' (first | with_reducible exact Below.refl _ _ | (with_reducible refine balloc ?_ _) | (with_reducible refine bset ?_ ?_ _) | (with_reducible refine bdrew ?_) | (with_reducible refine bdrewN ?_ _) | (with_reducible refine bstep ?_ (by with_reducible assumption)) | (with_reducible refine bgrow ?_ (by with_reducible assumption) (by omega)) | (simp; done) | (simp; omega))))
  have e : rhOk bk fs b = true := by unfold rhOk; rw [hok, htv]; rfl
  obtain ⟨⟨f1, f2⟩, b1, b2⟩ := ntOk_iff.1 hok
  obtain ⟨nb, rfl⟩ := Int.eq_ofNat_of_zero_le (show 0 ≤ b by omega)
  have e2 : rhT bk fs (nb : Int) = rT fs nb := by unfold rhT; rw [if_pos e]; rfl
  rw [e2, e]
  rw [htv] at TV
  rw [hok, nt_len hok] at NT
  have hfr := (tvB_iff.1 htv).2.1
  have HFR := Lib.hid hfr
  clear e e2 htv hok hfr
  go_enter Tryd.func33, Tryd.ntmps33
  go_wp2_with (fail)
  refine (NT.out _).mono ?_
  rintro e w1 ⟨A2, c2, B2, d2, rfl, ⟨q1, q2⟩, ⟨q3, q4⟩, ht1, hb1⟩
  have n1 : (newT fs.length nb).1.length = nb := by simp [newT]
  have n2 : (newT fs.length nb).2.length = fs.length := by simp [newT]
  have HT1 := Lib.hid (show Tb w1 (w.heap.size + 2) w1.heap.size A2 B2 (newT fs.length nb).1 (newT fs.length nb).2 from ht1.more (by simp) (Nat.le_refl _))
  rw [n1, n2]
  rw [n1] at q1
  rw [n2] at q3
  obtain ⟨hc1_0, hf1_0, hz1_0⟩ := bel_at hb1 (w.heap.size) (by first | omega | (simp; done) | (simp; omega))
  obtain ⟨hc1_1, hf1_1, hz1_1⟩ := bel_at hb1 (w.heap.size + 1) (by first | omega | (simp; done) | (simp; omega))
  have z1 := hb1.size
  simp at z1
  have B0 : w1.heap[w.heap.size]? = some (.cells #[.slice A bk.length ca, .slice B fs.length cb] 25 (0, 0)) := (hb1.block _ (by simp; omega)).trans (al_keep (heap_new rfl))
  have B1 : w1.heap[w.heap.size + 1]? = some (.cells #[.slice none 0 0, .slice none 0 0] 25 (0, 0)) := (hb1.block _ (by simp)).trans (heap_new (by simp))
  have hB1 : Below w.heap.size w w1 := by (repeat' (first | with_reducible exact Below.refl _ _ | (with_reducible refine balloc ?_ _) | (with_reducible refine bset ?_ ?_ _) | (with_reducible refine bdrew ?_) | (with_reducible refine bdrewN ?_ _) | (with_reducible refine bstep ?_ (by with_reducible assumption)) | (with_reducible refine bgrow ?_ (by with_reducible assumption) (by omega)) | (simp; done) | (simp; omega)))
  have HB0 := Lib.hid B0
  have HB1 := Lib.hid B1
  clear ht1 n1 n2 hb1 B0 B1
  go_wp2_with (fail)
  refine (TV.out _ (by (repeat' (first | with_reducible exact Below.refl _ _ | (with_reducible refine balloc ?_ _) | (with_reducible refine bset ?_ ?_ _) | (with_reducible refine bdrew ?_) | (with_reducible refine bdrewN ?_ _) | (with_reducible refine bstep ?_ (by with_reducible assumption)) | (with_reducible refine bgrow ?_ (by with_reducible assumption) (by omega)) | (simp; done) | (simp; omega))))).mono ?_
  rintro e w2 ⟨rfl, hb2⟩
  obtain ⟨hc2_0, hf2_0, hz2_0⟩ := bel_at hb2 (w.heap.size) (by first | omega | (simp; done) | (simp; omega))
  obtain ⟨hc2_1, hf2_1, hz2_1⟩ := bel_at hb2 (w.heap.size + 1) (by first | omega | (simp; done) | (simp; omega))
  obtain ⟨hc2_2, hf2_2, hz2_2⟩ := bel_at hb2 (w1.heap.size) (by first | omega | (simp; done) | (simp; omega))
  have z2 := hb2.size
  simp at z2
  have R0 : Hid (w2.heap[w.heap.size]? = some (.cells #[.slice A bk.length ca, .slice B fs.length cb] 25 (0, 0)) ∧ w2.heap[w.heap.size + 1]? = some (.cells #[.slice none 0 0, .slice none 0 0] 25 (0, 0)) ∧ w2.heap[w1.heap.size]? = some (.cells #[.slice A2 nb c2, .slice B2 fs.length d2] 25 (0, 0)) ∧ Tb w2 (w.heap.size + 2) w1.heap.size A2 B2 (rhs fs nb 0).1 (rhs fs nb 0).2 ∧ Below w.heap.size w w2) :=
    ⟨(hb2.block _ (by simp; omega)).trans (al_keep HB0.out), (hb2.block _ (by simp; omega)).trans (al_keep HB1.out), (hb2.block _ (by simp)).trans (heap_new rfl), (HT1.out.alloc _).below hb2, bstep (balloc hB1 _) hb2⟩
  clear HB0 HB1 HT1 hB1 hb2
  go_wp2
  go_loopw [8] (fun i wr => ∃ (k l0 h0 : Nat) (Ax : Option Addr) (cx : Nat) (Bx : Option Addr) (dx : Nat), k ≤ fs.length ∧ i = .int .i64 k ∧ (nb ≤ cx ∧ cx ≤ maxLen) ∧ (fs.length ≤ dx ∧ dx ≤ maxLen) ∧ Tb wr l0 h0 Ax Bx (rhs fs nb k).1 (rhs fs nb k).2 ∧ w.heap.size + 2 ≤ l0 ∧ (h0 ≤ w1.heap.size ∨ w1.heap.size < l0) ∧ wr.heap[w.heap.size]? = some (.cells #[.slice A bk.length ca, .slice B fs.length cb] 25 (0, 0)) ∧ wr.heap[w.heap.size + 1]? = some (.cells #[.slice none 0 0, .slice none 0 0] 25 (0, 0)) ∧ wr.heap[w1.heap.size]? = some (.cells #[.slice Ax nb cx, .slice Bx fs.length dx] 25 (0, 0)) ∧ Below w.heap.size w wr) (fun i _ => fs.length - (intOf i).toNat)
  case atStart => exact ⟨0, _, _, A2, c2, B2, d2, by omega, rfl, ⟨q1, q2⟩, ⟨q3, q4⟩, R0.out.2.2.2.1, Nat.le_refl _, .inl (Nat.le_refl _), R0.out.1, R0.out.2.1, R0.out.2.2.1, R0.out.2.2.2.2⟩
  case round =>
    obtain ⟨k, l0, h0, Ax, cx, Bx, dx, hk, rfl, hcx, hdx, hT, hl0, hh0, b0, b1', b2', hbw⟩ := hrel
    have sz0 := block_lt b0
    have sz1 := block_lt b1'
    have sz2 := block_lt b2'
    have t0 : wr.cell? ⟨w.heap.size, 0, none⟩ = some (.slice A bk.length ca) := by rw [Joins.cell_of_block b0]; rfl
    have t1' : wr.cell? ⟨w.heap.size, 1, none⟩ = some (.slice B fs.length cb) := by rw [Joins.cell_of_block b0]; rfl
    have o0 : wr.cell? ⟨w1.heap.size, 0, none⟩ = some (.slice Ax nb cx) := by rw [Joins.cell_of_block b2']; rfl
    have o1 : wr.cell? ⟨w1.heap.size, 1, none⟩ = some (.slice Bx fs.length dx) := by rw [Joins.cell_of_block b2']; rfl
    have p0 : wr.frozen? ⟨w1.heap.size, 0, none⟩ = false := Joins.unfrozen_of_block b2' 0
    have p1 : wr.frozen? ⟨w1.heap.size, 1, none⟩ = false := Joins.unfrozen_of_block b2' 1
    have HB0 := Lib.hid b0
    have HB1 := Lib.hid b1'
    have HB2 := Lib.hid b2'
    have HT := Lib.hid hT
    clear b0 b1' b2' hT
    by_cases hlt : k < fs.length
    · obtain ⟨gf, hBe, _, hgl, hgf, hg4, _⟩ := (H.out.2.belowB hbw (Nat.le_refl _)).frame hlt
      subst hBe
      have hok := HFR.out _ (fat_mem hlt)
      have hs1 : (fat fs k).u = true → rhs fs nb (k + 1) = lnk (rhs fs nb k) (pg (fat fs k).s (fat fs k).p (fat fs k).r) k := fun h => by simp only [rhs]; rw [if_pos h]; rfl
      have hs0 : (fat fs k).u = false → rhs fs nb (k + 1) = rhs fs nb k := fun h => by simp only [rhs]; rw [if_neg (by rw [h]; simp)]
      generalize fat fs k = f at *
      obtain ⟨u, s, p, r, nx⟩ := f
      obtain ⟨v0, v1, v2, v3, v4⟩ := hg4
      simp only [] at v0 v1 v2 v3 v4 hs1 hs0 hok
      have HS1 := Lib.hid hs1
      have HS0 := Lib.hid hs0
      have HOK := Lib.hid hok
      have i1 : (0 : Int) ≤ (k : Int) := by omega
      have i2 : (k : Int) < (fs.length : Int) := by omega
      have n1 : ¬ w1.heap.size = gf := by omega
      have n2 : ¬ w1.heap.size = w.heap.size := by omega
      clear hs1 hs0 hok v4
      rcases u with _ | _
      · have R : Hid (Tb wr l0 h0 Ax Bx (rhs fs nb (k + 1)).1 (rhs fs nb (k + 1)).2) := by rw [HS0.out rfl]; exact HT.out
        go_wp2
        go_roundw
        case rel => exact ⟨k + 1, l0, h0, Ax, cx, Bx, dx, by omega, by go_num, hcx, hdx, R.out, hl0, hh0, HB0.out, HB1.out, HB2.out, hbw⟩
        case measure => simp [intOf]; omega
      · obtain ⟨hkv, _⟩ := frOk_key HOK.out rfl
        simp only [] at hkv
        have hst := HS1.out rfl
        obtain ⟨ht1, ht2⟩ := rhs_len fs nb k
        generalize hrk : rhs fs nb k = t at *
        obtain ⟨tb, tf⟩ := t
        simp only [] at ht1 ht2
        have HL : Hid (∀ W : World, Tb W l0 h0 Ax Bx tb tf → Calls Tryd.prog 61 #[.agg #[.slice Ax nb cx, .slice Bx fs.length dx], .agg #[.int .i64 s, .int .i64 p], .int .i64 (k : Int), .int .i64 r] W fun e W' => ∃ A7 c7 B7 d7, e = .returned (.agg #[.slice A7 nb c7, .slice B7 fs.length d7]) ∧ (nb ≤ c7 ∧ c7 ≤ maxLen) ∧ (fs.length ≤ d7 ∧ d7 ≤ maxLen) ∧ Hid (Tb W' W.heap.size W'.heap.size A7 B7 (rhs fs nb (k + 1)).1 (rhs fs nb (k + 1)).2) ∧ Below W.heap.size W W') := by
          intro W hT
          have h := spec_l3Map Ax Bx cx dx l0 h0 tb tf s p k r W hT (by omega) hkv (by omega) (by omega) (by omega)
          rw [ht1, ht2] at h
          refine h.mono ?_
          rintro e W' ⟨A7, c7, B7, d7, rfl, x1, x2, x3, x4⟩
          obtain ⟨y1, y2⟩ := lnk_len (tb, tf) (pg s p r) k
          simp only [] at y1 y2
          rw [y1, ht1] at x1
          rw [y2, ht2] at x2
          rw [← hst] at x3
          exact ⟨A7, c7, B7, d7, by rw [y1, y2, ht1, ht2], x1, x2, x3, x4⟩
        clear hst hrk hkv ht1 ht2
        go_wp2
        refine wp_region_still_tail 14 (by kernel_rfl) (by kernel_rfl) ?_
        simp only [List.take_succ_cons, List.take_zero, List.drop_succ_cons, List.drop_zero]
        change wpStill _ _ wr.drew (fun a' => wpList _ _ _ _ a' wr.drew) _ _
        repeat still_step
        refine wpStill_nil ?_
        go_wp2_with (fail)
        refine (HL.out _ HT.out.drew).mono ?_
        rintro e w7 ⟨A7, c7, B7, d7, rfl, p7, q7, ht7, hb7⟩
        have hz7 := hb7.size
        have e7 : wr.drew.heap = wr.heap := rfl
        rw [e7] at hz7
        have b0 : w7.heap[w.heap.size]? = some (.cells #[.slice A bk.length ca, .slice (some ⟨gf, 0, none⟩) fs.length cb] 25 (0, 0)) := (hb7.block _ sz0).trans HB0.out
        have b1' : w7.heap[w.heap.size + 1]? = some (.cells #[.slice none 0 0, .slice none 0 0] 25 (0, 0)) := (hb7.block _ sz1).trans HB1.out
        have b2' : w7.heap[w1.heap.size]? = some (.cells #[.slice Ax nb cx, .slice Bx fs.length dx] 25 (0, 0)) := (hb7.block _ sz2).trans HB2.out
        have o0 : w7.cell? ⟨w1.heap.size, 0, none⟩ = some (.slice Ax nb cx) := by rw [Joins.cell_of_block b2']; rfl
        have o1 : w7.cell? ⟨w1.heap.size, 1, none⟩ = some (.slice Bx fs.length dx) := by rw [Joins.cell_of_block b2']; rfl
        have p0 : w7.frozen? ⟨w1.heap.size, 0, none⟩ = false := Joins.unfrozen_of_block b2' 0
        have p1 : w7.frozen? ⟨w1.heap.size, 1, none⟩ = false := Joins.unfrozen_of_block b2' 1
        have hbb : Below w.heap.size w w7 := bstep hbw.drew hb7
        have hsz7 : w1.heap.size < wr.heap.size := sz2
        have ht8 : Tb w7 wr.heap.size w7.heap.size A7 B7 (rhs fs nb (k + 1)).1 (rhs fs nb (k + 1)).2 := ht7
        have R : Hid (Tb ((w7.setCell ⟨w1.heap.size, 0, none⟩ (.slice A7 nb c7)).setCell ⟨w1.heap.size, 1, none⟩ (.slice B7 fs.length d7)) wr.heap.size w7.heap.size A7 B7 (rhs fs nb (k + 1)).1 (rhs fs nb (k + 1)).2 ∧ ((w7.setCell ⟨w1.heap.size, 0, none⟩ (.slice A7 nb c7)).setCell ⟨w1.heap.size, 1, none⟩ (.slice B7 fs.length d7)).heap[w.heap.size]? = some (.cells #[.slice A bk.length ca, .slice (some ⟨gf, 0, none⟩) fs.length cb] 25 (0, 0)) ∧ ((w7.setCell ⟨w1.heap.size, 0, none⟩ (.slice A7 nb c7)).setCell ⟨w1.heap.size, 1, none⟩ (.slice B7 fs.length d7)).heap[w.heap.size + 1]? = some (.cells #[.slice none 0 0, .slice none 0 0] 25 (0, 0)) ∧ ((w7.setCell ⟨w1.heap.size, 0, none⟩ (.slice A7 nb c7)).setCell ⟨w1.heap.size, 1, none⟩ (.slice B7 fs.length d7)).heap[w1.heap.size]? = some (.cells #[.slice A7 nb c7, .slice B7 fs.length d7] 25 (0, 0)) ∧ Below w.heap.size w ((w7.setCell ⟨w1.heap.size, 0, none⟩ (.slice A7 nb c7)).setCell ⟨w1.heap.size, 1, none⟩ (.slice B7 fs.length d7))) := by
          refine ⟨(ht8.set_ (.inr (by simpa using hsz7)) _).set_ (.inr (by simpa using hsz7)) _, ?_, ?_, ?_, bset (bset hbb (by simp; omega) _) (by simp; omega) _⟩
          · rw [Below.heap_setCell _ _ _ _ (by simp; omega), Below.heap_setCell _ _ _ _ (by simp; omega)]; exact b0
          · rw [Below.heap_setCell _ _ _ _ (by simp; omega), Below.heap_setCell _ _ _ _ (by simp; omega)]; exact b1'
          · have h1 := Joins.block_setCell (i := 0) b2' (.slice A7 nb c7)
            have h2 := Joins.block_setCell (i := 1) h1 (.slice B7 fs.length d7)
            simpa using h2
        clear b0 b1' b2' ht7 ht8 hb7 hbb HT HB0 HB1 HB2 HL
        go_wp2
        go_roundw
        case rel => exact ⟨k + 1, _, _, A7, c7, B7, d7, by omega, by go_num, p7, q7, R.out.1, by omega, .inr hsz7, R.out.2.1, R.out.2.2.1, R.out.2.2.2.1, R.out.2.2.2.2⟩
        case measure => simp [intOf]; omega
    · obtain rfl : k = fs.length := by omega
      have r0 : wr.cell? ⟨w.heap.size + 1, 0, none⟩ = some (.slice none 0 0) := by rw [Joins.cell_of_block HB1.out]; rfl
      have r1 : wr.cell? ⟨w.heap.size + 1, 1, none⟩ = some (.slice none 0 0) := by rw [Joins.cell_of_block HB1.out]; rfl
      have r2 : wr.frozen? ⟨w.heap.size + 1, 0, none⟩ = false := Joins.unfrozen_of_block HB1.out 0
      have r3 : wr.frozen? ⟨w.heap.size + 1, 1, none⟩ = false := Joins.unfrozen_of_block HB1.out 1
      go_wp2
      refine bodyPost_ret (v := .tuple #[.agg #[.slice Ax nb cx, .slice Bx fs.length dx], .bool true]) (by simp [results, Tryd.results33, go_sem, *]) rfl ?_
      obtain ⟨rl1, rl2⟩ := rhs_len fs nb fs.length
      have hT9 := ((HT.out.set_ (p := ⟨w.heap.size + 1, 0, none⟩) (.inr (by simp; omega)) (.slice Ax nb cx)).set_ (p := ⟨w.heap.size + 1, 1, none⟩) (.inr (by simp; omega)) (.slice Bx fs.length dx)).top.more (lo' := w.heap.size) (by omega) (Nat.le_refl _)
      refine ⟨Ax, cx, Bx, dx, ?_, ⟨?_, hcx.2⟩, ⟨?_, hdx.2⟩, hT9, bset (bset hbw (by simp) _) (by simp) _⟩
      · unfold rT; rw [rl1, rl2]
      · unfold rT; rw [rl1]; exact hcx.1
      · unfold rT; rw [rl2]; exact hdx.1
end Go.Proofs.YtnbfmnchihckaaaDoor
