/- Draws of tables: 1 to 8 frames and buckets. Asked of a reader: at most 900000 picks so far. -/
import Derived.Test.YtjdoegekolbdpaaDoorLI
import Derived.Deep.DeepCutAuto
import Derived.Deep.LoopGhost
namespace Go.Proofs.YtjdoegekolbdpaaDoor
set_option linter.unusedVariables false
open Go.ChangeShapes Go.WideShapes Go.ChangeAt Go.RowKit
set_option maxHeartbeats 8000000 in
set_option maxRecDepth 100000 in
theorem spec_l3Draw (rb m : Nat) (w : World) (h : Rd w rb m) (hm : m ≤ 900000) : Calls Tryd.prog 53 #[.pointer (some ⟨rb, 0, none⟩)] w (LPost rb m w) := by
  have hlt := h.lt
  go_enter Tryd.func53, Tryd.ntmps53
  go_wp2_with (fail)
  refine (rd_num rb (m) _ _ [6, 4, 8, 2, 1] _ (by (repeat' (first | (with_reducible assumption) | (with_reducible refine Rd.alloc ?_ _) | (with_reducible refine Rd.drewN ?_ _) | (with_reducible refine Rd.drew ?_) | (with_reducible refine Rd.setCell ?_ (by first | omega | (simp; omega)) _)))) (by omega) rfl (by simp) (by decide) (by decide)).mono ?_
  rintro e w1 ⟨x1, rfl, hl1, hh1, hm1, hR1, hg1⟩
  have hr1 := hR1.lt
  obtain ⟨hc1_0, hf1_0, hz1_0⟩ := gb_at hg1 (w.heap.size) (by first | omega | (simp; done) | (simp; omega)) (by first | omega | (simp; done) | (simp; omega))
  go_wp2_with (fail)
  refine (rd_num rb (m + 1) _ _ [4, 2, 8, 1, 3] _ (by (repeat' (first | (with_reducible assumption) | (with_reducible refine Rd.alloc ?_ _) | (with_reducible refine Rd.drewN ?_ _) | (with_reducible refine Rd.drew ?_) | (with_reducible refine Rd.setCell ?_ (by first | omega | (simp; omega)) _)))) (by omega) rfl (by simp) (by decide) (by decide)).mono ?_
  rintro e w2 ⟨x2, rfl, hl2, hh2, hm2, hR2, hg2⟩
  have hr2 := hR2.lt
  obtain ⟨hc2_0, hf2_0, hz2_0⟩ := gb_at hg2 (w.heap.size) (by first | omega | (simp; done) | (simp; omega)) (by first | omega | (simp; done) | (simp; omega))
  have hx1 : 1 ≤ x1 ∧ x1 ≤ 8 := by have := hm1.out; simp at this; omega
  have hx2 : 1 ≤ x2 ∧ x2 ≤ 8 := by have := hm2.out; simp at this; omega
  obtain ⟨nf, rfl⟩ := Int.eq_ofNat_of_zero_le (show 0 ≤ x1 by omega)
  obtain ⟨nb, rfl⟩ := Int.eq_ofNat_of_zero_le (show 0 ≤ x2 by omega)
  have hok : ntOk (nf : Int) (nb : Int) = true := ntOk_iff.2 ⟨by omega, by omega⟩
  have NT := spec_NewTable (nf : Int) (nb : Int) w2
  rw [hok, nt_len hok] at NT
  have HNT := Lib.hid NT
  have hG2 : w.grownBy w2 (some rb) := by (repeat' (first | with_reducible exact gb_refl _ _ | (with_reducible refine gb_alloc ?_ _) | (with_reducible refine gb_set ?_ ?_ _) | (with_reducible refine gb_drew ?_) | (with_reducible refine gb_drewN ?_ _) | (with_reducible refine gb_step ?_ (by with_reducible assumption)) | (with_reducible refine gb_below ?_ (by with_reducible assumption)) | (simp; done) | (simp; omega)))
  have HG2 := Lib.hid hG2
  have hz2 : w.heap.size < w2.heap.size := hz2_0
  have RB2 : w2.heap[w.heap.size]? = some (.cells #[.slice none 0 0, .slice none 0 0] 28 (0, 0)) := (hg2.block _ hz1_0 (by simp; omega)).trans ((hg1.block _ (by simp) (by simp; omega)).trans (heap_new rfl))
  have HRB2 := Lib.hid RB2
  have HR2 := Lib.hid (show Rd w2 rb (m + 2) from hR2)
  clear hR2 hR1 hg1 hg2 hG2 RB2 NT hm1 hm2 hok hc1_0 hf1_0 hc2_0 hf2_0 hl1 hh1 hl2 hh2 hr1 hr2
  go_wp2_with (fail)
  refine HNT.out.mono ?_
  rintro e w3 ⟨A3, c3, B3, d3, rfl, ⟨p3, q3⟩, ⟨p4, q4⟩, ht3, hb3⟩
  have n1 : (newT nf nb).1.length = nb := by simp [newT]
  have n2 : (newT nf nb).2.length = nf := by simp [newT]
  have HT3 := Lib.hid (show Tb w3 (w.heap.size + 1) w3.heap.size A3 B3 (newT nf nb).1 (newT nf nb).2 from ht3.more (by omega) (Nat.le_refl _))
  rw [n1, n2]
  rw [n1] at p3
  rw [n2] at p4
  have hR3 := HR2.out.below hb3
  have hz3 := hb3.size
  have RB3 := Lib.hid ((hb3.block _ hz2).trans HRB2.out)
  have HG3 := Lib.hid (gb_below HG2.out hb3)
  clear ht3 hb3 HR2 HRB2 HG2 HNT
  go_wp2_with (fail)
  refine (rd_num rb (m + 2) _ _ [4, 3, 6, 1, 0] _ (by (repeat' (first | (with_reducible assumption) | (with_reducible refine Rd.alloc ?_ _) | (with_reducible refine Rd.drewN ?_ _) | (with_reducible refine Rd.drew ?_) | (with_reducible refine Rd.setCell ?_ (by first | omega | (simp; omega)) _)))) (by omega) rfl (by simp) (by decide) (by decide)).mono ?_
  rintro e w4 ⟨x4, rfl, hl4, hh4, hm4, hR4, hg4⟩
  have hx4 : 0 ≤ x4 ∧ x4 ≤ 6 := by have := hm4.out; simp at this; omega
  obtain ⟨n0, rfl⟩ := Int.eq_ofNat_of_zero_le hx4.1
  have hn0 : n0 ≤ 6 := by omega
  have zz4 := hg4.size
  simp at zz4
  have R4 : Hid (w4.heap[w.heap.size]? = some (.cells #[.slice none 0 0, .slice none 0 0] 28 (0, 0)) ∧ w4.heap[w3.heap.size]? = some (.cells #[.slice A3 nb c3, .slice B3 nf d3] 28 (0, 0)) ∧ Tb w4 (w.heap.size + 1) w3.heap.size A3 B3 (newT nf nb).1 (newT nf nb).2 ∧ Rd w4 rb (m + 3) ∧ w.grownBy w4 (some rb)) :=
    ⟨(hg4.block _ (by simp; omega) (by simp; omega)).trans (al_keep RB3.out), (hg4.block _ (by simp) (by simp; omega)).trans (heap_new rfl), (HT3.out.alloc _).grown hg4 (by omega), hR4, gb_step (gb_alloc HG3.out _) hg4⟩
  clear hm4 hR4 hg4 RB3 HT3 HG3 hR3 hl4 hh4 hx4
  go_wp2
  go_loopg [5] n0 (fun k i wr => i = .int .i64 (k : Nat) ∧ k ≤ 6 ∧ LI nb nf rb (m + 3 + 7 * (6 - k)) w w3.heap.size w.heap.size wr)
  case atStart => exact ⟨rfl, hn0, A3, c3, B3, d3, _, _, w.heap.size + 1, w3.heap.size, n1, n2, ⟨p3, q3⟩, ⟨p4, q4⟩, Lib.hid R4.out.2.2.1, ⟨Nat.le_refl _, by omega, .inl (Nat.le_refl _), .inr (by omega)⟩,
    ⟨by rw [Joins.cell_of_block R4.out.2.1]; rfl, by rw [Joins.cell_of_block R4.out.2.1]; rfl, Joins.unfrozen_of_block R4.out.2.1 0, Joins.unfrozen_of_block R4.out.2.1 1, block_lt R4.out.2.1, by omega⟩, Lib.hid R4.out.1, R4.out.2.2.2.1.mono (by omega), Lib.hid R4.out.2.2.2.2, hlt⟩
  case round =>
    obtain ⟨rfl, hj, hL⟩ := hrel
    obtain ⟨A, ca, B, cb, bk, fs, l0, h0, lb, lf, hca, hcb, HT, ⟨a1, a2, a3, a4⟩, o0, o1, p0, p1, st, st'⟩ := hL.cells
    have hR := hL.rd
    have HL := Lib.hid hL
    clear hL
    by_cases hgk : 0 < gk
    · have i1 : (0 : Int) < (gk : Int) := by omega
      have HM : Hid (∀ (W : World) (s p f r : Int), Tb W l0 h0 A B bk fs → Calls Tryd.prog 75 #[.agg #[.slice A nb ca, .slice B nf cb], .agg #[.int .i64 s, .int .i64 p], .int .i64 f, .int .i64 r] W (TabX nb nf W)) := by
        intro W s p f r hT
        have h := spec_MapPage A B ca cb l0 h0 bk fs s p f r W hT (by omega) (by omega)
        rw [lb, lf] at h
        exact h.mono fun _ _ h => h.x
      clear lb lf
      go_upto_region 5 with (fail)
      go_cut [6, 7] (fun s6 s7 wx => Rel8 nb nf rb (m + 3 + 7 * (6 - gk) + 1 + 1 + 1 + 1) wr s6 s7 wx)
      case first =>
        have : ¬ (w3.heap.size = wr.heap.size) := by omega
        have : ¬ (wr.heap.size = w3.heap.size) := by omega
        have : ¬ (w3.heap.size = wr.heap.size + 1) := by omega
        have : ¬ (wr.heap.size + 1 = w3.heap.size) := by omega
        go_region_held3 (fun W' => W'.cell? ⟨w3.heap.size, 0, none⟩ = some (.slice A nb ca) ∧ W'.cell? ⟨w3.heap.size, 1, none⟩ = some (.slice B nf cb)) (go_keep)
          (first | (go_at_call 76; refine (spec_l2Draw rb (m + 3 + 7 * (6 - gk)) _ (by (repeat' (first | (with_reducible assumption) | (with_reducible exact Hid.out (by assumption)) | (with_reducible refine Rd.alloc ?_ _) | (with_reducible refine Rd.drewN ?_ _) | (with_reducible refine Rd.drew ?_) | (with_reducible refine Rd.below ?_ (by with_reducible assumption)) | (with_reducible refine Rd.setCell ?_ (by first | omega | (simp; omega)) _)))) (by omega)).mono ?_; rintro e w5 ⟨s5, p5, rfl, _, _, hR5, hg5⟩; (try (have hq := gb_at hg5 (w3.heap.size) (by first | omega | (simp; done) | (simp; omega)) (by omega); obtain ⟨hc5_0, hf5_0, hz5_0⟩ := hq)); (try (have hq := gb_at hg5 (wr.heap.size) (by first | omega | (simp; done) | (simp; omega)) (by omega); obtain ⟨hc5_1, hf5_1, hz5_1⟩ := hq)); (try (have hq := gb_at hg5 (wr.heap.size + 1) (by first | omega | (simp; done) | (simp; omega)) (by omega); obtain ⟨hc5_2, hf5_2, hz5_2⟩ := hq)); have : ¬ (w3.heap.size = w5.heap.size) := (by omega); have : ¬ (w5.heap.size = w3.heap.size) := (by omega); have : ¬ (w3.heap.size = w5.heap.size + 1) := (by omega); have : ¬ (w5.heap.size + 1 = w3.heap.size) := (by omega)) | (go_at_call 57; refine (rd_pick rb (m + 3 + 7 * (6 - gk) + 1 + 1) _ _ (by (repeat' (first | (with_reducible assumption) | (with_reducible exact Hid.out (by assumption)) | (with_reducible refine Rd.alloc ?_ _) | (with_reducible refine Rd.drewN ?_ _) | (with_reducible refine Rd.drew ?_) | (with_reducible refine Rd.below ?_ (by with_reducible assumption)) | (with_reducible refine Rd.setCell ?_ (by first | omega | (simp; omega)) _)))) (by omega)).mono ?_; rintro e w6 ⟨x6, rfl, hl6, hh6, hR6, hg6⟩; (try (have hq := gb_at hg6 (w3.heap.size) (by first | omega | (simp; done) | (simp; omega)) (by omega); obtain ⟨hc6_0, hf6_0, hz6_0⟩ := hq)); (try (have hq := gb_at hg6 (wr.heap.size) (by first | omega | (simp; done) | (simp; omega)) (by omega); obtain ⟨hc6_1, hf6_1, hz6_1⟩ := hq)); (try (have hq := gb_at hg6 (wr.heap.size + 1) (by first | omega | (simp; done) | (simp; omega)) (by omega); obtain ⟨hc6_2, hf6_2, hz6_2⟩ := hq)); (try (have hq := gb_at hg6 (w5.heap.size) (by first | omega | (simp; done) | (simp; omega)) (by omega); obtain ⟨hc6_3, hf6_3, hz6_3⟩ := hq)); (try (have hq := gb_at hg6 (w5.heap.size + 1) (by first | omega | (simp; done) | (simp; omega)) (by omega); obtain ⟨hc6_4, hf6_4, hz6_4⟩ := hq)); have : ¬ (w3.heap.size = w6.heap.size) := (by omega); have : ¬ (w6.heap.size = w3.heap.size) := (by omega); have : ¬ (w3.heap.size = w6.heap.size + 1) := (by omega); have : ¬ (w6.heap.size + 1 = w3.heap.size) := (by omega)) | (go_at_call 39; refine (rd_num_at rb (m + 3 + 7 * (6 - gk) + 1 + 1 + 1) _ _ [3, 1, 7, 5, 0] _ (by (repeat' (first | (with_reducible assumption) | (with_reducible exact Hid.out (by assumption)) | (with_reducible refine Rd.alloc ?_ _) | (with_reducible refine Rd.drewN ?_ _) | (with_reducible refine Rd.drew ?_) | (with_reducible refine Rd.below ?_ (by with_reducible assumption)) | (with_reducible refine Rd.setCell ?_ (by first | omega | (simp; omega)) _)))) (by omega) rfl ?hB1 ?hB2 ?hB3 (by simp) (by decide)).mono ?_; (case hB1 => first | (simp; done) | (have z6 := hg6.size; have z5 := hg5.size; (try simp at z5); (try simp at z6); (try simp only [World.size_alloc]); omega) | (have z6 := hg6.size; have z5 := hg5.size; (try simp at z5); (try simp at z6); (try simp); omega)); (case hB2 => first | omega | (simp; omega)); (case hB3 => (intro q hq; repeat' (first | exact newL (by first | rfl | (simp; done) | (simp; omega)) [3, 1, 7, 5, 0] hq | rw [cell_drew] | rw [oldc (by first | omega | (simp; done) | (simp; omega))] | (refine hg6.cell ?_ (by first | omega | (simp; omega))) | (refine hg5.cell ?_ (by first | omega | (simp; omega)))))); rintro e w7 ⟨x7, rfl, hl7, hh7, hm7, hR7, hg7⟩; (try (have hq := gb_at hg7 (w3.heap.size) (by first | omega | (simp; done) | (simp; omega)) (by omega); obtain ⟨hc7_0, hf7_0, hz7_0⟩ := hq)); (try (have hq := gb_at hg7 (wr.heap.size) (by first | omega | (simp; done) | (simp; omega)) (by omega); obtain ⟨hc7_1, hf7_1, hz7_1⟩ := hq)); (try (have hq := gb_at hg7 (wr.heap.size + 1) (by first | omega | (simp; done) | (simp; omega)) (by omega); obtain ⟨hc7_2, hf7_2, hz7_2⟩ := hq)); (try (have hq := gb_at hg7 (w5.heap.size) (by first | omega | (simp; done) | (simp; omega)) (by omega); obtain ⟨hc7_3, hf7_3, hz7_3⟩ := hq)); (try (have hq := gb_at hg7 (w5.heap.size + 1) (by first | omega | (simp; done) | (simp; omega)) (by omega); obtain ⟨hc7_4, hf7_4, hz7_4⟩ := hq)); (try (have hq := gb_at hg7 (w6.heap.size) (by first | omega | (simp; done) | (simp; omega)) (by omega); obtain ⟨hc7_5, hf7_5, hz7_5⟩ := hq)); (try (have hq := gb_at hg7 (w6.heap.size + 1) (by first | omega | (simp; done) | (simp; omega)) (by omega); obtain ⟨hc7_6, hf7_6, hz7_6⟩ := hq)); have : ¬ (w3.heap.size = w7.heap.size) := (by omega); have : ¬ (w7.heap.size = w3.heap.size) := (by omega); have : ¬ (w3.heap.size = w7.heap.size + 1) := (by omega); have : ¬ (w7.heap.size + 1 = w3.heap.size) := (by omega)) | (go_at_call 75; refine (HM.out _ _ _ _ _ (by (repeat' (first | (with_reducible exact Hid.out (by assumption)) | (with_reducible refine Tb.alloc ?_ _) | (with_reducible refine Tb.drew ?_) | (with_reducible refine Tb.drewN ?_ _) | (with_reducible refine Tb.set_ ?_ (by first | (left; (try simp) <;> omega) | (right; (try simp) <;> omega)) _) | (with_reducible refine Tb.grown ?_ (by with_reducible assumption) (by omega)) | (with_reducible refine Tb.below ?_ (by with_reducible assumption)))))).mono ?_; rintro e w8 ⟨A8, n8, c8, B8, m8, d8, ok8, bk8, fs8, l8, hle8, rfl, hw8, hb8⟩; (try (have hq := bel_at hb8 (w3.heap.size) (by first | omega | (simp; done) | (simp; omega)); obtain ⟨hc8_0, hf8_0, hz8_0⟩ := hq)); (try (have hq := bel_at hb8 (wr.heap.size) (by first | omega | (simp; done) | (simp; omega)); obtain ⟨hc8_1, hf8_1, hz8_1⟩ := hq)); (try (have hq := bel_at hb8 (wr.heap.size + 1) (by first | omega | (simp; done) | (simp; omega)); obtain ⟨hc8_2, hf8_2, hz8_2⟩ := hq)); (try (have hq := bel_at hb8 (w5.heap.size) (by first | omega | (simp; done) | (simp; omega)); obtain ⟨hc8_3, hf8_3, hz8_3⟩ := hq)); (try (have hq := bel_at hb8 (w5.heap.size + 1) (by first | omega | (simp; done) | (simp; omega)); obtain ⟨hc8_4, hf8_4, hz8_4⟩ := hq)); (try (have hq := bel_at hb8 (w6.heap.size) (by first | omega | (simp; done) | (simp; omega)); obtain ⟨hc8_5, hf8_5, hz8_5⟩ := hq)); (try (have hq := bel_at hb8 (w6.heap.size + 1) (by first | omega | (simp; done) | (simp; omega)); obtain ⟨hc8_6, hf8_6, hz8_6⟩ := hq)); (try (have hq := bel_at hb8 (w7.heap.size) (by first | omega | (simp; done) | (simp; omega)); obtain ⟨hc8_7, hf8_7, hz8_7⟩ := hq)); have : ¬ (w3.heap.size = w8.heap.size) := (by omega); have : ¬ (w8.heap.size = w3.heap.size) := (by omega)))
        all_goals (have z5 := hg5.size; have z6 := hg6.size; have z7 := hg7.size; have z8 := hb8.size; simp at z5 z6 z7 z8 hle8)
        all_goals (go_wp2_with (fail))
        all_goals go_meet
        all_goals first
          | exact rel8_new (by omega) hw8 (by (repeat' (first | (with_reducible assumption) | (with_reducible exact Hid.out (by assumption)) | (with_reducible refine Rd.alloc ?_ _) | (with_reducible refine Rd.drewN ?_ _) | (with_reducible refine Rd.drew ?_) | (with_reducible refine Rd.below ?_ (by with_reducible assumption)) | (with_reducible refine Rd.setCell ?_ (by first | omega | (simp; omega)) _)))) (by (repeat' (first | with_reducible exact gb_refl _ _ | (with_reducible refine gb_alloc ?_ _) | (with_reducible refine gb_set ?_ ?_ _) | (with_reducible refine gb_drew ?_) | (with_reducible refine gb_drewN ?_ _) | (with_reducible refine gb_step ?_ (by with_reducible assumption)) | (with_reducible refine gb_below ?_ (by with_reducible assumption)) | (simp; done) | (simp; omega))))
          | exact rel8_set (by (repeat' (first | (with_reducible exact NV.new (by first | rfl | (simp; done) | (simp; omega))) | (with_reducible refine NV.alloc ?_ _) | (with_reducible refine NV.drew ?_) | (with_reducible refine NV.grown ?_ (by with_reducible assumption) (by omega)) | (with_reducible refine NV.below ?_ (by with_reducible assumption))))) (by omega) (by omega) (by omega) (by omega) hw8 (by (repeat' (first | (with_reducible assumption) | (with_reducible exact Hid.out (by assumption)) | (with_reducible refine Rd.alloc ?_ _) | (with_reducible refine Rd.drewN ?_ _) | (with_reducible refine Rd.drew ?_) | (with_reducible refine Rd.below ?_ (by with_reducible assumption)) | (with_reducible refine Rd.setCell ?_ (by first | omega | (simp; omega)) _)))) (by (repeat' (first | with_reducible exact gb_refl _ _ | (with_reducible refine gb_alloc ?_ _) | (with_reducible refine gb_set ?_ ?_ _) | (with_reducible refine gb_drew ?_) | (with_reducible refine gb_drewN ?_ _) | (with_reducible refine gb_step ?_ (by with_reducible assumption)) | (with_reducible refine gb_below ?_ (by with_reducible assumption)) | (simp; done) | (simp; omega))))
      case rest =>
        obtain ⟨nv, A8, n8, c8, B8, m8, d8, ok8, bk8, fs8, l8, h8, rfl, rfl, v0, v1, y0, y1, hnv, hnv2, hnl, hl8, hh8, hw8, hR8, hg8⟩ := hcut
        have L8 := (HL.out.nv hnv).grown hg8 hR8
        have V8 : NV nv wc := ⟨⟨_, v0⟩, ⟨_, v1⟩, y0, y1, hnv2⟩
        have HW8 := Lib.hid hw8
        obtain ⟨A9, ca9, B9, cb9, bk9, fs9, l9, h9, _, _, _, _, _, _, o0, o1, p0, p1, _, _⟩ := L8.cells
        clear hw8 HM HT HL hca hcb a1 a2 a3 a4 hR8 hg8
        go_upto_if 40 with (fail)
        go_cut [6] (fun s6 wx => s6 = .pointer (some ⟨nv, 0, none⟩) ∧ NV nv wx ∧ LI nb nf rb (m + 3 + 7 * (6 - gk) + 1 + 1 + 1 + 1) w w3.heap.size nv wx)
        case first =>
          cases ok8 with
          | true =>
            obtain ⟨e1, e2, e3, e4, e5, e6, e7⟩ := HW8.out rfl
            rw [e1] at v0
            rw [e2] at v1
            have HE7 := Lib.hid e7
            have HL8 := Lib.hid L8
            have HV8 := Lib.hid V8
            clear HW8 L8 V8 e7
            go_wp2
            go_meet
            exact ⟨rfl, HV8.out.put _ _ _, HL8.out.put e3 e4 e5 e6 HE7.out (by omega) (by omega) (.inr (by omega)) (by omega)⟩
          | false =>
            have HL8 := Lib.hid L8
            have HV8 := Lib.hid V8
            clear HW8 L8 V8
            go_wp2
            go_meet
            exact ⟨rfl, HV8.out, HL8.out⟩
        case rest =>
          clear v0 v1 y0 y1 hnv2 hnl hl8 hh8 HW8 o0 o1 p0 p1 V8 L8
          obtain ⟨rfl, V9, L9⟩ := hcut
          have R9 := L9.rd
          have HL9 := Lib.hid L9
          have HV9 := Lib.hid V9
          clear L9 V9
          go_upto_if 44 with (fail)
          refine (rd_pick rb (m + 3 + 7 * (6 - gk) + 1 + 1 + 1 + 1) _ _ (by (repeat' (first | (with_reducible assumption) | (with_reducible exact Hid.out (by assumption)) | (with_reducible refine Rd.alloc ?_ _) | (with_reducible refine Rd.drewN ?_ _) | (with_reducible refine Rd.drew ?_) | (with_reducible refine Rd.below ?_ (by with_reducible assumption)) | (with_reducible refine Rd.setCell ?_ (by first | omega | (simp; omega)) _)))) (by omega)).mono ?_
          rintro e wd ⟨x, rfl, hx0, hx1, hRd, hgd⟩
          have HL10 := Lib.hid (HL9.out.grown hgd hRd)
          have HV10 := Lib.hid (HV9.out.grown hgd (by omega))
          clear HL9 HV9 R9 hgd
          go_upto_if 44 with (fail)
          by_cases hx : x = 0
          · subst hx
            obtain ⟨Ac, cac, Bc, cbc, bkc, fsc, lc, hc, lb, lf, gca, gcb, HT, ⟨b1, b2, b3, b4⟩, o0, o1, p0, p1, st, st'⟩ := HL10.out.cells
            obtain ⟨⟨v0, w0⟩, ⟨v1, w1'⟩, y0, y1, hnv2⟩ := HV10.out
            have HU : Hid (∀ (W : World) (s p : Int), Tb W lc hc Ac Bc bkc fsc → Calls Tryd.prog 77 #[.agg #[.slice Ac nb cac, .slice Bc nf cbc], .agg #[.int .i64 s, .int .i64 p]] W (TabX nb nf W)) := by
              intro W s p hT
              have h := spec_UnmapPage Ac Bc cac cbc lc hc bkc fsc s p W hT (by omega) (by omega)
              rw [lb, lf] at h
              exact h.mono fun _ _ h => h.x
            clear lb lf gca gcb
            have : ¬ (w3.heap.size = nv) := by omega
            have : ¬ (nv = w3.heap.size) := by omega
            go_wp2_with (fail)
            go_region_held3 (fun W' => W'.cell? ⟨w3.heap.size, 0, none⟩ = some (.slice Ac nb cac) ∧ W'.cell? ⟨w3.heap.size, 1, none⟩ = some (.slice Bc nf cbc)) (go_keep)
              (first | (go_at_call 76; refine (spec_l2Draw rb (m + 3 + 7 * (6 - gk) + 1 + 1 + 1 + 1 + 1) _ (by (repeat' (first | (with_reducible assumption) | (with_reducible exact Hid.out (by assumption)) | (with_reducible refine Rd.alloc ?_ _) | (with_reducible refine Rd.drewN ?_ _) | (with_reducible refine Rd.drew ?_) | (with_reducible refine Rd.below ?_ (by with_reducible assumption)) | (with_reducible refine Rd.setCell ?_ (by first | omega | (simp; omega)) _)))) (by omega)).mono ?_; rintro e w5 ⟨s5, p5, rfl, _, _, hR5, hg5⟩; (try (have hq := gb_at hg5 (w3.heap.size) (by first | omega | (simp; done) | (simp; omega)) (by omega); obtain ⟨hc5_0, hf5_0, hz5_0⟩ := hq)); (try (have hq := gb_at hg5 (nv) (by first | omega | (simp; done) | (simp; omega)) (by omega); obtain ⟨hc5_1, hf5_1, hz5_1⟩ := hq)); have : ¬ (w3.heap.size = w5.heap.size) := (by omega); have : ¬ (w5.heap.size = w3.heap.size) := (by omega); have : ¬ (w3.heap.size = w5.heap.size + 1) := (by omega); have : ¬ (w5.heap.size + 1 = w3.heap.size) := (by omega)) | (go_at_call 77; refine (HU.out _ _ _ (by (repeat' (first | (with_reducible exact Hid.out (by assumption)) | (with_reducible refine Tb.alloc ?_ _) | (with_reducible refine Tb.drew ?_) | (with_reducible refine Tb.drewN ?_ _) | (with_reducible refine Tb.set_ ?_ (by first | (left; (try simp) <;> omega) | (right; (try simp) <;> omega)) _) | (with_reducible refine Tb.grown ?_ (by with_reducible assumption) (by omega)) | (with_reducible refine Tb.below ?_ (by with_reducible assumption)))))).mono ?_; rintro e w8 ⟨A8, n8, c8, B8, m8, d8, ok8, bk8, fs8, l8, hle8, rfl, hw8, hb8⟩; (try (have hq := bel_at hb8 (w3.heap.size) (by first | omega | (simp; done) | (simp; omega)); obtain ⟨hc8_0, hf8_0, hz8_0⟩ := hq)); (try (have hq := bel_at hb8 (nv) (by first | omega | (simp; done) | (simp; omega)); obtain ⟨hc8_1, hf8_1, hz8_1⟩ := hq)); have : ¬ (w3.heap.size = w8.heap.size) := (by omega); have : ¬ (w8.heap.size = w3.heap.size) := (by omega)))
            have z5 := hg5.size
            have z8 := hb8.size
            simp at z5 z8 hle8
            have hg5' : wd.grownBy w5 (some rb) := gb_step (gb_drew (gb_refl _ _)) hg5
            have LX := (((HL10.out.grown hg5' hR5).grown (gb_below (gb_refl _ (some rb)) hb8) (hR5.below hb8)).setNv (show w3.heap.size < nv by omega) (.slice A8 n8 c8) (.slice B8 m8 d8)).mono (show m + 3 + 7 * (6 - gk) + 1 + 1 + 1 + 1 + 1 + 1 + 1 ≤ m + 3 + 7 * (6 - gk) + 7 by omega)
            have V8 : NV nv w8 := (HV10.out.grown hg5' (by omega)).grown (gb_below (gb_refl _ (some rb)) hb8) (by omega)
            obtain ⟨⟨u0, t0⟩, ⟨u1, t1⟩, _⟩ := V8
            obtain ⟨q0, q1⟩ := set2 t0 t1 (.slice A8 n8 c8) (.slice B8 m8 d8)
            have s8 : ((w8.setCell ⟨nv, 0, none⟩ (.slice A8 n8 c8)).setCell ⟨nv, 1, none⟩ (.slice B8 m8 d8)).heap.size = w8.heap.size := by simp
            have HT8 : Hid (ok8 = true → n8 = nb ∧ m8 = nf ∧ bk8.length = nb ∧ fs8.length = nf ∧ (nb ≤ c8 ∧ c8 ≤ maxLen) ∧ (nf ≤ d8 ∧ d8 ≤ maxLen) ∧ Tb ((w8.setCell ⟨nv, 0, none⟩ (.slice A8 n8 c8)).setCell ⟨nv, 1, none⟩ (.slice B8 m8 d8)) l8 w8.heap.size A8 B8 bk8 fs8) := Lib.hid fun he => by
              obtain ⟨e1, e2, e3, e4, e5, e6, e7⟩ := hw8.out he
              exact ⟨e1, e2, e3, e4, e5, e6, (e7.set_ (p := ⟨nv, 0, none⟩) (.inr (show nv < l8 by omega)) _).set_ (p := ⟨nv, 1, none⟩) (.inr (show nv < l8 by omega)) _⟩
            have HLX := Lib.hid LX
            clear LX HL10 HV10 HT HU hw8 hb8 hg5 hg5' hR5 hRd o0 o1 p0 p1
            obtain ⟨wz, hwz⟩ : ∃ wz, ((w8.setCell ⟨nv, 0, none⟩ (.slice A8 n8 c8)).setCell ⟨nv, 1, none⟩ (.slice B8 m8 d8)) = wz := ⟨_, rfl⟩
            rw [hwz] at HLX q0 q1 s8 HT8 ⊢
            obtain ⟨_, _, _, _, _, _, _, _, _, _, _, _, _, _, o0, o1, p0, p1, _, _⟩ := HLX.out.cells
            clear hwz
            cases ok8 with
            | true =>
              obtain ⟨e1, e2, e3, e4, e5, e6, e7⟩ := HT8.out rfl
              rw [e1] at q0
              rw [e2] at q1
              have HLc := Lib.hid (HLX.out.put e3 e4 e5 e6 e7 (by omega) (by omega) (.inr (by omega)) (.inr (by omega)))
              clear HLX e7 HT8
              go_wp2
              go_roundg (gk - 1)
              case measure => omega
              case rel =>
                have e : ((gk : Int) - 1) = ((gk - 1 : Nat) : Int) := by omega
                first
                  | exact ⟨by rw [e], by omega, (HLc.out.nv0).mono (by omega)⟩
                  | fail
            | false =>
              have HLc := HLX
              clear HLX HT8
              go_wp2
              go_roundg (gk - 1)
              case measure => omega
              case rel =>
                have e : ((gk : Int) - 1) = ((gk - 1 : Nat) : Int) := by omega
                first
                  | exact ⟨by rw [e], by omega, (HLc.out.nv0).mono (by omega)⟩
                  | fail
          · have hx' : ¬ ((x : Int) = 0) := hx
            have HLc := HL10
            clear HL10 HV10 hRd
            go_wp2
            go_roundg (gk - 1)
            case measure => omega
            case rel =>
              have e : ((gk : Int) - 1) = ((gk - 1 : Nat) : Int) := by omega
              first
                | exact ⟨by rw [e], by omega, (HLc.out.nv0).mono (by omega)⟩
                | fail
    · obtain rfl : gk = 0 := by omega
      obtain ⟨br, hG⟩ := HL.out.res
      have r0 : wr.cell? ⟨w.heap.size, 0, none⟩ = some (.slice none 0 0) := by rw [Joins.cell_of_block br.out]; rfl
      have r1 : wr.cell? ⟨w.heap.size, 1, none⟩ = some (.slice none 0 0) := by rw [Joins.cell_of_block br.out]; rfl
      have r2 : wr.frozen? ⟨w.heap.size, 0, none⟩ = false := Joins.unfrozen_of_block br.out 0
      have r3 : wr.frozen? ⟨w.heap.size, 1, none⟩ = false := Joins.unfrozen_of_block br.out 1
      clear HL br
      subst lb
      subst lf
      go_wp2
      refine bodyPost_ret (v := .agg #[.slice A bk.length ca, .slice B fs.length cb]) (by simp [results, Tryd.results53, go_sem, *]) rfl ?_
      refine ⟨A, ca, B, cb, bk, fs, rfl, by omega, by omega, hca, hcb, Lib.hid ?_, ?_, ?_⟩
      · exact ((HT.out.set_ (p := ⟨w.heap.size, 0, none⟩) (.inr (show w.heap.size < l0 by omega)) _).set_ (p := ⟨w.heap.size, 1, none⟩) (.inr (show w.heap.size < l0 by omega)) _).more (by omega) (by simpa using a2)
      · exact ((hR.setCell (a := ⟨w.heap.size, 0, none⟩) hlt _).setCell (a := ⟨w.heap.size, 1, none⟩) hlt _).mono (by omega)
      · exact gb_set (gb_set hG.out (Nat.le_refl _) _) (Nat.le_refl _) _
end Go.Proofs.YtjdoegekolbdpaaDoor
