/- Contracts of the reference's draws of moves, ranges of pages and buckets of a space. No conditions. -/
import Derived.Test.YthehcknkehmkkaaDraw
namespace Go.Proofs.Ythehcknkehmkkaa
open Go.ChangeShapes Go.WideShapes Go.ChangeAt Go.RowKit
def DrawIII (w : World) (e : Ending) (w' : World) : Prop := ∃ x y z : Int, e = .returned (.tuple #[.int .i64 x, .int .i64 y, .int .i64 z]) ∧ Below w.heap.size w w'
theorem spec_DrawKeysIn (ao : Option Addr) (len cap : Nat) (w : World) (h : CodeIn w ao len cap) : Calls Try.prog 37 #[.slice ao len cap] w (DrawIII w) := by
  obtain ⟨hcode, hcl, hcm⟩ := h
  have HC := Lib.hid hcode
  clear hcode
  go_enter Try.func37, Try.ntmps37
  go_wp2_with (fail)
  have hcode := HC.out
  refine (rd_open _ _ _ _ (by (refine ⟨?_, by assumption, by assumption⟩; repeat' (first | (with_reducible assumption) | (with_reducible refine CodeAt.alloc ?_ _) | (with_reducible refine CodeAt.below ?_ (by with_reducible assumption)))))).mono ?_
  clear hcode
  rintro e w1 ⟨rb, rfl, hrb, hR1, hb1⟩
  go_wp2_with (fail)
  refine (rd_num rb (0) _ _ [0, 1, 15, 2, 16] _ (by (repeat' (first | (with_reducible assumption) | (with_reducible refine Rd.alloc ?_ _) | (with_reducible refine Rd.drewN ?_ _) | (with_reducible refine Rd.drew ?_) | (with_reducible refine Rd.setCell ?_ (by first | omega | (simp; omega)) _)))) (by omega) rfl (by simp) (by decide) (by decide)).mono ?_
  rintro e w2 ⟨x2, rfl, hl2, hh2, hm2, hR2, hg2⟩
  have hr2 := hR2.lt
  go_wp2_with (fail)
  refine (rd_num rb (0 + 1) _ _ [0, 1, 3, 2, 8, -1] _ (by (repeat' (first | (with_reducible assumption) | (with_reducible refine Rd.alloc ?_ _) | (with_reducible refine Rd.drewN ?_ _) | (with_reducible refine Rd.drew ?_) | (with_reducible refine Rd.setCell ?_ (by first | omega | (simp; omega)) _)))) (by omega) rfl (by simp) (by decide) (by decide)).mono ?_
  rintro e w3 ⟨x3, rfl, hl3, hh3, hm3, hR3, hg3⟩
  have hr3 := hR3.lt
  go_wp2_with (fail)
  refine (rd_num rb (0 + 1 + 1) _ _ [4, 8, 16, 9, 17] _ (by (repeat' (first | (with_reducible assumption) | (with_reducible refine Rd.alloc ?_ _) | (with_reducible refine Rd.drewN ?_ _) | (with_reducible refine Rd.drew ?_) | (with_reducible refine Rd.setCell ?_ (by first | omega | (simp; omega)) _)))) (by omega) rfl (by simp) (by decide) (by decide)).mono ?_
  rintro e w4 ⟨x4, rfl, hl4, hh4, hm4, hR4, hg4⟩
  have hr4 := hR4.lt
  go_wp2
  go_ret3
  exact ⟨x2, x3, x4, rfl, by (repeat' (first | with_reducible exact Below.refl _ _ | (with_reducible refine balloc ?_ _) | (with_reducible refine bset ?_ ?_ _) | (with_reducible refine bdrew ?_) | (with_reducible refine bdrewN ?_ _) | (with_reducible refine bstep ?_ (by with_reducible assumption)) | (with_reducible refine bgrow ?_ (by with_reducible assumption) (by omega)) | (simp; done) | (simp; omega)))⟩
theorem spec_DrawMoveAddress (ao : Option Addr) (len cap : Nat) (w : World) (h : CodeIn w ao len cap) : Calls Try.prog 25 #[.slice ao len cap] w (DrawAI w) := by
  have HC := Lib.hid h
  clear h
  go_enter Try.func25, Try.ntmps25
  go_wp2_with (fail)
  refine (spec_l1Case _ _ _ _ (by exact CodeIn.alloc HC.out _)).mono ?_
  rintro e w1 ⟨s, p, o, rfl, hb1⟩
  obtain ⟨hc1_0, hf1_0, hz1_0⟩ := bel_at hb1 (w.heap.size) (by simp)
  go_wp2_with (fail)
  refine (rd_open _ _ _ _ (by exact (CodeIn.below (CodeIn.alloc HC.out _) hb1))).mono ?_
  rintro e w2 ⟨rb, rfl, hrb, hR2, hb2⟩
  obtain ⟨hc2_0, hf2_0, hz2_0⟩ := bel_at hb2 (w.heap.size) (by first | omega | (simp; done) | (simp; omega))
  have hrb' : w.heap.size + 1 ≤ rb := by have := hb1.size; simp at this; omega
  go_wp2_with (fail)
  refine (rd_num rb (0) _ _ [1, -1, 64, 100, -200, 0, 16383, -16383, 16384, 5000] _ (by (repeat' (first | (with_reducible assumption) | (with_reducible refine Rd.alloc ?_ _) | (with_reducible refine Rd.drewN ?_ _) | (with_reducible refine Rd.drew ?_) | (with_reducible refine Rd.setCell ?_ (by first | omega | (simp; omega)) _)))) (by omega) rfl (by simp) (by decide) (by decide)).mono ?_
  rintro e w3 ⟨x3, rfl, hl3, hh3, hm3, hR3, hg3⟩
  have hr3 := hR3.lt
  obtain ⟨hc3_0, hf3_0, hz3_0⟩ := gb_at hg3 (w.heap.size) (by first | omega | (simp; done) | (simp; omega)) (by first | omega | (simp; done) | (simp; omega))
  go_wp2
  refine bodyPost_ret (v := .tuple #[.agg #[.int .i64 s, .int .i64 p, .int .i64 o], .int .i64 x3]) (by simp [results, Try.results25, go_sem, *]) rfl ?_
  exact ⟨s, p, o, x3, rfl, by (repeat' (first | with_reducible exact Below.refl _ _ | (with_reducible refine balloc ?_ _) | (with_reducible refine bset ?_ ?_ _) | (with_reducible refine bdrew ?_) | (with_reducible refine bdrewN ?_ _) | (with_reducible refine bstep ?_ (by with_reducible assumption)) | (with_reducible refine bgrow ?_ (by with_reducible assumption) (by omega)) | (simp; done) | (simp; omega)))⟩
theorem spec_DrawPagesOf (ao : Option Addr) (len cap : Nat) (w : World) (h : CodeIn w ao len cap) : Calls Try.prog 29 #[.slice ao len cap] w (DrawAI w) := by
  have HC := Lib.hid h
  clear h
  go_enter Try.func29, Try.ntmps29
  go_wp2_with (fail)
  refine (spec_l1Case _ _ _ _ (by exact CodeIn.alloc HC.out _)).mono ?_
  rintro e w1 ⟨s, p, o, rfl, hb1⟩
  obtain ⟨hc1_0, hf1_0, hz1_0⟩ := bel_at hb1 (w.heap.size) (by simp)
  go_wp2_with (fail)
  refine (rd_open _ _ _ _ (by exact (CodeIn.below (CodeIn.alloc HC.out _) hb1))).mono ?_
  rintro e w2 ⟨rb, rfl, hrb, hR2, hb2⟩
  obtain ⟨hc2_0, hf2_0, hz2_0⟩ := bel_at hb2 (w.heap.size) (by first | omega | (simp; done) | (simp; omega))
  have hrb' : w.heap.size + 1 ≤ rb := by have := hb1.size; simp at this; omega
  go_wp2_with (fail)
  refine (rd_num rb (0) _ _ [1, 64, 65, 100, 0, 1000, 16384, -1, 2] _ (by (repeat' (first | (with_reducible assumption) | (with_reducible refine Rd.alloc ?_ _) | (with_reducible refine Rd.drewN ?_ _) | (with_reducible refine Rd.drew ?_) | (with_reducible refine Rd.setCell ?_ (by first | omega | (simp; omega)) _)))) (by omega) rfl (by simp) (by decide) (by decide)).mono ?_
  rintro e w3 ⟨x3, rfl, hl3, hh3, hm3, hR3, hg3⟩
  have hr3 := hR3.lt
  obtain ⟨hc3_0, hf3_0, hz3_0⟩ := gb_at hg3 (w.heap.size) (by first | omega | (simp; done) | (simp; omega)) (by first | omega | (simp; done) | (simp; omega))
  go_wp2
  refine bodyPost_ret (v := .tuple #[.agg #[.int .i64 s, .int .i64 p, .int .i64 o], .int .i64 x3]) (by simp [results, Try.results29, go_sem, *]) rfl ?_
  exact ⟨s, p, o, x3, rfl, by (repeat' (first | with_reducible exact Below.refl _ _ | (with_reducible refine balloc ?_ _) | (with_reducible refine bset ?_ ?_ _) | (with_reducible refine bdrew ?_) | (with_reducible refine bdrewN ?_ _) | (with_reducible refine bstep ?_ (by with_reducible assumption)) | (with_reducible refine bgrow ?_ (by with_reducible assumption) (by omega)) | (simp; done) | (simp; omega)))⟩
end Go.Proofs.Ythehcknkehmkkaa
