/- The program's ParseAddress: at an address's text that address and true; at every other text the zero address and false. Asked: a text of at most 2 to the 20 bytes; the library's variables as they are laid. -/
import Derived.Test.YtaoggijepndnmaaDoorParS
import Derived.Lib.AtoiErrMem
import Derived.Handy
namespace Go.Proofs.YtaoggijepndnmaaDoor
set_option linter.unusedVariables false
open Go.ChangeShapes Go.WideShapes Go.ChangeAt Go.RowKit
/-- a cell of the library's holds an error -/
def ErrC (w : World) (g : Nat) : Prop := ∃ te pe, w.cell? ⟨g, 0, none⟩ = some (.iface te pe)
/-- what the walks ask of the library's variables -/
structure LibW (w : World) : Prop where
  tab : TabW w
  syn : ErrC w 1
  ran : ErrC w 2
  mx : ∃ m, w.cell? ⟨0, 0, none⟩ = some (.int .i64 m)
theorem LibW.below {w w' : World} (h : LibW w) (hb : Below w.heap.size w w') : LibW w' := by
  have k : ∀ (g : Nat) (v : Value), w.cell? ⟨g, 0, none⟩ = some v → w'.cell? ⟨g, 0, none⟩ = some v := fun g v e => by
    rw [(bel_at hb g (World.block_lt_of_cell? w _ e)).1]
    exact e
  obtain ⟨te, pe, e1⟩ := h.syn
  obtain ⟨tf, pf, e2⟩ := h.ran
  obtain ⟨m, e3⟩ := h.mx
  exact ⟨h.tab.below hb, ⟨te, pe, k _ _ e1⟩, ⟨tf, pf, k _ _ e2⟩, ⟨m, k _ _ e3⟩⟩
/-- what strings.Cut answers -/
def CutG (s sep x y : ByteArray) (ok : Bool) : Prop := x = ⟨(Lib.cut s.data.toList sep.data.toList).1.toArray⟩ ∧ y = ⟨(Lib.cut s.data.toList sep.data.toList).2.1.toArray⟩ ∧ ok = (Lib.cut s.data.toList sep.data.toList).2.2
theorem cutG_size {s sep x y : ByteArray} {ok : Bool} (h : CutG s sep x y ok) : x.size ≤ s.size ∧ y.size ≤ s.size := by
  obtain ⟨rfl, rfl, _⟩ := h
  rw [Lib.size_eq s]
  unfold Lib.cut
  split
  · simp only [ByteArray.size, List.size_toArray, List.length_take, List.length_drop]
    omega
  · simp only [ByteArray.size, List.size_toArray, List.length_nil]
    omega
theorem lib_Cut (s sep : ByteArray) (hs : s.size ≤ 1048576) (w : World) (h : LibW w) : Calls Tryd.prog 17 #[.string s, .string sep] w fun e w' => (∃ x y ok, e = .returned (.tuple #[.string x, .string y, .bool ok]) ∧ CutG s sep x y ok) ∧ Below w.heap.size w w' := by
  obtain ⟨m, hm⟩ := h.mx
  refine (Tryd.strings_Cut s sep m w (by omega) hm).mono ?_
  rintro e w' ⟨rfl, n, rfl⟩
  exact ⟨⟨_, _, _, rfl, rfl, rfl, rfl⟩, Joins.below_draws _ _ _⟩
/-- what Atoi answers: a number and no error, or a number and an error that is not nil -/
def AtoiP (s : ByteArray) (e : Ending) : Prop := (∃ n, e = .returned (.tuple #[.int .i64 n, .nilIface]) ∧ Lib.atoiAll s.data.toList = .ok n) ∨ ((∀ n, Lib.atoiAll s.data.toList ≠ .ok n) ∧ ∃ n te pe, e = .returned (.tuple #[.int .i64 n, .iface te pe]))
theorem lib_Atoi (s : ByteArray) (hs : s.size ≤ 1048576) (w : World) (h : LibW w) : Calls Tryd.prog 18 #[.string s] w fun e w' => AtoiP s e ∧ Below w.heap.size w w' := by
  rcases hz : Lib.atoiAll s.data.toList with n | _ | _
  · refine (Tryd.strconv_Atoi_ok s (by omega) n hz w).mono ?_
    rintro e w' ⟨rfl, h⟩
    refine ⟨Or.inl ⟨n, rfl, hz⟩, ?_⟩
    rcases h with rfl | ⟨t, rfl⟩
    · exact Below.refl _ _
    · exact Lib.bytesWorld_below _ _ _
  · obtain ⟨te, pe, hv⟩ := h.syn
    refine (Any.strconv_Atoi_syntax Tryd.laysC172 s (by omega) hz _ w hv (Or.inr ⟨te, pe, rfl⟩)).mono ?_
    rintro e w' ⟨N, rfl, _, _, hb⟩
    exact ⟨Or.inr ⟨fun n e => (by rw [hz] at e; cases e), _, _, _, rfl⟩, hb⟩
  · obtain ⟨te, pe, hv⟩ := h.ran
    refine (Tryd.strconv_Atoi_range s (by omega) hz _ w hv (Or.inr ⟨te, pe, rfl⟩)).mono ?_
    rintro e w' ⟨N, rfl, _, _, hb⟩
    exact ⟨Or.inr ⟨fun n e => (by rw [hz] at e; cases e), _, _, _, rfl⟩, hb⟩
set_option maxHeartbeats 1000000 in
theorem impl_Parse_no (s : ByteArray) (hs : s.size ≤ 1048576) (hn : NoAddr s) (w : World) (hl : LibW w) : Calls Tryd.prog 7 #[.string s] w fun e w' => e = .returned (.tuple #[.agg #[.int .i64 0, .int .i64 0, .int .i64 0], .bool false]) ∧ Below w.heap.size w w' := by
  have HN := Lib.hid hn
  have HL := Lib.hid hl
  clear hn hl
  go_enter Tryd.func7, Tryd.ntmps7
  go_wp2_with (fail)
  refine (lib_Cut s _ hs _ (HL.out.below (by (repeat' (first | with_reducible exact Below.refl _ _ | (with_reducible refine balloc ?_ _) | (with_reducible refine bset ?_ ?_ _) | (with_reducible refine bdrew ?_) | (with_reducible refine bdrewN ?_ _) | (with_reducible refine bstep ?_ (by with_reducible assumption)) | (with_reducible refine bgrow ?_ (by with_reducible assumption) (by omega)) | (simp; done) | (simp; omega)))))).mono ?_
  rintro e w1 ⟨⟨x, r, p, rfl, hc1⟩, hb1⟩
  obtain ⟨hk1, hf1, hz1⟩ := bel_at hb1 (w.heap.size) (by simp)
  obtain ⟨hxs, hrs⟩ : x.size ≤ 1048576 ∧ r.size ≤ 1048576 := ⟨Nat.le_trans (cutG_size hc1).1 hs, Nat.le_trans (cutG_size hc1).2 hs⟩
  clear hc1
  go_wp2_with (fail)
  refine (lib_Cut r _ hrs _ (HL.out.below (by (repeat' (first | with_reducible exact Below.refl _ _ | (with_reducible refine balloc ?_ _) | (with_reducible refine bset ?_ ?_ _) | (with_reducible refine bdrew ?_) | (with_reducible refine bdrewN ?_ _) | (with_reducible refine bstep ?_ (by with_reducible assumption)) | (with_reducible refine bgrow ?_ (by with_reducible assumption) (by omega)) | (simp; done) | (simp; omega)))))).mono ?_
  rintro e w2 ⟨⟨y, z, q, rfl, hc2⟩, hb2⟩
  obtain ⟨hk2, hf2, hz2⟩ := bel_at hb2 (w.heap.size) (by first | omega | (simp; done) | (simp; omega))
  obtain ⟨hys, hzs⟩ : y.size ≤ 1048576 ∧ z.size ≤ 1048576 := ⟨Nat.le_trans (cutG_size hc2).1 hrs, Nat.le_trans (cutG_size hc2).2 hrs⟩
  have HS := Lib.hid (And.intro hxs (And.intro hys hzs))
  clear hc2 hxs hrs hys hzs
  have hB2 : Below w.heap.size w w2 := by (repeat' (first | with_reducible exact Below.refl _ _ | (with_reducible refine balloc ?_ _) | (with_reducible refine bset ?_ ?_ _) | (with_reducible refine bdrew ?_) | (with_reducible refine bdrewN ?_ _) | (with_reducible refine bstep ?_ (by with_reducible assumption)) | (with_reducible refine bgrow ?_ (by with_reducible assumption) (by omega)) | (simp; done) | (simp; omega)))
  have z20 : w2.cell? ⟨w.heap.size, 0, none⟩ = some (.int .i64 0) := by rw [hk2, hk1, World.cell?_alloc_new]; rfl
  have z21 : w2.cell? ⟨w.heap.size, 1, none⟩ = some (.int .i64 0) := by rw [hk2, hk1, World.cell?_alloc_new]; rfl
  have z22 : w2.cell? ⟨w.heap.size, 2, none⟩ = some (.int .i64 0) := by rw [hk2, hk1, World.cell?_alloc_new]; rfl
  clear hk2 hk1
  have hpq : (p = false ∧ q = false ∨ p = false ∧ q = true ∨ p = true ∧ q = false) ∨ p = true ∧ q = true := by cases p <;> cases q <;> simp
  rcases hpq with hpq | ⟨rfl, rfl⟩
  · rcases hpq with ⟨rfl, rfl⟩ | ⟨rfl, rfl⟩ | ⟨rfl, rfl⟩
    all_goals go_wp2
    all_goals (refine bodyPost_ret (v := .tuple #[.agg #[.int .i64 0, .int .i64 0, .int .i64 0], .bool false]) (by simp [results, Tryd.results7, go_sem, *]) rfl ?_)
    all_goals exact ⟨rfl, by (repeat' (first | with_reducible exact Below.refl _ _ | (with_reducible refine balloc ?_ _) | (with_reducible refine bset ?_ ?_ _) | (with_reducible refine bdrew ?_) | (with_reducible refine bdrewN ?_ _) | (with_reducible refine bstep ?_ (by with_reducible assumption)) | (with_reducible refine bgrow ?_ (by with_reducible assumption) (by omega)) | (simp; done) | (simp; omega)))⟩
  go_wp2_with (fail)
  refine wp_loop_rounds 4 ?_
  rw [rounds_succ]
  go_wp2_with (fail)
  refine (lib_Atoi _ HS.out.1 _ (HL.out.below (by (repeat' (first | with_reducible exact Below.refl _ _ | (with_reducible refine balloc ?_ _) | (with_reducible refine bset ?_ ?_ _) | (with_reducible refine bdrew ?_) | (with_reducible refine bdrewN ?_ _) | (with_reducible refine bstep ?_ (by with_reducible assumption)) | (with_reducible refine bgrow ?_ (by with_reducible assumption) (by omega)) | (simp; done) | (simp; omega)))))).mono ?_
  rintro e w3 ⟨ha, hb3⟩
  obtain ⟨hkp, hfp3, hzp3⟩ := bel_at hb3 w.heap.size (by first | omega | (simp; done) | (simp; omega))
  obtain ⟨hkq, hfq3, hzq3⟩ := bel_at hb3 w2.heap.size (by first | omega | (simp; done) | (simp; omega))
  obtain ⟨hkr, hfr3, hzr3⟩ := bel_at hb3 (w2.heap.size + 1) (by first | omega | (simp; done) | (simp; omega))
  have z30 : w3.cell? ⟨w.heap.size, 0, none⟩ = some (.int .i64 0) := by rw [hkp]; simp [*, go_sem]
  have z31 : w3.cell? ⟨w.heap.size, 1, none⟩ = some (.int .i64 0) := by rw [hkp]; simp [*, go_sem]
  have z32 : w3.cell? ⟨w.heap.size, 2, none⟩ = some (.int .i64 0) := by rw [hkp]; simp [*, go_sem]
  have a30 : w3.cell? ⟨w2.heap.size, 0, none⟩ = some (.int .i64 0) := by rw [hkq]; simp [*, go_sem]
  have a31 : w3.cell? ⟨w2.heap.size, 1, none⟩ = some (.int .i64 0) := by rw [hkq]; simp [*, go_sem]
  have a32 : w3.cell? ⟨w2.heap.size, 2, none⟩ = some (.int .i64 0) := by rw [hkq]; simp [*, go_sem]
  have s30 : w3.cell? ⟨(w2.heap.size + 1), 0, none⟩ = some (.string x) := by rw [hkr]; simp [*, go_sem]
  have s31 : w3.cell? ⟨(w2.heap.size + 1), 1, none⟩ = some (.string y) := by rw [hkr]; simp [*, go_sem]
  have s32 : w3.cell? ⟨(w2.heap.size + 1), 2, none⟩ = some (.string z) := by rw [hkr]; simp [*, go_sem]
  have hB3 : Below w.heap.size w w3 := by (repeat' (first | with_reducible exact Below.refl _ _ | (with_reducible refine balloc ?_ _) | (with_reducible refine bset ?_ ?_ _) | (with_reducible refine bdrew ?_) | (with_reducible refine bdrewN ?_ _) | (with_reducible refine bstep ?_ (by with_reducible assumption)) | (with_reducible refine bgrow ?_ (by with_reducible assumption) (by omega)) | (simp; done) | (simp; omega)))
  clear hkp hkq hkr z20 z21 z22
  rcases ha with ⟨n1, rfl, -⟩ | ⟨-, n1, te, pe, rfl⟩
  rotate_left
  · go_wp2
    all_goals (refine bodyPost_ret (v := .tuple #[.agg #[.int .i64 0, .int .i64 0, .int .i64 0], .bool false]) (by simp [results, Tryd.results7, go_sem, *]) rfl ?_)
    all_goals exact ⟨rfl, by (repeat' (first | with_reducible exact Below.refl _ _ | (with_reducible refine balloc ?_ _) | (with_reducible refine bset ?_ ?_ _) | (with_reducible refine bdrew ?_) | (with_reducible refine bdrewN ?_ _) | (with_reducible refine bstep ?_ (by with_reducible assumption)) | (with_reducible refine bgrow ?_ (by with_reducible assumption) (by omega)) | (simp; done) | (simp; omega)))⟩
  go_wp2
  rw [rounds_succ]
  go_wp2_with (fail)
  refine (lib_Atoi _ HS.out.2.1 _ (HL.out.below (by (repeat' (first | with_reducible exact Below.refl _ _ | (with_reducible refine balloc ?_ _) | (with_reducible refine bset ?_ ?_ _) | (with_reducible refine bdrew ?_) | (with_reducible refine bdrewN ?_ _) | (with_reducible refine bstep ?_ (by with_reducible assumption)) | (with_reducible refine bgrow ?_ (by with_reducible assumption) (by omega)) | (simp; done) | (simp; omega)))))).mono ?_
  rintro e w4 ⟨ha, hb4⟩
  obtain ⟨hkp, hfp4, hzp4⟩ := bel_at hb4 w.heap.size (by first | omega | (simp; done) | (simp; omega))
  obtain ⟨hkq, hfq4, hzq4⟩ := bel_at hb4 w2.heap.size (by first | omega | (simp; done) | (simp; omega))
  obtain ⟨hkr, hfr4, hzr4⟩ := bel_at hb4 (w2.heap.size + 1) (by first | omega | (simp; done) | (simp; omega))
  have z40 : w4.cell? ⟨w.heap.size, 0, none⟩ = some (.int .i64 0) := by rw [hkp]; simp [*, go_sem]
  have z41 : w4.cell? ⟨w.heap.size, 1, none⟩ = some (.int .i64 0) := by rw [hkp]; simp [*, go_sem]
  have z42 : w4.cell? ⟨w.heap.size, 2, none⟩ = some (.int .i64 0) := by rw [hkp]; simp [*, go_sem]
  have a40 : w4.cell? ⟨w2.heap.size, 0, none⟩ = some (.int .i64 n1) := by rw [hkq]; simp [*, go_sem]
  have a41 : w4.cell? ⟨w2.heap.size, 1, none⟩ = some (.int .i64 0) := by rw [hkq]; simp [*, go_sem]
  have a42 : w4.cell? ⟨w2.heap.size, 2, none⟩ = some (.int .i64 0) := by rw [hkq]; simp [*, go_sem]
  have s40 : w4.cell? ⟨(w2.heap.size + 1), 0, none⟩ = some (.string x) := by rw [hkr]; simp [*, go_sem]
  have s41 : w4.cell? ⟨(w2.heap.size + 1), 1, none⟩ = some (.string y) := by rw [hkr]; simp [*, go_sem]
  have s42 : w4.cell? ⟨(w2.heap.size + 1), 2, none⟩ = some (.string z) := by rw [hkr]; simp [*, go_sem]
  have hB4 : Below w.heap.size w w4 := by (repeat' (first | with_reducible exact Below.refl _ _ | (with_reducible refine balloc ?_ _) | (with_reducible refine bset ?_ ?_ _) | (with_reducible refine bdrew ?_) | (with_reducible refine bdrewN ?_ _) | (with_reducible refine bstep ?_ (by with_reducible assumption)) | (with_reducible refine bgrow ?_ (by with_reducible assumption) (by omega)) | (simp; done) | (simp; omega)))
  clear hkp hkq hkr z30 z31 z32 a30 a31 a32 s30 s31 s32
  rcases ha with ⟨n2, rfl, -⟩ | ⟨-, n2, te, pe, rfl⟩
  rotate_left
  · go_wp2
    all_goals (refine bodyPost_ret (v := .tuple #[.agg #[.int .i64 0, .int .i64 0, .int .i64 0], .bool false]) (by simp [results, Tryd.results7, go_sem, *]) rfl ?_)
    all_goals exact ⟨rfl, by (repeat' (first | with_reducible exact Below.refl _ _ | (with_reducible refine balloc ?_ _) | (with_reducible refine bset ?_ ?_ _) | (with_reducible refine bdrew ?_) | (with_reducible refine bdrewN ?_ _) | (with_reducible refine bstep ?_ (by with_reducible assumption)) | (with_reducible refine bgrow ?_ (by with_reducible assumption) (by omega)) | (simp; done) | (simp; omega)))⟩
  go_wp2
  rw [rounds_succ]
  go_wp2_with (fail)
  refine (lib_Atoi _ HS.out.2.2 _ (HL.out.below (by (repeat' (first | with_reducible exact Below.refl _ _ | (with_reducible refine balloc ?_ _) | (with_reducible refine bset ?_ ?_ _) | (with_reducible refine bdrew ?_) | (with_reducible refine bdrewN ?_ _) | (with_reducible refine bstep ?_ (by with_reducible assumption)) | (with_reducible refine bgrow ?_ (by with_reducible assumption) (by omega)) | (simp; done) | (simp; omega)))))).mono ?_
  rintro e w5 ⟨ha, hb5⟩
  obtain ⟨hkp, hfp5, hzp5⟩ := bel_at hb5 w.heap.size (by first | omega | (simp; done) | (simp; omega))
  obtain ⟨hkq, hfq5, hzq5⟩ := bel_at hb5 w2.heap.size (by first | omega | (simp; done) | (simp; omega))
  obtain ⟨hkr, hfr5, hzr5⟩ := bel_at hb5 (w2.heap.size + 1) (by first | omega | (simp; done) | (simp; omega))
  have z50 : w5.cell? ⟨w.heap.size, 0, none⟩ = some (.int .i64 0) := by rw [hkp]; simp [*, go_sem]
  have z51 : w5.cell? ⟨w.heap.size, 1, none⟩ = some (.int .i64 0) := by rw [hkp]; simp [*, go_sem]
  have z52 : w5.cell? ⟨w.heap.size, 2, none⟩ = some (.int .i64 0) := by rw [hkp]; simp [*, go_sem]
  have a50 : w5.cell? ⟨w2.heap.size, 0, none⟩ = some (.int .i64 n1) := by rw [hkq]; simp [*, go_sem]
  have a51 : w5.cell? ⟨w2.heap.size, 1, none⟩ = some (.int .i64 n2) := by rw [hkq]; simp [*, go_sem]
  have a52 : w5.cell? ⟨w2.heap.size, 2, none⟩ = some (.int .i64 0) := by rw [hkq]; simp [*, go_sem]
  have s50 : w5.cell? ⟨(w2.heap.size + 1), 0, none⟩ = some (.string x) := by rw [hkr]; simp [*, go_sem]
  have s51 : w5.cell? ⟨(w2.heap.size + 1), 1, none⟩ = some (.string y) := by rw [hkr]; simp [*, go_sem]
  have s52 : w5.cell? ⟨(w2.heap.size + 1), 2, none⟩ = some (.string z) := by rw [hkr]; simp [*, go_sem]
  have hB5 : Below w.heap.size w w5 := by (repeat' (first | with_reducible exact Below.refl _ _ | (with_reducible refine balloc ?_ _) | (with_reducible refine bset ?_ ?_ _) | (with_reducible refine bdrew ?_) | (with_reducible refine bdrewN ?_ _) | (with_reducible refine bstep ?_ (by with_reducible assumption)) | (with_reducible refine bgrow ?_ (by with_reducible assumption) (by omega)) | (simp; done) | (simp; omega)))
  clear hkp hkq hkr z40 z41 z42 a40 a41 a42 s40 s41 s42
  rcases ha with ⟨n3, rfl, -⟩ | ⟨-, n3, te, pe, rfl⟩
  rotate_left
  · go_wp2
    all_goals (refine bodyPost_ret (v := .tuple #[.agg #[.int .i64 0, .int .i64 0, .int .i64 0], .bool false]) (by simp [results, Tryd.results7, go_sem, *]) rfl ?_)
    all_goals exact ⟨rfl, by (repeat' (first | with_reducible exact Below.refl _ _ | (with_reducible refine balloc ?_ _) | (with_reducible refine bset ?_ ?_ _) | (with_reducible refine bdrew ?_) | (with_reducible refine bdrewN ?_ _) | (with_reducible refine bstep ?_ (by with_reducible assumption)) | (with_reducible refine bgrow ?_ (by with_reducible assumption) (by omega)) | (simp; done) | (simp; omega)))⟩
  go_wp2
  rw [rounds_succ]
  by_cases hv : avB n1 n2 n3 = true
  · have hX := HN.out n1 n2 n3 hv
    have IF := Lib.hid (fun (w : World) (h : TabW w) => impl_FormatAddress n1 n2 n3 w h)
    generalize fmtS n1 n2 n3 = X at *
    have hX1 : (X.toList == s.toList) = false := toList_ne hX
    clear hX
    go_wp2_with (go_at_call 10; refine (impl_AddressValid _ _ _ _).mono ?_; rintro e w' ⟨rfl, rfl⟩)
    refine (IF.out _ ((HL.out.below (by (repeat' (first | with_reducible exact Below.refl _ _ | (with_reducible refine balloc ?_ _) | (with_reducible refine bset ?_ ?_ _) | (with_reducible refine bdrew ?_) | (with_reducible refine bdrewN ?_ _) | (with_reducible refine bstep ?_ (by with_reducible assumption)) | (with_reducible refine bgrow ?_ (by with_reducible assumption) (by omega)) | (simp; done) | (simp; omega))))).tab)).mono ?_
    rintro e w6 ⟨rfl, hb6⟩
    obtain ⟨hkp, hfp6, hzp6⟩ := bel_at hb6 w.heap.size (by first | omega | (simp; done) | (simp; omega))
    obtain ⟨hkq, hfq6, hzq6⟩ := bel_at hb6 w2.heap.size (by first | omega | (simp; done) | (simp; omega))
    have z60 : w6.cell? ⟨w.heap.size, 0, none⟩ = some (.int .i64 0) := by rw [hkp]; simp [*, go_sem]
    have z61 : w6.cell? ⟨w.heap.size, 1, none⟩ = some (.int .i64 0) := by rw [hkp]; simp [*, go_sem]
    have z62 : w6.cell? ⟨w.heap.size, 2, none⟩ = some (.int .i64 0) := by rw [hkp]; simp [*, go_sem]
    have a60 : w6.cell? ⟨w2.heap.size, 0, none⟩ = some (.int .i64 n1) := by rw [hkq]; simp [*, go_sem]
    have a61 : w6.cell? ⟨w2.heap.size, 1, none⟩ = some (.int .i64 n2) := by rw [hkq]; simp [*, go_sem]
    have a62 : w6.cell? ⟨w2.heap.size, 2, none⟩ = some (.int .i64 n3) := by rw [hkq]; simp [*, go_sem]
    clear hkp hkq z50 z51 z52 a50 a51 a52 s50 s51 s52
    go_wp2
    all_goals (refine bodyPost_ret (v := .tuple #[.agg #[.int .i64 0, .int .i64 0, .int .i64 0], .bool false]) (by simp [results, Tryd.results7, go_sem, *]) rfl ?_)
    all_goals exact ⟨rfl, by (repeat' (first | with_reducible exact Below.refl _ _ | (with_reducible refine balloc ?_ _) | (with_reducible refine bset ?_ ?_ _) | (with_reducible refine bdrew ?_) | (with_reducible refine bdrewN ?_ _) | (with_reducible refine bstep ?_ (by with_reducible assumption)) | (with_reducible refine bgrow ?_ (by with_reducible assumption) (by omega)) | (simp; done) | (simp; omega)))⟩
  · have hv' : avB n1 n2 n3 = false := by simpa using hv
    clear hv
    go_wp2_with (go_at_call 10; refine (impl_AddressValid _ _ _ _).mono ?_; rintro e w' ⟨rfl, rfl⟩)
    all_goals (refine bodyPost_ret (v := .tuple #[.agg #[.int .i64 0, .int .i64 0, .int .i64 0], .bool false]) (by simp [results, Tryd.results7, go_sem, *]) rfl ?_)
    all_goals exact ⟨rfl, by (repeat' (first | with_reducible exact Below.refl _ _ | (with_reducible refine balloc ?_ _) | (with_reducible refine bset ?_ ?_ _) | (with_reducible refine bdrew ?_) | (with_reducible refine bdrewN ?_ _) | (with_reducible refine bstep ?_ (by with_reducible assumption)) | (with_reducible refine bgrow ?_ (by with_reducible assumption) (by omega)) | (simp; done) | (simp; omega)))⟩
set_option maxHeartbeats 1000000 in
theorem impl_Parse_yes (a b c : Nat) (hv : avB (a : Int) (b : Int) (c : Int) = true) (w : World) (hl : LibW w) : Calls Tryd.prog 7 #[.string (fmtA a b c)] w fun e w' => e = .returned (.tuple #[.agg #[.int .i64 (a : Int), .int .i64 (b : Int), .int .i64 (c : Int)], .bool true]) ∧ Below w.heap.size w w' := by
  have hr := avB_iff.1 hv
  have ha : a < 1000 := by omega
  have hb : b < 1000 := by omega
  have hc : c < 1000 := by omega
  obtain ⟨la, lb, lc⟩ : (Lib.decDigits a).length ≤ 3 ∧ (Lib.decDigits b).length ≤ 3 ∧ (Lib.decDigits c).length ≤ 3 := ⟨(decS_facts ha).2.2.2.2, (decS_facts hb).2.2.2.2, (decS_facts hc).2.2.2.2⟩
  have hs : (fmtA a b c).size ≤ 1048576 := by rw [fmtA_eq]; simp [ByteArray.size, fmtL]; omega
  have hA : ∀ x r p, CutG (fmtA a b c) ⟨#[58]⟩ x r p → x = decS a ∧ r = ⟨(Lib.decDigits b ++ 43 :: Lib.decDigits c).toArray⟩ ∧ p = true := fun x r p h => by
    rw [fmtA_eq] at h
    have e : Lib.cut (ByteArray.mk (fmtL a b c).toArray).data.toList (ByteArray.mk #[58]).data.toList = _ := cut_eq _ _ 58 (no58 ha)
    unfold CutG at h
    rw [e] at h
    exact h
  have hB : ∀ x r p, CutG ⟨(Lib.decDigits b ++ 43 :: Lib.decDigits c).toArray⟩ ⟨#[43]⟩ x r p → x = decS b ∧ r = decS c ∧ p = true := fun x r p h => by
    have e : Lib.cut (ByteArray.mk (Lib.decDigits b ++ 43 :: Lib.decDigits c).toArray).data.toList (ByteArray.mk #[43]).data.toList = _ := cut_eq _ _ 43 (no43 hb)
    unfold CutG at h
    rw [e] at h
    exact h
  have hrs : (ByteArray.mk (Lib.decDigits b ++ 43 :: Lib.decDigits c).toArray).size ≤ 1048576 := by simp [ByteArray.size]; omega
  have hN : ∀ k : Nat, k < 1000 → (decS k).size ≤ 1048576 ∧ ∀ e, AtoiP (decS k) e → e = .returned (.tuple #[.int .i64 (k : Int), .nilIface]) := fun k hk => by
    obtain ⟨d1, _, d3, _⟩ := decS_facts hk
    refine ⟨Nat.le_trans d1.2.1 (by decide), fun e he => ?_⟩
    rcases he with ⟨n, rfl, h⟩ | ⟨h, _⟩
    · rw [d3] at h
      injection h with h
      rw [h]
    · exact absurd d3 (h _)
  have fe : fmtS (a : Int) (b : Int) (c : Int) = fmtA a b c := by unfold fmtS; rw [if_pos hv]; rfl
  have IF := Lib.hid (fun (w : World) (h : TabW w) => fe ▸ impl_FormatAddress (a : Int) (b : Int) (c : Int) w h)
  have HA := Lib.hid hA
  have HB := Lib.hid hB
  have HNa := Lib.hid (hN a ha)
  have HNb := Lib.hid (hN b hb)
  have HNc := Lib.hid (hN c hc)
  have HR := Lib.hid hrs
  have HL := Lib.hid hl
  clear hA hB hrs hN fe la lb lc hr ha hb hc hl
  generalize fmtA a b c = s at *
  generalize (ByteArray.mk (Lib.decDigits b ++ 43 :: Lib.decDigits c).toArray) = r0 at *
  have hX1 := toList_self s
  go_enter Tryd.func7, Tryd.ntmps7
  go_wp2_with (fail)
  refine (lib_Cut s _ hs _ (HL.out.below (by (repeat' (first | with_reducible exact Below.refl _ _ | (with_reducible refine balloc ?_ _) | (with_reducible refine bset ?_ ?_ _) | (with_reducible refine bdrew ?_) | (with_reducible refine bdrewN ?_ _) | (with_reducible refine bstep ?_ (by with_reducible assumption)) | (with_reducible refine bgrow ?_ (by with_reducible assumption) (by omega)) | (simp; done) | (simp; omega)))))).mono ?_
  rintro e w1 ⟨⟨x, r, p, rfl, hc1⟩, hb1⟩
  obtain ⟨rfl, rfl, rfl⟩ := HA.out _ _ _ hc1
  clear hc1
  obtain ⟨hk1, hf1, hz1⟩ := bel_at hb1 (w.heap.size) (by simp)
  go_wp2_with (fail)
  refine (lib_Cut _ _ HR.out _ (HL.out.below (by (repeat' (first | with_reducible exact Below.refl _ _ | (with_reducible refine balloc ?_ _) | (with_reducible refine bset ?_ ?_ _) | (with_reducible refine bdrew ?_) | (with_reducible refine bdrewN ?_ _) | (with_reducible refine bstep ?_ (by with_reducible assumption)) | (with_reducible refine bgrow ?_ (by with_reducible assumption) (by omega)) | (simp; done) | (simp; omega)))))).mono ?_
  rintro e w2 ⟨⟨y, z, q, rfl, hc2⟩, hb2⟩
  obtain ⟨rfl, rfl, rfl⟩ := HB.out _ _ _ hc2
  clear hc2
  obtain ⟨hk2, hf2, hz2⟩ := bel_at hb2 (w.heap.size) (by first | omega | (simp; done) | (simp; omega))
  have hB2 : Below w.heap.size w w2 := by (repeat' (first | with_reducible exact Below.refl _ _ | (with_reducible refine balloc ?_ _) | (with_reducible refine bset ?_ ?_ _) | (with_reducible refine bdrew ?_) | (with_reducible refine bdrewN ?_ _) | (with_reducible refine bstep ?_ (by with_reducible assumption)) | (with_reducible refine bgrow ?_ (by with_reducible assumption) (by omega)) | (simp; done) | (simp; omega)))
  have z20 : w2.cell? ⟨w.heap.size, 0, none⟩ = some (.int .i64 0) := by rw [hk2, hk1, World.cell?_alloc_new]; rfl
  have z21 : w2.cell? ⟨w.heap.size, 1, none⟩ = some (.int .i64 0) := by rw [hk2, hk1, World.cell?_alloc_new]; rfl
  have z22 : w2.cell? ⟨w.heap.size, 2, none⟩ = some (.int .i64 0) := by rw [hk2, hk1, World.cell?_alloc_new]; rfl
  clear hk2 hk1
  go_wp2_with (fail)
  refine wp_loop_rounds 4 ?_
  rw [rounds_succ]
  go_wp2_with (fail)
  refine (lib_Atoi _ HNa.out.1 _ (HL.out.below (by (repeat' (first | with_reducible exact Below.refl _ _ | (with_reducible refine balloc ?_ _) | (with_reducible refine bset ?_ ?_ _) | (with_reducible refine bdrew ?_) | (with_reducible refine bdrewN ?_ _) | (with_reducible refine bstep ?_ (by with_reducible assumption)) | (with_reducible refine bgrow ?_ (by with_reducible assumption) (by omega)) | (simp; done) | (simp; omega)))))).mono ?_
  rintro e w3 ⟨ha, hb3⟩
  obtain rfl := HNa.out.2 _ ha
  clear ha
  obtain ⟨hkp, hfp3, hzp3⟩ := bel_at hb3 w.heap.size (by first | omega | (simp; done) | (simp; omega))
  obtain ⟨hkq, hfq3, hzq3⟩ := bel_at hb3 w2.heap.size (by first | omega | (simp; done) | (simp; omega))
  obtain ⟨hkr, hfr3, hzr3⟩ := bel_at hb3 (w2.heap.size + 1) (by first | omega | (simp; done) | (simp; omega))
  have z30 : w3.cell? ⟨w.heap.size, 0, none⟩ = some (.int .i64 0) := by rw [hkp]; simp [*, go_sem]
  have z31 : w3.cell? ⟨w.heap.size, 1, none⟩ = some (.int .i64 0) := by rw [hkp]; simp [*, go_sem]
  have z32 : w3.cell? ⟨w.heap.size, 2, none⟩ = some (.int .i64 0) := by rw [hkp]; simp [*, go_sem]
  have a30 : w3.cell? ⟨w2.heap.size, 0, none⟩ = some (.int .i64 0) := by rw [hkq]; simp [*, go_sem]
  have a31 : w3.cell? ⟨w2.heap.size, 1, none⟩ = some (.int .i64 0) := by rw [hkq]; simp [*, go_sem]
  have a32 : w3.cell? ⟨w2.heap.size, 2, none⟩ = some (.int .i64 0) := by rw [hkq]; simp [*, go_sem]
  have s30 : w3.cell? ⟨(w2.heap.size + 1), 0, none⟩ = some (.string (decS a)) := by rw [hkr]; simp [*, go_sem]
  have s31 : w3.cell? ⟨(w2.heap.size + 1), 1, none⟩ = some (.string (decS b)) := by rw [hkr]; simp [*, go_sem]
  have s32 : w3.cell? ⟨(w2.heap.size + 1), 2, none⟩ = some (.string (decS c)) := by rw [hkr]; simp [*, go_sem]
  have hB3 : Below w.heap.size w w3 := by (repeat' (first | with_reducible exact Below.refl _ _ | (with_reducible refine balloc ?_ _) | (with_reducible refine bset ?_ ?_ _) | (with_reducible refine bdrew ?_) | (with_reducible refine bdrewN ?_ _) | (with_reducible refine bstep ?_ (by with_reducible assumption)) | (with_reducible refine bgrow ?_ (by with_reducible assumption) (by omega)) | (simp; done) | (simp; omega)))
  clear hkp hkq hkr z20 z21 z22
  go_wp2
  rw [rounds_succ]
  go_wp2_with (fail)
  refine (lib_Atoi _ HNb.out.1 _ (HL.out.below (by (repeat' (first | with_reducible exact Below.refl _ _ | (with_reducible refine balloc ?_ _) | (with_reducible refine bset ?_ ?_ _) | (with_reducible refine bdrew ?_) | (with_reducible refine bdrewN ?_ _) | (with_reducible refine bstep ?_ (by with_reducible assumption)) | (with_reducible refine bgrow ?_ (by with_reducible assumption) (by omega)) | (simp; done) | (simp; omega)))))).mono ?_
  rintro e w4 ⟨ha, hb4⟩
  obtain rfl := HNb.out.2 _ ha
  clear ha
  obtain ⟨hkp, hfp4, hzp4⟩ := bel_at hb4 w.heap.size (by first | omega | (simp; done) | (simp; omega))
  obtain ⟨hkq, hfq4, hzq4⟩ := bel_at hb4 w2.heap.size (by first | omega | (simp; done) | (simp; omega))
  obtain ⟨hkr, hfr4, hzr4⟩ := bel_at hb4 (w2.heap.size + 1) (by first | omega | (simp; done) | (simp; omega))
  have z40 : w4.cell? ⟨w.heap.size, 0, none⟩ = some (.int .i64 0) := by rw [hkp]; simp [*, go_sem]
  have z41 : w4.cell? ⟨w.heap.size, 1, none⟩ = some (.int .i64 0) := by rw [hkp]; simp [*, go_sem]
  have z42 : w4.cell? ⟨w.heap.size, 2, none⟩ = some (.int .i64 0) := by rw [hkp]; simp [*, go_sem]
  have a40 : w4.cell? ⟨w2.heap.size, 0, none⟩ = some (.int .i64 (a : Int)) := by rw [hkq]; simp [*, go_sem]
  have a41 : w4.cell? ⟨w2.heap.size, 1, none⟩ = some (.int .i64 0) := by rw [hkq]; simp [*, go_sem]
  have a42 : w4.cell? ⟨w2.heap.size, 2, none⟩ = some (.int .i64 0) := by rw [hkq]; simp [*, go_sem]
  have s40 : w4.cell? ⟨(w2.heap.size + 1), 0, none⟩ = some (.string (decS a)) := by rw [hkr]; simp [*, go_sem]
  have s41 : w4.cell? ⟨(w2.heap.size + 1), 1, none⟩ = some (.string (decS b)) := by rw [hkr]; simp [*, go_sem]
  have s42 : w4.cell? ⟨(w2.heap.size + 1), 2, none⟩ = some (.string (decS c)) := by rw [hkr]; simp [*, go_sem]
  have hB4 : Below w.heap.size w w4 := by (repeat' (first | with_reducible exact Below.refl _ _ | (with_reducible refine balloc ?_ _) | (with_reducible refine bset ?_ ?_ _) | (with_reducible refine bdrew ?_) | (with_reducible refine bdrewN ?_ _) | (with_reducible refine bstep ?_ (by with_reducible assumption)) | (with_reducible refine bgrow ?_ (by with_reducible assumption) (by omega)) | (simp; done) | (simp; omega)))
  clear hkp hkq hkr z30 z31 z32 a30 a31 a32 s30 s31 s32
  go_wp2
  rw [rounds_succ]
  go_wp2_with (fail)
  refine (lib_Atoi _ HNc.out.1 _ (HL.out.below (by (repeat' (first | with_reducible exact Below.refl _ _ | (with_reducible refine balloc ?_ _) | (with_reducible refine bset ?_ ?_ _) | (with_reducible refine bdrew ?_) | (with_reducible refine bdrewN ?_ _) | (with_reducible refine bstep ?_ (by with_reducible assumption)) | (with_reducible refine bgrow ?_ (by with_reducible assumption) (by omega)) | (simp; done) | (simp; omega)))))).mono ?_
  rintro e w5 ⟨ha, hb5⟩
  obtain rfl := HNc.out.2 _ ha
  clear ha
  obtain ⟨hkp, hfp5, hzp5⟩ := bel_at hb5 w.heap.size (by first | omega | (simp; done) | (simp; omega))
  obtain ⟨hkq, hfq5, hzq5⟩ := bel_at hb5 w2.heap.size (by first | omega | (simp; done) | (simp; omega))
  obtain ⟨hkr, hfr5, hzr5⟩ := bel_at hb5 (w2.heap.size + 1) (by first | omega | (simp; done) | (simp; omega))
  have z50 : w5.cell? ⟨w.heap.size, 0, none⟩ = some (.int .i64 0) := by rw [hkp]; simp [*, go_sem]
  have z51 : w5.cell? ⟨w.heap.size, 1, none⟩ = some (.int .i64 0) := by rw [hkp]; simp [*, go_sem]
  have z52 : w5.cell? ⟨w.heap.size, 2, none⟩ = some (.int .i64 0) := by rw [hkp]; simp [*, go_sem]
  have a50 : w5.cell? ⟨w2.heap.size, 0, none⟩ = some (.int .i64 (a : Int)) := by rw [hkq]; simp [*, go_sem]
  have a51 : w5.cell? ⟨w2.heap.size, 1, none⟩ = some (.int .i64 (b : Int)) := by rw [hkq]; simp [*, go_sem]
  have a52 : w5.cell? ⟨w2.heap.size, 2, none⟩ = some (.int .i64 0) := by rw [hkq]; simp [*, go_sem]
  have s50 : w5.cell? ⟨(w2.heap.size + 1), 0, none⟩ = some (.string (decS a)) := by rw [hkr]; simp [*, go_sem]
  have s51 : w5.cell? ⟨(w2.heap.size + 1), 1, none⟩ = some (.string (decS b)) := by rw [hkr]; simp [*, go_sem]
  have s52 : w5.cell? ⟨(w2.heap.size + 1), 2, none⟩ = some (.string (decS c)) := by rw [hkr]; simp [*, go_sem]
  have hB5 : Below w.heap.size w w5 := by (repeat' (first | with_reducible exact Below.refl _ _ | (with_reducible refine balloc ?_ _) | (with_reducible refine bset ?_ ?_ _) | (with_reducible refine bdrew ?_) | (with_reducible refine bdrewN ?_ _) | (with_reducible refine bstep ?_ (by with_reducible assumption)) | (with_reducible refine bgrow ?_ (by with_reducible assumption) (by omega)) | (simp; done) | (simp; omega)))
  clear hkp hkq hkr z40 z41 z42 a40 a41 a42 s40 s41 s42
  go_wp2
  rw [rounds_succ]
  go_wp2_with (go_at_call 10; refine (impl_AddressValid _ _ _ _).mono ?_; rintro e w' ⟨rfl, rfl⟩)
  refine (IF.out _ ((HL.out.below (by (repeat' (first | with_reducible exact Below.refl _ _ | (with_reducible refine balloc ?_ _) | (with_reducible refine bset ?_ ?_ _) | (with_reducible refine bdrew ?_) | (with_reducible refine bdrewN ?_ _) | (with_reducible refine bstep ?_ (by with_reducible assumption)) | (with_reducible refine bgrow ?_ (by with_reducible assumption) (by omega)) | (simp; done) | (simp; omega))))).tab)).mono ?_
  rintro e w6 ⟨rfl, hb6⟩
  obtain ⟨hkp, hfp6, hzp6⟩ := bel_at hb6 w.heap.size (by first | omega | (simp; done) | (simp; omega))
  obtain ⟨hkq, hfq6, hzq6⟩ := bel_at hb6 w2.heap.size (by first | omega | (simp; done) | (simp; omega))
  have z60 : w6.cell? ⟨w.heap.size, 0, none⟩ = some (.int .i64 0) := by rw [hkp]; simp [*, go_sem]
  have z61 : w6.cell? ⟨w.heap.size, 1, none⟩ = some (.int .i64 0) := by rw [hkp]; simp [*, go_sem]
  have z62 : w6.cell? ⟨w.heap.size, 2, none⟩ = some (.int .i64 0) := by rw [hkp]; simp [*, go_sem]
  have a60 : w6.cell? ⟨w2.heap.size, 0, none⟩ = some (.int .i64 (a : Int)) := by rw [hkq]; simp [*, go_sem]
  have a61 : w6.cell? ⟨w2.heap.size, 1, none⟩ = some (.int .i64 (b : Int)) := by rw [hkq]; simp [*, go_sem]
  have a62 : w6.cell? ⟨w2.heap.size, 2, none⟩ = some (.int .i64 (c : Int)) := by rw [hkq]; simp [*, go_sem]
  clear hkp hkq z50 z51 z52 a50 a51 a52 s50 s51 s52
  go_wp2
  all_goals (refine bodyPost_ret (v := .tuple #[.agg #[.int .i64 (a : Int), .int .i64 (b : Int), .int .i64 (c : Int)], .bool true]) (by simp [results, Tryd.results7, go_sem, *]) rfl ?_)
  all_goals exact ⟨rfl, by (repeat' (first | with_reducible exact Below.refl _ _ | (with_reducible refine balloc ?_ _) | (with_reducible refine bset ?_ ?_ _) | (with_reducible refine bdrew ?_) | (with_reducible refine bdrewN ?_ _) | (with_reducible refine bstep ?_ (by with_reducible assumption)) | (with_reducible refine bgrow ?_ (by with_reducible assumption) (by omega)) | (simp; done) | (simp; omega)))⟩
end Go.Proofs.YtaoggijepndnmaaDoor
