/- The reference's ParseAddress: at an address's text that address and true; at every other text the zero address and false. Asked: a text of at most 2 to the 20 bytes. -/
import Derived.Test.YtaoggijepndnmaaDoorParP
namespace Go.Proofs.YtaoggijepndnmaaDoor
set_option linter.unusedVariables false
open Go.ChangeShapes Go.WideShapes Go.ChangeAt Go.RowKit
/-- no address has this text -/
def NoAddr (s : ByteArray) : Prop := ∀ x y z : Int, avB x y z = true → fmtS x y z ≠ s
set_option maxHeartbeats 1000000 in
theorem spec_Parse_no (s : ByteArray) (hs : s.size ≤ 1048576) (hn : NoAddr s) (w : World) : Calls Tryd.prog 6 #[.string s] w fun e w' => e = .returned (.tuple #[.agg #[.int .i64 0, .int .i64 0, .int .i64 0], .bool false]) ∧ Below w.heap.size w w' := by
  have HN := Lib.hid hn
  clear hn
  go_enter Tryd.func6, Tryd.ntmps6
  go_wp2_with (fail)
  refine (spec_l1Cut s 58 (by decide) hs _).mono ?_
  rintro e w1 ⟨⟨x, r, p, rfl, hc1⟩, hb1⟩
  obtain ⟨hk1, hf1, hz1⟩ := bel_at hb1 (w.heap.size) (by simp)
  obtain ⟨hxs, hrs⟩ : x.size ≤ 1048576 ∧ r.size ≤ 1048576 := ⟨Nat.le_trans (cutS_size hc1).1 hs, Nat.le_trans (cutS_size hc1).2 hs⟩
  clear hc1
  go_wp2_with (fail)
  refine (spec_l1Cut r 43 (by decide) hrs _).mono ?_
  rintro e w2 ⟨⟨y, z, q, rfl, hc2⟩, hb2⟩
  obtain ⟨hk2, hf2, hz2⟩ := bel_at hb2 (w.heap.size) (by first | omega | (simp; done) | (simp; omega))
  obtain ⟨hys, hzs⟩ : y.size ≤ 1048576 ∧ z.size ≤ 1048576 := ⟨Nat.le_trans (cutS_size hc2).1 hrs, Nat.le_trans (cutS_size hc2).2 hrs⟩
  have HS := Lib.hid (And.intro hxs (And.intro hys hzs))
  clear hc2 hxs hrs hys hzs
  have hpq : (p = false ∧ q = false ∨ p = false ∧ q = true ∨ p = true ∧ q = false) ∨ p = true ∧ q = true := by cases p <;> cases q <;> simp
  rcases hpq with hpq | ⟨rfl, rfl⟩
  · rcases hpq with ⟨rfl, rfl⟩ | ⟨rfl, rfl⟩ | ⟨rfl, rfl⟩
    all_goals go_wp2
    all_goals (refine bodyPost_ret (v := .tuple #[.agg #[.int .i64 0, .int .i64 0, .int .i64 0], .bool false]) (by simp [results, Tryd.results6, go_sem, *]) rfl ?_)
    all_goals exact ⟨rfl, by (repeat' (first | with_reducible exact Below.refl _ _ | (with_reducible refine balloc ?_ _) | (with_reducible refine bset ?_ ?_ _) | (with_reducible refine bdrew ?_) | (with_reducible refine bdrewN ?_ _) | (with_reducible refine bstep ?_ (by with_reducible assumption)) | (with_reducible refine bgrow ?_ (by with_reducible assumption) (by omega)) | (simp; done) | (simp; omega)))⟩
  go_wp2_with (fail)
  refine (spec_l12Num x HS.out.1 _).mono ?_
  rintro e w3 ⟨⟨n1, b1, rfl, hd1⟩, hb3⟩
  clear hd1
  obtain ⟨hk3, hf3, hz3⟩ := bel_at hb3 (w.heap.size) (by first | omega | (simp; done) | (simp; omega))
  go_wp2_with (fail)
  refine (spec_l12Num y HS.out.2.1 _).mono ?_
  rintro e w4 ⟨⟨n2, b2, rfl, hd2⟩, hb4⟩
  clear hd2
  obtain ⟨hk4, hf4, hz4⟩ := bel_at hb4 (w.heap.size) (by first | omega | (simp; done) | (simp; omega))
  go_wp2_with (fail)
  refine (spec_l12Num z HS.out.2.2 _).mono ?_
  rintro e w5 ⟨⟨n3, b3, rfl, hd3⟩, hb5⟩
  clear hd3
  obtain ⟨hk5, hf5, hz5⟩ := bel_at hb5 (w.heap.size) (by first | omega | (simp; done) | (simp; omega))
  have hB5 : Below w.heap.size w w5 := by (repeat' (first | with_reducible exact Below.refl _ _ | (with_reducible refine balloc ?_ _) | (with_reducible refine bset ?_ ?_ _) | (with_reducible refine bdrew ?_) | (with_reducible refine bdrewN ?_ _) | (with_reducible refine bstep ?_ (by with_reducible assumption)) | (with_reducible refine bgrow ?_ (by with_reducible assumption) (by omega)) | (simp; done) | (simp; omega)))
  have z50 : w5.cell? ⟨w.heap.size, 0, none⟩ = some (.int .i64 0) := by rw [hk5, hk4, hk3, hk2, hk1, World.cell?_alloc_new]; rfl
  have z51 : w5.cell? ⟨w.heap.size, 1, none⟩ = some (.int .i64 0) := by rw [hk5, hk4, hk3, hk2, hk1, World.cell?_alloc_new]; rfl
  have z52 : w5.cell? ⟨w.heap.size, 2, none⟩ = some (.int .i64 0) := by rw [hk5, hk4, hk3, hk2, hk1, World.cell?_alloc_new]; rfl
  clear hk5 hk4 hk3 hk2 hk1
  by_cases hv : b1 = true ∧ b2 = true ∧ b3 = true ∧ avB n1 n2 n3 = true
  · obtain ⟨rfl, rfl, rfl, hv⟩ := hv
    have hX := HN.out n1 n2 n3 hv
    have SF := Lib.hid (fun (w : World) => spec_FormatAddress n1 n2 n3 w)
    generalize fmtS n1 n2 n3 = X at *
    have hX1 : (X.toList == s.toList) = false := toList_ne hX
    clear hX
    go_wp2_with (go_at_call 14; refine (spec_AddressValid _ _ _ _).mono ?_; rintro e w' ⟨rfl, rfl⟩)
    refine (SF.out _).mono ?_
    rintro e w6 ⟨rfl, hb6⟩
    obtain ⟨hk6, hf6, hz6⟩ := bel_at hb6 (w.heap.size) (by first | omega | (simp; done) | (simp; omega))
    have z60 : w6.cell? ⟨w.heap.size, 0, none⟩ = some (.int .i64 0) := by rw [hk6, World.cell?_alloc_old, World.cell?_alloc_old, z50] <;> (first | omega | (simp; omega))
    have z61 : w6.cell? ⟨w.heap.size, 1, none⟩ = some (.int .i64 0) := by rw [hk6, World.cell?_alloc_old, World.cell?_alloc_old, z51] <;> (first | omega | (simp; omega))
    have z62 : w6.cell? ⟨w.heap.size, 2, none⟩ = some (.int .i64 0) := by rw [hk6, World.cell?_alloc_old, World.cell?_alloc_old, z52] <;> (first | omega | (simp; omega))
    clear hk6 z50 z51 z52
    go_wp2
    all_goals (refine bodyPost_ret (v := .tuple #[.agg #[.int .i64 0, .int .i64 0, .int .i64 0], .bool false]) (by simp [results, Tryd.results6, go_sem, *]) rfl ?_)
    all_goals exact ⟨rfl, by (repeat' (first | with_reducible exact Below.refl _ _ | (with_reducible refine balloc ?_ _) | (with_reducible refine bset ?_ ?_ _) | (with_reducible refine bdrew ?_) | (with_reducible refine bdrewN ?_ _) | (with_reducible refine bstep ?_ (by with_reducible assumption)) | (with_reducible refine bgrow ?_ (by with_reducible assumption) (by omega)) | (simp; done) | (simp; omega)))⟩
  · have hb : (b1 && b2 && b3 && avB n1 n2 n3) = false := by simpa using hv
    have hcs : b1 = false ∨ b1 = true ∧ b2 = false ∨ b1 = true ∧ b2 = true ∧ b3 = false ∨ b1 = true ∧ b2 = true ∧ b3 = true ∧ avB n1 n2 n3 = false := by cases b1 <;> cases b2 <;> cases b3 <;> simp_all
    clear hv hb
    rcases hcs with rfl | ⟨rfl, rfl⟩ | ⟨rfl, rfl, rfl⟩ | ⟨rfl, rfl, rfl, hv⟩
    all_goals go_wp2_with (go_at_call 14; refine (spec_AddressValid _ _ _ _).mono ?_; rintro e w' ⟨rfl, rfl⟩)
    all_goals (refine bodyPost_ret (v := .tuple #[.agg #[.int .i64 0, .int .i64 0, .int .i64 0], .bool false]) (by simp [results, Tryd.results6, go_sem, *]) rfl ?_)
    all_goals exact ⟨rfl, by (repeat' (first | with_reducible exact Below.refl _ _ | (with_reducible refine balloc ?_ _) | (with_reducible refine bset ?_ ?_ _) | (with_reducible refine bdrew ?_) | (with_reducible refine bdrewN ?_ _) | (with_reducible refine bstep ?_ (by with_reducible assumption)) | (with_reducible refine bgrow ?_ (by with_reducible assumption) (by omega)) | (simp; done) | (simp; omega)))⟩
set_option maxHeartbeats 1000000 in
theorem spec_Parse_yes (a b c : Nat) (hv : avB (a : Int) (b : Int) (c : Int) = true) (w : World) : Calls Tryd.prog 6 #[.string (fmtA a b c)] w fun e w' => e = .returned (.tuple #[.agg #[.int .i64 (a : Int), .int .i64 (b : Int), .int .i64 (c : Int)], .bool true]) ∧ Below w.heap.size w w' := by
  have hr := avB_iff.1 hv
  have ha : a < 1000 := by omega
  have hb : b < 1000 := by omega
  have hc : c < 1000 := by omega
  obtain ⟨la, lb, lc⟩ : (Lib.decDigits a).length ≤ 3 ∧ (Lib.decDigits b).length ≤ 3 ∧ (Lib.decDigits c).length ≤ 3 := ⟨(decS_facts ha).2.2.2.2, (decS_facts hb).2.2.2.2, (decS_facts hc).2.2.2.2⟩
  have hs : (fmtA a b c).size ≤ 1048576 := by rw [fmtA_eq]; simp [ByteArray.size, fmtL]; omega
  have hA : ∀ x r p, CutS (fmtA a b c) 58 x r p → x = decS a ∧ r = ⟨(Lib.decDigits b ++ 43 :: Lib.decDigits c).toArray⟩ ∧ p = true := fun x r p h => by
    rw [fmtA_eq] at h
    exact cutS_eq _ _ 58 (no58 ha) h
  have hB : ∀ x r p, CutS ⟨(Lib.decDigits b ++ 43 :: Lib.decDigits c).toArray⟩ 43 x r p → x = decS b ∧ r = decS c ∧ p = true := fun x r p h => cutS_eq _ _ 43 (no43 hb) h
  have hrs : (ByteArray.mk (Lib.decDigits b ++ 43 :: Lib.decDigits c).toArray).size ≤ 1048576 := by simp [ByteArray.size]; omega
  have hN : ∀ k : Nat, k < 1000 → (decS k).size ≤ 1048576 ∧ ∀ e, NumP (decS k) e → e = .returned (.tuple #[.int .i64 (k : Int), .bool true]) := fun k hk => by
    obtain ⟨d1, d2, _⟩ := decS_facts hk
    refine ⟨Nat.le_trans d1.2.1 (by decide), fun e he => ?_⟩
    obtain ⟨n, q, rfl, h⟩ := he
    obtain ⟨rfl, rfl⟩ := h d1
    rw [d2]
  have fe : fmtS (a : Int) (b : Int) (c : Int) = fmtA a b c := by unfold fmtS; rw [if_pos hv]; rfl
  have SF := Lib.hid (fun (w : World) => fe ▸ spec_FormatAddress (a : Int) (b : Int) (c : Int) w)
  have HA := Lib.hid hA
  have HB := Lib.hid hB
  have HNa := Lib.hid (hN a ha)
  have HNb := Lib.hid (hN b hb)
  have HNc := Lib.hid (hN c hc)
  have HR := Lib.hid hrs
  clear hA hB hrs hN fe la lb lc hr ha hb hc
  generalize fmtA a b c = s at *
  generalize (ByteArray.mk (Lib.decDigits b ++ 43 :: Lib.decDigits c).toArray) = r0 at *
  have hX1 := toList_self s
  go_enter Tryd.func6, Tryd.ntmps6
  go_wp2_with (fail)
  refine (spec_l1Cut s 58 (by decide) hs _).mono ?_
  rintro e w1 ⟨⟨x, r, p, rfl, hc1⟩, hb1⟩
  obtain ⟨rfl, rfl, rfl⟩ := HA.out _ _ _ hc1
  clear hc1
  obtain ⟨hk1, hf1, hz1⟩ := bel_at hb1 (w.heap.size) (by simp)
  go_wp2_with (fail)
  refine (spec_l1Cut _ 43 (by decide) HR.out _).mono ?_
  rintro e w2 ⟨⟨y, z, q, rfl, hc2⟩, hb2⟩
  obtain ⟨rfl, rfl, rfl⟩ := HB.out _ _ _ hc2
  clear hc2
  obtain ⟨hk2, hf2, hz2⟩ := bel_at hb2 (w.heap.size) (by first | omega | (simp; done) | (simp; omega))
  go_wp2_with (fail)
  refine (spec_l12Num _ HNa.out.1 _).mono ?_
  rintro e w3 ⟨hd1, hb3⟩
  obtain rfl := HNa.out.2 _ hd1
  clear hd1
  obtain ⟨hk3, hf3, hz3⟩ := bel_at hb3 (w.heap.size) (by first | omega | (simp; done) | (simp; omega))
  go_wp2_with (fail)
  refine (spec_l12Num _ HNb.out.1 _).mono ?_
  rintro e w4 ⟨hd1, hb4⟩
  obtain rfl := HNb.out.2 _ hd1
  clear hd1
  obtain ⟨hk4, hf4, hz4⟩ := bel_at hb4 (w.heap.size) (by first | omega | (simp; done) | (simp; omega))
  go_wp2_with (fail)
  refine (spec_l12Num _ HNc.out.1 _).mono ?_
  rintro e w5 ⟨hd1, hb5⟩
  obtain rfl := HNc.out.2 _ hd1
  clear hd1
  obtain ⟨hk5, hf5, hz5⟩ := bel_at hb5 (w.heap.size) (by first | omega | (simp; done) | (simp; omega))
  have hB5 : Below w.heap.size w w5 := by (repeat' (first | with_reducible exact Below.refl _ _ | (with_reducible refine balloc ?_ _) | (with_reducible refine bset ?_ ?_ _) | (with_reducible refine bdrew ?_) | (with_reducible refine bdrewN ?_ _) | (with_reducible refine bstep ?_ (by with_reducible assumption)) | (with_reducible refine bgrow ?_ (by with_reducible assumption) (by omega)) | (simp; done) | (simp; omega)))
  have z50 : w5.cell? ⟨w.heap.size, 0, none⟩ = some (.int .i64 0) := by rw [hk5, hk4, hk3, hk2, hk1, World.cell?_alloc_new]; rfl
  have z51 : w5.cell? ⟨w.heap.size, 1, none⟩ = some (.int .i64 0) := by rw [hk5, hk4, hk3, hk2, hk1, World.cell?_alloc_new]; rfl
  have z52 : w5.cell? ⟨w.heap.size, 2, none⟩ = some (.int .i64 0) := by rw [hk5, hk4, hk3, hk2, hk1, World.cell?_alloc_new]; rfl
  clear hk5 hk4 hk3 hk2 hk1
  go_wp2_with (go_at_call 14; refine (spec_AddressValid _ _ _ _).mono ?_; rintro e w' ⟨rfl, rfl⟩)
  refine (SF.out _).mono ?_
  rintro e w6 ⟨rfl, hb6⟩
  obtain ⟨hk6, hf6, hz6⟩ := bel_at hb6 (w.heap.size) (by first | omega | (simp; done) | (simp; omega))
  obtain ⟨hk7, hf7, hz7⟩ := bel_at hb6 (w5.heap.size) (by first | omega | (simp; done) | (simp; omega))
  have z60 : w6.cell? ⟨w.heap.size, 0, none⟩ = some (.int .i64 0) := by rw [hk6, World.cell?_alloc_old, World.cell?_alloc_old, z50] <;> (first | omega | (simp; omega))
  have z61 : w6.cell? ⟨w.heap.size, 1, none⟩ = some (.int .i64 0) := by rw [hk6, World.cell?_alloc_old, World.cell?_alloc_old, z51] <;> (first | omega | (simp; omega))
  have z62 : w6.cell? ⟨w.heap.size, 2, none⟩ = some (.int .i64 0) := by rw [hk6, World.cell?_alloc_old, World.cell?_alloc_old, z52] <;> (first | omega | (simp; omega))
  clear hk6 z50 z51 z52
  go_wp2
  all_goals (refine bodyPost_ret (v := .tuple #[.agg #[.int .i64 (a : Int), .int .i64 (b : Int), .int .i64 (c : Int)], .bool true]) (by simp [results, Tryd.results6, go_sem, *]) rfl ?_)
  all_goals exact ⟨rfl, by (repeat' (first | with_reducible exact Below.refl _ _ | (with_reducible refine balloc ?_ _) | (with_reducible refine bset ?_ ?_ _) | (with_reducible refine bdrew ?_) | (with_reducible refine bdrewN ?_ _) | (with_reducible refine bstep ?_ (by with_reducible assumption)) | (with_reducible refine bgrow ?_ (by with_reducible assumption) (by omega)) | (simp; done) | (simp; omega)))⟩
end Go.Proofs.YtaoggijepndnmaaDoor
