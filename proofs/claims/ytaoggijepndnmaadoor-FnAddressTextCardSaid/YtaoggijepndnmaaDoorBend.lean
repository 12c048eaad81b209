/- The reference's draw of a text for ParseAddress: it returns some short text. Asked of a reader: at most 999990 picks so far. -/
import Derived.Test.YtaoggijepndnmaaDoorDraw
import Derived.Test.YtaoggijepndnmaaDoorFmt
import Derived.Deep.RegionHeld3
namespace Go.Proofs.YtaoggijepndnmaaDoor
set_option linter.unusedVariables false
open Go.ChangeShapes Go.WideShapes Go.ChangeAt Go.RowKit
/-- a list of short strings -/
def StrL (w : World) (B L : Nat) : Prop := ∀ j, j < L → ∃ x : ByteArray, w.cell? ⟨B, j, none⟩ = some (.string x) ∧ x.size ≤ 1
def OfPost (rb : Nat) (m : Nat) (w : World) (e : Ending) (w' : World) : Prop :=
  ∃ x : ByteArray, e = .returned (.string x) ∧ x.size ≤ 1 ∧ Rd w' rb (m + 1) ∧ w.grownBy w' (some rb)
theorem rd_of (rb m B L : Nat) (w : World) (h : Rd w rb m) (hm : m ≤ 1000000) (hL : 0 < L) (hs : StrL w B L) (hne : B ≠ rb) (hmx : L ≤ 1000) :
    Calls Tryd.prog 32 #[.pointer (some ⟨rb, 0, none⟩), .slice (some ⟨B, 0, none⟩) L L] w (OfPost rb m w) := by
  have H := Lib.hid h
  have HS := Lib.hid hs
  clear h hs
  go_enter Tryd.func32, Tryd.ntmps32
  go_wp2_with (fail)
  refine (rd_pick rb m _ w H.out hm).mono ?_
  rintro e w1 ⟨x, rfl, hx0, hx1, hR, hg⟩
  obtain ⟨k, rfl⟩ := Int.eq_ofNat_of_zero_le hx0
  have hk : k < L := by omega
  obtain ⟨s, hc, hs1⟩ := HS.out k hk
  have hc1 : w1.cell? ⟨B, k, none⟩ = some (.string s) := hg.cell hc (by simp; omega)
  clear hx0 hx1
  have HG := Lib.hid hg
  have HRd := Lib.hid hR
  have HS1 := Lib.hid hs1
  clear hc hg hR hs1
  go_wp2
  go_ret
  exact ⟨_, rfl, HS1.out, HRd.out, HG.out⟩
def BendPost (rb : Nat) (m : Nat) (w : World) (e : Ending) (w' : World) : Prop :=
  ∃ x : ByteArray, e = .returned (.string x) ∧ x.size ≤ 1000 ∧ Rd w' rb (m + 4) ∧ w.grownBy w' (some rb)
theorem spec_l1Bend (rb m B L : Nat) (s : ByteArray) (hss : s.size ≤ 100) (w : World) (h : Rd w rb m) (hm : m ≤ 999990) (hL : 0 < L) (hs : StrL w B L) (hne : B ≠ rb) (hmx : L ≤ 1000) :
    Calls Tryd.prog 20 #[.pointer (some ⟨rb, 0, none⟩), .string s, .slice (some ⟨B, 0, none⟩) L L] w (BendPost rb m w) := by
  have H := Lib.hid h
  have HS := Lib.hid hs
  clear h hs
  by_cases h0 : s.size = 0
  · go_enter Tryd.func20, Tryd.ntmps20
    go_wp2_with (fail)
    go_ret
    exact ⟨_, rfl, by omega, H.out.mono (by omega), gb_refl _ _⟩
  go_enter Tryd.func20, Tryd.ntmps20
  go_wp2_with (fail)
  refine (rd_pick rb m _ w H.out (by omega)).mono ?_
  rintro e w1 ⟨x, rfl, hx0, hx1, hR1, hg1⟩
  by_cases hx : x = 0
  · subst hx
    go_wp2_with (fail)
    go_ret
    exact ⟨_, rfl, by omega, hR1.mono (by omega), hg1⟩
  have hxb : (x == 0) = false := beq_eq_false_iff_ne.2 hx
  clear hx
  have H1 := Lib.hid hR1
  have G1 := Lib.hid hg1
  clear hR1 hg1
  go_wp2_with (fail)
  refine (rd_pick rb _ _ w1 H1.out (by omega)).mono ?_
  rintro e w2 ⟨y, rfl, hy0, hy1, hR2, hg2⟩
  obtain ⟨k, rfl⟩ := Int.eq_ofNat_of_zero_le hy0
  have hk : k < s.size := by omega
  have H2 := Lib.hid hR2
  have G2 := Lib.hid hg2
  clear hR2 hg2 hy0 hy1
  have c1 : (0 : Int) ≤ ↑k := by omega
  have c2 : (↑k : Int) ≤ ↑s.size := by omega
  have hs2 : StrL w2 B L := fun j hj => by
    obtain ⟨x, hx, h1⟩ := HS.out j hj
    exact ⟨x, G2.out.cell (G1.out.cell hx (by simp; omega)) (by simp; omega), h1⟩
  have HS2 := Lib.hid hs2
  clear hs2
  go_wp2_with (fail)
  refine wp_region_noPanic ?_
  refine wp_region_held_drew (S := fun _ => True) (by kernel_rfl) trivial (fun hHeld => ?_)
  refine wpAnyH_take (i := 0) (v := ?_) rfl (by kernel_rfl) (by kernel_rfl) (by kernel_rfl) (fun _ _ _ h => h) (Or.inl ⟨by rfl, ?_⟩) (by assumption) ?_
  rotate_left
  · intro w hSw
    go_simp
    try first | with_reducible rfl | (rw [if_neg (by omega)]) | (rw [if_neg (by omega)]; rfl)
  try simp only [Act.put, List.getElem_toArray, List.getElem_cons_zero, List.setIfInBounds_toArray, List.set_cons_zero, List.set_cons_succ]
  refine wpAnyH_take (i := 1) (v := ?_) rfl (by kernel_rfl) (by kernel_rfl) (by kernel_rfl) (fun _ _ _ h => h) (Or.inl ⟨by rfl, ?_⟩) (by assumption) ?_
  rotate_left
  · intro w hSw
    go_simp
    try first | with_reducible rfl | (rw [if_neg (by omega)]) | (rw [if_neg (by omega)]; rfl)
  try simp only [Act.put, List.getElem_toArray, List.getElem_cons_zero, List.getElem_cons_succ, List.setIfInBounds_toArray, List.set_cons_zero, List.set_cons_succ]
  refine wpAnyH_take (i := 2) (v := ?_) rfl (by kernel_rfl) (by kernel_rfl) (by kernel_rfl) (fun _ _ _ h => h) (Or.inl ⟨by rfl, ?_⟩) (by assumption) ?_
  rotate_left
  · intro w hSw
    go_simp
    try first | with_reducible rfl | (rw [if_neg (by omega)]) | (rw [if_neg (by omega)]; rfl)
  try simp only [Act.put, List.getElem_toArray, List.getElem_cons_zero, List.getElem_cons_succ, List.setIfInBounds_toArray, List.set_cons_zero, List.set_cons_succ]
  refine wpAnyH_take (i := 3) (v := ?_) rfl (by kernel_rfl) (by kernel_rfl) (by kernel_rfl) (fun _ _ _ h => h) (Or.inl ⟨by rfl, ?_⟩) (by assumption) ?_
  rotate_left
  · intro w hSw
    go_simp
    try first | with_reducible rfl | (rw [if_neg (by omega)]) | (rw [if_neg (by omega)]; rfl)
  try simp only [Act.put, List.getElem_toArray, List.getElem_cons_zero, List.getElem_cons_succ, List.setIfInBounds_toArray, List.set_cons_zero, List.set_cons_succ]
  refine wpAnyH_take (i := 4) (v := ?_) rfl (by kernel_rfl) (by kernel_rfl) (by kernel_rfl) (fun _ _ _ h => h) (Or.inl ⟨by rfl, ?_⟩) (by assumption) ?_
  rotate_left
  · intro w hSw
    go_simp
    try first | with_reducible rfl | (rw [if_neg (by omega)]) | (rw [if_neg (by omega)]; rfl)
  try simp only [Act.put, List.getElem_toArray, List.getElem_cons_zero, List.getElem_cons_succ, List.setIfInBounds_toArray, List.set_cons_zero, List.set_cons_succ]
  refine wpAnyH_take (i := 7) (v := ?_) rfl (by kernel_rfl) (by kernel_rfl) (by kernel_rfl) (fun _ _ _ h => h) (Or.inl ⟨by rfl, ?_⟩) (by assumption) ?_
  rotate_left
  · intro w hSw
    go_simp
    try first | with_reducible rfl | (rw [if_neg (by omega)]) | (rw [if_neg (by omega)]; rfl)
  try simp only [Act.put, List.getElem_toArray, List.getElem_cons_zero, List.getElem_cons_succ, List.setIfInBounds_toArray, List.set_cons_zero, List.set_cons_succ]
  refine wpAnyH_take (i := 8) (v := ?_) rfl (by kernel_rfl) (by kernel_rfl) (by kernel_rfl) (fun _ _ _ h => h) (Or.inl ⟨by rfl, ?_⟩) (by assumption) ?_
  rotate_left
  · intro w hSw
    go_simp
    try first | with_reducible rfl | (rw [if_neg (by omega)]) | (rw [if_neg (by omega)]; rfl)
  try simp only [Act.put, List.getElem_toArray, List.getElem_cons_zero, List.getElem_cons_succ, List.setIfInBounds_toArray, List.set_cons_zero, List.set_cons_succ]
  refine wpAnyH_take (i := 9) (v := ?_) rfl (by kernel_rfl) (by kernel_rfl) (by kernel_rfl) (fun _ _ _ h => h) (Or.inl ⟨by rfl, ?_⟩) (by assumption) ?_
  rotate_left
  · intro w hSw
    go_simp
    try first | with_reducible rfl | (rw [if_neg (by omega)]) | (rw [if_neg (by omega)]; rfl)
  try simp only [Act.put, List.getElem_toArray, List.getElem_cons_zero, List.getElem_cons_succ, List.setIfInBounds_toArray, List.set_cons_zero, List.set_cons_succ]
  refine wpAnyH_ready (rs := [5]) (by kernel_rfl) (by simp) ?_
  refine AllReadyH.cons rfl (fun K hK => ?_) AllReadyH.nil
  go_simp
  go_at_call 32
  refine (rd_of rb _ B L _ H2.out.drew (by omega) hL (fun j hj => HS2.out j hj) hne hmx).mono ?_
  rintro e w3 ⟨x3, rfl, hx3, hR3, hg3⟩
  have H3 := Lib.hid hR3
  have G3 : Hid (w2.grownBy w3 (some rb)) := Lib.hid (gb_step (gb_drew (gb_refl w2 _)) hg3)
  clear hR3 hg3
  go_wp2_with fail
  refine hK.out _ _ ?_ (fun hHeld => ?_)
  · trivial
  clear hK K
  try simp only [Act.put, List.getElem_toArray, List.getElem_cons_zero, List.getElem_cons_succ, List.setIfInBounds_toArray, List.set_cons_zero, List.set_cons_succ]
  refine wpAnyH_take (i := 6) (v := ?_) rfl (by kernel_rfl) (by kernel_rfl) (by kernel_rfl) (fun _ _ _ h => h) (Or.inl ⟨by rfl, ?_⟩) (by assumption) ?_
  rotate_left
  · intro w hSw
    go_simp
    try first | with_reducible rfl | (rw [if_neg (by omega)]) | (rw [if_neg (by omega)]; rfl)
  try simp only [Act.put, List.getElem_toArray, List.getElem_cons_zero, List.getElem_cons_succ, List.setIfInBounds_toArray, List.set_cons_zero, List.set_cons_succ]
  refine wpAnyH_ready (rs := [10]) (by kernel_rfl) (by simp) ?_
  refine AllReadyH.cons rfl (fun K hK => ?_) AllReadyH.nil
  go_simp
  go_at_call 31
  refine (rd_pick rb _ _ _ H3.out (by omega)).mono ?_
  rintro e w4 ⟨x4, rfl, hx40, hx41, hR4, hg4⟩
  obtain ⟨q, rfl⟩ := Int.eq_ofNat_of_zero_le hx40
  have hq : k + q ≤ s.size := by omega
  have c3 : (0 : Int) ≤ ↑k + ↑q := by omega
  have c4 : (↑k + ↑q : Int) ≤ ↑s.size := by omega
  have e1 : IntKind.i64.wrap ((k : Int) + (q : Int)) = (k : Int) + (q : Int) := IntWalk.i64_in _ (by omega)
  have e2 : ((k : Int) + (q : Int)).toNat = k + q := by omega
  have H4 := Lib.hid hR4
  have G4 := Lib.hid hg4
  clear hR4 hg4 hx40 hx41
  go_wp2_with fail
  refine hK.out _ _ ?_ (fun hHeld => ?_)
  · trivial
  clear hK K
  try simp only [Act.put, List.getElem_toArray, List.getElem_cons_zero, List.getElem_cons_succ, List.setIfInBounds_toArray, List.set_cons_zero, List.set_cons_succ]
  refine wpAnyH_take (i := 11) (v := ?_) rfl (by kernel_rfl) (by kernel_rfl) (by kernel_rfl) (fun _ _ _ h => h) (Or.inl ⟨by rfl, ?_⟩) (by assumption) ?_
  rotate_left
  · intro w hSw
    go_simp
    try first | with_reducible rfl | (rw [if_neg (by omega)]) | (rw [if_neg (by omega)]; rfl)
  try simp only [Act.put, List.getElem_toArray, List.getElem_cons_zero, List.getElem_cons_succ, List.setIfInBounds_toArray, List.set_cons_zero, List.set_cons_succ]
  refine wpAnyH_take (i := 12) (v := ?_) rfl (by kernel_rfl) (by kernel_rfl) (by kernel_rfl) (fun _ _ _ h => h) (Or.inl ⟨by rfl, ?_⟩) (by assumption) ?_
  rotate_left
  · intro w hSw
    go_simp
    try first | with_reducible rfl | (rw [if_neg (by omega)]) | (rw [if_neg (by omega)]; rfl)
  try simp only [Act.put, List.getElem_toArray, List.getElem_cons_zero, List.getElem_cons_succ, List.setIfInBounds_toArray, List.set_cons_zero, List.set_cons_succ]
  refine wpAnyH_take (i := 13) (v := ?_) rfl (by kernel_rfl) (by kernel_rfl) (by kernel_rfl) (fun _ _ _ h => h) (Or.inl ⟨by rfl, ?_⟩) (by assumption) ?_
  rotate_left
  · intro w hSw
    go_simp
    try first | with_reducible rfl | (rw [if_neg (by omega)]) | (rw [if_neg (by omega)]; rfl)
  try simp only [Act.put, List.getElem_toArray, List.getElem_cons_zero, List.getElem_cons_succ, List.setIfInBounds_toArray, List.set_cons_zero, List.set_cons_succ]
  refine wpAnyH_take (i := 14) (v := ?_) rfl (by kernel_rfl) (by kernel_rfl) (by kernel_rfl) (fun _ _ _ h => h) (Or.inl ⟨by rfl, ?_⟩) (by assumption) ?_
  rotate_left
  · intro w hSw
    go_simp
    try first | with_reducible rfl | (rw [if_neg (by omega)]) | (rw [if_neg (by omega)]; rfl)
  try simp only [Act.put, List.getElem_toArray, List.getElem_cons_zero, List.getElem_cons_succ, List.setIfInBounds_toArray, List.set_cons_zero, List.set_cons_succ]
  refine wpAnyH_done (by kernel_rfl) ?_ _
  refine NoPanic.normal ?_
  go_wp2
  all_goals (refine bodyPost_ret (v := .string (s.extract 0 k ++ x3 ++ s.extract (k + q) s.size)) (by simp [results, Tryd.results20, go_sem, *]) rfl ?_)
  all_goals exact ⟨_, rfl, by simp only [ByteArray.size_append, ByteArray.size_extract]; omega, H4.out, gb_step (gb_step (gb_step G1.out G2.out) G3.out) G4.out⟩
end Go.Proofs.YtaoggijepndnmaaDoor
