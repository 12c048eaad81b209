/- The reference's copy of a table. Asked: at most 1048576 frames and buckets. -/
import Derived.Test.YtjdoegekolbdpaaDoorReh
import Derived.Deep.RegionLaw
namespace Go.Proofs.YtjdoegekolbdpaaDoor
set_option linter.unusedVariables false
open Go.ChangeShapes Go.WideShapes Go.ChangeAt Go.RowKit
theorem run_append_lit0 {P : Program} (w : World) (t ty e : TypeId) (i : TypeInfo) (ht : P.underlying t = some (.slice e)) (hi : P.info? e = some i) (g : Nat) (ao : Option Addr) (c : Nat) :
    (Builtin.append_ #[t, t] ty #[.slice (some ⟨g, 0, none⟩) 0 0, .slice ao 0 c]).run P w = .ok (.slice (some ⟨g, 0, none⟩) 0 0) w := by
  cases ao <;> simp [Builtin.append_, run_underlying ht, sizeOf, typeInfo, hi, Builtin.lenOf, Builtin.firstCells, loadCells, loadCellsFrom, storeCells]
/-- 'append([]T{}, x...)' -/
theorem run_append_lit {P : Program} (w : World) (t ty e : TypeId) (i : TypeInfo) (z : Value) (size bytes : Nat) (ht : P.underlying t = some (.slice e)) (hi : P.info? e = some i) (hz : i.zero = some z)
    (hsize : i.size = size) (hby : i.bytes = bytes) (hzs : z.cells.size = size) (g : Nat) (ao : Option Addr) (m c lo hi' : Nat) (news : List Value) (hsrc : Sl w lo hi' e size ao m news) (h63 : m ≤ maxLen) (hbytes : m * bytes ≤ 140737488355328) :
    ∃ A cap zb w', (Builtin.append_ #[t, t] ty #[.slice (some ⟨g, 0, none⟩) 0 0, .slice ao m c]).run P w = .ok (.slice A m cap) w' ∧ m ≤ cap ∧ cap ≤ maxLen ∧ zb.take (m * size) = news ∧ Sl w' w.heap.size w'.heap.size e size A cap zb ∧ Below w.heap.size w w' := by
  subst hsize
  subst hby
  rcases Nat.eq_zero_or_pos m with rfl | hm
  · have hn : news = [] := List.eq_nil_of_length_eq_zero (by simpa using hsrc.1)
    subst hn
    exact ⟨_, 0, [], w, run_append_lit0 w t ty e i ht hi g ao c, Nat.le_refl _, by unfold maxLen; omega, List.take_nil, Sl.empty, Below.refl _ _⟩
  · obtain ⟨gs, cur, rfl, _, _, hg, htk⟩ := hsrc.2 hm
    have hcells : ∀ j u, news[j]? = some u → w.cell? ((⟨gs, 0, none⟩ : Addr).add j) = some u := fun j u hu => by
      rw [add_none, Nat.zero_add, Joins.cell_of_block hg]
      rw [← htk] at hu
      rw [List.getElem?_take] at hu
      split at hu
      · simpa using hu
      · cases hu
    have hsm : (((0 + m : Nat)) : Int) ≤ 9223372036854775807 := by unfold maxLen at h63; omega
    have hr := run_append_grow (P := P) w t ty e i z ht hi hz ⟨g, 0, none⟩ 0 0 [] (by simp) (by simp) ⟨gs, 0, none⟩ m c news hsrc.1 hcells (by omega) hsm (growslice_fits (by omega) (by simpa using hbytes))
    have hge := grownCap_ge w (0 + m) 0 e
    have hcm := grownCap_le_maxLen w (0 + m) 0 e (by simpa using h63)
    simp only [Nat.zero_add] at hr hge hcm
    have hcs : (([] : List Value).toArray ++ news.toArray ++ Builtin.zeroCells z.cells (grownCap w m 0 e - m)).size = grownCap w m 0 e * i.size := by
      simp only [Array.size_append, List.size_toArray, List.length_nil, size_zeroCells, hzs, hsrc.1, Nat.zero_add]
      rw [← Nat.add_mul, Nat.add_sub_cancel' hge]
    refine ⟨_, _, (([] : List Value).toArray ++ news.toArray ++ Builtin.zeroCells z.cells (grownCap w m 0 e - m)).toList, _, hr, hge, hcm, ?_, ⟨by rw [Array.length_toList, hcs], fun _ => ⟨w.heap.size, _, rfl, Nat.le_refl _, by simp, heap_alloc_new w.drew _, List.take_of_length_le (by rw [Array.length_toList, hcs]; exact Nat.le_refl _)⟩⟩, (Below.refl _ _).drew.alloc (Nat.le_refl _) _⟩
    rw [Array.toList_append, Array.toList_append, List.toList_toArray, List.toList_toArray, List.nil_append, ← hsrc.1]
    exact List.take_left
theorem Sl.cut {w : World} {lo hi n m size : Nat} {e : TypeId} {A : Option Addr} {xs : List Value} (h : Sl w lo hi e size A n xs) (hm : m ≤ n) : Sl w lo hi e size A m (xs.take (m * size)) :=
  ⟨by rw [List.length_take, h.1]; exact Nat.min_eq_left (Nat.mul_le_mul_right _ hm), fun h0 => by
    obtain ⟨g, cur, r1, r2, r3, r4, r5⟩ := h.2 (by omega)
    exact ⟨g, cur, r1, r2, r3, r4, by rw [← r5, List.take_take, Nat.min_eq_left (Nat.mul_le_mul_right _ hm)]⟩⟩
theorem step_append_lit {P : Program} {ops : Array Oper} {o : Oper} {a : Act} {w : World} {K : Act → World → Prop} {Q : Exit → Act → World → Prop} {E : Prop} (hgd : o.guard = none) (s x : Operand) (t : TypeId)
    (ho : o.op = .call { callee := .builtin .append, args := #[s, x], argTypes := #[t, t] })
    (e : TypeId) (i : TypeInfo) (z : Value) (size bytes : Nat) (ht : P.underlying t = some (.slice e)) (hi : P.info? e = some i) (hz : i.zero = some z)
    (hsize : i.size = size) (hby : i.bytes = bytes) (hzs : z.cells.size = size) (g : Nat) (ao : Option Addr) (m c lo hi' : Nat) (news : List Value) (hs : a.eval s = .slice (some ⟨g, 0, none⟩) 0 0) (hx : a.eval x = .slice ao m c)
    (hsrc : Sl w lo hi' e size ao m news) (h63 : m ≤ maxLen) (hbytes : m * bytes ≤ 140737488355328)
    (h : ∀ v w', (∃ A cap zb, v = .slice A m cap ∧ m ≤ cap ∧ cap ≤ maxLen ∧ Hid (zb.take (m * size) = news) ∧ Hid (Sl w' w.heap.size w'.heap.size e size A cap zb) ∧ Below w.heap.size w w') → K (a.put o.dst v) w') :
    if Region.wanted o (yielded ops a.tmps) = true then Oper.wp P o a w K Q else E := by
  have hw : Region.wanted o (yielded ops a.tmps) = true := by simp [Region.wanted, hgd]
  rw [if_pos hw]
  obtain ⟨A, cap, zb, w', hrun, h1, h2, h5, h3, h4⟩ := run_append_lit (P := P) w t o.type e i z size bytes ht hi hz hsize hby hzs g ao m c lo hi' news hsrc h63 hbytes
  unfold Oper.wp
  simp [execOp, ho, resolve, invoke, builtin, hs, hx, hrun, Result.andThen]
  exact h _ _ ⟨A, cap, zb, rfl, h1, h2, h5, h3, h4⟩
/-- a table comes back -/
def TabR (t : List Int × List Fr) (w : World) (e : Ending) (w' : World) : Prop :=
  ∃ A ca B cb, e = .returned (.agg #[.slice A t.1.length ca, .slice B t.2.length cb]) ∧ (t.1.length ≤ ca ∧ ca ≤ maxLen) ∧ (t.2.length ≤ cb ∧ cb ≤ maxLen) ∧ Tb w' w.heap.size w'.heap.size A B t.1 t.2 ∧ Below w.heap.size w w'
/-- a table comes back; its buckets lie in a block with room for their capacity -/
def TabRO (t : List Int × List Fr) (w : World) (e : Ending) (w' : World) : Prop :=
  ∃ A ca B cb zb, e = .returned (.agg #[.slice A t.1.length ca, .slice B t.2.length cb]) ∧ (t.1.length ≤ ca ∧ ca ≤ maxLen) ∧ (t.2.length ≤ cb ∧ cb ≤ maxLen) ∧ Hid (Sl w' w.heap.size w'.heap.size 3 1 A ca zb ∧ zb.take (t.1.length * 1) = ints t.1) ∧ Tb w' w.heap.size w'.heap.size A B t.1 t.2 ∧ Below w.heap.size w w'
set_option maxHeartbeats 4000000 in
set_option maxRecDepth 100000 in
theorem spec_l3CopyO (A B : Option Addr) (ca cb lo hi : Nat) (bk : List Int) (fs : List Fr) (w : World) (h : Tb w lo hi A B bk fs) (hn : bk.length ≤ 1048576) (hn2 : fs.length ≤ 1048576) :
    Calls Tryd.prog 78 #[.agg #[.slice A bk.length ca, .slice B fs.length cb]] w (TabRO (bk, fs) w) := by
  have HA := Lib.hid h.1
  have HB := Lib.hid h.2
  clear h
  obtain ⟨i0, hi0, hz0, hz1, hz2⟩ := info_parts int_info
  obtain ⟨i9, hi9, hy0, hy1, hy2⟩ := info_parts fr_info
  go_enter Tryd.func78, Tryd.ntmps78
  go_wp2
  go_outline
  go_region_law (first
    | (refine step_append_lit rfl (.tmp 3) (.tmp 5) 25 rfl 3 i0 (.int .i64 0) 1 8 Tryd.underlying25 hi0 hz0 hz1 hz2 rfl _ A bk.length ca lo hi (ints bk) (by simp [Act.eval]; rfl) (by simp [Act.eval]) (by (repeat' (first | (with_reducible assumption) | (with_reducible exact Hid.out (by assumption)) | (with_reducible refine Sl.alloc ?_ _) | (with_reducible refine Sl.drewN ?_ _) | (with_reducible refine Sl.drew ?_) | (with_reducible refine Sl.set_ ?_ (by first | (left; (try simp) <;> omega) | (right; (try simp) <;> omega)) _) | (with_reducible refine Sl.below ?_ (by with_reducible assumption))))) (by unfold maxLen; omega) (by omega) ?_; rintro v5 w5 ⟨A5, c5, zb5, rfl, p5, q5, t5, hs5, hb5⟩; obtain ⟨hc5_0, hf5_0, hz5_0⟩ := bel_at hb5 (w.heap.size) (by first | omega | (simp; done) | (simp; omega)); obtain ⟨hc5_1, hf5_1, hz5_1⟩ := bel_at hb5 (w.heap.size + 1) (by first | omega | (simp; done) | (simp; omega)))
    | (refine step_append_lit rfl (.tmp 7) (.tmp 9) 26 rfl 46 i9 _ 5 40 Tryd.underlying26 hi9 hy0 hy1 hy2 rfl _ B fs.length cb lo hi (fcells fs) (by simp [Act.eval]; rfl) (by simp [Act.eval]) (by (repeat' (first | (with_reducible assumption) | (with_reducible exact Hid.out (by assumption)) | (with_reducible refine Sl.alloc ?_ _) | (with_reducible refine Sl.drewN ?_ _) | (with_reducible refine Sl.drew ?_) | (with_reducible refine Sl.set_ ?_ (by first | (left; (try simp) <;> omega) | (right; (try simp) <;> omega)) _) | (with_reducible refine Sl.below ?_ (by with_reducible assumption))))) (by unfold maxLen; omega) (by omega) ?_; rintro v6 w6 ⟨A6, c6, zb6, rfl, p6, q6, t6, hs6, hb6⟩; obtain ⟨hc6_0, hf6_0, hz6_0⟩ := bel_at hb6 (w.heap.size) (by first | omega | (simp; done) | (simp; omega)); obtain ⟨hc6_1, hf6_1, hz6_1⟩ := bel_at hb6 (w.heap.size + 1) (by first | omega | (simp; done) | (simp; omega))))
  all_goals
    have z5 := hb5.size
    have z6 := hb6.size
    simp at z5 z6
    obtain ⟨l5, k5, hl5, HS5⟩ : ∃ lo hi, w.heap.size + 1 < lo ∧ Hid (Sl w5 lo hi 3 1 A5 c5 zb5) := ⟨_, _, by (try simp) <;> omega, hs5⟩
    obtain ⟨l6, k6, hl6, HS6⟩ : ∃ lo hi, w.heap.size + 1 < lo ∧ Hid (Sl w6 lo hi 46 5 A6 c6 zb6) := ⟨_, _, by (try simp) <;> omega, hs6⟩
    have hB6 : Below ((w.alloc (.cells #[.slice A bk.length ca, .slice B fs.length cb] 28)).alloc (.cells #[.slice none 0 0, .slice none 0 0] 28)).heap.size ((w.alloc (.cells #[.slice A bk.length ca, .slice B fs.length cb] 28)).alloc (.cells #[.slice none 0 0, .slice none 0 0] 28)) w6 := by (repeat' (first | with_reducible exact Below.refl _ _ | (with_reducible refine balloc ?_ _) | (with_reducible refine bset ?_ ?_ _) | (with_reducible refine bdrew ?_) | (with_reducible refine bdrewN ?_ _) | (with_reducible refine bstep ?_ (by with_reducible assumption)) | (with_reducible refine bgrow ?_ (by with_reducible assumption) (by omega)) | (simp; done) | (simp; omega)))
    have q0 : w6.cell? ⟨w.heap.size + 1, 0, none⟩ = some (.slice none 0 0) := by rw [hB6.cell (p := ⟨w.heap.size + 1, 0, none⟩) (by simp), newc (by simp)]; rfl
    have q1 : w6.cell? ⟨w.heap.size + 1, 1, none⟩ = some (.slice none 0 0) := by rw [hB6.cell (p := ⟨w.heap.size + 1, 1, none⟩) (by simp), newc (by simp)]; rfl
    clear hs5 hs6 hB6 hc5_0 hc5_1 hc6_0 hc6_1
    go_wp2
    refine bodyPost_ret (v := .agg #[.slice A5 bk.length c5, .slice A6 fs.length c6]) (by simp [results, Tryd.results78, go_sem, *]) rfl ?_
    refine ⟨A5, c5, A6, c6, zb5, rfl, ⟨p5, q5⟩, ⟨p6, q6⟩, Lib.hid ⟨?_, t5.out⟩, ⟨?_, ?_⟩, by (repeat' (first | with_reducible exact Below.refl _ _ | (with_reducible refine balloc ?_ _) | (with_reducible refine bset ?_ ?_ _) | (with_reducible refine bdrew ?_) | (with_reducible refine bdrewN ?_ _) | (with_reducible refine bstep ?_ (by with_reducible assumption)) | (with_reducible refine bgrow ?_ (by with_reducible assumption) (by omega)) | (simp; done) | (simp; omega)))⟩
    · exact (show Sl _ l5 k5 3 1 A5 c5 zb5 by (repeat' (first | (with_reducible assumption) | (with_reducible exact Hid.out (by assumption)) | (with_reducible refine Sl.alloc ?_ _) | (with_reducible refine Sl.drewN ?_ _) | (with_reducible refine Sl.drew ?_) | (with_reducible refine Sl.set_ ?_ (by first | (left; (try simp) <;> omega) | (right; (try simp) <;> omega)) _) | (with_reducible refine Sl.below ?_ (by with_reducible assumption))))).top.more (by omega) (Nat.le_refl _)
    · show Sl _ _ _ _ _ _ bk.length (ints bk)
      rw [← t5.out]
      exact ((show Sl _ l5 k5 3 1 A5 c5 zb5 by (repeat' (first | (with_reducible assumption) | (with_reducible exact Hid.out (by assumption)) | (with_reducible refine Sl.alloc ?_ _) | (with_reducible refine Sl.drewN ?_ _) | (with_reducible refine Sl.drew ?_) | (with_reducible refine Sl.set_ ?_ (by first | (left; (try simp) <;> omega) | (right; (try simp) <;> omega)) _) | (with_reducible refine Sl.below ?_ (by with_reducible assumption))))).cut p5).top.more (by omega) (Nat.le_refl _)
    · show Sl _ _ _ _ _ _ fs.length (fcells fs)
      rw [← t6.out]
      exact ((show Sl _ l6 k6 46 5 A6 c6 zb6 by (repeat' (first | (with_reducible assumption) | (with_reducible exact Hid.out (by assumption)) | (with_reducible refine Sl.alloc ?_ _) | (with_reducible refine Sl.drewN ?_ _) | (with_reducible refine Sl.drew ?_) | (with_reducible refine Sl.set_ ?_ (by first | (left; (try simp) <;> omega) | (right; (try simp) <;> omega)) _) | (with_reducible refine Sl.below ?_ (by with_reducible assumption))))).cut p6).top.more (by omega) (Nat.le_refl _)
theorem spec_l3Copy (A B : Option Addr) (ca cb lo hi : Nat) (bk : List Int) (fs : List Fr) (w : World) (h : Tb w lo hi A B bk fs) (hn : bk.length ≤ 1048576) (hn2 : fs.length ≤ 1048576) :
    Calls Tryd.prog 78 #[.agg #[.slice A bk.length ca, .slice B fs.length cb]] w (TabR (bk, fs) w) :=
  (spec_l3CopyO A B ca cb lo hi bk fs w h hn hn2).mono (fun _ _ ⟨A, ca, B, cb, _, a1, a2, a3, _, a5, a6⟩ => ⟨A, ca, B, cb, a1, a2, a3, a5, a6⟩)
end Go.Proofs.YtjdoegekolbdpaaDoor
