/- Draws of tables: l3Wrong. -/
import Derived.Test.YtjdoegekolbdpaaDoorLI
namespace Go.Proofs.YtjdoegekolbdpaaDoor
set_option linter.unusedVariables false
open Go.ChangeShapes Go.WideShapes Go.ChangeAt Go.RowKit
theorem fcells_u (fs : List Fr) (j : Nat) (hj : j < fs.length) (x : Bool) : (fcells fs).set (j * 5) (.bool x) = fcells (fs.set j ⟨x, (fat fs j).s, (fat fs j).p, (fat fs j).r, (fat fs j).nx⟩) := by
  obtain ⟨_, a1, a2, a3, a4⟩ := fcells_at fs j hj
  have := fcells_set fs ⟨x, (fat fs j).s, (fat fs j).p, (fat fs j).r, (fat fs j).nx⟩ j
  simp only [] at this
  rw [set_same _ (j * 5 + 1) _ (by rw [List.getElem?_set_ne (by omega)]; exact a1), set_same _ (j * 5 + 2) _ (by rw [List.getElem?_set_ne (by omega)]; exact a2), set_same _ (j * 5 + 3) _ (by rw [List.getElem?_set_ne (by omega)]; exact a3), set_same _ (j * 5 + 4) _ (by rw [List.getElem?_set_ne (by omega)]; exact a4)] at this
  exact this
theorem fcells_k (fs : List Fr) (j : Nat) (hj : j < fs.length) (s p : Int) : ((fcells fs).set (j * 5 + 1) (.int .i64 s)).set (j * 5 + 2) (.int .i64 p) = fcells (fs.set j ⟨(fat fs j).u, s, p, (fat fs j).r, (fat fs j).nx⟩) := by
  obtain ⟨a0, _, _, a3, a4⟩ := fcells_at fs j hj
  have := fcells_set fs ⟨(fat fs j).u, s, p, (fat fs j).r, (fat fs j).nx⟩ j
  simp only [] at this
  rw [set_same _ (j * 5) _ a0, set_same _ (j * 5 + 3) _ (by rw [List.getElem?_set_ne (by omega), List.getElem?_set_ne (by omega)]; exact a3), set_same _ (j * 5 + 4) _ (by rw [List.getElem?_set_ne (by omega), List.getElem?_set_ne (by omega)]; exact a4)] at this
  exact this
theorem Tb.storeU {w : World} {lo hi ga gb : Nat} {bk : List Int} {fs : List Fr} (h : Tb w lo hi (some ⟨ga, 0, none⟩) (some ⟨gb, 0, none⟩) bk fs) {j : Nat} (hj : j < fs.length) (x : Bool) :
    ∃ fs', fs'.length = fs.length ∧ Tb (w.setCell ⟨gb, j * 5, none⟩ (.bool x)) lo hi (some ⟨ga, 0, none⟩) (some ⟨gb, 0, none⟩) bk fs' := by
  have s1 := h.2.stored (by omega) (j * 5) (.bool x)
  rw [fcells_u fs j hj] at s1
  exact ⟨_, List.length_set .., (h.2.keepT (by omega) (j * 5) (.bool x)) _ _ _ _ _ _ _ (by decide) h.1, by rw [List.length_set]; exact s1⟩
theorem Tb.storeK {w : World} {lo hi ga gb : Nat} {bk : List Int} {fs : List Fr} (h : Tb w lo hi (some ⟨ga, 0, none⟩) (some ⟨gb, 0, none⟩) bk fs) {j : Nat} (hj : j < fs.length) (s p : Int) :
    ∃ fs', fs'.length = fs.length ∧ Tb ((w.setCell ⟨gb, j * 5 + 1, none⟩ (.int .i64 s)).setCell ⟨gb, j * 5 + 2, none⟩ (.int .i64 p)) lo hi (some ⟨ga, 0, none⟩) (some ⟨gb, 0, none⟩) bk fs' := by
  have s1 := h.2.stored (by omega) (j * 5 + 1) (.int .i64 s)
  have s2 := s1.stored (by omega) (j * 5 + 2) (.int .i64 p)
  rw [fcells_k fs j hj] at s2
  have k := (h.2.keepT (by omega) (j * 5 + 1) (.int .i64 s)).trans (s1.keepT (by omega) (j * 5 + 2) (.int .i64 p))
  exact ⟨_, List.length_set .., k _ _ _ _ _ _ _ (by decide) h.1, by rw [List.length_set]; exact s2⟩
/-- one cell more behind a slice with room for its capacity -/
theorem run_append_sl {P : Program} (w : World) (t ty e : TypeId) (i : TypeInfo) (z : Value) (bytes : Nat) (ht : P.underlying t = some (.slice e)) (hi : P.info? e = some i) (hz : i.zero = some z) (hsize : i.size = 1) (hby : i.bytes = bytes) (hzs : z.cells.size = 1) (g n cap lo hi' : Nat) (zb : List Value)
    (hs : Sl w lo hi' e 1 (some ⟨g, 0, none⟩) cap zb) (hn : 0 < n) (hc : n ≤ cap) (hcm : cap ≤ maxLen) (B c : Nat) (x : Value) (hx : w.cell? ⟨B, 0, none⟩ = some x) (h1 : x.oneCell' = true) (h63 : n + 1 ≤ maxLen) (hbytes : (n + 1) * bytes ≤ 140737488355328) :
    ∃ A' cap' w', (Builtin.append_ #[t, t] ty #[.slice (some ⟨g, 0, none⟩) n cap, .slice (some ⟨B, 0, none⟩) 1 c]).run P w = .ok (.slice A' (n + 1) cap') w' ∧ n + 1 ≤ cap' ∧ cap' ≤ maxLen ∧ Sl w' lo w'.heap.size e 1 A' (n + 1) (zb.take n ++ [x]) ∧ w.grownBy w' (some g) := by
  subst hby
  obtain ⟨g', cur, ee, l1, l2, hg, htk⟩ := hs.2 (by omega)
  cases ee
  have hzl := hs.1
  simp only [Nat.mul_one] at hzl htk
  have hcur : cap ≤ cur.size := by
    have := congrArg List.length htk
    rw [List.length_take, hzl] at this
    simp at this; omega
  have hnl : (zb.take n).length = n := by rw [List.length_take]; omega
  have hnews : ∀ j u, [x][j]? = some u → w.cell? ((⟨B, 0, none⟩ : Addr).add j) = some u := by
    intro j u hu
    rcases j with _ | j
    · simp at hu; subst hu; rw [add_none]; exact hx
    · simp at hu
  have hcz : zb.take n = cur.toList.take n := by rw [← htk, List.take_take, Nat.min_eq_left hc]
  by_cases hr : n + 1 ≤ cap
  · have hrun := run_append_room (P := P) w t ty e i ht hi g n cap cur hg ⟨B, 0, none⟩ 1 c [x] (by simp [hsize]) hnews (by simpa using h1) hr (by rw [hsize]; simp; omega)
    refine ⟨_, _, _, hrun, hr, hcm, ⟨by simp; omega, fun _ => ⟨g, _, rfl, l1, by simpa using block_lt hg, setRow_heap w g cur _ e _ hg, ?_⟩⟩, ⟨rfl, rfl, rfl, by simp, fun k _ hk => setRow_other w g k _ (fun e => hk (by simp [e]))⟩⟩
    simp only [hsize, Nat.mul_one]
    rw [hcz, List.take_append_of_le_length (by simp; omega), List.take_of_length_le (by simp; omega)]
  · have holds : ∀ j u, (zb.take n)[j]? = some u → w.cell? ((⟨g, 0, none⟩ : Addr).add j) = some u := fun j u hu => by
      rw [add_none, Nat.zero_add, Joins.cell_of_block hg]
      rw [hcz, List.getElem?_take] at hu
      split at hu
      · simpa using hu
      · cases hu
    have hsm : ((n + 1 : Nat) : Int) ≤ 9223372036854775807 := by unfold maxLen at h63; omega
    have hrun := run_append_grow (P := P) w t ty e i z ht hi hz ⟨g, 0, none⟩ n cap (zb.take n) (by rw [hsize, hnl, Nat.mul_one]) holds ⟨B, 0, none⟩ 1 c [x] (by simp [hsize]) hnews (by omega) hsm (growslice_fits (by omega) hbytes)
    have hge := grownCap_ge w (n + 1) cap e
    have hcm' := grownCap_le_maxLen w (n + 1) cap e (by simpa using h63)
    have hlt := block_lt hg
    refine ⟨_, _, _, hrun, hge, hcm', ⟨by simp; omega, fun _ => ⟨w.heap.size, _, rfl, by omega, by simp, heap_alloc_new w.drew _, ?_⟩⟩, gb_alloc (gb_drew (gb_refl _ _)) _⟩
    rw [Array.toList_append, Array.toList_append, List.toList_toArray, List.toList_toArray, Nat.mul_one]
    rw [List.take_append_of_le_length (by simp; omega), List.take_of_length_le (by simp; omega)]
theorem wpList_append_sl {P : Program} {ops : Array Oper} {rest : List Oper} {o : Oper} {a : Act} {Q : Exit → Act → World → Prop} (w : World) (hgd : o.guard = none) (s x : Operand) (t : TypeId)
    (ho : o.op = .call { callee := .builtin .append, args := #[s, x], argTypes := #[t, t] })
    (e : TypeId) (i : TypeInfo) (z : Value) (bytes : Nat) (ht : P.underlying t = some (.slice e)) (hi : P.info? e = some i) (hz : i.zero = some z) (hsize : i.size = 1) (hby : i.bytes = bytes) (hzs : z.cells.size = 1) (g n cap lo hi' : Nat) (zb : List Value)
    (hs : a.eval s = .slice (some ⟨g, 0, none⟩) n cap) (hsl : Sl w lo hi' e 1 (some ⟨g, 0, none⟩) cap zb) (hn : 0 < n) (hc : n ≤ cap) (hcm : cap ≤ maxLen) (B c : Nat) (x' : Value) (hx : a.eval x = .slice (some ⟨B, 0, none⟩) 1 c) (hx' : w.cell? ⟨B, 0, none⟩ = some x') (h1 : x'.oneCell' = true) (h63 : n + 1 ≤ maxLen) (hbytes : (n + 1) * bytes ≤ 140737488355328)
    (hK : ∀ A' cap' w', n + 1 ≤ cap' → cap' ≤ maxLen → Hid (Sl w' lo w'.heap.size e 1 A' (n + 1) (zb.take n ++ [x'])) → Hid (w.grownBy w' (some g)) → wpList P ops Q rest (a.put o.dst (.slice A' (n + 1) cap')) w') : wpList P ops Q (o :: rest) a w := by
  refine wpList_plain hgd fun K hK' => ?_
  obtain ⟨A', cap', w', hrun, r1, r2, r3, r4⟩ := run_append_sl (P := P) w t o.type e i z bytes ht hi hz hsize hby hzs g n cap lo hi' zb hsl hn hc hcm B c x' hx' h1 h63 hbytes
  unfold Oper.wp
  simp [execOp, ho, resolve, invoke, builtin, hs, hx, hrun, Result.andThen]
  exact hK' _ _ (hK A' cap' w' r1 r2 r3 r4)
/-- a bucket more: the table behind 'append(out.Buckets, x)' -/
theorem Tb.app {w w' : World} {lo hi g : Nat} {A' B : Option Addr} {bk : List Int} {fs : List Fr} {zb : List Value} {x : Int} (h : Tb w lo hi (some ⟨g, 0, none⟩) B bk fs) (h1 : 0 < bk.length) (hz : zb.take (bk.length * 1) = ints bk)
    (hs : Sl w' lo w'.heap.size 3 1 A' (bk.length + 1) (zb.take bk.length ++ [.int .i64 x])) (hg : w.grownBy w' (some g)) (hsz : hi ≤ w.heap.size) : Tb w' lo w'.heap.size A' B (bk ++ [x]) fs := by
  rw [Nat.mul_one] at hz
  rw [hz, ints_snoc] at hs
  refine ⟨by rw [List.length_append]; exact hs, h.2.1, fun hn => ?_⟩
  obtain ⟨gb, cur, e1, r1, r2, r3, r4⟩ := h.2.2 hn
  obtain ⟨ga, cura, e2, _, _, r5, _⟩ := h.1.2 h1
  cases e2
  have hne : gb ≠ g := by
    rintro rfl
    rw [r3] at r5
    simp at r5
  exact ⟨gb, cur, e1, r1, Nat.lt_of_lt_of_le r2 (Nat.le_trans hsz hg.size), (hg.block gb (block_lt r3) (by simpa using hne)).trans r3, r4⟩
end Go.Proofs.YtjdoegekolbdpaaDoor
