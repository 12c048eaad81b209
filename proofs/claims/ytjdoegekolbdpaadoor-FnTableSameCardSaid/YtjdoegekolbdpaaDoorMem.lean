/- A slice of the call's own that reads as a list, in blocks from lo on and below hi; frames that leave all other blocks as they were. No conditions. -/
import Derived.WalkKit
import Derived.ProofKit
import Derived.Lib.Hide
import Derived.Handy
import Derived.Lib.SmallJoins
import Derived.Deep.Draws
import Derived.Maps.AppendAt
import Derived.OwnWalk
namespace Go.Proofs.YtjdoegekolbdpaaDoor
open Go.ChangeShapes Go.WideShapes Go.ChangeAt Go.RowKit

def Sl (w : World) (lo hi : Nat) (e : TypeId) (size : Nat) (A : Option Addr) (n : Nat) (xs : List Value) : Prop :=
  xs.length = n * size ∧ (0 < n → ∃ g cur, A = some ⟨g, 0, none⟩ ∧ lo ≤ g ∧ g < hi ∧ w.heap[g]? = some (.cells cur e (0, 0)) ∧ cur.toList.take (n * size) = xs)

/-- Blocks from lo on and below hi may have been written; no other. -/
structure Only (lo hi : Nat) (w w' : World) : Prop where
  os : w'.os = w.os
  tape : w'.tape = w.tape
  output : w'.output = w.output
  size : w.heap.size ≤ w'.heap.size
  block : ∀ g, g < w.heap.size → (g < lo ∨ hi ≤ g) → w'.heap[g]? = w.heap[g]?

section
variable {w w' w1 w2 : World} {lo hi lo' hi' size n B : Nat} {e : TypeId} {A : Option Addr} {xs : List Value}
theorem block_lt {g : Nat} {o : Obj} (h : w.heap[g]? = some o) : g < w.heap.size := (Array.getElem?_eq_some_iff.1 h).1

theorem Only.refl (lo hi : Nat) (w : World) : Only lo hi w w := ⟨rfl, rfl, rfl, Nat.le_refl _, fun _ _ _ => rfl⟩
theorem Only.trans {a b c : World} (h : Only lo hi a b) (k : Only lo hi b c) : Only lo hi a c :=
  ⟨k.os.trans h.os, k.tape.trans h.tape, k.output.trans h.output, Nat.le_trans h.size k.size, fun g hg hn => (k.block g (Nat.lt_of_lt_of_le hg h.size) hn).trans (h.block g hg hn)⟩
theorem Only.trans2 {a b c : World} (h : Only lo hi a b) (k : Only lo hi b c) : Only lo hi a c := h.trans k
theorem Only.more (h : Only lo hi w w') (h1 : lo' ≤ lo) (h2 : hi ≤ hi') : Only lo' hi' w w' :=
  ⟨h.os, h.tape, h.output, h.size, fun g hg hn => h.block g hg (by omega)⟩
theorem Only.of_below (h : Below w.heap.size w w') : Only lo hi w w' := ⟨h.os, h.tape, h.output, h.size, fun g hg _ => h.block g hg⟩
theorem Only.step (h : Only lo hi w w1) (hb : Below w1.heap.size w1 w2) : Only lo hi w w2 := h.trans (.of_below hb)
theorem Only.alloc (h : Only lo hi w w') (o : Obj) : Only lo hi w (w'.alloc o) := h.step (Joins.below_alloc1 _ _)
theorem Only.drewN (h : Only lo hi w w') (k : Nat) : Only lo hi w (w'.drewN k) := ⟨h.os, h.tape, h.output, h.size, h.block⟩
theorem Only.drew (h : Only lo hi w w') : Only lo hi w w'.drew := ⟨h.os, h.tape, h.output, h.size, h.block⟩
theorem Only.setCell (h : Only lo hi w w') {p : Addr} (h1 : lo ≤ p.block) (h2 : p.block < hi) (u : Value) : Only lo hi w (w'.setCell p u) :=
  ⟨h.os, h.tape, h.output, by simpa using h.size, fun g hg hn => (Below.heap_setCell _ _ _ _ (by omega)).trans (h.block g hg hn)⟩
/-- a store into a block that the world w did not have -/
theorem Only.setNew (h : Only lo hi w w') {p : Addr} (h1 : w.heap.size ≤ p.block) (u : Value) : Only lo hi w (w'.setCell p u) :=
  ⟨h.os, h.tape, h.output, by simpa using h.size, fun g hg hn => (Below.heap_setCell _ _ _ _ (by omega)).trans (h.block g hg hn)⟩
theorem Only.below (h : Only lo hi w w') (hB : B ≤ lo) (hs : B ≤ w.heap.size) : Below B w w' :=
  ⟨h.os, h.tape, h.output, h.size, fun g hg => h.block g (by omega) (by omega)⟩
theorem Only.grown {row : Option Nat} (h : Only lo hi w w1) (hg : w1.grownBy w2 row) (hr : ∀ g, row = some g → g < w.heap.size → lo ≤ g ∧ g < hi) : Only lo hi w w2 :=
  ⟨hg.os.trans h.os, hg.tape.trans h.tape, hg.output.trans h.output, Nat.le_trans h.size hg.size, fun g hg1 hn => (hg.block g (Nat.lt_of_lt_of_le hg1 h.size) (fun e => by have := hr g e.symm hg1; omega)).trans (h.block g hg1 hn)⟩
theorem bonly {W : World} (h : Below B W w1) (ho : Only lo hi w1 w2) (h1 : B ≤ lo) (hs : B ≤ w1.heap.size) : Below B W w2 := h.trans (ho.below h1 hs)

theorem Sl.none_ : Sl w lo hi e size none 0 [] := ⟨by simp, fun h => absurd h (by omega)⟩
theorem Sl.empty : Sl w lo hi e size A 0 [] := ⟨by simp, fun h => absurd h (by omega)⟩
theorem Sl.keep (h : Sl w lo hi e size A n xs) (hk : ∀ g, lo ≤ g → g < hi → g < w.heap.size → w'.heap[g]? = w.heap[g]?) : Sl w' lo hi e size A n xs :=
  ⟨h.1, fun hn => by
    obtain ⟨g, cur, e1, h1, h2, h3, h4⟩ := h.2 hn
    exact ⟨g, cur, e1, h1, h2, (hk g h1 h2 (block_lt h3)).trans h3, h4⟩⟩
theorem Sl.more (h : Sl w lo hi e size A n xs) (h1 : lo' ≤ lo) (h2 : hi ≤ hi') : Sl w lo' hi' e size A n xs :=
  ⟨h.1, fun hn => by
    obtain ⟨g, cur, e1, q1, q2, h3, h4⟩ := h.2 hn
    exact ⟨g, cur, e1, by omega, by omega, h3, h4⟩⟩
theorem Sl.top (h : Sl w lo hi e size A n xs) : Sl w lo w.heap.size e size A n xs :=
  ⟨h.1, fun hn => by
    obtain ⟨g, cur, e1, q1, q2, h3, h4⟩ := h.2 hn
    exact ⟨g, cur, e1, q1, block_lt h3, h3, h4⟩⟩
theorem Sl.below (h : Sl w lo hi e size A n xs) (hb : Below w.heap.size w w') : Sl w' lo hi e size A n xs := h.keep fun g _ _ hg => hb.block g hg
theorem Sl.belowB (h : Sl w lo hi e size A n xs) (hb : Below B w w') (hB : hi ≤ B) : Sl w' lo hi e size A n xs := h.keep fun g _ h2 _ => hb.block g (by omega)
theorem Sl.only (h : Sl w lo hi e size A n xs) (ho : Only lo' hi' w w') (hd : hi ≤ lo' ∨ hi' ≤ lo) : Sl w' lo hi e size A n xs :=
  h.keep fun g h1 h2 h3 => ho.block g h3 (by omega)
theorem Sl.alloc (h : Sl w lo hi e size A n xs) (o : Obj) : Sl (w.alloc o) lo hi e size A n xs := h.below (Joins.below_alloc1 _ _)
theorem Sl.drew (h : Sl w lo hi e size A n xs) : Sl w.drew lo hi e size A n xs := h
theorem Sl.drewN (h : Sl w lo hi e size A n xs) (k : Nat) : Sl (w.drewN k) lo hi e size A n xs := h
theorem Sl.set_ (h : Sl w lo hi e size A n xs) {p : Addr} (hp : hi ≤ p.block ∨ p.block < lo) (u : Value) : Sl (w.setCell p u) lo hi e size A n xs :=
  h.keep fun g h1 h2 h3 => Below.heap_setCell _ _ _ _ (by omega)
theorem Sl.setNew (h : Sl w lo hi e size A n xs) {p : Addr} (hp : w.heap.size ≤ p.block) (u : Value) : Sl (w.setCell p u) lo hi e size A n xs :=
  h.keep fun g h1 h2 h3 => Below.heap_setCell _ _ _ _ (by omega)
/-- one cell of it -/
theorem Sl.at_ (h : Sl w lo hi e size A n xs) {k : Nat} (hk : k < n * size) (hn : 0 < n) : ∃ g, A = some ⟨g, 0, none⟩ ∧ lo ≤ g ∧ g < hi ∧ g < w.heap.size ∧ w.cell? ⟨g, k, none⟩ = xs[k]? ∧ w.frozen? ⟨g, k, none⟩ = false := by
  obtain ⟨g, cur, rfl, h1, h2, h3, h4⟩ := h.2 hn
  refine ⟨g, rfl, h1, h2, block_lt h3, ?_, Joins.unfrozen_of_block h3 k⟩
  rw [Joins.cell_of_block h3, ← h4, List.getElem?_take_of_lt hk]
  simp
/-- a store into it -/
theorem Sl.stored {g : Nat} (h : Sl w lo hi e size (some ⟨g, 0, none⟩) n xs) (hn : 0 < n) (j : Nat) (u : Value) : Sl (w.setCell ⟨g, j, none⟩ u) lo hi e size (some ⟨g, 0, none⟩) n (xs.set j u) := by
  obtain ⟨g', cur, e1, h1, h2, h3, h4⟩ := h.2 hn
  obtain rfl : g = g' := by simpa using e1
  refine ⟨by simpa using h.1, fun _ => ⟨g, cur.setIfInBounds j u, rfl, h1, h2, Joins.block_setCell h3 u, ?_⟩⟩
  rw [Array.toList_setIfInBounds, ← h4, List.take_set]
theorem Sl.own {base : Nat} {v : Value} (h : w.ownsRow base e size v n xs) : ∃ A cap, v = .slice A n cap ∧ n ≤ cap ∧ cap ≤ maxLen ∧ Sl w base w.heap.size e size A n xs := by
  rcases h.2 with ⟨rfl, rfl⟩ | ⟨g, cap, cur, rfl, hb, hg, hn, hc, hs, ht⟩
  · exact ⟨none, 0, rfl, Nat.le_refl _, by unfold maxLen; omega, h.1, fun h => absurd h (by omega)⟩
  · exact ⟨_, cap, rfl, hn, hc, h.1, fun _ => ⟨g, cur, rfl, hb, block_lt hg, hg, ht⟩⟩
end
/-- slices of ints -/
def ints (zs : List Int) : List Value := zs.map (Value.int .i64)
theorem ints_len (zs : List Int) : (ints zs).length = zs.length := by simp [ints]
theorem Sl.int {w : World} {lo hi n : Nat} {e : TypeId} {A : Option Addr} {zs : List Int} (h : Sl w lo hi e 1 A n (ints zs)) {k : Nat} (hk : k < n) :
    ∃ g, A = some ⟨g, 0, none⟩ ∧ lo ≤ g ∧ g < hi ∧ g < w.heap.size ∧ w.cell? ⟨g, k, none⟩ = some (.int .i64 (zs.getD k 0)) ∧ w.frozen? ⟨g, k, none⟩ = false := by
  obtain ⟨g, h1, h2, h3, h4, h5, h6⟩ := h.at_ (k := k) (by omega) (by omega)
  refine ⟨g, h1, h2, h3, h4, ?_, h6⟩
  have hl : k < zs.length := by have := h.1; rw [ints_len] at this; omega
  rw [h5]; simp [ints, List.getD_eq_getElem?_getD, List.getElem?_eq_getElem hl]
theorem ints_snoc (zs : List Int) (v : Int) : ints zs ++ [Value.int .i64 v] = ints (zs ++ [v]) := by simp [ints]
theorem cell_new1 {w : World} {x : Value} {t : TypeId} {b : Nat} (hb : b = w.heap.size) : ∀ j u, [x][j]? = some u → (w.alloc (.cells #[x] t)).cell? ((⟨b, 0, none⟩ : Addr).add j) = some u := by
  subst hb; exact cell_one_new w x t
/-- behind an append to a row of the call's own -/
theorem below_app {w0 w w' : World} {B n : Nat} {e : TypeId} {size : Nat} {v : Value} {xs : List Value} (hb : Below B w0 w) (hB : B ≤ w.heap.size) (hown : w.ownsRow B e size v n xs) (hg : w.grownBy w' v.ownBlock) : Below B w0 w' :=
  hb.grown hg hB (fun k hk => (hown.lt k hk).1)
theorem ints_set (zs : List Int) (j : Nat) (v : Int) : (ints zs).set j (.int .i64 v) = ints (zs.set j v) := by simp [ints, List.map_set]
/-- elements 0 to k - 1 written over -/
def cpd {α : Type} (f : Nat → α) (zs : List α) : Nat → List α
  | 0 => zs
  | k + 1 => (cpd f zs k).set k (f k)
theorem cpd_len {α : Type} (f : Nat → α) (zs : List α) (k : Nat) : (cpd f zs k).length = zs.length := by
  induction k with
  | zero => rfl
  | succ k ih => simp [cpd, ih]
theorem cpd_at {α : Type} (f : Nat → α) (zs : List α) (k j : Nat) : (cpd f zs k)[j]? = if j < k ∧ j < zs.length then some (f j) else zs[j]? := by
  induction k with
  | zero => simp [cpd]
  | succ k ih =>
    simp only [cpd, List.getElem?_set, cpd_len, ih]
    by_cases h1 : k = j
    · subst h1
      by_cases h2 : k < zs.length
      · simp [h2]
      · simp [h2]
    · simp only [h1, if_false]
      by_cases h2 : j < zs.length
      · by_cases h3 : j < k
        · simp [h2, h3, Nat.lt_succ_of_lt h3]
        · simp [h2, h3, show ¬ j < k + 1 by omega]
      · simp [h2]
theorem cpd_all {α : Type} (f : Nat → α) (zs : List α) (n : Nat) (h : zs.length = n) : cpd f zs n = (List.range n).map f := by
  subst h
  apply List.ext_getElem?
  intro j
  rw [cpd_at]
  by_cases hj : j < zs.length <;> simp [hj]
theorem range_getD {α : Type} (xs : List α) (d : α) (n : Nat) (h : xs.length = n) : (List.range n).map (fun j => xs.getD j d) = xs := by
  subst h
  apply List.ext_getElem?
  intro j
  by_cases hj : j < xs.length <;> simp [hj, List.getD_eq_getElem?_getD]
theorem made_flat (z : Array Value) (n : Nat) : (madeCells z (n * z.size)).toList = (List.replicate n z.toList).flatten := by
  induction n with
  | zero => simp [madeCells]
  | succ n ih =>
    have e : (madeCells z ((n + 1) * z.size)).toList = (madeCells z (n * z.size)).toList ++ z.toList := by
      simp only [madeCells, Array.toList_map, Array.toList_range, Nat.add_mul, Nat.one_mul, List.range_add, List.map_append, List.map_map]
      congr 1
      apply List.ext_getElem?
      intro j
      by_cases hj : j < z.size
      · simp [hj, Nat.mod_eq_of_lt hj, Nat.add_comm]
      · simp [hj]
    rw [e, ih, List.replicate_succ', List.flatten_append]
    simp
theorem gb_of_below {w w' : World} (h : Below w.heap.size w w') (r : Option Nat) : w.grownBy w' r := ⟨h.os, h.tape, h.output, h.size, fun k hk _ => h.block k hk⟩
theorem own_below {w w' : World} {base : Nat} {e : TypeId} {size n : Nat} {v : Value} {xs : List Value} (h : w.ownsRow base e size v n xs) (hb : Below w.heap.size w w') : w'.ownsRow base e size v n xs :=
  h.kept (gb_of_below hb none) (by cases v.ownBlock <;> simp)
theorem cells_new2 {w : World} {x y : Value} {t : TypeId} {b : Nat} (hb : b = w.heap.size) : ∀ j u, [x, y][j]? = some u → (w.alloc (.cells #[x, y] t)).cell? ((⟨b, 0, none⟩ : Addr).add j) = some u := by
  subst hb
  intro j u hu
  have e : (⟨w.heap.size, 0, none⟩ : Addr).add j = ⟨w.heap.size, j, none⟩ := by unfold Addr.add; split <;> simp_all
  rw [e, World.cell?_alloc_new]
  simpa using hu
theorem gb_own {w w1 w2 : World} {r row : Option Nat} (h : w.grownBy w1 r) (hg : w1.grownBy w2 row) (hr : ∀ k, row = some k → w.heap.size ≤ k) : w.grownBy w2 r :=
  ⟨hg.os.trans h.os, hg.tape.trans h.tape, hg.output.trans h.output, Nat.le_trans h.size hg.size, fun k hk hne => (hg.block k (Nat.lt_of_lt_of_le hk h.size) (fun e => by have := hr k e.symm; omega)).trans (h.block k hk hne)⟩
/-- slices of other element types than e read as they did -/
def KeepT (e : TypeId) (w w' : World) : Prop := ∀ (lo hi : Nat) (e' : TypeId) (size : Nat) (A : Option Addr) (n : Nat) (xs : List Value), e' ≠ e → Sl w lo hi e' size A n xs → Sl w' lo hi e' size A n xs
theorem KeepT.refl (e : TypeId) (w : World) : KeepT e w w := fun _ _ _ _ _ _ _ _ h => h
theorem KeepT.trans {e : TypeId} {a b c : World} (h : KeepT e a b) (k : KeepT e b c) : KeepT e a c := fun _ _ _ _ _ _ _ hne hs => k _ _ _ _ _ _ _ hne (h _ _ _ _ _ _ _ hne hs)
theorem KeepT.of_below {e : TypeId} {w w' : World} (hb : Below w.heap.size w w') : KeepT e w w' := fun _ _ _ _ _ _ _ _ hs => hs.below hb
theorem KeepT.set_ {e : TypeId} {w : World} {g j : Nat} {cur : Array Value} {fr : Nat × Nat} (hg : w.heap[g]? = some (.cells cur e fr)) (u : Value) : KeepT e w (w.setCell ⟨g, j, none⟩ u) := by
  intro lo hi e' size A n xs hne hs
  refine ⟨hs.1, fun hn => ?_⟩
  obtain ⟨g', cur', e1, h1, h2, h3, h4⟩ := hs.2 hn
  refine ⟨g', cur', e1, h1, h2, ?_, h4⟩
  rw [Below.heap_setCell _ _ _ _ (fun e0 => ?_)]
  · exact h3
  · simp only at e0
    subst e0
    rw [hg] at h3
    injection h3 with h3
    injection h3 with _ h5
    exact hne h5.symm
theorem Sl.keepT {w : World} {lo hi n size : Nat} {e : TypeId} {g : Nat} {xs : List Value} (h : Sl w lo hi e size (some ⟨g, 0, none⟩) n xs) (hn : 0 < n) (j : Nat) (u : Value) : KeepT e w (w.setCell ⟨g, j, none⟩ u) := by
  obtain ⟨g', cur, e1, _, _, h3, _⟩ := h.2 hn
  obtain rfl : g = g' := by simpa using e1
  exact KeepT.set_ h3 u
theorem only_at {w w' : World} {lo hi : Nat} (h : Only lo hi w w') (b : Nat) (hb : b < w.heap.size) (hn : b < lo ∨ hi ≤ b) : (∀ o, w'.cell? ⟨b, o, none⟩ = w.cell? ⟨b, o, none⟩) ∧ (∀ o, w'.frozen? ⟨b, o, none⟩ = w.frozen? ⟨b, o, none⟩) ∧ b < w'.heap.size :=
  have e := h.block b hb hn
  ⟨fun o => World.cell?_of_block (a := ⟨b, o, none⟩) e, fun o => World.frozen?_of_block (a := ⟨b, o, none⟩) e, Nat.lt_of_lt_of_le hb h.size⟩
theorem below_of_only {w w' : World} {lo hi : Nat} (h : Only lo hi w w') (hB : w.heap.size ≤ lo) : Below w.heap.size w w' := h.below hB (Nat.le_refl _)
end Go.Proofs.YtjdoegekolbdpaaDoor
