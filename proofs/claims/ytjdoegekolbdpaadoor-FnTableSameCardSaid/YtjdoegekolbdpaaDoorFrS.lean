/- Contracts of the laws' helpers on slices of frames. No conditions but lengths of at most 1048576. -/
import Derived.Test.YtjdoegekolbdpaaDoorBase
import Derived.Test.YtjdoegekolbdpaaDoorInts
import Derived.Test.YtjdoegekolbdpaaDoorTabP
namespace Go.Proofs.YtjdoegekolbdpaaDoor
open Go.ChangeShapes Go.WideShapes Go.ChangeAt Go.RowKit

/-- frames as cells -/
def fcell (f : Fr) : List Value := [.bool f.u, .int .i64 f.s, .int .i64 f.p, .int .i64 f.r, .int .i64 f.nx]
def fcells (fs : List Fr) : List Value := fs.flatMap fcell
theorem fcells_cons (f : Fr) (fs : List Fr) : fcells (f :: fs) = .bool f.u :: .int .i64 f.s :: .int .i64 f.p :: .int .i64 f.r :: .int .i64 f.nx :: fcells fs := rfl
theorem fcells_len (fs : List Fr) : (fcells fs).length = fs.length * 5 := by
  induction fs with
  | nil => rfl
  | cons k ks ih => rw [fcells_cons]; simp only [List.length_cons, ih]; omega
theorem fcells_at (fs : List Fr) : ∀ j, j < fs.length → (fcells fs)[j * 5]? = some (.bool (fat fs j).u) ∧ (fcells fs)[j * 5 + 1]? = some (.int .i64 (fat fs j).s) ∧ (fcells fs)[j * 5 + 2]? = some (.int .i64 (fat fs j).p) ∧ (fcells fs)[j * 5 + 3]? = some (.int .i64 (fat fs j).r) ∧ (fcells fs)[j * 5 + 4]? = some (.int .i64 (fat fs j).nx) := by
  induction fs with
  | nil => intro j h; simp at h
  | cons k ks ih =>
    intro j hj
    rw [fcells_cons]
    cases j with
    | zero => simp [fat]
    | succ j =>
      have := ih j (by simpa using hj)
      rw [show (j + 1) * 5 = j * 5 + 1 + 1 + 1 + 1 + 1 by omega]
      have e : fat (k :: ks) (j + 1) = fat ks j := by simp [fat]
      rw [e]
      obtain ⟨h0, h1, h2, h3, h4⟩ := this
      rw [show j * 5 + 1 + 1 + 1 + 1 + 1 + 2 = j * 5 + 2 + 1 + 1 + 1 + 1 + 1 by omega, show j * 5 + 1 + 1 + 1 + 1 + 1 + 3 = j * 5 + 3 + 1 + 1 + 1 + 1 + 1 by omega, show j * 5 + 1 + 1 + 1 + 1 + 1 + 4 = j * 5 + 4 + 1 + 1 + 1 + 1 + 1 by omega]
      simp only [List.getElem?_cons_succ]
      exact ⟨h0, h1, h2, h3, h4⟩
/-- the five cells of frame k lie in block g -/
def FAt (w : World) (g o : Nat) (f : Fr) : Prop :=
  w.cell? ⟨g, o, none⟩ = some (.bool f.u) ∧ w.cell? ⟨g, o + 1, none⟩ = some (.int .i64 f.s) ∧ w.cell? ⟨g, o + 2, none⟩ = some (.int .i64 f.p) ∧ w.cell? ⟨g, o + 3, none⟩ = some (.int .i64 f.r) ∧ w.cell? ⟨g, o + 4, none⟩ = some (.int .i64 f.nx)
theorem Sl.frame {w : World} {lo hi n : Nat} {e : TypeId} {A : Option Addr} {fs : List Fr} (h : Sl w lo hi e 5 A n (fcells fs)) {k : Nat} (hk : k < n) :
    ∃ g, A = some ⟨g, 0, none⟩ ∧ lo ≤ g ∧ g < hi ∧ g < w.heap.size ∧ FAt w g (k * 5) (fat fs k) ∧ ∀ o, w.frozen? ⟨g, o, none⟩ = false := by
  obtain ⟨g, cur, rfl, h1, h2, h3, h4⟩ := h.2 (by omega)
  have hl : k < fs.length := by have := h.1; rw [fcells_len] at this; omega
  have c := fun i (hi : i < n * 5) => (show w.cell? ⟨g, i, none⟩ = (fcells fs)[i]? by rw [Joins.cell_of_block h3, ← h4, List.getElem?_take_of_lt hi]; simp)
  obtain ⟨a0, a1, a2, a3, a4⟩ := fcells_at fs k hl
  exact ⟨g, rfl, h1, h2, block_lt h3, ⟨(c _ (by omega)).trans a0, (c _ (by omega)).trans a1, (c _ (by omega)).trans a2, (c _ (by omega)).trans a3, (c _ (by omega)).trans a4⟩, fun o => Joins.unfrozen_of_block h3 o⟩
theorem fcells_set (fs : List Fr) (f : Fr) : ∀ j, (((((fcells fs).set (j * 5) (.bool f.u)).set (j * 5 + 1) (.int .i64 f.s)).set (j * 5 + 2) (.int .i64 f.p)).set (j * 5 + 3) (.int .i64 f.r)).set (j * 5 + 4) (.int .i64 f.nx) = fcells (fs.set j f) := by
  induction fs with
  | nil => intro j; rfl
  | cons k ks ih =>
    intro j
    cases j with
    | zero => simp [fcells_cons]
    | succ j =>
      rw [fcells_cons, List.set_cons_succ, fcells_cons, ← ih j, show (j + 1) * 5 = j * 5 + 1 + 1 + 1 + 1 + 1 by omega, show j * 5 + 1 + 1 + 1 + 1 + 1 + 2 = j * 5 + 2 + 1 + 1 + 1 + 1 + 1 by omega, show j * 5 + 1 + 1 + 1 + 1 + 1 + 3 = j * 5 + 3 + 1 + 1 + 1 + 1 + 1 by omega, show j * 5 + 1 + 1 + 1 + 1 + 1 + 4 = j * 5 + 4 + 1 + 1 + 1 + 1 + 1 by omega]
      simp only [List.set_cons_succ]
theorem fcells_made (n : Nat) : (madeCells #[.bool false, .int .i64 0, .int .i64 0, .int .i64 0, .int .i64 0] (n * 5)).toList = fcells (List.replicate n fr0) := by
  have h := made_flat #[.bool false, .int .i64 0, .int .i64 0, .int .i64 0, .int .i64 0] n
  simp only [List.size_toArray, List.length_cons, List.length_nil, Nat.zero_add, Nat.reduceAdd] at h
  rw [h]
  unfold fcells
  rw [List.flatMap_def, List.map_replicate]
  rfl
theorem fcells_snoc (fs : List Fr) (f : Fr) : fcells fs ++ fcell f = fcells (fs ++ [f]) := by simp [fcells]
/-- frames that came in -/
def FIn (w : World) (A : Option Addr) (n : Nat) (fs : List Fr) : Prop :=
  fs.length = n ∧ (0 < n → ∃ b off, A = some ⟨b, off, none⟩ ∧ b < w.heap.size ∧ ∀ j, j < n → FAt w b (off + j * 5) (fat fs j))
theorem FAt.below {w w' : World} {b o : Nat} {f : Fr} (h : FAt w b o f) (hb : Below w.heap.size w w') (h1 : b < w.heap.size) : FAt w' b o f :=
  ⟨(hb.cell h1).trans h.1, (hb.cell h1).trans h.2.1, (hb.cell h1).trans h.2.2.1, (hb.cell h1).trans h.2.2.2.1, (hb.cell h1).trans h.2.2.2.2⟩
theorem FIn.below {w w' : World} {A : Option Addr} {n : Nat} {fs : List Fr} (h : FIn w A n fs) (hb : Below w.heap.size w w') : FIn w' A n fs :=
  ⟨h.1, fun hn => by
    obtain ⟨b, off, e, h1, h2⟩ := h.2 hn
    exact ⟨b, off, e, Nat.lt_of_lt_of_le h1 hb.size, fun j hj => (h2 j hj).below hb h1⟩⟩
theorem FIn.at_ {w : World} {A : Option Addr} {n : Nat} {fs : List Fr} (h : FIn w A n fs) {k : Nat} (hk : k < n) :
    ∃ b off, A = some ⟨b, off, none⟩ ∧ b < w.heap.size ∧ FAt w b (off + k * 5) (fat fs k) := by
  obtain ⟨b, off, e, h1, h2⟩ := h.2 (by omega)
  exact ⟨b, off, e, h1, h2 k hk⟩
/-- ints that came in -/
def IIn (w : World) (A : Option Addr) (n : Nat) (zs : List Int) : Prop :=
  zs.length = n ∧ (0 < n → ∃ b off, A = some ⟨b, off, none⟩ ∧ b < w.heap.size ∧ ∀ j, j < n → w.cell? ⟨b, off + j, none⟩ = some (.int .i64 (zs.getD j 0)))
theorem IIn.below {w w' : World} {A : Option Addr} {n : Nat} {zs : List Int} (h : IIn w A n zs) (hb : Below w.heap.size w w') : IIn w' A n zs :=
  ⟨h.1, fun hn => by
    obtain ⟨b, off, e, h1, h2⟩ := h.2 hn
    exact ⟨b, off, e, Nat.lt_of_lt_of_le h1 hb.size, fun j hj => (hb.cell h1).trans (h2 j hj)⟩⟩
theorem IIn.at_ {w : World} {A : Option Addr} {n : Nat} {zs : List Int} (h : IIn w A n zs) {k : Nat} (hk : k < n) :
    ∃ b off, A = some ⟨b, off, none⟩ ∧ b < w.heap.size ∧ w.cell? ⟨b, off + k, none⟩ = some (.int .i64 (zs.getD k 0)) := by
  obtain ⟨b, off, e, h1, h2⟩ := h.2 (by omega)
  exact ⟨b, off, e, h1, h2 k hk⟩
end Go.Proofs.YtjdoegekolbdpaaDoor
