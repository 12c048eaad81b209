/- Contracts of the laws' helpers on slices of keys. No conditions but lengths of at most 1048576. -/
import Derived.Test.YtjdoegekolbdpaaDoorBase
import Derived.Test.YtjdoegekolbdpaaDoorMem
namespace Go.Proofs.YtjdoegekolbdpaaDoor
open Go.ChangeShapes Go.WideShapes Go.ChangeAt Go.RowKit

/-- keys as cells -/
def kcells (ks : List (Int × Int)) : List Value := ks.flatMap fun k => [.int .i64 k.1, .int .i64 k.2]
theorem kcells_len (ks : List (Int × Int)) : (kcells ks).length = ks.length * 2 := by
  induction ks with
  | nil => rfl
  | cons k ks ih => simp only [kcells, List.flatMap_cons, List.length_append] at ih ⊢; rw [ih]; simp; omega
theorem kcells_at (ks : List (Int × Int)) : ∀ j, j < ks.length → (kcells ks)[j * 2]? = some (.int .i64 (ks.getD j (0, 0)).1) ∧ (kcells ks)[j * 2 + 1]? = some (.int .i64 (ks.getD j (0, 0)).2) := by
  induction ks with
  | nil => intro j h; simp at h
  | cons k ks ih =>
    intro j hj
    have e : kcells (k :: ks) = .int .i64 k.1 :: .int .i64 k.2 :: kcells ks := rfl
    rw [e]
    cases j with
    | zero => simp
    | succ j =>
      have := ih j (by simpa using hj)
      rw [show (j + 1) * 2 = j * 2 + 1 + 1 by omega]
      simpa using this
theorem Sl.key {w : World} {lo hi n : Nat} {e : TypeId} {A : Option Addr} {ks : List (Int × Int)} (h : Sl w lo hi e 2 A n (kcells ks)) {k : Nat} (hk : k < n) :
    ∃ g, A = some ⟨g, 0, none⟩ ∧ lo ≤ g ∧ g < hi ∧ g < w.heap.size ∧ w.cell? ⟨g, k * 2, none⟩ = some (.int .i64 (ks.getD k (0, 0)).1) ∧ w.cell? ⟨g, k * 2 + 1, none⟩ = some (.int .i64 (ks.getD k (0, 0)).2) ∧ ∀ o, w.frozen? ⟨g, o, none⟩ = false := by
  obtain ⟨g, cur, rfl, h1, h2, h3, h4⟩ := h.2 (by omega)
  have hl : k < ks.length := by have := h.1; rw [kcells_len] at this; omega
  have c := fun i (hi : i < n * 2) => (show w.cell? ⟨g, i, none⟩ = (kcells ks)[i]? by rw [Joins.cell_of_block h3, ← h4, List.getElem?_take_of_lt hi]; simp)
  refine ⟨g, rfl, h1, h2, block_lt h3, ?_, ?_, fun o => Joins.unfrozen_of_block h3 o⟩
  · rw [c _ (by omega)]; exact (kcells_at ks k hl).1
  · rw [c _ (by omega)]; exact (kcells_at ks k hl).2
theorem kcells_take (ks : List (Int × Int)) : ∀ m, kcells (ks.take m) = (kcells ks).take (m * 2) := by
  induction ks with
  | nil => intro m; simp [kcells]
  | cons k ks ih =>
    intro m
    have e : ∀ k ks, kcells (k :: ks) = .int .i64 k.1 :: .int .i64 k.2 :: kcells ks := fun _ _ => rfl
    cases m with
    | zero => simp [kcells]
    | succ m => rw [List.take_succ_cons, e, e, ih, show (m + 1) * 2 = m * 2 + 1 + 1 by omega]; simp
theorem Sl.pre {w : World} {lo hi n m : Nat} {e : TypeId} {A : Option Addr} {ks : List (Int × Int)} (h : Sl w lo hi e 2 A n (kcells ks)) (hm : m ≤ n) : Sl w lo hi e 2 A m (kcells (ks.take m)) := by
  have h1 := h.1
  rw [kcells_len] at h1
  refine ⟨by rw [kcells_len, List.length_take]; omega, fun h0 => ?_⟩
  obtain ⟨g, cur, e1, a1, a2, a3, a4⟩ := h.2 (by omega)
  refine ⟨g, cur, e1, a1, a2, a3, ?_⟩
  rw [kcells_take, ← a4, List.take_take]
  congr 1; omega
/-- keys that came in -/
def KIn (w : World) (A : Option Addr) (n : Nat) (ks : List (Int × Int)) : Prop :=
  ks.length = n ∧ (0 < n → ∃ b off, A = some ⟨b, off, none⟩ ∧ b < w.heap.size ∧ ∀ j, j < n → w.cell? ⟨b, off + j * 2, none⟩ = some (.int .i64 (ks.getD j (0, 0)).1) ∧ w.cell? ⟨b, off + j * 2 + 1, none⟩ = some (.int .i64 (ks.getD j (0, 0)).2))
theorem KIn.below {w w' : World} {A : Option Addr} {n : Nat} {ks : List (Int × Int)} (h : KIn w A n ks) (hb : Below w.heap.size w w') : KIn w' A n ks :=
  ⟨h.1, fun hn => by
    obtain ⟨b, off, e, h1, h2⟩ := h.2 hn
    exact ⟨b, off, e, Nat.lt_of_lt_of_le h1 hb.size, fun j hj => ⟨(hb.cell h1).trans (h2 j hj).1, (hb.cell h1).trans (h2 j hj).2⟩⟩⟩
theorem KIn.at_ {w : World} {A : Option Addr} {n : Nat} {ks : List (Int × Int)} (h : KIn w A n ks) {k : Nat} (hk : k < n) :
    ∃ b off, A = some ⟨b, off, none⟩ ∧ b < w.heap.size ∧ w.cell? ⟨b, off + k * 2, none⟩ = some (.int .i64 (ks.getD k (0, 0)).1) ∧ w.cell? ⟨b, off + k * 2 + 1, none⟩ = some (.int .i64 (ks.getD k (0, 0)).2) := by
  obtain ⟨b, off, e, h1, h2⟩ := h.2 (by omega)
  exact ⟨b, off, e, h1, (h2 k hk).1, (h2 k hk).2⟩

/-- a slice of keys that came in -/
def ArgKeys (w : World) (A : Option Addr) (n c : Nat) : Prop := (∃ ks, KIn w A n ks) ∧ n ≤ c ∧ c ≤ maxLen
theorem argKeys_mk {w : World} {a : Addr} {n c : Nat} (h1 : n ≤ c) (h2 : c ≤ maxLen) (h : ∀ i, i < n → ∃ x y : Int, w.cell? (a.add (i * 2)) = some (.int .i64 x) ∧ w.cell? (a.add (i * 2 + 1)) = some (.int .i64 y)) : ArgKeys w (some a) n c := by
  refine ⟨?_, h1, h2⟩
  obtain ⟨f, hf⟩ := Classical.axiomOfChoice (fun (i : Fin n) => h i.val i.isLt)
  obtain ⟨f2, hf2⟩ := Classical.axiomOfChoice hf
  refine ⟨(List.finRange n).map fun i => (f i, f2 i), by simp, fun hn => ?_⟩
  obtain ⟨b, off, spot⟩ := a
  have h0 := (hf2 ⟨0, hn⟩).1
  have hspot : spot = none := by simpa [Addr.add] using World.cell?_spot h0
  subst hspot
  refine ⟨b, off, rfl, World.block_lt_of_cell? w _ (by simpa [Addr.add] using h0), fun j hj => ?_⟩
  have e : ∀ k, (⟨b, off, none⟩ : Addr).add k = ⟨b, off + k, none⟩ := by intro k; unfold Addr.add; split <;> simp_all
  have hk := hf2 ⟨j, hj⟩
  simp only [e] at hk
  have eg : ((List.finRange n).map fun i => (f i, f2 i)).getD j (0, 0) = (f ⟨j, hj⟩, f2 ⟨j, hj⟩) := by simp [List.getD_eq_getElem?_getD, hj]
  rw [eg]
  exact ⟨hk.1, by rw [← hk.2]; congr 2⟩
theorem laws_eqKey (s p : Int) (w : World) : Calls Tryd.prog 65 #[.agg #[.int .i64 s, .int .i64 p], .agg #[.int .i64 s, .int .i64 p]] w fun r w' => r = .returned (.bool true) ∧ Below w.heap.size w w' := by
  go_enter Tryd.func65, Tryd.ntmps65
  go_wp2
  all_goals (go_ret; exact ⟨rfl, by (repeat' (first | with_reducible exact Below.refl _ _ | (with_reducible refine balloc ?_ _) | (with_reducible refine bset ?_ ?_ _) | (with_reducible refine bdrew ?_) | (with_reducible refine bdrewN ?_ _) | (with_reducible refine bstep ?_ (by with_reducible assumption)) | (with_reducible refine bgrow ?_ (by with_reducible assumption) (by omega)) | (simp; done) | (simp; omega)))⟩)
theorem laws_eqKeyS (A B : Option Addr) (n c d l1 h1 l2 h2 : Nat) (ks : List (Int × Int)) (w : World) (h : Sl w l1 h1 44 2 A n (kcells ks)) (h' : Sl w l2 h2 44 2 B n (kcells ks)) (hn : n ≤ 1048576) :
    Calls Tryd.prog 32 #[.slice A n c, .slice B n d] w fun e w' => e = .returned (.bool true) ∧ Below w.heap.size w w' := by
  have H := Lib.hid h
  have H' := Lib.hid h'
  clear h h'
  go_enter Tryd.func32, Tryd.ntmps32
  go_wp2
  go_loopw [5] (fun i wr => ∃ k : Nat, k ≤ n ∧ i = .int .i64 k ∧ Below w.heap.size w wr) (fun i _ => n - (intOf i).toNat)
  case atStart => exact ⟨0, Nat.zero_le _, rfl, by (repeat' (first | with_reducible exact Below.refl _ _ | (with_reducible refine balloc ?_ _) | (with_reducible refine bset ?_ ?_ _) | (with_reducible refine bdrew ?_) | (with_reducible refine bdrewN ?_ _) | (with_reducible refine bstep ?_ (by with_reducible assumption)) | (with_reducible refine bgrow ?_ (by with_reducible assumption) (by omega)) | (simp; done) | (simp; omega)))⟩
  case round =>
    obtain ⟨k, hk, rfl, hb⟩ := hrel
    by_cases hlt : k < n
    · obtain ⟨g, rfl, _, _, hg1, hg2, hg3, _⟩ := (H.out.below hb).key hlt
      obtain ⟨g', rfl, _, _, hg4, hg5, hg6, _⟩ := (H'.out.below hb).key hlt
      generalize ks.getD k (0, 0) = z at *
      have i1 : (0 : Int) ≤ (k : Int) := by omega
      have i2 : (k : Int) < (n : Int) := by omega
      obtain ⟨z1, z2⟩ := z
      simp only [] at hg2 hg3 hg5 hg6
      go_wp2
      go_region_held3 (fun W' => W'.cell? ⟨g, k * 2, none⟩ = some (.int .i64 z1) ∧ W'.cell? ⟨g, k * 2 + 1, none⟩ = some (.int .i64 z2) ∧ W'.cell? ⟨g', k * 2, none⟩ = some (.int .i64 z1) ∧ W'.cell? ⟨g', k * 2 + 1, none⟩ = some (.int .i64 z2)) (go_keep)
        (first | (go_at_call 65; refine (laws_eqKey _ _ _).mono ?_; rintro e w' ⟨rfl, hb7⟩; obtain ⟨hc, hf, hz⟩ := bel_at hb7 g (by first | assumption | simpa using hg1); obtain ⟨hc', hf', hz'⟩ := bel_at hb7 g' (by first | assumption | simpa using hg4)))
      go_wp2
      all_goals
        go_roundw
        case rel => exact ⟨k + 1, by omega, by go_num, by (repeat' (first | with_reducible exact Below.refl _ _ | (with_reducible refine balloc ?_ _) | (with_reducible refine bset ?_ ?_ _) | (with_reducible refine bdrew ?_) | (with_reducible refine bdrewN ?_ _) | (with_reducible refine bstep ?_ (by with_reducible assumption)) | (with_reducible refine bgrow ?_ (by with_reducible assumption) (by omega)) | (simp; done) | (simp; omega)))⟩
        case measure => simp [intOf]; omega
    · go_wp2
      go_ret
      exact ⟨rfl, hb⟩
theorem key_info : (Tryd.prog.info? 44).map (fun i => (i.zero, i.size, i.bytes)) = some (some (.agg #[.int .i64 0, .int .i64 0]), 2, 16) := by kernel_rfl
theorem kcells_set (ks : List (Int × Int)) (a b : Int) : ∀ j, ((kcells ks).set (j * 2) (.int .i64 a)).set (j * 2 + 1) (.int .i64 b) = kcells (ks.set j (a, b)) := by
  induction ks with
  | nil => intro j; rfl
  | cons k ks ih =>
    intro j
    have e : ∀ k ks, kcells (k :: ks) = .int .i64 k.1 :: .int .i64 k.2 :: kcells ks := fun _ _ => rfl
    cases j with
    | zero => rw [e]; simp [e]
    | succ j => rw [e, show (j + 1) * 2 = j * 2 + 1 + 1 by omega]; simp [e, ih]
theorem kcells_made (n : Nat) : (madeCells #[.int .i64 0, .int .i64 0] (n * 2)).toList = kcells (List.replicate n (0, 0)) := by
  have h := made_flat #[.int .i64 0, .int .i64 0] n
  simp only [List.size_toArray, List.length_cons, List.length_nil, Nat.zero_add, Nat.reduceAdd] at h
  rw [h]
  unfold kcells
  rw [List.flatMap_def, List.map_replicate]
theorem laws_markKeyS (A : Option Addr) (n c l1 h1 : Nat) (q : Int) (ks : List (Int × Int)) (w : World) (h : Sl w l1 h1 44 2 A n (kcells ks)) (hn : n ≤ 1048576) (q1 : 0 ≤ q) (q2 : q ≤ 100000000) :
    Calls Tryd.prog 35 #[.slice A n c, .int .i64 q] w fun e w' => e = .returned (.int .i64 (q + 2 * n)) ∧ Only l1 h1 w w' := by
  have H := Lib.hid h
  clear h
  go_enter Tryd.func35, Tryd.ntmps35
  go_wp2
  go_loopw [1, 5] (fun v i wr => ∃ (k : Nat) (xs : List Value), k ≤ n ∧ i = .int .i64 k ∧ v = .int .i64 (q + 2 * k) ∧ Sl wr l1 h1 44 2 A n xs ∧ Only l1 h1 w wr) (fun _ i _ => n - (intOf i).toNat)
  case atStart => exact ⟨0, _, Nat.zero_le _, rfl, by go_num, H.out, Only.refl _ _ _⟩
  case round =>
    obtain ⟨k, xs, hk, rfl, rfl, hs, ho⟩ := hrel
    by_cases hlt : k < n
    · have hxl := hs.1
      obtain ⟨g, rfl, hg0, hg0', hg1, hg2, hg3⟩ := hs.at_ (k := k * 2) (by omega) (by omega)
      obtain ⟨g', e, _, _, _, hg4, hg5⟩ := hs.at_ (k := k * 2 + 1) (by omega) (by omega)
      obtain rfl : g = g' := by simpa using e
      rw [List.getElem?_eq_getElem (by omega)] at hg2 hg4
      generalize xs[k * 2]'(by omega) = u1 at hg2
      generalize xs[k * 2 + 1]'(by omega) = u2 at hg4
      have R := Lib.hid (And.intro ((hs.stored (by omega) (k * 2) (.int .i64 (q + 2 * k))).stored (by omega) (k * 2 + 1) (.int .i64 (q + 2 * k + 1))) ((ho.setCell (p := ⟨g, k * 2, none⟩) hg0 hg0' (.int .i64 (q + 2 * k))).setCell (p := ⟨g, k * 2 + 1, none⟩) hg0 hg0' (.int .i64 (q + 2 * k + 1))))
      clear hs ho e hxl
      have i1 : (0 : Int) ≤ (k : Int) := by omega
      have i2 : (k : Int) < (n : Int) := by omega
      go_wp2
      go_roundw
      case rel => exact ⟨k + 1, _, by omega, by go_num, by go_num, R.out.1, R.out.2⟩
      case measure => simp [intOf]; omega
    · obtain rfl : k = n := by omega
      go_wp2
      go_ret
      exact ⟨rfl, ho⟩
end Go.Proofs.YtjdoegekolbdpaaDoor
