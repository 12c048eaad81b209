/- Plain theory of the keys of a table in their order: insertion from the right keeps the keys and sorts them. No program, no conditions. -/
import Derived.Test.YtjdoegekolbdpaaDoorTabP
import Derived.Test.YtjdoegekolbdpaaDoorKeyS
namespace Go.Proofs.YtjdoegekolbdpaaDoor
open Go.RowKit
def kLt (a b : Int × Int) : Bool := kbB a.1 a.2 b.1 b.2
theorem kLt_iff {a b : Int × Int} : kLt a b = true ↔ a.1 < b.1 ∨ a.1 = b.1 ∧ a.2 < b.2 := kbB_iff
theorem kLt_no {a b : Int × Int} : kLt a b = false ↔ ¬ (a.1 < b.1 ∨ a.1 = b.1 ∧ a.2 < b.2) := by rw [← Bool.not_eq_true, kLt_iff]
def kat (l : List (Int × Int)) (i : Nat) : Int × Int := l.getD i (0, 0)
/-- sorted -/
def Srt (l : List (Int × Int)) : Prop := ∀ i j, i < j → j < l.length → kLt (kat l j) (kat l i) = false
/-- sorted but for the place k, whose key may be too far to the right -/
def Bub (l : List (Int × Int)) (k : Nat) : Prop := ∀ i j, i < j → j < l.length → j = k ∨ kLt (kat l j) (kat l i) = false
theorem kat_app_l {l : List (Int × Int)} {x : Int × Int} {i : Nat} (h : i < l.length) : kat (l ++ [x]) i = kat l i := by
  unfold kat
  rw [List.getD_eq_getElem?_getD, List.getD_eq_getElem?_getD, List.getElem?_append_left h]
theorem Srt.nil : Srt [] := fun i j _ h => by simp at h
theorem Bub.start {l : List (Int × Int)} (x : Int × Int) (h : Srt l) : Bub (l ++ [x]) l.length := by
  intro i j hij hj
  rw [List.length_append] at hj
  simp at hj
  rcases Nat.lt_or_ge j l.length with hl | hl
  · rw [kat_app_l hl, kat_app_l (by omega)]
    exact .inr (h i j hij hl)
  · exact .inl (by omega)
theorem Bub.zero {l : List (Int × Int)} (h : Bub l 0) : Srt l := fun i j hij hj => by
  rcases h i j hij hj with e | e
  · omega
  · exact e
theorem Bub.stop {l : List (Int × Int)} {k : Nat} (h : Bub l k) (hk : 0 < k) (hn : kLt (kat l k) (kat l (k - 1)) = false) : Srt l := fun i j hij hj => by
  rcases h i j hij hj with e | e
  · subst e
    rcases Nat.lt_or_ge i (j - 1) with hi | hi
    · rcases h i (j - 1) hi (by omega) with e | e
      · omega
      · rw [kLt_no] at *; omega
    · rw [show i = j - 1 by omega]; exact hn
  · exact e
/-- the two keys change places -/
def kswap (l : List (Int × Int)) (k : Nat) : List (Int × Int) := (l.set k (kat l (k - 1))).set (k - 1) (kat l k)
theorem kswap_len (l : List (Int × Int)) (k : Nat) : (kswap l k).length = l.length := by simp [kswap]
theorem kat_set {l : List (Int × Int)} {k i : Nat} {x : Int × Int} (hk : k < l.length) : kat (l.set k x) i = if i = k then x else kat l i := by
  unfold kat
  rw [List.getD_eq_getElem?_getD, List.getElem?_set]
  by_cases h : k = i
  · subst h; rw [if_pos rfl, if_pos rfl, if_pos hk]; rfl
  · rw [if_neg h, if_neg (fun e => h e.symm), List.getD_eq_getElem?_getD]
theorem kat_kswap {l : List (Int × Int)} {k i : Nat} (h0 : 0 < k) (hk : k < l.length) : kat (kswap l k) i = if i = k - 1 then kat l k else if i = k then kat l (k - 1) else kat l i := by
  unfold kswap
  rw [kat_set (by rw [List.length_set]; omega), kat_set hk]
theorem kswap_perm {l : List (Int × Int)} {k : Nat} (h0 : 0 < k) (hk : k < l.length) : (kswap l k).Perm l := by
  have h := @List.set_set_perm (Int × Int) l k (k - 1) hk (by omega)
  unfold kswap kat
  rw [List.getD_eq_getElem?_getD, List.getD_eq_getElem?_getD, List.getElem?_eq_getElem hk, List.getElem?_eq_getElem (by omega)]
  exact h
theorem Bub.swap {l : List (Int × Int)} {k : Nat} (h : Bub l k) (h0 : 0 < k) (hk : k < l.length) (hy : kLt (kat l k) (kat l (k - 1)) = true) : Bub (kswap l k) (k - 1) := by
  intro i j hij hj
  rw [kswap_len] at hj
  by_cases hj1 : j = k - 1
  · exact .inl hj1
  · refine .inr ?_
    rw [kat_kswap h0 hk, kat_kswap h0 hk, if_neg hj1]
    by_cases hjk : j = k
    · subst hjk
      rw [if_pos rfl]
      by_cases hi : i = j - 1
      · rw [if_pos hi]; rw [kLt_iff] at hy; rw [kLt_no]; omega
      · rw [if_neg hi, if_neg (by omega)]
        rcases h i (j - 1) (by omega) (by omega) with e | e
        · omega
        · exact e
    · rw [if_neg hjk]
      have q : ∀ i, i < j → kLt (kat l j) (kat l i) = false := fun i hi => by
        rcases h i j hi hj with e | e
        · omega
        · exact e
      by_cases hi : i = k - 1
      · rw [if_pos hi]; exact q k (by omega)
      · rw [if_neg hi]
        by_cases hi2 : i = k
        · rw [if_pos hi2]; exact q _ (by omega)
        · rw [if_neg hi2]; exact q i hij
theorem Srt.pw {l : List (Int × Int)} (h : Srt l) : l.Pairwise (fun a b => kLt b a = false) := by
  rw [List.pairwise_iff_getElem]
  intro i j hi hj hij
  have := h i j hij hj
  unfold kat at this
  rw [List.getD_eq_getElem?_getD, List.getD_eq_getElem?_getD, List.getElem?_eq_getElem hi, List.getElem?_eq_getElem hj] at this
  exact this
theorem Srt.of_pw {l : List (Int × Int)} (h : l.Pairwise (fun a b => kLt b a = false)) : Srt l := by
  intro i j hij hj
  rw [List.pairwise_iff_getElem] at h
  have := h i j (by omega) hj hij
  unfold kat
  rw [List.getD_eq_getElem?_getD, List.getD_eq_getElem?_getD, List.getElem?_eq_getElem (show i < l.length by omega), List.getElem?_eq_getElem hj]
  exact this
/-- the keys of a valid table, in their order -/
def ksOf (bk : List Int) (fs : List Fr) : List (Int × Int) := if tvB bk fs = true then (ukeys fs).mergeSort (fun a b => !kLt b a) else []
theorem ms_srt (l : List (Int × Int)) : Srt (l.mergeSort (fun a b => !kLt b a)) := by
  have := List.pairwise_mergeSort (le := fun a b : Int × Int => !kLt b a) (fun a b c h1 h2 => by simp only [Bool.not_eq_true', kLt_no] at *; omega) (fun a b => by
    rcases h : kLt b a with _ | _
    · rfl
    · rw [kLt_iff] at h
      have : kLt a b = false := by rw [kLt_no]; omega
      simp [this]) l
  exact .of_pw (this.imp fun h => by simpa using h)
/-- sorted keys that are a table's keys are its list -/
theorem ksOf_uniq {bk : List Int} {fs : List Fr} (htv : tvB bk fs = true) {l : List (Int × Int)} (h1 : Srt l) (h2 : l.Perm (ukeys fs)) : l = ksOf bk fs := by
  unfold ksOf
  rw [if_pos htv]
  refine List.Perm.eq_of_pairwise (le := fun a b => kLt b a = false) ?_ h1.pw (ms_srt _).pw (h2.trans (List.mergeSort_perm _ _).symm)
  intro a b _ _ e1 e2
  rw [kLt_no] at e1 e2
  exact Prod.ext (by omega) (by omega)
theorem ksOf_no {bk : List Int} {fs : List Fr} (h : ¬ tvB bk fs = true) : ksOf bk fs = [] := by unfold ksOf; rw [if_neg h]
theorem ksOf_perm {bk : List Int} {fs : List Fr} (htv : tvB bk fs = true) : (ksOf bk fs).Perm (ukeys fs) := by unfold ksOf; rw [if_pos htv]; exact List.mergeSort_perm _ _
theorem ksOf_srt (bk : List Int) (fs : List Fr) : Srt (ksOf bk fs) := by
  unfold ksOf
  split
  · exact ms_srt _
  · exact .nil
theorem ksOf_len (bk : List Int) (fs : List Fr) : (ksOf bk fs).length ≤ fs.length := by
  unfold ksOf
  split
  · rw [List.length_mergeSort]; unfold ukeys; rw [List.length_map]; exact List.length_filter_le _ _
  · simp
theorem kcells_snoc (ks : List (Int × Int)) (s p : Int) : kcells ks ++ [.int .i64 s, .int .i64 p] = kcells (ks ++ [(s, p)]) := by simp [kcells]
theorem kcells_swap (ks : List (Int × Int)) (k : Nat) : (((((kcells ks).set (k * 2) (.int .i64 (kat ks (k - 1)).1)).set (k * 2 + 1) (.int .i64 (kat ks (k - 1)).2)).set ((k - 1) * 2) (.int .i64 (kat ks k).1)).set ((k - 1) * 2 + 1) (.int .i64 (kat ks k).2)) = kcells (kswap ks k) := by
  rw [kcells_set, kcells_set]; rfl
theorem own_stored {w : World} {base : Nat} {e : TypeId} {size g n cap : Nat} {xs : List Value} (h : w.ownsRow base e size (.slice (some ⟨g, 0, none⟩) n cap) n xs) (j : Nat) (u : Value) : (w.setCell ⟨g, j, none⟩ u).ownsRow base e size (.slice (some ⟨g, 0, none⟩) n cap) n (xs.set j u) := by
  rcases h.2 with ⟨h0, _⟩ | ⟨g', cap', cur, hv, hb, hg, hn, hc, hs, ht⟩
  · cases h0
  · cases hv
    exact ⟨by simpa using h.1, .inr ⟨g, cap, cur.setIfInBounds j u, rfl, hb, Joins.block_setCell hg u, hn, hc, by simpa using hs, by rw [Array.toList_setIfInBounds, ← ht, List.take_set]⟩⟩
theorem own_empty {w : World} {base : Nat} {e : TypeId} {size g : Nat} (hg : w.heap[g]? = some (.cells #[] e (0, 0))) (hb : base ≤ g) : w.ownsRow base e size (.slice (some ⟨g, 0, none⟩) 0 0) 0 [] :=
  ⟨by simp, .inr ⟨g, 0, #[], rfl, hb, hg, Nat.le_refl _, by unfold maxLen; omega, by simp, by simp⟩⟩
end Go.Proofs.YtjdoegekolbdpaaDoor
