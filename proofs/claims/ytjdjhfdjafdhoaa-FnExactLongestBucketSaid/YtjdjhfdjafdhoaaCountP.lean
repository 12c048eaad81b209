/- Plain facts on counts of keys in buckets. No conditions. -/
import Derived.Test.YtjdjhfdjafdhoaaLongest
namespace Go.Proofs.Ytjdjhfdjafdhoaa
open Go.ChangeShapes Go.WideShapes Go.ChangeAt Go.RowKit
theorem hash_half' (s p b : Int) : hashN s p (2 * b) / 2 = hashN s p b := by
  unfold hashN
  generalize hashM s p = m
  rw [Int.ediv_ediv_of_nonneg (by omega), show m * (2 * b) = (m * b) * 2 by rw [Int.mul_comm 2 b, Int.mul_assoc]]
  exact Int.mul_ediv_mul_of_pos_left _ _ (by omega)
theorem cnt_cons (k : Int × Int) (ks : List (Int × Int)) (b : Int) (j : Nat) : cnt (k :: ks) b j = cnt ks b j + (if hashN k.1 k.2 b = (j : Int) then 1 else 0) := by
  unfold cnt
  rw [List.filter_cons]
  by_cases h : hashN k.1 k.2 b = (j : Int) <;> simp [h]
theorem cnt_split (ks : List (Int × Int)) (b : Int) (j : Nat) : cnt ks b j = cnt ks (2 * b) (2 * j) + cnt ks (2 * b) (2 * j + 1) := by
  induction ks with
  | nil => simp [cnt]
  | cons k ks ih =>
    rw [cnt_cons, cnt_cons, cnt_cons, ih]
    have h := hash_half' k.1 k.2 b
    generalize hashN k.1 k.2 b = x at *
    generalize hashN k.1 k.2 (2 * b) = y at *
    by_cases h1 : y = ((2 * j : Nat) : Int)
    · rw [if_pos (show x = (j : Int) by omega), if_pos h1, if_neg (by omega)]; omega
    · by_cases h2 : y = ((2 * j + 1 : Nat) : Int)
      · rw [if_pos (show x = (j : Int) by omega), if_neg h1, if_pos h2]; omega
      · rw [if_neg (show ¬ x = (j : Int) by omega), if_neg h1, if_neg h2]; omega
theorem mx_of {ks : List (Int × Int)} {b j : Nat} (h : j < b) : (cnt ks b j : Int) ≤ mxL (cntL ks b) :=
  (mxL_ge _).2 _ (List.mem_map.2 ⟨j, List.mem_range.2 h, rfl⟩)
theorem mx_attained {ks : List (Int × Int)} {b : Nat} (h : 1 ≤ b) : ∃ j, j < b ∧ mxL (cntL ks b) = cnt ks b j := by
  rcases mxL_mem (cntL ks b) with h0 | h0
  · refine ⟨0, by omega, ?_⟩
    have := mx_of (ks := ks) (b := b) (j := 0) (by omega)
    omega
  · unfold cntL at h0
    obtain ⟨j, h1, h2⟩ := List.mem_map.1 h0
    exact ⟨j, List.mem_range.1 h1, h2.symm⟩
theorem mx_half {ks : List (Int × Int)} {b : Nat} (h : 1 ≤ b) : mxL (cntL ks (2 * b)) ≤ mxL (cntL ks b) ∧ mxL (cntL ks b) ≤ 2 * mxL (cntL ks (2 * b)) := by
  have e : ((2 * b : Nat) : Int) = 2 * (b : Int) := by omega
  constructor
  · obtain ⟨i, hi, he⟩ := mx_attained (ks := ks) (b := 2 * b) (by omega)
    have h2 := mx_of (ks := ks) (b := b) (j := i / 2) (by omega)
    have h3 := cnt_split ks b (i / 2)
    rw [e] at he
    rcases (show i = 2 * (i / 2) ∨ i = 2 * (i / 2) + 1 from by omega) with h4 | h4
    · rw [← h4] at h3; omega
    · rw [← h4] at h3; omega
  · obtain ⟨j, hj, he⟩ := mx_attained (ks := ks) (b := b) h
    have h1 := mx_of (ks := ks) (b := 2 * b) (j := 2 * j) (by omega)
    have h2 := mx_of (ks := ks) (b := 2 * b) (j := 2 * j + 1) (by omega)
    have h3 := cnt_split ks b j
    rw [e] at h1 h2
    omega
theorem sum_zero (b : Nat) : ((List.range b).map fun (_ : Nat) => (0 : Int)).sum = 0 := by
  induction b with
  | zero => rfl
  | succ b ih => rw [List.range_succ, List.map_append, List.sum_append, ih]; rfl
theorem sum_one (x : Int) (b : Nat) : ((List.range b).map fun (j : Nat) => if x = (j : Int) then (1 : Int) else 0).sum = if 0 ≤ x ∧ x < b then 1 else 0 := by
  induction b with
  | zero => simp
  | succ b ih =>
    rw [List.range_succ, List.map_append, List.sum_append, ih]
    simp only [List.map_cons, List.map_nil, List.sum_cons, List.sum_nil, Int.add_zero]
    by_cases h1 : x = (b : Int)
    · rw [if_pos h1, if_neg (by omega), if_pos (by omega)]; rfl
    · rw [if_neg h1]
      by_cases h2 : 0 ≤ x ∧ x < b
      · rw [if_pos h2, if_pos (by omega)]; rfl
      · rw [if_neg h2, if_neg (by omega)]; rfl
theorem sum_add (f g : Nat → Int) (b : Nat) : ((List.range b).map fun j => f j + g j).sum = ((List.range b).map f).sum + ((List.range b).map g).sum := by
  induction b with
  | zero => rfl
  | succ b ih => simp only [List.range_succ, List.map_append, List.sum_append, ih, List.map_cons, List.map_nil, List.sum_cons, List.sum_nil]; omega
theorem cnt_sum (ks : List (Int × Int)) (b : Nat) (h : 1 ≤ b) : (cntL ks b).sum = ks.length := by
  induction ks with
  | nil => unfold cntL; simp only [cnt, List.filter_nil, List.length_nil]; exact sum_zero b
  | cons k ks ih =>
    have e : cntL (k :: ks) b = (List.range b).map fun (j : Nat) => (cnt ks b j : Int) + (if hashN k.1 k.2 b = (j : Int) then (1 : Int) else 0) := by
      unfold cntL
      refine List.map_congr_left fun j _ => ?_
      rw [cnt_cons]
      split <;> simp
    have ih' : ((List.range b).map fun (j : Nat) => (cnt ks b j : Int)).sum = ks.length := ih
    rw [e, sum_add, ih', sum_one, if_pos (hashN_range (by omega))]
    simp
theorem sum_le (zs : List Int) : (∀ x ∈ zs, 0 ≤ x) → ∀ m, (∀ x ∈ zs, x ≤ m) → 0 ≤ zs.sum ∧ zs.sum ≤ m * zs.length ∧ ∀ x ∈ zs, x ≤ zs.sum := by
  induction zs with
  | nil => intro _ m _; simp
  | cons z zs ih =>
    intro h0 m hm
    obtain ⟨a1, a2, a3⟩ := ih (fun x hx => h0 x (List.mem_cons_of_mem _ hx)) m (fun x hx => hm x (List.mem_cons_of_mem _ hx))
    have b1 := h0 z List.mem_cons_self
    have b2 := hm z List.mem_cons_self
    simp only [List.sum_cons, List.length_cons]
    refine ⟨by omega, ?_, fun x hx => ?_⟩
    · have : m * ((zs.length + 1 : Nat) : Int) = m * (zs.length : Int) + m := by push_cast; rw [Int.mul_add]; omega
      omega
    · rcases List.mem_cons.1 hx with rfl | hx
      · omega
      · have := a3 x hx; omega
theorem take_sum (zs : List Int) (h : ∀ x ∈ zs, 0 ≤ x) (k : Nat) : 0 ≤ (zs.take k).sum ∧ (zs.take k).sum ≤ zs.sum := by
  have e : zs.sum = (zs.take k).sum + (zs.drop k).sum := by rw [← List.sum_append, List.take_append_drop]
  have h1 := (sum_le (zs.take k) (fun x hx => h x (List.mem_of_mem_take hx)) (mxL zs) (fun x hx => (mxL_ge zs).2 x (List.mem_of_mem_take hx))).1
  have h2 := (sum_le (zs.drop k) (fun x hx => h x (List.mem_of_mem_drop hx)) (mxL zs) (fun x hx => (mxL_ge zs).2 x (List.mem_of_mem_drop hx))).1
  omega
theorem mx_sum (ks : List (Int × Int)) (b : Nat) (h : 1 ≤ b) : (ks.length : Int) ≤ mxL (cntL ks b) * b ∧ mxL (cntL ks b) ≤ ks.length := by
  have h1 := (sum_le (cntL ks b) (cntL_pos ks b) (mxL (cntL ks b)) (mxL_ge _).2).2.1
  rw [cnt_sum ks b h, cntL_len] at h1
  exact ⟨h1, (mx_range ks b).2⟩
theorem bst_best (ks : List (Int × Int)) (K : Nat) : ∀ k, 1 ≤ k → k ≤ K → mxL (cntL ks (bst ks K)) ≤ mxL (cntL ks k) ∧ (k < bst ks K → mxL (cntL ks (bst ks K)) < mxL (cntL ks k)) := by
  induction K with
  | zero => intro k h1 h2; omega
  | succ K ih =>
    intro k h1 h2
    have hr := bst_range ks K
    unfold bst
    by_cases hlt : mxL (cntL ks (K + 1)) < mxL (cntL ks (bst ks K))
    · rw [if_pos hlt]
      by_cases hk : k = K + 1
      · subst hk; exact ⟨Int.le_refl _, fun h => absurd h (Nat.lt_irrefl _)⟩
      · have := ih k h1 (by omega)
        exact ⟨by omega, fun _ => by omega⟩
    · rw [if_neg hlt]
      by_cases hk : k = K + 1
      · subst hk
        refine ⟨by omega, fun h => ?_⟩
        rcases hr.2 with h3 | h3 <;> omega
      · exact ih k h1 (by omega)
theorem mx_single {ks : List (Int × Int)} (h : ks.length ≤ 1) {b : Nat} (hb : 1 ≤ b) : mxL (cntL ks b) = ks.length := by
  have h1 := mx_sum ks b hb
  match ks, h with
  | [], _ =>
    have := (mx_range [] b).1
    simp at h1 ⊢; omega
  | [k], _ =>
    have hh := hashN_range (s := k.1) (p := k.2) (b := b) (by omega)
    obtain ⟨x, hx⟩ := Int.eq_ofNat_of_zero_le hh.1
    have h2 := mx_of (ks := [k]) (b := b) (j := x) (by omega)
    have h3 : cnt [k] b x = 1 := by rw [cnt_cons, if_pos hx]; simp [cnt]
    simp at h1 ⊢; omega
theorem bst_single {ks : List (Int × Int)} (h : ks.length ≤ 1) (K : Nat) : bst ks K = 1 := by
  induction K with
  | zero => rfl
  | succ K ih =>
    unfold bst
    rw [ih, mx_single h (by omega), mx_single h (by omega), if_neg (by omega)]
theorem kaB_take {ks : List (Int × Int)} (h : kaB ks = true) (m : Nat) : kaB (ks.take m) = true := by
  simp only [kaB, Bool.and_eq_true, decide_eq_true_eq, List.all_eq_true] at h ⊢
  exact ⟨⟨by simp; omega, fun x hx => h.1.2 x (List.mem_of_mem_take hx)⟩, h.2.sublist (List.take_sublist _ _)⟩
theorem nodup_rev {α : Type} (l : List α) : l.reverse.Nodup ↔ l.Nodup := by
  unfold List.Nodup; rw [List.pairwise_reverse]; exact ⟨fun h => h.imp fun h => Ne.symm h, fun h => h.imp fun h => Ne.symm h⟩
theorem kaB_reverse (ks : List (Int × Int)) : kaB ks.reverse = kaB ks := by
  rw [Bool.eq_iff_iff]
  simp only [kaB, Bool.and_eq_true, decide_eq_true_eq, List.all_eq_true, List.length_reverse, List.mem_reverse, nodup_rev]
theorem cntL_reverse (ks : List (Int × Int)) (b : Nat) : cntL ks.reverse b = cntL ks b := by
  unfold cntL cnt
  refine List.map_congr_left fun j _ => ?_
  rw [List.filter_reverse, List.length_reverse]
theorem cb_reverse (ks : List (Int × Int)) (b : Int) : cbOk ks.reverse b = cbOk ks b ∧ cbL ks.reverse b = cbL ks b := by
  have h : cbOk ks.reverse b = cbOk ks b := by unfold cbOk; rw [kaB_reverse]
  exact ⟨h, by unfold cbL; rw [h, cntL_reverse]⟩
theorem cnt_last {ks : List (Int × Int)} (h : 0 < ks.length) (b : Int) (j : Nat) : cnt ks b j = cnt (ks.take (ks.length - 1)) b j + (if hashN (ks.getD (ks.length - 1) (0, 0)).1 (ks.getD (ks.length - 1) (0, 0)).2 b = (j : Int) then 1 else 0) := by
  have e := take_snoc' ks (0, 0) (ks.length - 1) (by omega)
  rw [show ks.length - 1 + 1 = ks.length by omega, List.take_length] at e
  conv => lhs; rw [e]
  unfold cnt
  rw [List.filter_append, List.length_append]
  congr 1
  by_cases hh : hashN (ks.getD (ks.length - 1) (0, 0)).1 (ks.getD (ks.length - 1) (0, 0)).2 b = (j : Int)
  · rw [if_pos hh]; simp only [List.filter_cons, hh, List.filter_nil, BEq.rfl, if_true]; rfl
  · rw [if_neg hh]; simp only [List.filter_cons, List.filter_nil]; rw [if_neg (by simpa using hh)]; rfl
end Go.Proofs.Ytjdjhfdjafdhoaa
