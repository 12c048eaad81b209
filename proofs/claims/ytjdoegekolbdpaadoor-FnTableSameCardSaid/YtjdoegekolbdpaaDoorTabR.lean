/- Plain law of rehashing: the table that is made anew from the frames of a valid table is valid, keeps the pages, and made anew once more stays the same. No program in sight. -/
import Derived.Test.YtjdoegekolbdpaaDoorTabM
namespace Go.Proofs.YtjdoegekolbdpaaDoor
def hix (f : Fr) (nb : Nat) : Nat := (hashN f.s f.p nb).toNat
/-- frame i gets the page of f, at the head of its chain -/
def lnk (t : List Int × List Fr) (f : Fr) (i : Nat) : List Int × List Fr :=
  (t.1.set (hix f t.1.length) (i : Int), t.2.set i ⟨true, f.s, f.p, f.r, t.1.getD (hix f t.1.length) 0⟩)
def newT (nf nb : Nat) : List Int × List Fr := (List.replicate nb (-1), List.replicate nf frN)
def rhs (fs : List Fr) (nb : Nat) : Nat → List Int × List Fr
  | 0 => newT fs.length nb
  | k + 1 => if (fat fs k).u = true then lnk (rhs fs nb k) (fat fs k) k else rhs fs nb k
theorem rhs_len (fs : List Fr) (nb k : Nat) : (rhs fs nb k).1.length = nb ∧ (rhs fs nb k).2.length = fs.length := by
  induction k with
  | zero => simp [rhs, newT]
  | succ k ih =>
    simp only [rhs]
    split
    · simp [lnk, ih]
    · exact ih
theorem fat_set {fs : List Fr} {i j : Nat} {f : Fr} (h : i < fs.length) : fat (fs.set i f) j = if i = j then f else fat fs j := by
  unfold fat
  rw [List.getD_eq_getElem?_getD, List.getElem?_set]
  by_cases e : i = j
  · subst e; simp [h]
  · simp [e, List.getD_eq_getElem?_getD]
theorem getD_set {bk : List Int} {i j : Nat} {x : Int} (h : i < bk.length) : (bk.set i x).getD j 0 = if i = j then x else bk.getD j 0 := by
  rw [List.getD_eq_getElem?_getD, List.getElem?_set]
  by_cases e : i = j
  · subst e; simp [h]
  · simp [e, List.getD_eq_getElem?_getD]
theorem hix_lt {f : Fr} {nb : Nat} (h : 1 ≤ nb) : hix f nb < nb ∧ ((hix f nb : Nat) : Int) = hashN f.s f.p nb := by
  have := @hashN_range f.s f.p (nb : Int) (by omega)
  unfold hix; omega
/-- what is known of each frame of the new table -/
theorem rhs_fat (fs : List Fr) (nb : Nat) : ∀ k, k ≤ fs.length → ∀ j, j < fs.length →
    ((j < k ∧ (fat fs j).u = true) → (fat (rhs fs nb k).2 j).u = true ∧ (fat (rhs fs nb k).2 j).s = (fat fs j).s ∧ (fat (rhs fs nb k).2 j).p = (fat fs j).p ∧ (fat (rhs fs nb k).2 j).r = (fat fs j).r) ∧
    (¬ (j < k ∧ (fat fs j).u = true) → fat (rhs fs nb k).2 j = frN) := by
  intro k
  induction k with
  | zero =>
    intro _ j hj
    refine ⟨fun h => absurd h.1 (Nat.not_lt_zero _), fun _ => ?_⟩
    simp [rhs, newT, fat, List.getD_eq_getElem?_getD, hj]
  | succ k ih =>
    intro hk j hj
    obtain ⟨h1, h2⟩ := ih (by omega) j hj
    simp only [rhs]
    by_cases hu : (fat fs k).u = true
    · rw [if_pos hu]
      have e : fat (lnk (rhs fs nb k) (fat fs k) k).2 j = if k = j then ⟨true, (fat fs k).s, (fat fs k).p, (fat fs k).r, (rhs fs nb k).1.getD (hix (fat fs k) (rhs fs nb k).1.length) 0⟩ else fat (rhs fs nb k).2 j := by
        unfold lnk
        exact fat_set (by rw [(rhs_len fs nb k).2]; omega)
      rw [e]
      by_cases hkj : k = j
      · subst hkj
        rw [if_pos rfl]
        exact ⟨fun _ => ⟨rfl, rfl, rfl, rfl⟩, fun h => absurd ⟨by omega, hu⟩ h⟩
      · rw [if_neg hkj]
        exact ⟨fun h => h1 ⟨by omega, h.2⟩, fun h => h2 (fun q => h ⟨by omega, q.2⟩)⟩
    · rw [if_neg hu]
      refine ⟨fun h => h1 ⟨?_, h.2⟩, fun h => h2 (fun q => h ⟨by omega, q.2⟩)⟩
      rcases Nat.lt_or_eq_of_le (Nat.le_of_lt_succ h.1) with q | rfl
      · exact q
      · exact absurd h.2 hu
/-- chains depend on their own frames alone -/
theorem chn_congr {fs fs' : List Fr} (hl : fs.length = fs'.length) : ∀ {k : Nat} {x : Int} {l : List Nat}, chn fs k x = some l → (∀ i ∈ l, fat fs' i = fat fs i) → chn fs' k x = some l := by
  intro k
  induction k with
  | zero =>
    intro x l h _
    by_cases hx : x = -1
    · subst hx; rw [chn_end] at h ⊢; exact h
    · rw [chn_zero hx] at h; cases h
  | succ k ih =>
    intro x l h hi
    by_cases hx : x = -1
    · subst hx; rw [chn_end] at h ⊢; exact h
    · rcases hs : stepOk fs x with _ | _
      · rw [chn_bad hx hs] at h; cases h
      · rw [chn_step hs] at h
        obtain ⟨l', h1, rfl⟩ := Option.map_eq_some_iff.1 h
        have e := hi x.toNat (by simp)
        have hs' : stepOk fs' x = true := by
          obtain ⟨a, b, c⟩ := stepOk_iff.1 hs
          exact stepOk_iff.2 ⟨a, by omega, by rw [e]; exact c⟩
        rw [chn_step hs', e, ih h1 (fun i hm => hi i (by simp [hm]))]
        rfl
/-- the frames of bucket b among the first k, the last first -/
def lk (fs : List Fr) (nb b : Nat) : Nat → List Nat
  | 0 => []
  | k + 1 => if (fat fs k).u = true ∧ hix (fat fs k) nb = b then k :: lk fs nb b k else lk fs nb b k
theorem lk_mem {fs : List Fr} {nb b k i : Nat} (h : i ∈ lk fs nb b k) : i < k ∧ (fat fs i).u = true ∧ hix (fat fs i) nb = b := by
  induction k with
  | zero => simp [lk] at h
  | succ k ih =>
    simp only [lk] at h
    split at h
    · rename_i q
      rcases List.mem_cons.1 h with rfl | h
      · exact ⟨by omega, q⟩
      · have := ih h; exact ⟨by omega, this.2⟩
    · have := ih h; exact ⟨by omega, this.2⟩
theorem lk_len (fs : List Fr) (nb b k : Nat) : (lk fs nb b k).length ≤ k := by
  induction k with
  | zero => simp [lk]
  | succ k ih =>
    simp only [lk]
    split
    · rw [List.length_cons]; omega
    · omega
theorem sum_ind (g : Nat → Nat) (c : Nat) : ∀ n, ((List.range n).map fun b => g b + if c = b then 1 else 0).sum = ((List.range n).map g).sum + if c < n then 1 else 0 := by
  intro n
  induction n with
  | zero => simp
  | succ n ih =>
    rw [List.range_succ, List.map_append, List.map_append, List.sum_append_nat, List.sum_append_nat, ih]
    simp only [List.map_cons, List.map_nil, List.sum_cons, List.sum_nil]
    have e1 : (if c < n + 1 then 1 else 0) = (if c < n then 1 else 0) + (if c = n then 1 else 0 : Nat) := by
      rcases Nat.lt_trichotomy c n with h | h | h
      · simp [h, show ¬ c = n by omega, show c < n + 1 by omega]
      · simp [h]
      · simp [show ¬ c = n by omega, show ¬ c < n + 1 by omega, show ¬ c < n by omega]
    rw [e1]; omega
theorem lk_sum (fs : List Fr) (nb : Nat) (hnb : 1 ≤ nb) : ∀ k, k ≤ fs.length → ((List.range nb).map fun b => (lk fs nb b k).length).sum = usedN (fs.take k) := by
  intro k
  induction k with
  | zero =>
    intro _
    have : ∀ n, ((List.range n).map fun _ : Nat => (0 : Nat)).sum = 0 := by
      intro n
      induction n with
      | zero => rfl
      | succ n ih => rw [List.range_succ, List.map_append, List.sum_append_nat, ih]; rfl
    simpa [lk, usedN] using this nb
  | succ k ih =>
    intro hk
    have h := ih (by omega)
    rw [take_fat (by omega)]
    unfold usedN at h ⊢
    rw [List.filter_append, List.length_append, ← h]
    rcases hu : (fat fs k).u with _ | _
    · simp [lk, hu]
    · have e : (fun b => (lk fs nb b (k + 1)).length) = fun b => (lk fs nb b k).length + if hix (fat fs k) nb = b then 1 else 0 := by
        funext b
        simp only [lk, hu, true_and]
        split <;> simp
      rw [e, sum_ind, if_pos (hix_lt hnb).1]
      simp [hu]
theorem rhs_chn (fs : List Fr) (nb : Nat) (hnb : 1 ≤ nb) : ∀ k, k ≤ fs.length → ∀ b, b < nb → chn (rhs fs nb k).2 (lk fs nb b k).length ((rhs fs nb k).1.getD b 0) = some (lk fs nb b k) := by
  intro k
  induction k with
  | zero =>
    intro _ b hb
    have : (rhs fs nb 0).1.getD b 0 = -1 := by simp [rhs, newT, List.getD_eq_getElem?_getD, hb]
    rw [this, chn_end]; rfl
  | succ k ih =>
    intro hk b hb
    have h := ih (by omega) b hb
    obtain ⟨l1, l2⟩ := rhs_len fs nb k
    simp only [rhs, lk]
    by_cases hu : (fat fs k).u = true
    · rw [if_pos hu]
      have hlen : (rhs fs nb k).2.length = (lnk (rhs fs nb k) (fat fs k) k).2.length := by simp [lnk]
      have hkeep : ∀ i, i < k → fat (lnk (rhs fs nb k) (fat fs k) k).2 i = fat (rhs fs nb k).2 i := by
        intro i hi
        unfold lnk
        rw [fat_set (by omega), if_neg (by omega)]
      have hold : chn (lnk (rhs fs nb k) (fat fs k) k).2 (lk fs nb b k).length ((rhs fs nb k).1.getD b 0) = some (lk fs nb b k) :=
        chn_congr hlen h (fun i hi => hkeep i (lk_mem hi).1)
      by_cases hb2 : hix (fat fs k) nb = b
      · rw [if_pos ⟨hu, hb2⟩]
        have e1 : (lnk (rhs fs nb k) (fat fs k) k).1.getD b 0 = (k : Int) := by
          unfold lnk
          rw [l1, hb2, getD_set (by omega), if_pos rfl]
        have e2 : fat (lnk (rhs fs nb k) (fat fs k) k).2 k = ⟨true, (fat fs k).s, (fat fs k).p, (fat fs k).r, (rhs fs nb k).1.getD b 0⟩ := by
          unfold lnk
          rw [fat_set (by omega), if_pos rfl, l1, hb2]
        have hs : stepOk (lnk (rhs fs nb k) (fat fs k) k).2 (k : Int) = true := stepOk_iff.2 ⟨by omega, by rw [← hlen, l2]; omega, by rw [Int.toNat_natCast, e2]⟩
        rw [e1, List.length_cons, chn_step hs, Int.toNat_natCast, e2, hold]
        rfl
      · rw [if_neg (fun q => hb2 q.2)]
        have e1 : (lnk (rhs fs nb k) (fat fs k) k).1.getD b 0 = (rhs fs nb k).1.getD b 0 := by
          unfold lnk
          rw [l1, getD_set (by have := (@hix_lt (fat fs k) nb hnb).1; omega), if_neg hb2]
        rw [e1]; exact hold
    · rw [if_neg hu, if_neg (fun q => hu q.1)]
      exact h
theorem usedN_eq (fs : List Fr) : usedN fs = (ukeys fs).length := by simp [usedN, ukeys]
theorem ukeys_fm (fs : List Fr) : ukeys fs = fs.filterMap fun f => if f.u = true then some (fkey f) else none := by
  unfold ukeys
  induction fs with
  | nil => rfl
  | cons f fs ih =>
    rcases hu : f.u with _ | _
    · simp [hu, ih]
    · simp [hu, ih]
theorem list_fat (fs : List Fr) : fs = (List.range fs.length).map (fat fs) := by
  apply List.ext_getElem?
  intro i
  by_cases h : i < fs.length
  · simp [h, fat, List.getD_eq_getElem?_getD]
  · simp [h]
theorem fm_congr {α β : Type} {f g : α → Option β} : ∀ (l : List α), (∀ x ∈ l, f x = g x) → l.filterMap f = l.filterMap g := by
  intro l
  induction l with
  | nil => intro _; rfl
  | cons a l ih =>
    intro h
    rw [List.filterMap_cons, List.filterMap_cons, h a List.mem_cons_self, ih (fun x hx => h x (List.mem_cons_of_mem _ hx))]
theorem ukeys_congr {fs fs' : List Fr} (hl : fs.length = fs'.length) (h : ∀ j, j < fs.length → (fat fs' j).u = (fat fs j).u ∧ ((fat fs j).u = true → fkey (fat fs' j) = fkey (fat fs j))) : ukeys fs' = ukeys fs := by
  rw [ukeys_fm, ukeys_fm, list_fat fs, list_fat fs', ← hl, List.filterMap_map, List.filterMap_map]
  apply fm_congr
  intro j hj
  obtain ⟨h1, h2⟩ := h j (List.mem_range.1 hj)
  simp only [Function.comp]
  rw [h1]
  split
  · rename_i q; rw [h2 q]
  · rfl
/-- what a rehashed table of a valid one is -/
def rT (fs : List Fr) (nb : Nat) : List Int × List Fr := rhs fs nb fs.length
structure Pages (fs fs' : List Fr) : Prop where
  len : fs'.length = fs.length
  at_ : ∀ j, j < fs.length → (fat fs' j).u = (fat fs j).u ∧ (fat fs' j).s = (fat fs j).s ∧ (fat fs' j).p = (fat fs j).p ∧ (fat fs' j).r = (fat fs j).r
theorem frOk_unused {f : Fr} (h : frOk f = true) (hu : f.u = false) : f = frN := by
  obtain ⟨u, s, p, r, x⟩ := f
  simp only at hu
  subst hu
  simp [frOk] at h
  obtain ⟨⟨⟨rfl, rfl⟩, rfl⟩, rfl⟩ := h
  rfl
theorem rT_pages {bk : List Int} {fs : List Fr} (nb : Nat) (h : tvB bk fs = true) : Pages fs (rT fs nb).2 := by
  have hok := (tvB_iff.1 h).2.1
  refine ⟨(rhs_len fs nb _).2, fun j hj => ?_⟩
  obtain ⟨h1, h2⟩ := rhs_fat fs nb fs.length (Nat.le_refl _) j hj
  unfold rT
  rcases hu : (fat fs j).u with _ | _
  · have e := frOk_unused (hok _ (fat_mem hj)) hu
    rw [h2 (fun q => by rw [hu] at q; cases q.2), e]
    exact ⟨rfl, rfl, rfl, rfl⟩
  · obtain ⟨a, b, c, d⟩ := h1 ⟨hj, hu⟩
    exact ⟨by rw [a], b, c, d⟩
theorem chn_le {fs : List Fr} {k : Nat} {x : Int} {l : List Nat} (h : chn fs k x = some l) (hk : k ≤ fs.length) : chn fs fs.length x = some l := chn_mono h _ hk
theorem rT_valid {bk : List Int} {fs : List Fr} {nb : Nat} (h : tvB bk fs = true) (h1 : 1 ≤ nb) (h2 : nb ≤ 16) : tvB (rT fs nb).1 (rT fs nb).2 = true := by
  have hp := rT_pages nb h
  obtain ⟨hd, hok, hnd, _, _⟩ := tvB_iff.1 h
  obtain ⟨⟨d1, d2⟩, _⟩ := dimB_iff.1 hd
  have l1 : (rT fs nb).1.length = nb := (rhs_len fs nb _).1
  have l2 : (rT fs nb).2.length = fs.length := hp.len
  have hk : ukeys (rT fs nb).2 = ukeys fs := ukeys_congr l2.symm (fun j hj => by
    obtain ⟨a, b, c, d⟩ := hp.at_ j hj
    exact ⟨a, fun _ => by unfold fkey; rw [b, c]⟩)
  have hch : ∀ b, b < nb → chn (rT fs nb).2 (rT fs nb).2.length ((rT fs nb).1.getD b 0) = some (lk fs nb b fs.length) := fun b hb =>
    chn_le (rhs_chn fs nb h1 fs.length (Nat.le_refl _) b hb) (by have := lk_len fs nb b fs.length; omega)
  refine tvB_iff.2 ⟨dimB_iff.2 ⟨by omega, by omega⟩, fun f hf => ?_, by rw [hk]; exact hnd, fun b hb => ?_, ?_⟩
  · obtain ⟨j, hj, rfl⟩ := List.getElem_of_mem hf
    have ef : (rT fs nb).2[j] = fat (rT fs nb).2 j := by simp [fat, List.getD_eq_getElem?_getD, hj]
    rw [ef]
    have hj' : j < fs.length := by omega
    obtain ⟨a, b, c, d⟩ := hp.at_ j hj'
    have hf0 := hok _ (fat_mem hj')
    obtain ⟨q1, q2⟩ := rhs_fat fs nb fs.length (Nat.le_refl _) j hj'
    rcases hu : (fat fs j).u with _ | _
    · have e : fat (rT fs nb).2 j = frN := q2 (fun q => by rw [hu] at q; cases q.2)
      rw [e]; rfl
    · unfold frOk at hf0 ⊢
      rw [if_pos hu] at hf0
      rw [if_pos (by rw [a]; exact hu), b, c, d]; exact hf0
  · rw [l1] at hb
    rw [l1]
    refine chB_iff.2 ⟨_, hch b hb, fun i hi => ?_⟩
    obtain ⟨m1, m2, m3⟩ := lk_mem hi
    obtain ⟨a, b', c, d⟩ := hp.at_ i (by omega)
    unfold fhash
    rw [b', c, ← m3, (hix_lt h1).2]
  · rw [usedN_eq, hk, ← usedN_eq, l1]
    have := lk_sum fs nb h1 fs.length (Nat.le_refl _)
    rw [List.take_length] at this
    rw [← this]
    unfold chSum
    congr 1
    apply List.map_congr_left
    intro b hb
    rw [chL_of (hch b (List.mem_range.1 hb))]
theorem rhs_congr {fs fs' : List Fr} (nb : Nat) (hp : Pages fs fs') : ∀ k, k ≤ fs.length → rhs fs' nb k = rhs fs nb k := by
  intro k
  induction k with
  | zero => intro _; simp only [rhs]; rw [hp.len]
  | succ k ih =>
    intro hk
    obtain ⟨a, b, c, d⟩ := hp.at_ k (by omega)
    simp only [rhs]
    rw [ih (by omega), a]
    have e : ∀ t, lnk t (fat fs' k) k = lnk t (fat fs k) k := by
      intro t
      unfold lnk hix
      rw [b, c, d]
    rw [e]
theorem rT_again {bk : List Int} {fs : List Fr} (nb : Nat) (h : tvB bk fs = true) : rT (rT fs nb).2 nb = rT fs nb := by
  have hp := rT_pages nb h
  have := rhs_congr nb hp fs.length (Nat.le_refl _)
  unfold rT at this ⊢
  rw [(rhs_len fs nb _).2]
  exact this
end Go.Proofs.YtjdoegekolbdpaaDoor
