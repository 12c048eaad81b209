/- Plain law of finding: in a valid table each used frame is in the chain of its bucket; what FindPage answers. No program in sight. -/
import Derived.Test.YtjdoegekolbdpaaDoorTabR
namespace Go.Proofs.YtjdoegekolbdpaaDoor
theorem sub_len : ∀ (C U : List Nat), C.Nodup → (∀ x ∈ C, x ∈ U) → C.length ≤ U.length := by
  intro C
  induction C with
  | nil => intro U _ _; simp
  | cons x C ih =>
    intro U hn hs
    rw [List.nodup_cons] at hn
    have hx := hs x List.mem_cons_self
    have h := ih (U.erase x) hn.2 (fun y hy => by
      have hne : y ≠ x := fun e => hn.1 (e ▸ hy)
      exact (List.mem_erase_of_ne hne).2 (hs y (List.mem_cons_of_mem _ hy)))
    rw [List.length_erase_of_mem hx] at h
    have : 0 < U.length := List.length_pos_of_mem hx
    rw [List.length_cons]; omega
theorem used_ix (fs : List Fr) : ((List.range fs.length).filter fun i => (fat fs i).u).length = usedN fs := by
  conv => rhs; rw [list_fat fs]
  unfold usedN
  rw [List.filter_map, List.length_map]
  rfl
theorem tv_chn {bk : List Int} {fs : List Fr} (h : tvB bk fs = true) {b : Nat} (hb : b < bk.length) : chn fs fs.length (bk.getD b 0) = some (chL fs (bk.getD b 0)) ∧ ∀ i ∈ chL fs (bk.getD b 0), i < fs.length ∧ (fat fs i).u = true ∧ fhash fs bk.length i = (b : Int) := by
  obtain ⟨l, h1, h2⟩ := chB_iff.1 ((tvB_iff.1 h).2.2.2.1 b hb)
  rw [chL_of h1]
  exact ⟨h1, fun i hi => ⟨(chn_mem h1 hi).1, (chn_mem h1 hi).2, h2 i hi⟩⟩
theorem tv_cover {bk : List Int} {fs : List Fr} (h : tvB bk fs = true) {i : Nat} (hi : i < fs.length) (hu : (fat fs i).u = true) : i ∈ chL fs (bk.getD (hashN (fat fs i).s (fat fs i).p bk.length).toNat 0) := by
  have hsum := (tvB_iff.1 h).2.2.2.2
  let C := (List.range bk.length).flatMap fun b => chL fs (bk.getD b 0)
  have hC : C.length = chSum bk fs bk.length := by simp only [C, List.length_flatMap, chSum]
  have hnd : C.Nodup := by
    unfold List.Nodup
    rw [List.pairwise_flatMap]
    refine ⟨fun b hb => chn_nodup (tv_chn h (List.mem_range.1 hb)).1, ?_⟩
    have := List.nodup_range (n := bk.length)
    refine List.Pairwise.imp_of_mem ?_ this
    intro a b ha hb hab x hx y hy e
    subst e
    have h1 := ((tv_chn h (List.mem_range.1 ha)).2 x hx).2.2
    have h2 := ((tv_chn h (List.mem_range.1 hb)).2 x hy).2.2
    rw [h1] at h2
    exact hab (by omega)
  have hin : i ∈ C := by
    rcases Classical.em (i ∈ C) with q | q
    · exact q
    · exfalso
      have := sub_len (i :: C) ((List.range fs.length).filter fun i => (fat fs i).u) (List.nodup_cons.2 ⟨q, hnd⟩) (fun x hx => by
        rw [List.mem_filter, List.mem_range]
        rcases List.mem_cons.1 hx with rfl | hx
        · exact ⟨hi, hu⟩
        · obtain ⟨b, hb, hx⟩ := List.mem_flatMap.1 hx
          have := (tv_chn h (List.mem_range.1 hb)).2 x hx
          exact ⟨this.1, this.2.1⟩)
      rw [used_ix, List.length_cons, hC] at this
      omega
  obtain ⟨b, hb, hx⟩ := List.mem_flatMap.1 hin
  have := ((tv_chn h (List.mem_range.1 hb)).2 i hx).2.2
  unfold fhash at this
  rw [this, Int.toNat_natCast]
  exact hx
/-- where a key stands in a list of frames -/
def kpos (fs : List Fr) (s p : Int) (l : List Nat) : Nat := l.findIdx fun i => fkey (fat fs i) == (s, p)
def kch (bk : List Int) (fs : List Fr) (s p : Int) : List Nat := chL fs (bk.getD (hashN s p bk.length).toNat 0)
theorem kpos_le (fs : List Fr) (s p : Int) (l : List Nat) : kpos fs s p l ≤ l.length := List.findIdx_le_length
theorem kpos_at {fs : List Fr} {s p : Int} {l : List Nat} (h : kpos fs s p l < l.length) : fkey (fat fs (l.getD (kpos fs s p l) 0)) = (s, p) := by
  have := List.findIdx_getElem (p := fun i => fkey (fat fs i) == (s, p)) (w := h)
  rw [List.getD_eq_getElem?_getD, List.getElem?_eq_getElem h]
  exact beq_iff_eq.1 this
theorem kpos_first {fs : List Fr} {s p : Int} {l : List Nat} {j : Nat} (h : j < kpos fs s p l) : fkey (fat fs (l.getD j 0)) ≠ (s, p) := by
  have hl : j < l.length := Nat.lt_of_lt_of_le h (kpos_le _ _ _ _)
  have := List.not_of_lt_findIdx (p := fun i => fkey (fat fs i) == (s, p)) h
  rw [List.getD_eq_getElem?_getD, List.getElem?_eq_getElem hl]
  simpa using this
/-- the key's place by the first hit -/
theorem kpos_hit {fs : List Fr} {s p : Int} {l : List Nat} {j : Nat} (hj : j < l.length) (h : fkey (fat fs (l.getD j 0)) = (s, p)) (hf : ∀ i, i < j → fkey (fat fs (l.getD i 0)) ≠ (s, p)) : kpos fs s p l = j := by
  rcases Nat.lt_trichotomy (kpos fs s p l) j with h1 | h1 | h1
  · exact absurd (kpos_at (Nat.lt_trans h1 hj)) (hf _ h1)
  · exact h1
  · exact absurd h (kpos_first h1)
theorem kpos_none {fs : List Fr} {s p : Int} {l : List Nat} (hf : ∀ i, i < l.length → fkey (fat fs (l.getD i 0)) ≠ (s, p)) : kpos fs s p l = l.length := by
  rcases Nat.lt_or_eq_of_le (kpos_le fs s p l) with h | h
  · exact absurd (kpos_at h) (hf _ h)
  · exact h
theorem chL_mem {bk : List Int} {fs : List Fr} (h : tvB bk fs = true) {s p : Int} {i : Nat} (hi : i ∈ kch bk fs s p) : i < fs.length ∧ (fat fs i).u = true := by
  obtain ⟨⟨_, _⟩, d1, d2⟩ := dimB_iff.1 (tvB_iff.1 h).1
  have := @hashN_range s p (bk.length : Int) (by omega)
  have := (tv_chn h (b := (hashN s p bk.length).toNat) (by omega)).2 i hi
  exact ⟨this.1, this.2.1⟩
/-- a key is found if and only if a used frame has it -/
theorem kpos_iff {bk : List Int} {fs : List Fr} (h : tvB bk fs = true) (s p : Int) : kpos fs s p (kch bk fs s p) < (kch bk fs s p).length ↔ ∃ i, i < fs.length ∧ (fat fs i).u = true ∧ fkey (fat fs i) = (s, p) := by
  constructor
  · intro hk
    have h1 := kpos_at hk
    have h2 : (kch bk fs s p).getD (kpos fs s p (kch bk fs s p)) 0 ∈ kch bk fs s p := by
      rw [List.getD_eq_getElem?_getD, List.getElem?_eq_getElem hk]; exact List.getElem_mem hk
    obtain ⟨a, b⟩ := chL_mem h h2
    exact ⟨_, a, b, h1⟩
  · rintro ⟨i, hi, hu, hk⟩
    have hc := tv_cover h hi hu
    have e1 : (fat fs i).s = s := congrArg Prod.fst hk
    have e2 : (fat fs i).p = p := congrArg Prod.snd hk
    rw [e1, e2] at hc
    exact List.findIdx_lt_length_of_exists ⟨i, hc, by simp [hk]⟩
/-- FindPage's answer -/
def fpOk (bk : List Int) (fs : List Fr) (s p : Int) : Bool := tvB bk fs && kvB s p && decide (kpos fs s p (kch bk fs s p) < (kch bk fs s p).length)
def fpF (bk : List Int) (fs : List Fr) (s p : Int) : Int := if fpOk bk fs s p = true then (((kch bk fs s p).getD (kpos fs s p (kch bk fs s p)) 0 : Nat) : Int) else 0
def fpS (bk : List Int) (fs : List Fr) (s p : Int) : Int := if tvB bk fs && kvB s p then (if fpOk bk fs s p = true then ((kpos fs s p (kch bk fs s p) + 1 : Nat) : Int) else ((kch bk fs s p).length : Int)) else 0
theorem fp_yes {bk : List Int} {fs : List Fr} {s p : Int} {j : Nat} (h : tvB bk fs = true) (hk : kvB s p = true) (e : kpos fs s p (kch bk fs s p) = j) (hj : j < (kch bk fs s p).length) :
    fpOk bk fs s p = true ∧ fpF bk fs s p = (((kch bk fs s p).getD j 0 : Nat) : Int) ∧ fpS bk fs s p = (j : Int) + 1 := by
  have h1 : fpOk bk fs s p = true := by unfold fpOk; rw [h, hk, e]; simpa using hj
  refine ⟨h1, ?_, ?_⟩
  · unfold fpF; rw [if_pos h1, e]
  · unfold fpS; rw [h, hk, if_pos (by rfl), if_pos h1, e]; omega
theorem fp_no {bk : List Int} {fs : List Fr} {s p : Int} (h : tvB bk fs = true) (hk : kvB s p = true) (e : kpos fs s p (kch bk fs s p) = (kch bk fs s p).length) :
    fpOk bk fs s p = false ∧ fpF bk fs s p = 0 ∧ fpS bk fs s p = ((kch bk fs s p).length : Int) := by
  have h1 : fpOk bk fs s p = false := by unfold fpOk; rw [h, hk, e]; simp
  refine ⟨h1, ?_, ?_⟩
  · unfold fpF; rw [h1]; rfl
  · unfold fpS; rw [h, hk, if_pos (by rfl), h1]; rfl
theorem fp_bad {bk : List Int} {fs : List Fr} {s p : Int} (h : (tvB bk fs && kvB s p) = false) : fpOk bk fs s p = false ∧ fpF bk fs s p = 0 ∧ fpS bk fs s p = 0 := by
  have h1 : fpOk bk fs s p = false := by unfold fpOk; rw [h]; rfl
  refine ⟨h1, ?_, ?_⟩
  · unfold fpF; rw [h1]; rfl
  · unfold fpS; rw [h]; rfl
/-- one used frame a key -/
theorem key_once {bk : List Int} {fs : List Fr} (h : tvB bk fs = true) {i j : Nat} (hi : i < fs.length) (hj : j < fs.length) (ui : (fat fs i).u = true) (uj : (fat fs j).u = true) (e : fkey (fat fs i) = fkey (fat fs j)) : i = j := by
  have key : ∀ i j, i < j → i < fs.length → j < fs.length → (fat fs i).u = true → (fat fs j).u = true → fkey (fat fs i) = fkey (fat fs j) → False := by
    intro i j hij hi hj ui uj e
    have hm : fkey (fat fs j) ∈ ukeys (fs.take j) := by
      rw [← e]
      unfold ukeys
      refine List.mem_map.2 ⟨fat fs i, List.mem_filter.2 ⟨?_, ui⟩, rfl⟩
      rw [List.mem_take_iff_getElem]
      exact ⟨i, by omega, by simp [fat, List.getD_eq_getElem?_getD, hi]⟩
    have := tvB_twice (bk := bk) hj uj hm
    rw [h] at this; cases this
  rcases Nat.lt_trichotomy i j with q | q | q
  · exact (key i j q hi hj ui uj e).elim
  · exact q
  · exact (key j i q hj hi uj ui e.symm).elim
end Go.Proofs.YtjdoegekolbdpaaDoor
