/- Plain theory of tables: frames, chains, validity. No program, no conditions. -/
import Derived.Test.YtjdoegekolbdpaaDoorKeys
namespace Go.Proofs.YtjdoegekolbdpaaDoor
open Go.RowKit

/-- a frame: used, key (space, page), rights, next -/
structure Fr where
  u : Bool
  s : Int
  p : Int
  r : Int
  nx : Int
theorem Fr.ext' {a b : Fr} (h1 : a.u = b.u) (h2 : a.s = b.s) (h3 : a.p = b.p) (h4 : a.r = b.r) (h5 : a.nx = b.nx) : a = b := by
  cases a; cases b; simp_all
def fr0 : Fr := ⟨false, 0, 0, 0, 0⟩
def frN : Fr := ⟨false, 0, 0, 0, -1⟩
def fat (fs : List Fr) (i : Nat) : Fr := fs.getD i fr0
def frOk (f : Fr) : Bool := if f.u = true then kvB f.s f.p && withinB f.r 8 else (f.s == 0 && f.p == 0 && f.r == 0 && f.nx == -1)
def fkey (f : Fr) : Int × Int := (f.s, f.p)
def fhash (fs : List Fr) (nb : Nat) (i : Nat) : Int := hashN (fat fs i).s (fat fs i).p nb
/-- a step from 'at' is allowed -/
def stepOk (fs : List Fr) (x : Int) : Bool := decide (0 ≤ x) && decide (x < fs.length) && (fat fs x.toNat).u
theorem stepOk_iff {fs : List Fr} {x : Int} : stepOk fs x = true ↔ 0 ≤ x ∧ x < fs.length ∧ (fat fs x.toNat).u = true := by
  simp [stepOk, and_assoc]
/-- the frames of a chain that ends within k steps -/
def chn (fs : List Fr) : Nat → Int → Option (List Nat)
  | 0, x => if x = -1 then some [] else none
  | k + 1, x => if x = -1 then some [] else if stepOk fs x = true then (chn fs k (fat fs x.toNat).nx).map (x.toNat :: ·) else none
theorem chn_end (fs : List Fr) (k : Nat) : chn fs k (-1) = some [] := by cases k <;> simp [chn]
theorem chn_zero {fs : List Fr} {x : Int} (h : x ≠ -1) : chn fs 0 x = none := by simp [chn, h]
theorem chn_bad {fs : List Fr} {x : Int} (h : x ≠ -1) (h2 : stepOk fs x = false) (k : Nat) : chn fs k x = none := by cases k <;> simp [chn, h, h2]
theorem chn_step {fs : List Fr} {x : Int} (h2 : stepOk fs x = true) (k : Nat) : chn fs (k + 1) x = (chn fs k (fat fs x.toNat).nx).map (x.toNat :: ·) := by
  have h := (stepOk_iff.1 h2).1
  simp [chn, h2, show x ≠ -1 by omega]
theorem chn_mono {fs : List Fr} : ∀ {k : Nat} {x : Int} {l : List Nat}, chn fs k x = some l → ∀ k', k ≤ k' → chn fs k' x = some l := by
  intro k
  induction k with
  | zero =>
    intro x l h k' _
    by_cases hx : x = -1
    · subst hx; rw [chn_end] at h ⊢; exact h
    · rw [chn_zero hx] at h; cases h
  | succ k ih =>
    intro x l h k' hk
    by_cases hx : x = -1
    · subst hx; rw [chn_end] at h ⊢; exact h
    · rcases hs : stepOk fs x with _ | _
      · rw [chn_bad hx hs] at h; cases h
      · rw [chn_step hs] at h
        obtain ⟨l', h1, rfl⟩ := Option.map_eq_some_iff.1 h
        obtain ⟨q, rfl⟩ : ∃ q, k' = q + 1 := ⟨k' - 1, by omega⟩
        rw [chn_step hs, ih h1 q (by omega)]
        rfl
theorem chn_same {fs : List Fr} {k k' : Nat} {x : Int} {l l' : List Nat} (h : chn fs k x = some l) (h' : chn fs k' x = some l') : l = l' := by
  have h1 := chn_mono h (max k k') (by omega)
  have h2 := chn_mono h' (max k k') (by omega)
  rw [h1] at h2; exact Option.some.inj h2
theorem chn_len {fs : List Fr} : ∀ {k : Nat} {x : Int} {l : List Nat}, chn fs k x = some l → l.length ≤ k := by
  intro k
  induction k with
  | zero =>
    intro x l h
    by_cases hx : x = -1
    · subst hx; rw [chn_end] at h; cases h; simp
    · rw [chn_zero hx] at h; cases h
  | succ k ih =>
    intro x l h
    by_cases hx : x = -1
    · subst hx; rw [chn_end] at h; cases h; simp
    · rcases hs : stepOk fs x with _ | _
      · rw [chn_bad hx hs] at h; cases h
      · rw [chn_step hs] at h
        obtain ⟨l', h1, rfl⟩ := Option.map_eq_some_iff.1 h
        have := ih h1
        simp; omega
/-- the rest of a chain is a chain; its elements are used frames -/
theorem chn_suf {fs : List Fr} {y : Nat} {suf : List Nat} : ∀ {k : Nat} {x : Int} (pre : List Nat), chn fs k x = some (pre ++ y :: suf) → ∃ k', chn fs k' (y : Int) = some (y :: suf) ∧ y < fs.length ∧ (fat fs y).u = true := by
  intro k
  induction k with
  | zero =>
    intro x pre h
    by_cases hx : x = -1
    · subst hx; rw [chn_end] at h; simp at h
    · rw [chn_zero hx] at h; cases h
  | succ k ih =>
    intro x pre h
    by_cases hx : x = -1
    · subst hx; rw [chn_end] at h; simp at h
    · rcases hs : stepOk fs x with _ | _
      · rw [chn_bad hx hs] at h; cases h
      · have h0 := h
        rw [chn_step hs] at h
        obtain ⟨l', h1, h2⟩ := Option.map_eq_some_iff.1 h
        obtain ⟨a1, a2, a3⟩ := stepOk_iff.1 hs
        cases pre with
        | nil =>
          simp only [List.nil_append, List.cons.injEq] at h2
          obtain ⟨rfl, rfl⟩ := h2
          exact ⟨k + 1, by rw [Int.toNat_of_nonneg a1]; simpa using h0, by omega, a3⟩
        | cons a pre =>
          simp only [List.cons_append, List.cons.injEq] at h2
          obtain ⟨_, rfl⟩ := h2
          exact ih pre h1
theorem chn_mem {fs : List Fr} {k : Nat} {x : Int} {l : List Nat} (h : chn fs k x = some l) {y : Nat} (hy : y ∈ l) : y < fs.length ∧ (fat fs y).u = true := by
  obtain ⟨pre, suf, rfl⟩ := List.append_of_mem hy
  obtain ⟨_, _, h1, h2⟩ := chn_suf pre h
  exact ⟨h1, h2⟩
theorem chn_nodup {fs : List Fr} {k : Nat} {x : Int} {l : List Nat} (h : chn fs k x = some l) : l.Nodup := by
  induction l generalizing k x with
  | nil => exact List.nodup_nil
  | cons y l ih =>
    rw [List.nodup_cons]
    constructor
    · intro hy
      obtain ⟨pre, suf, rfl⟩ := List.append_of_mem hy
      obtain ⟨k1, h1, _⟩ := chn_suf (pre := []) (y := y) (suf := pre ++ y :: suf) (by simpa using h)
      obtain ⟨k2, h2, _⟩ := chn_suf (pre := y :: pre) (y := y) (suf := suf) (by simpa using h)
      have := congrArg List.length (chn_same h1 h2)
      simp at this; omega
    · cases l with
      | nil => exact List.nodup_nil
      | cons z l =>
        obtain ⟨k1, h1, _⟩ := chn_suf (pre := [y]) (y := z) (suf := l) (by simpa using h)
        exact ih h1

/-- the chain of a start -/
def chL (fs : List Fr) (x : Int) : List Nat := (chn fs fs.length x).getD []
def chB (fs : List Fr) (nb b : Nat) (x : Int) : Bool := (chn fs fs.length x).isSome && (chL fs x).all fun i => fhash fs nb i == (b : Int)
theorem chL_of {fs : List Fr} {x : Int} {l : List Nat} (h : chn fs fs.length x = some l) : chL fs x = l := by simp [chL, h]
def usedN (fs : List Fr) : Nat := (fs.filter (·.u)).length
def ukeys (fs : List Fr) : List (Int × Int) := (fs.filter (·.u)).map fkey
def chSum (bk : List Int) (fs : List Fr) (n : Nat) : Nat := ((List.range n).map fun b => (chL fs (bk.getD b 0)).length).sum
def dimB (nb nf : Nat) : Bool := decide (1 ≤ nf ∧ nf ≤ 16) && decide (1 ≤ nb ∧ nb ≤ 16)
def tvB (bk : List Int) (fs : List Fr) : Bool :=
  dimB bk.length fs.length && fs.all frOk && decide (ukeys fs).Nodup && (List.range bk.length).all (fun b => chB fs bk.length b (bk.getD b 0)) && decide (chSum bk fs bk.length = usedN fs)
theorem tvB_iff {bk : List Int} {fs : List Fr} : tvB bk fs = true ↔ dimB bk.length fs.length = true ∧ (∀ f ∈ fs, frOk f = true) ∧ (ukeys fs).Nodup ∧ (∀ b, b < bk.length → chB fs bk.length b (bk.getD b 0) = true) ∧ chSum bk fs bk.length = usedN fs := by
  simp only [tvB, Bool.and_eq_true, decide_eq_true_eq, List.all_eq_true, List.mem_range, and_assoc]
theorem dimB_iff {nb nf : Nat} : dimB nb nf = true ↔ (1 ≤ nf ∧ nf ≤ 16) ∧ 1 ≤ nb ∧ nb ≤ 16 := by
  simp only [dimB, Bool.and_eq_true, decide_eq_true_eq]
theorem chB_iff {fs : List Fr} {nb b : Nat} {x : Int} : chB fs nb b x = true ↔ ∃ l, chn fs fs.length x = some l ∧ ∀ i ∈ l, fhash fs nb i = b := by
  unfold chB
  constructor
  · intro h
    simp only [Bool.and_eq_true, List.all_eq_true] at h
    obtain ⟨l, hl⟩ := Option.isSome_iff_exists.1 h.1
    rw [chL_of hl] at h
    exact ⟨l, hl, fun i hi => by simpa using h.2 i hi⟩
  · rintro ⟨l, hl, h⟩
    simp only [Bool.and_eq_true, List.all_eq_true]
    rw [chL_of hl]
    exact ⟨by rw [hl]; rfl, fun i hi => by simpa using h i hi⟩
theorem chSum_succ (bk : List Int) (fs : List Fr) (n : Nat) : chSum bk fs (n + 1) = chSum bk fs n + (chL fs (bk.getD n 0)).length := by
  simp [chSum, List.range_succ, List.sum_append]
/-- from x0 the frames p have been passed, and x is next -/
def Wlk (fs : List Fr) (x0 : Int) (p : List Nat) (x : Int) : Prop := ∀ k, chn fs (p.length + k) x0 = (chn fs k x).map (p ++ ·)
theorem Wlk.start (fs : List Fr) (x0 : Int) : Wlk fs x0 [] x0 := by intro k; simp
theorem Wlk.step {fs : List Fr} {x0 x : Int} {p : List Nat} (H : Wlk fs x0 p x) (hs : stepOk fs x = true) : Wlk fs x0 (p ++ [x.toNat]) (fat fs x.toNat).nx := by
  intro k
  have h := H (k + 1)
  rw [chn_step hs] at h
  rw [List.length_append, List.length_singleton, Nat.add_assoc, Nat.add_comm 1 k, h, Option.map_map]
  congr 1
  funext l
  simp
theorem Wlk.at_len {fs : List Fr} {x0 x : Int} {p : List Nat} (H : Wlk fs x0 p x) (hp : p.length ≤ fs.length) : chn fs fs.length x0 = (chn fs (fs.length - p.length) x).map (p ++ ·) := by
  have h := H (fs.length - p.length)
  rwa [Nat.add_sub_cancel' hp] at h
theorem Wlk.done {fs : List Fr} {x0 : Int} {p : List Nat} (H : Wlk fs x0 p (-1)) (hp : p.length ≤ fs.length) : chn fs fs.length x0 = some p := by
  rw [H.at_len hp, chn_end]; simp
theorem Wlk.none_ {fs : List Fr} {x0 x : Int} {p : List Nat} (H : Wlk fs x0 p x) (hp : p.length ≤ fs.length) (h : chn fs (fs.length - p.length) x = none) : chn fs fs.length x0 = none := by
  rw [H.at_len hp, h]; rfl
theorem Wlk.bad {fs : List Fr} {x0 x : Int} {p : List Nat} (H : Wlk fs x0 p x) (hp : p.length ≤ fs.length) (hx : x ≠ -1) (hs : stepOk fs x = false) : chn fs fs.length x0 = none :=
  H.none_ hp (chn_bad hx hs _)
theorem Wlk.next {fs : List Fr} {x0 x : Int} {p l : List Nat} (H : Wlk fs x0 p x) (hp : p.length ≤ fs.length) (hx : x ≠ -1) (h : chn fs fs.length x0 = some l) : ∃ l', l = p ++ x.toNat :: l' ∧ stepOk fs x = true ∧ p.length < fs.length := by
  rw [H.at_len hp] at h
  obtain ⟨l1, h1, rfl⟩ := Option.map_eq_some_iff.1 h
  rcases Nat.eq_or_lt_of_le hp with he | hlt
  · rw [he, Nat.sub_self, chn_zero hx] at h1; cases h1
  · rcases hs : stepOk fs x with _ | _
    · rw [chn_bad hx hs] at h1; cases h1
    · obtain ⟨q, hq⟩ : ∃ q, fs.length - p.length = q + 1 := ⟨fs.length - p.length - 1, by omega⟩
      rw [hq, chn_step hs] at h1
      obtain ⟨l2, _, rfl⟩ := Option.map_eq_some_iff.1 h1
      exact ⟨l2, rfl, rfl, hlt⟩
theorem chB_none {fs : List Fr} {nb b : Nat} {x : Int} (h : chn fs fs.length x = none) : chB fs nb b x = false := by simp [chB, h]
theorem Wlk.hash_bad {fs : List Fr} {x0 x : Int} {p : List Nat} {nb b : Nat} (H : Wlk fs x0 p x) (hp : p.length ≤ fs.length) (hx : x ≠ -1) (hh : fhash fs nb x.toNat ≠ b) : chB fs nb b x0 = false := by
  rcases hq : chB fs nb b x0 with _ | _
  · rfl
  · obtain ⟨l, h1, h2⟩ := chB_iff.1 hq
    obtain ⟨l', rfl, _⟩ := H.next hp hx h1
    exact absurd (h2 x.toNat (by simp)) hh
theorem Wlk.dup_bad {fs : List Fr} {x0 x : Int} {p : List Nat} {nb b : Nat} (H : Wlk fs x0 p x) (hp : p.length ≤ fs.length) (hx : x ≠ -1) (hm : x.toNat ∈ p) : chB fs nb b x0 = false := by
  rcases hq : chB fs nb b x0 with _ | _
  · rfl
  · obtain ⟨l, h1, h2⟩ := chB_iff.1 hq
    obtain ⟨l', rfl, _⟩ := H.next hp hx h1
    have := chn_nodup h1
    rw [List.nodup_append] at this
    exact absurd rfl (this.2.2 _ hm _ List.mem_cons_self)
theorem nodup_le : ∀ (n : Nat) (l : List Nat), l.Nodup → (∀ x ∈ l, x < n) → l.length ≤ n := by
  intro n
  induction n with
  | zero => intro l _ h; cases l with
    | nil => simp
    | cons x l => have := h x List.mem_cons_self; omega
  | succ n ih =>
    intro l hl h
    by_cases hn : n ∈ l
    · have := ih (l.erase n) (hl.erase n) (fun x hx => by
        have h1 := (List.Nodup.mem_erase_iff hl).1 hx
        have h2 := h x h1.2
        omega)
      rw [List.length_erase_of_mem hn] at this
      omega
    · have := ih l hl (fun x hx => by
        have h2 := h x hx
        have h3 : x ≠ n := fun e => hn (e ▸ hx)
        omega)
      omega
theorem tvB_chain_bad {bk : List Int} {fs : List Fr} {b : Nat} (hb : b < bk.length) (h : chB fs bk.length b (bk.getD b 0) = false) : tvB bk fs = false := by
  rcases hq : tvB bk fs with _ | _
  · rfl
  · rw [(tvB_iff.1 hq).2.2.2.1 b hb] at h; cases h
theorem fat_mem {fs : List Fr} {i : Nat} (h : i < fs.length) : fat fs i ∈ fs := by simp [fat, List.getD_eq_getElem?_getD, h]
theorem tvB_frame_bad {bk : List Int} {fs : List Fr} {i : Nat} (hi : i < fs.length) (h : frOk (fat fs i) = false) : tvB bk fs = false := by
  rcases hq : tvB bk fs with _ | _
  · rfl
  · rw [(tvB_iff.1 hq).2.1 _ (fat_mem hi)] at h; cases h
theorem take_fat {fs : List Fr} {i : Nat} (h : i < fs.length) : fs.take (i + 1) = fs.take i ++ [fat fs i] := by
  rw [List.take_succ_eq_append_getElem h]; simp [fat, List.getD_eq_getElem?_getD, h]
theorem ukeys_snoc (l : List Fr) (f : Fr) : ukeys (l ++ [f]) = if f.u = true then ukeys l ++ [fkey f] else ukeys l := by
  unfold ukeys
  rw [List.filter_append]
  rcases h : f.u with _ | _ <;> simp [h]
theorem usedN_keys (fs : List Fr) : (ukeys fs).length = usedN fs := by simp [ukeys, usedN]
theorem tvB_twice {bk : List Int} {fs : List Fr} {i : Nat} (hi : i < fs.length) (hu : (fat fs i).u = true) (h : fkey (fat fs i) ∈ ukeys (fs.take i)) : tvB bk fs = false := by
  rcases hq : tvB bk fs with _ | _
  · rfl
  · have hn := (tvB_iff.1 hq).2.2.1
    have e : ukeys fs = ukeys (fs.take (i + 1)) ++ ukeys (fs.drop (i + 1)) := by
      unfold ukeys; rw [← List.map_append, ← List.filter_append, List.take_append_drop]
    rw [e, List.nodup_append] at hn
    have h1 := hn.1
    rw [take_fat hi, ukeys_snoc, if_pos hu, List.nodup_append] at h1
    exact absurd rfl (h1.2.2 _ h _ (by simp))
end Go.Proofs.YtjdoegekolbdpaaDoor
