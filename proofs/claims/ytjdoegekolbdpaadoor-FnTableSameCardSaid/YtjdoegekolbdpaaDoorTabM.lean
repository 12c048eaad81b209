/- Plain law of the program's walk through all chains with one set of frames that were met. No program in sight. -/
import Derived.Test.YtjdoegekolbdpaaDoorTabP
namespace Go.Proofs.YtjdoegekolbdpaaDoor
/-- the frames M were met in the buckets before b -/
structure MetP (bk : List Int) (fs : List Fr) (b : Nat) (M : List Nat) : Prop where
  all : ∀ b', b' < b → chB fs bk.length b' (bk.getD b' 0) = true
  len : M.length = chSum bk fs b
  nd : M.Nodup
  mem : ∀ i ∈ M, i < fs.length ∧ ∃ b', b' < b ∧ fhash fs bk.length i = (b' : Int)
theorem MetP.start (bk : List Int) (fs : List Fr) : MetP bk fs 0 [] := ⟨fun _ h => absurd h (Nat.not_lt_zero _), by simp [chSum], List.nodup_nil, fun _ h => absurd h List.not_mem_nil⟩
/-- and in bucket b the frames p; x is next -/
structure MetC (bk : List Int) (fs : List Fr) (b : Nat) (M p : List Nat) (x : Int) : Prop where
  pre : MetP bk fs b M
  walk : Wlk fs (bk.getD b 0) p x
  nd : (M ++ p).Nodup
  mem : ∀ i ∈ p, i < fs.length ∧ fhash fs bk.length i = (b : Int)
theorem MetC.start {bk : List Int} {fs : List Fr} {b : Nat} {M : List Nat} (h : MetP bk fs b M) : MetC bk fs b M [] (bk.getD b 0) := ⟨h, Wlk.start _ _, by simpa using h.nd, fun _ h => absurd h List.not_mem_nil⟩
theorem MetC.lt {bk : List Int} {fs : List Fr} {b : Nat} {M p : List Nat} {x : Int} (h : MetC bk fs b M p x) : ∀ i ∈ M ++ p, i < fs.length := fun i hi => by
  rcases List.mem_append.1 hi with h1 | h1
  · exact (h.pre.mem i h1).1
  · exact (h.mem i h1).1
theorem MetC.le {bk : List Int} {fs : List Fr} {b : Nat} {M p : List Nat} {x : Int} (h : MetC bk fs b M p x) : (M ++ p).length ≤ fs.length := nodup_le _ _ h.nd h.lt
theorem MetC.ple {bk : List Int} {fs : List Fr} {b : Nat} {M p : List Nat} {x : Int} (h : MetC bk fs b M p x) : p.length ≤ fs.length := by have := h.le; rw [List.length_append] at this; omega
theorem MetC.done {bk : List Int} {fs : List Fr} {b : Nat} {M p : List Nat} (h : MetC bk fs b M p (-1)) : MetP bk fs (b + 1) (M ++ p) := by
  have hd := h.walk.done h.ple
  refine ⟨fun b' hb => ?_, ?_, h.nd, fun i hi => ?_⟩
  · rcases Nat.lt_succ_iff_lt_or_eq.1 hb with h1 | rfl
    · exact h.pre.all b' h1
    · exact chB_iff.2 ⟨p, hd, fun i hi => (h.mem i hi).2⟩
  · rw [List.length_append, chSum_succ, h.pre.len, chL_of hd]
  · rcases List.mem_append.1 hi with h1 | h1
    · obtain ⟨h2, b', h3, h4⟩ := h.pre.mem i h1
      exact ⟨h2, b', by omega, h4⟩
    · exact ⟨(h.mem i h1).1, b, by omega, (h.mem i h1).2⟩
theorem MetC.hash_bad {bk : List Int} {fs : List Fr} {b : Nat} {M p : List Nat} {x : Int} (h : MetC bk fs b M p x) (hb : b < bk.length) (hx : x ≠ -1) (hh : fhash fs bk.length x.toNat ≠ b) : tvB bk fs = false :=
  tvB_chain_bad hb (h.walk.hash_bad h.ple hx hh)
theorem MetC.step_bad {bk : List Int} {fs : List Fr} {b : Nat} {M p : List Nat} {x : Int} (h : MetC bk fs b M p x) (hb : b < bk.length) (hx : x ≠ -1) (hs : stepOk fs x = false) : tvB bk fs = false :=
  tvB_chain_bad hb (chB_none (h.walk.bad h.ple hx hs))
theorem MetC.met_bad {bk : List Int} {fs : List Fr} {b : Nat} {M p : List Nat} {x : Int} (h : MetC bk fs b M p x) (hb : b < bk.length) (hx : x ≠ -1) (hm : x.toNat ∈ M ++ p) : tvB bk fs = false := by
  rcases List.mem_append.1 hm with h1 | h1
  · obtain ⟨_, b', h3, h4⟩ := h.pre.mem _ h1
    exact h.hash_bad hb hx (by rw [h4]; omega)
  · exact tvB_chain_bad hb (h.walk.dup_bad h.ple hx h1)
theorem MetC.step {bk : List Int} {fs : List Fr} {b : Nat} {M p : List Nat} {x : Int} (h : MetC bk fs b M p x) (hl : x.toNat < fs.length) (hs : stepOk fs x = true) (hm : x.toNat ∉ M ++ p) (hh : fhash fs bk.length x.toNat = b) :
    MetC bk fs b M (p ++ [x.toNat]) (fat fs x.toNat).nx := by
  refine ⟨h.pre, h.walk.step hs, ?_, fun i hi => ?_⟩
  · rw [← List.append_assoc, List.nodup_append]
    exact ⟨h.nd, by simp, fun a ha c hc e => hm (by rw [List.mem_singleton] at hc; rw [← hc, ← e]; exact ha)⟩
  · rcases List.mem_append.1 hi with h1 | h1
    · exact h.mem i h1
    · rw [List.mem_singleton] at h1; subst h1; exact ⟨hl, hh⟩
end Go.Proofs.YtjdoegekolbdpaaDoor
