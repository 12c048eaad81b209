/- Plain laws of chains: a bucket's chain holds as many frames as keys have its number; the chains hold as many frames as there are keys. No program, no conditions. -/
import Derived.Test.YtjdoegekolbdpaaDoorLawP
import Derived.Test.YtjdoegekolbdpaaDoorCount
namespace Go.Proofs.YtjdoegekolbdpaaDoor
open Go.RowKit
theorem ks_kaB {bk : List Int} {fs : List Fr} (h : tvB bk fs = true) : kaB (ksOf bk fs) = true ∧ cbOk (ksOf bk fs) bk.length = true := by
  obtain ⟨⟨f1, f2⟩, d1, d2⟩ := dimB_iff.1 (tvB_iff.1 h).1
  have h1 : kaB (ksOf bk fs) = true := by
    simp only [kaB, Bool.and_eq_true, decide_eq_true_eq, List.all_eq_true]
    refine ⟨⟨?_, fun x hx => ?_⟩, ks_nodup h⟩
    · have := ksOf_len bk fs; omega
    · obtain ⟨i, hi, hu, e⟩ := (ks_mem h).1 hx
      have := (frOk_key ((tvB_iff.1 h).2.1 _ (fat_mem hi)) hu).1
      rw [← e]; exact this
  exact ⟨h1, cbOk_iff.2 ⟨h1, by omega, by omega⟩⟩
theorem ks_used {bk : List Int} {fs : List Fr} (h : tvB bk fs = true) : (ksOf bk fs).length = chSum bk fs bk.length := by
  rw [(tvB_iff.1 h).2.2.2.2, (ksOf_perm h).length_eq, usedN_keys]
theorem chSum_step (bk : List Int) (fs : List Fr) (n : Nat) : chSum bk fs (n + 1) = chSum bk fs n + (chL fs (bk.getD n 0)).length := by
  unfold chSum
  rw [List.range_succ, List.map_append, List.sum_append]
  simp
theorem chSum_mono {bk : List Int} {fs : List Fr} (h : tvB bk fs = true) : ∀ n m, n + m = bk.length → chSum bk fs n ≤ chSum bk fs bk.length := by
  intro n m
  induction m generalizing n with
  | zero => intro e; rw [show n = bk.length by omega]; exact Nat.le_refl _
  | succ m ih =>
    intro e
    have := ih (n + 1) (by omega)
    rw [chSum_step] at this
    omega
/-- the used frames of a bucket, in their order -/
def bkt (fs : List Fr) (nb b : Nat) : List Nat := (List.range fs.length).filter fun i => (fat fs i).u && (hashN (fat fs i).s (fat fs i).p nb == (b : Int))
theorem bkt_cnt (fs : List Fr) (nb b : Nat) : ((ukeys fs).filter fun k => hashN k.1 k.2 nb == (b : Int)).length = (bkt fs nb b).length := by
  unfold ukeys bkt
  conv => lhs; rw [list_fat fs]
  rw [List.filter_map, List.length_map, List.filter_filter, List.filter_map, List.length_map]
  congr 1
  apply List.filter_congr
  intro i _
  show (_ && _) = (_ && _)
  rw [Bool.and_comm]
  rfl
theorem cl_count {bk : List Int} {fs : List Fr} (h : tvB bk fs = true) {b : Nat} (hb : b < bk.length) : cnt (ksOf bk fs) bk.length b = (chL fs (bk.getD b 0)).length := by
  obtain ⟨⟨f1, f2⟩, d1, d2⟩ := dimB_iff.1 (tvB_iff.1 h).1
  unfold cnt
  rw [((ksOf_perm h).filter _).length_eq, bkt_cnt]
  obtain ⟨g1, g2⟩ := tv_chn h hb
  have hmem : ∀ i, i ∈ bkt fs bk.length b ↔ i ∈ chL fs (bk.getD b 0) := by
    intro i
    unfold bkt
    rw [List.mem_filter, List.mem_range, Bool.and_eq_true, beq_iff_eq]
    constructor
    · rintro ⟨hi, hu, e⟩
      have := tv_cover h hi hu
      rw [e] at this
      simpa using this
    · intro hi
      obtain ⟨a1, a2, a3⟩ := g2 i hi
      exact ⟨a1, a2, a3⟩
  have n1 : (bkt fs bk.length b).Nodup := List.nodup_range.filter _
  have n2 : (chL fs (bk.getD b 0)).Nodup := chn_nodup g1
  have a := sub_len _ _ n1 (fun x hx => (hmem x).1 hx)
  have c := sub_len _ _ n2 (fun x hx => (hmem x).2 hx)
  omega
end Go.Proofs.YtjdoegekolbdpaaDoor
