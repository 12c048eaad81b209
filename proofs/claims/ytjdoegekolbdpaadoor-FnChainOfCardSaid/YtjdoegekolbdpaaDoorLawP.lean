/- Plain laws of a table's keys: each is found, each is before the next. No program, no conditions. -/
import Derived.Test.YtjdoegekolbdpaaDoorKo
import Derived.Test.YtjdoegekolbdpaaDoorTabQ
import Derived.Test.YtjdoegekolbdpaaDoorLink
namespace Go.Proofs.YtjdoegekolbdpaaDoor
open Go.RowKit
theorem mem_ukeys {fs : List Fr} {k : Int × Int} : k ∈ ukeys fs ↔ ∃ i, i < fs.length ∧ (fat fs i).u = true ∧ fkey (fat fs i) = k := by
  unfold ukeys
  rw [List.mem_map]
  constructor
  · rintro ⟨f, hf, rfl⟩
    obtain ⟨h1, h2⟩ := List.mem_filter.1 hf
    obtain ⟨i, hi, rfl⟩ := List.getElem_of_mem h1
    exact ⟨i, hi, by simpa [fat, List.getD_eq_getElem?_getD, hi] using h2, by simp [fat, List.getD_eq_getElem?_getD, hi]⟩
  · rintro ⟨i, hi, hu, rfl⟩
    exact ⟨fat fs i, List.mem_filter.2 ⟨fat_mem hi, hu⟩, rfl⟩
theorem kat_mem {l : List (Int × Int)} {i : Nat} (h : i < l.length) : kat l i ∈ l := by
  unfold kat
  rw [List.getD_eq_getElem?_getD, List.getElem?_eq_getElem h]
  exact List.getElem_mem h
theorem ks_mem {bk : List Int} {fs : List Fr} (h : tvB bk fs = true) {k : Int × Int} : k ∈ ksOf bk fs ↔ ∃ i, i < fs.length ∧ (fat fs i).u = true ∧ fkey (fat fs i) = k := by
  rw [(ksOf_perm h).mem_iff]; exact mem_ukeys
theorem ks_found {bk : List Int} {fs : List Fr} (h : tvB bk fs = true) {i : Nat} (hi : i < (ksOf bk fs).length) : kvB (kat (ksOf bk fs) i).1 (kat (ksOf bk fs) i).2 = true ∧ fpOk bk fs (kat (ksOf bk fs) i).1 (kat (ksOf bk fs) i).2 = true := by
  obtain ⟨j, hj, hu, e⟩ := (ks_mem h).1 (kat_mem hi)
  generalize kat (ksOf bk fs) i = k at *
  obtain ⟨s, p⟩ := k
  obtain ⟨hk, _⟩ := frOk_key ((tvB_iff.1 h).2.1 _ (fat_mem hj)) hu
  unfold fkey at e
  simp only [Prod.mk.injEq] at e
  obtain ⟨rfl, rfl⟩ := e
  refine ⟨hk, ?_⟩
  unfold fpOk
  rw [h, hk]
  simpa using (kpos_iff h _ _).2 ⟨j, hj, hu, rfl⟩
theorem ks_nodup {bk : List Int} {fs : List Fr} (h : tvB bk fs = true) : (ksOf bk fs).Nodup := (ksOf_perm h).nodup_iff.2 (tvB_iff.1 h).2.2.1
theorem ks_lt {bk : List Int} {fs : List Fr} (h : tvB bk fs = true) {i : Nat} (h0 : 0 < i) (hi : i < (ksOf bk fs).length) : kLt (kat (ksOf bk fs) (i - 1)) (kat (ksOf bk fs) i) = true := by
  have h1 := ksOf_srt bk fs (i - 1) i (by omega) hi
  have h2 : kat (ksOf bk fs) (i - 1) ≠ kat (ksOf bk fs) i := by
    intro e
    have hn := ks_nodup h
    unfold kat at e
    rw [List.getD_eq_getElem?_getD, List.getD_eq_getElem?_getD, List.getElem?_eq_getElem hi, List.getElem?_eq_getElem (show i - 1 < _ by omega)] at e
    exact List.pairwise_iff_getElem.1 hn (i - 1) i (by omega) hi (by omega) (by simpa using e)
  rw [kLt_no] at h1
  rw [kLt_iff]
  rcases Classical.em ((kat (ksOf bk fs) (i - 1)).1 = (kat (ksOf bk fs) i).1) with e1 | e1
  · have e2 : (kat (ksOf bk fs) (i - 1)).2 ≠ (kat (ksOf bk fs) i).2 := fun e => h2 (Prod.ext e1 e)
    omega
  · omega
end Go.Proofs.YtjdoegekolbdpaaDoor
