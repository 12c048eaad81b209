/- Both tests of a list of keys (valid, few, each once) return what the plain function says. Asked: at most 1048576 keys. -/
import Derived.Test.YtjdoegekolbdpaaDoorKeyS
import Derived.Test.YtjdoegekolbdpaaDoorSet
import Derived.Deep.DrawnRows
namespace Go.Proofs.YtjdoegekolbdpaaDoor
open Go.ChangeShapes Go.WideShapes Go.ChangeAt Go.RowKit
open Go.Maps (Keyed)
theorem laidOutP : laidOutB Tryd.prog = true := by kernel_rfl
theorem key_law : Keyed Tryd.prog 44 := Keyed.of_law (deep_law_laid laidOutP (m := 3) (by omega) (of_decide_eq_true (by kernel_rfl)) (by kernel_rfl) (by kernel_rfl))
theorem keyOf_key0 : ∀ s : Fin 16, ∀ p : Fin 256, (keyOf Tryd.prog 44 (.agg #[.int .i64 (s.val : Int), .int .i64 (p.val : Int)])).isSome = true := by decide +kernel
theorem keyOf_key (s p : Int) (hs : 0 ≤ s ∧ s < 16) (hp : 0 ≤ p ∧ p < 256) : ∃ kl, keyOf Tryd.prog 44 (.agg #[.int .i64 s, .int .i64 p]) = some kl := by
  obtain ⟨a, rfl⟩ := Int.eq_ofNat_of_zero_le hs.1
  obtain ⟨b, rfl⟩ := Int.eq_ofNat_of_zero_le hp.1
  exact Option.isSome_iff_exists.1 (keyOf_key0 ⟨a, by omega⟩ ⟨b, by omega⟩)
/-- a list of keys that is accepted -/
def kaB (ks : List (Int × Int)) : Bool := decide (ks.length ≤ 64) && ks.all (fun k => kvB k.1 k.2) && decide ks.Nodup
def keyV (k : Int × Int) : Value := .agg #[.int .i64 k.1, .int .i64 k.2]
theorem keyV_inj {a b : Int × Int} (h : keyV a = keyV b) : a = b := by
  unfold keyV at h
  injection h with h
  simp at h
  exact Prod.ext h.1 h.2
theorem mem_keyV (a : Int × Int) (l : List (Int × Int)) : keyV a ∈ (l.map keyV).reverse ↔ a ∈ l := by
  rw [List.mem_reverse, List.mem_map]
  exact ⟨fun ⟨x, hx, e⟩ => keyV_inj e ▸ hx, fun h => ⟨a, h, rfl⟩⟩
theorem take_snoc' {α : Type} (l : List α) (d : α) (k : Nat) (h : k < l.length) : l.take (k + 1) = l.take k ++ [l.getD k d] := by
  rw [List.take_succ_eq_append_getElem h]; simp [List.getD_eq_getElem?_getD, h]
theorem kaB_not_valid {ks : List (Int × Int)} {k : Nat} (hk : k < ks.length) (h : kvB (ks.getD k (0, 0)).1 (ks.getD k (0, 0)).2 = false) : kaB ks = false := by
  have hm : ks.getD k (0, 0) ∈ ks := by simp [List.getD_eq_getElem?_getD, hk]
  rcases hq : kaB ks with _ | _
  · rfl
  · simp only [kaB, Bool.and_eq_true, List.all_eq_true] at hq
    rw [hq.1.2 _ hm] at h; cases h
theorem kaB_twice {ks : List (Int × Int)} {k : Nat} (hk : k < ks.length) (h : ks.getD k (0, 0) ∈ ks.take k) : kaB ks = false := by
  rcases hq : kaB ks with _ | _
  · rfl
  · simp only [kaB, Bool.and_eq_true, decide_eq_true_eq] at hq
    have hn : (ks.take (k + 1)).Nodup := hq.2.sublist (List.take_sublist _ _)
    rw [take_snoc' ks (0, 0) k hk, List.nodup_append] at hn
    exact absurd rfl (hn.2.2 _ h _ (by simp))
theorem zero_bool (w : World) : (zeroValue 4).run Tryd.prog w = .ok (.bool false) w := by kernel_rfl
theorem impl_keysAccepted (A : Option Addr) (n c lo hi : Nat) (ks : List (Int × Int)) (w : World) (h : Sl w lo hi 44 2 A n (kcells ks)) (hn : n ≤ 1048576) :
    Calls Tryd.prog 70 #[.slice A n c] w fun e w' => e = .returned (.bool (kaB ks)) ∧ Below w.heap.size w w' := by
  have hkl : ks.length = n := by have := h.1; rw [kcells_len] at this; omega
  have H := Lib.hid h
  have HL := Lib.hid hkl
  clear h hkl
  have hmm := @run_makeMap Tryd.prog
  go_enter Tryd.func70, Tryd.ntmps70
  go_wp2
  have hset0 : SetM Tryd.prog 44 4 (w.alloc (.map #[] 0)) w.heap.size ((ks.take 0).map keyV).reverse := by simpa using SetM.made w
  have HS0 := Lib.hid hset0
  clear hset0
  go_loopw [9] (fun i wr => ∃ k : Nat, k ≤ n ∧ i = .int .i64 k ∧ SetM Tryd.prog 44 4 wr w.heap.size ((ks.take k).map keyV).reverse ∧ (∀ x ∈ ks.take k, kvB x.1 x.2 = true) ∧ (ks.take k).Nodup ∧ Below w.heap.size w wr) (fun i _ => n - (intOf i).toNat)
  case atStart => exact ⟨0, Nat.zero_le _, rfl, HS0.out, by simp, by simp, by (repeat' (first | with_reducible exact Below.refl _ _ | (with_reducible refine balloc ?_ _) | (with_reducible refine bset ?_ ?_ _) | (with_reducible refine bdrew ?_) | (with_reducible refine bdrewN ?_ _) | (with_reducible refine bstep ?_ (by with_reducible assumption)) | (with_reducible refine bgrow ?_ (by with_reducible assumption) (by omega)) | (simp; done) | (simp; omega)))⟩
  case round =>
    obtain ⟨k, hk, rfl, hset, hval, hnd, hb⟩ := hrel
    have HSet := Lib.hid hset
    have HVal := Lib.hid hval
    have HNd := Lib.hid hnd
    clear hset hval hnd
    by_cases hlt : k < n
    · have hkl2 : k < ks.length := by rw [HL.out]; exact hlt
      obtain ⟨g, rfl, _, _, hg1, hg2, hg3, _⟩ := (H.out.below hb).key hlt
      have i1 : (0 : Int) ≤ (k : Int) := by omega
      have i2 : (k : Int) < (n : Int) := by omega
      have hnot := @kaB_not_valid ks k hkl2
      have htw := @kaB_twice ks k hkl2
      have hsn := take_snoc' ks (0, 0) k hkl2
      generalize ks.getD k (0, 0) = z at *
      obtain ⟨z1, z2⟩ := z
      simp only [] at hg2 hg3 hnot
      have HSN := Lib.hid hsn
      have HNOT := Lib.hid hnot
      have HTW := Lib.hid htw
      clear hsn hnot htw
      by_cases hkv : kvB z1 z2 = true
      · obtain ⟨⟨v1, v2⟩, v3, v4⟩ := kvB_iff.1 hkv
        obtain ⟨kl, hkl⟩ := keyOf_key z1 z2 ⟨v1, v2⟩ ⟨v3, v4⟩
        have HK := Lib.hid hkl
        clear hkl
        go_wp2_with (fail)
        refine (impl_KeyValid_b _ _ _).mono ?_
        rintro e w7 ⟨rfl, hb7⟩
        have HSet7 := Lib.hid ((HSet.out.alloc _).below hb7)
        have hb8 : Below w.heap.size w w7 := by (repeat' (first | with_reducible exact Below.refl _ _ | (with_reducible refine balloc ?_ _) | (with_reducible refine bset ?_ ?_ _) | (with_reducible refine bdrew ?_) | (with_reducible refine bdrewN ?_ _) | (with_reducible refine bstep ?_ (by with_reducible assumption)) | (with_reducible refine bgrow ?_ (by with_reducible assumption) (by omega)) | (simp; done) | (simp; omega)))
        obtain ⟨hc7, hf7, hz7⟩ := bel_at hb7 (wr.heap.size) (by simp)
        clear hb7
        by_cases hmem : (z1, z2) ∈ ks.take k
        · have hlk := HSet7.out.look key_law Tryd.underlying71 Tryd.underlying4 (zero_bool _) (keyV (z1, z2)) kl HK.out true (by rw [mem_keyV]; simp [hmem])
          simp only [keyV] at hlk
          go_wp2
          go_ret
          exact ⟨by rw [HTW.out hmem]; rfl, hb8⟩
        · have hlk := HSet7.out.look key_law Tryd.underlying71 Tryd.underlying4 (zero_bool _) (keyV (z1, z2)) kl HK.out false (by rw [mem_keyV]; simp [hmem])
          simp only [keyV] at hlk
          go_wp2_with (first | (at_mapUpdate; refine wpList_update_set rfl _ _ _ rfl key_law Tryd.underlying71 Tryd.underlying4 w.heap.size _ rfl HSet7.out (by simp; unfold maxLen; omega) (keyV (z1, z2)) rfl rfl kl HK.out (by rw [mem_keyV]; exact hmem) ?_; intro w8 hset8 hg8))
          have hb9 : Below w.heap.size w w8 := hb8.grown hg8 hb8.size (fun q e => by cases e; exact Nat.le_refl _)
          have R : Hid (SetM Tryd.prog 44 4 w8 w.heap.size ((ks.take (k + 1)).map keyV).reverse ∧ (∀ x ∈ ks.take (k + 1), kvB x.1 x.2 = true) ∧ (ks.take (k + 1)).Nodup) := by
            rw [HSN.out]
            refine ⟨by simpa using hset8, ?_, ?_⟩
            · intro x hx
              rcases List.mem_append.1 hx with hx | hx
              · exact HVal.out x hx
              · obtain rfl : x = (z1, z2) := by simpa using hx
                exact hkv
            · rw [List.nodup_append]
              refine ⟨HNd.out, by simp, fun a ha b hb' e => ?_⟩
              obtain rfl : b = (z1, z2) := by simpa using hb'
              exact hmem (e ▸ ha)
          clear hset8 hg8
          go_wp2
          go_roundw
          case rel => exact ⟨k + 1, by omega, by go_num, R.out.1, R.out.2.1, R.out.2.2, hb9⟩
          case measure => simp [intOf]; omega
      · have hkv' : kvB z1 z2 = false := by simpa using hkv
        clear hkv
        go_wp2_with (fail)
        refine (impl_KeyValid_b _ _ _).mono ?_
        rintro e w7 ⟨rfl, hb7⟩
        go_wp2
        go_ret
        exact ⟨by rw [HNOT.out hkv']; rfl, by (repeat' (first | with_reducible exact Below.refl _ _ | (with_reducible refine balloc ?_ _) | (with_reducible refine bset ?_ ?_ _) | (with_reducible refine bdrew ?_) | (with_reducible refine bdrewN ?_ _) | (with_reducible refine bstep ?_ (by with_reducible assumption)) | (with_reducible refine bgrow ?_ (by with_reducible assumption) (by omega)) | (simp; done) | (simp; omega)))⟩
    · obtain rfl : k = n := by omega
      have e : kaB ks = decide (k ≤ 64) := by
        have h1 := HVal.out
        have h2 := HNd.out
        rw [List.take_of_length_le (by rw [HL.out]; exact Nat.le_refl _)] at h1 h2
        have h3 : ks.all (fun k => kvB k.1 k.2) = true := List.all_eq_true.2 h1
        simp [kaB, h2, h3, HL.out]
      have E := Lib.hid e
      clear e
      go_wp2
      go_ret
      exact ⟨by rw [E.out]; exact ret_bool (by rw [Bool.eq_iff_iff]; simp; omega), hb⟩
end Go.Proofs.YtjdoegekolbdpaaDoor
