/- Counting keys in buckets: both CountBuckets, LongestBucket, BestBuckets return what the plain functions say. Asked: at most 1048576 keys. -/
import Derived.Test.YtjdoegekolbdpaaDoorAccept
import Derived.Test.YtjdoegekolbdpaaDoorKeys
import Derived.Test.YtjdoegekolbdpaaDoorInts
namespace Go.Proofs.YtjdoegekolbdpaaDoor
open Go.ChangeShapes Go.WideShapes Go.ChangeAt Go.RowKit

def cnt (ks : List (Int × Int)) (b : Int) (j : Nat) : Nat := (ks.filter fun k => hashN k.1 k.2 b == (j : Int)).length
def cntL (ks : List (Int × Int)) (b : Nat) : List Int := (List.range b).map fun (j : Nat) => (cnt ks b j : Int)
theorem cntL_len (ks : List (Int × Int)) (b : Nat) : (cntL ks b).length = b := by simp [cntL]
theorem cnt_le (ks : List (Int × Int)) (b : Int) (j : Nat) : cnt ks b j ≤ ks.length := List.length_filter_le _ _
theorem cntL_at (ks : List (Int × Int)) {b j : Nat} (h : j < b) : (cntL ks b).getD j 0 = cnt ks b j := by simp [cntL, List.getD_eq_getElem?_getD, h]
theorem cntL_snoc (l : List (Int × Int)) (z : Int × Int) (b h : Nat) (hh : hashN z.1 z.2 b = (h : Int)) : cntL (l ++ [z]) b = (cntL l b).set h ((cnt l b h : Int) + 1) := by
  apply List.ext_getElem?
  intro j
  by_cases hj : j < b
  · rw [List.getElem?_set]
    by_cases e : h = j
    · subst e
      simp [cntL, hj, cnt, List.filter_append, hh]
    · have : ¬ (h : Int) = (j : Int) := by omega
      simp [cntL, hj, cnt, List.filter_append, hh, e, this]
  · simp [cntL, hj]
theorem cntL_nil (b : Nat) : cntL [] b = List.replicate b 0 := by
  apply List.ext_getElem?
  intro j
  by_cases hj : j < b <;> simp [cntL, cnt, hj, List.getElem?_replicate]
theorem impl_count (A : Option Addr) (n c lo hi b : Nat) (ks : List (Int × Int)) (w : World) (h : Sl w lo hi 44 2 A n (kcells ks)) (hn : n ≤ 1048576) (hv : ∀ x ∈ ks, kvB x.1 x.2 = true) (h1 : 1 ≤ b) (h2 : b ≤ 16) :
    Calls Tryd.prog 71 #[.slice A n c, .int .i64 b] w (SlI (cntL ks b) w) := by
  have hkl : ks.length = n := by have := h.1; rw [kcells_len] at this; omega
  have H := Lib.hid h
  have HL := Lib.hid hkl
  have HV := Lib.hid hv
  clear h hkl hv
  obtain ⟨i0, hi0, hz0, hz1, hz2⟩ := info_parts int_info
  go_enter Tryd.func71, Tryd.ntmps71
  go_wp2_with (at_make; refine wpList_make_full _ rfl _ _ 25 rfl w.heap.size 3 i0 _ 1 Tryd.underlying25 hi0 hz0 hz1 .i64 .i64 _ _ b rfl rfl rfl rfl (by rw [hz2]; omega) (by unfold maxLen; omega) (Nat.le_refl _) ?_; intro w1 hown hg)
  obtain ⟨A', c', e, _, _, hsl⟩ := Sl.own hown
  obtain ⟨rfl, rfl⟩ : A' = some ⟨w.heap.size, 0, none⟩ ∧ b = c' := by cases e; exact ⟨rfl, rfl⟩
  simp only [Value.cells] at hsl
  rw [ints_made, ← cntL_nil] at hsl
  have HS := Lib.hid hsl
  have hbw : Below w.heap.size w w1 := (Below.refl _ _).grown hg (Nat.le_refl _) (fun k e => by cases e)
  clear hown hg e hsl
  go_loopw [12] (fun i wr => ∃ k : Nat, k ≤ n ∧ i = .int .i64 k ∧ Sl wr w.heap.size w1.heap.size 3 1 (some ⟨w.heap.size, 0, none⟩) b (ints (cntL (ks.take k) b)) ∧ Below w.heap.size w wr) (fun i _ => n - (intOf i).toNat)
  case atStart => exact ⟨0, Nat.zero_le _, rfl, HS.out, hbw⟩
  case round =>
    obtain ⟨k, hk, rfl, hs, hb⟩ := hrel
    by_cases hlt : k < n
    · have hkl2 : k < ks.length := by rw [HL.out]; exact hlt
      obtain ⟨g, rfl, _, _, hg1, hg2, hg3, _⟩ := (H.out.below hb).key hlt
      have i1 : (0 : Int) ≤ (k : Int) := by omega
      have i2 : (k : Int) < (n : Int) := by omega
      have hsn := take_snoc' ks (0, 0) k hkl2
      have hkv : kvB (ks.getD k (0, 0)).1 (ks.getD k (0, 0)).2 = true := HV.out _ (by simp [List.getD_eq_getElem?_getD, hkl2])
      have hcl := cnt_le (ks.take k) b
      have htl : (ks.take k).length ≤ n := by simp; omega
      generalize ks.getD k (0, 0) = z at *
      obtain ⟨z1, z2⟩ := z
      simp only [] at hg2 hg3 hkv
      obtain ⟨q1, q2⟩ := hashN_range (s := z1) (p := z2) (b := b) (by omega)
      obtain ⟨x, hx⟩ := Int.eq_ofNat_of_zero_le q1
      have hxb : x < b := by omega
      have hc : ∀ w : World, Calls Tryd.prog 49 #[.agg #[.int .i64 z1, .int .i64 z2], .int .i64 b] w fun r w' => r = .returned (.int .i64 (x : Int)) ∧ w.alloc (.cells #[.int .i64 z1, .int .i64 z2] 44) = w' := fun w => by
        rw [← hx]; exact impl_hash z1 z2 b w hkv (by omega) (by omega)
      obtain ⟨g', e, hg0, hg0', hg1', hg4, hg5⟩ := hs.int hxb
      obtain rfl : w.heap.size = g' := by simpa using e
      rw [cntL_at _ hxb] at hg4
      have hst := cntL_snoc (ks.take k) (z1, z2) b x hx
      have hc1 := hcl x
      generalize cnt (ks.take k) b x = y at *
      rw [← hsn] at hst
      have hs6 := hs.stored (by omega) x (.int .i64 ((y : Int) + 1))
      rw [ints_set, ← hst] at hs6
      have i3 : (0 : Int) ≤ (x : Int) := by omega
      have i4 : (x : Int) < (b : Int) := by omega
      have HC := Lib.hid hc
      have HR := Lib.hid hs6
      clear hc hs6 hst hs e hx hsn hcl hkv q1 q2
      go_wp2_with (fail)
      refine (HC.out _).mono ?_
      rintro e w7 ⟨rfl, rfl⟩
      go_wp2
      go_roundw
      case rel => exact ⟨k + 1, by omega, by go_num, (HR.out.alloc _).alloc _, by (repeat' (first | with_reducible exact Below.refl _ _ | (with_reducible refine balloc ?_ _) | (with_reducible refine bset ?_ ?_ _) | (with_reducible refine bdrew ?_) | (with_reducible refine bdrewN ?_ _) | (with_reducible refine bstep ?_ (by with_reducible assumption)) | (with_reducible refine bgrow ?_ (by with_reducible assumption) (by omega)) | (simp; done) | (simp; omega)))⟩
      case measure => simp [intOf]; omega
    · obtain rfl : k = n := by omega
      rw [List.take_of_length_le (by rw [HL.out]; exact Nat.le_refl _)] at hs
      have hs := hs.top
      have hbb : (cntL ks b).length = b := cntL_len _ _
      have HB := Lib.hid hbb
      clear hbb
      go_wp2
      go_ret
      exact ⟨some ⟨w.heap.size, 0, none⟩, b, by rw [HB.out]; rfl, by rw [HB.out]; exact Nat.le_refl _, by unfold maxLen; omega, by rw [HB.out]; exact hs, hb⟩
def cbOk (ks : List (Int × Int)) (b : Int) : Bool := kaB ks && withinB (b - 1) 16
def cbL (ks : List (Int × Int)) (b : Int) : List Int := if cbOk ks b = true then cntL ks b.toNat else []
theorem kaB_valid {ks : List (Int × Int)} (h : kaB ks = true) : ∀ x ∈ ks, kvB x.1 x.2 = true := by
  simp only [kaB, Bool.and_eq_true, List.all_eq_true] at h; exact h.1.2
theorem kaB_len {ks : List (Int × Int)} (h : kaB ks = true) : ks.length ≤ 64 := by
  simp only [kaB, Bool.and_eq_true, decide_eq_true_eq] at h; exact h.1.1
theorem cbOk_iff {ks : List (Int × Int)} {b : Int} : cbOk ks b = true ↔ kaB ks = true ∧ 1 ≤ b ∧ b ≤ 16 := by
  unfold cbOk; rw [Bool.and_eq_true, withinB_iff]; constructor <;> rintro ⟨h1, h2, h3⟩ <;> exact ⟨h1, by omega, by omega⟩
theorem cbL_len (ks : List (Int × Int)) (b : Int) : (cbL ks b).length ≤ 16 := by
  unfold cbL; split
  · rename_i h; have := cbOk_iff.1 h; rw [cntL_len]; omega
  · simp
theorem impl_CountBuckets (A : Option Addr) (n c lo hi : Nat) (b : Int) (ks : List (Int × Int)) (w : World) (h : Sl w lo hi 44 2 A n (kcells ks)) (hn : n ≤ 1048576) :
    Calls Tryd.prog 37 #[.slice A n c, .int .i64 b] w (SlB (cbL ks b) (cbOk ks b) w) := by
  have H := Lib.hid h
  clear h
  by_cases hka : kaB ks = true
  · by_cases hb : withinB (b - 1) 16 = true
    · obtain ⟨b1, b2⟩ := withinB_iff.1 hb
      obtain ⟨B, rfl⟩ := Int.eq_ofNat_of_zero_le (show 0 ≤ b by omega)
      have e1 : cbOk ks B = true := by simp [cbOk, hka, hb]
      have e2 : cbL ks B = cntL ks B := by rw [cbL, if_pos e1]; rfl
      rw [e1, e2]
      clear e1 e2
      go_enter Tryd.func37, Tryd.ntmps37
      go_wp2_with (fail)
      refine (impl_keysAccepted A n c lo hi ks w H.out hn).mono ?_
      rintro e w1 ⟨rfl, hb1⟩
      go_wp2_with (go_at_call 40; refine (impl_bucketsValid _ _).mono ?_; rintro e w' ⟨rfl, rfl⟩)
      refine (impl_count A n c lo hi B ks w1 (H.out.below hb1) hn (kaB_valid hka) (by omega) (by omega)).mono ?_
      rintro e w2 ⟨A2, c2, rfl, h1, h2, hs2, hb2⟩
      have R := Lib.hid (hs2.more hb1.size (Nat.le_refl _))
      clear hs2
      go_wp2
      go_ret2
      exact ⟨A2, c2, rfl, h1, h2, R.out, bstep hb1 hb2⟩
    · have hb' : withinB (b - 1) 16 = false := by simpa using hb
      have e1 : cbOk ks b = false := by simp [cbOk, hb']
      have e2 : cbL ks b = [] := by simp [cbL, e1]
      rw [e1, e2]
      clear e1 e2 hb
      go_enter Tryd.func37, Tryd.ntmps37
      go_wp2_with (fail)
      refine (impl_keysAccepted A n c lo hi ks w H.out hn).mono ?_
      rintro e w1 ⟨rfl, hb1⟩
      go_wp2_with (go_at_call 40; refine (impl_bucketsValid _ _).mono ?_; rintro e w' ⟨rfl, rfl⟩)
      go_ret2
      exact ⟨none, 0, rfl, Nat.le_refl _, by unfold maxLen; omega, Sl.none_, hb1⟩
  · have hka' : kaB ks = false := by simpa using hka
    have e1 : cbOk ks b = false := by simp [cbOk, hka']
    have e2 : cbL ks b = [] := by simp [cbL, e1]
    rw [e1, e2]
    clear e1 e2 hka
    go_enter Tryd.func37, Tryd.ntmps37
    go_wp2_with (fail)
    refine (impl_keysAccepted A n c lo hi ks w H.out hn).mono ?_
    rintro e w1 ⟨rfl, hb1⟩
    go_wp2_with (go_at_call 40; refine (impl_bucketsValid _ _).mono ?_; rintro e w' ⟨rfl, rfl⟩)
    go_ret2
    exact ⟨none, 0, rfl, Nat.le_refl _, by unfold maxLen; omega, Sl.none_, hb1⟩
end Go.Proofs.YtjdoegekolbdpaaDoor
