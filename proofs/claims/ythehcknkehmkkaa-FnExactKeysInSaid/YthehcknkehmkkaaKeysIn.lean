/- Both KeysIn return the pages of a space in a bucket, in new memory. No conditions. -/
import Derived.Test.YthehcknkehmkkaaKeys
import Derived.Test.YthehcknkehmkkaaMem
import Derived.Deep.DrawnRows
namespace Go.Proofs.Ythehcknkehmkkaa
open Go.ChangeShapes Go.WideShapes Go.ChangeAt Go.RowKit

def kiOk (s b n : Int) : Bool := withinB s 16 && withinB (n - 1) 16 && withinB b n
def kiF (s b n : Int) (k : Nat) : List Int := ((List.range k).filter (fun (p : Nat) => hashN s (p : Int) n == b)).map fun (p : Nat) => (p : Int)
def kiL (s b n : Int) : List Int := if kiOk s b n = true then kiF s b n 256 else []
theorem kiF_hit {s b n : Int} {k : Nat} (h : hashN s k n = b) : kiF s b n (k + 1) = kiF s b n k ++ [(k : Int)] := by
  simp [kiF, List.range_succ, List.filter_append, h]
theorem kiF_miss {s b n : Int} {k : Nat} (h : hashN s k n ≠ b) : kiF s b n (k + 1) = kiF s b n k := by
  simp [kiF, List.range_succ, List.filter_append, h]
theorem kiF_len (s b n : Int) (k : Nat) : (kiF s b n k).length ≤ k := by
  unfold kiF
  have := List.length_filter_le (fun (p : Nat) => hashN s (p : Int) n == b) (List.range k)
  simp at this ⊢
  exact this
theorem kiL_len (s b n : Int) : (kiL s b n).length ≤ 256 := by
  unfold kiL; split
  · exact kiF_len s b n 256
  · simp
theorem kiOk_iff {s b n : Int} : kiOk s b n = true ↔ (0 ≤ s ∧ s < 16) ∧ (1 ≤ n ∧ n ≤ 16) ∧ 0 ≤ b ∧ b < n := by
  unfold kiOk; simp only [Bool.and_eq_true, withinB_iff]; omega

/-- two results: a slice of ints in blocks of the call's own, and whether there is one -/
def SlB (zs : List Int) (ok : Bool) (w : World) (e : Ending) (w' : World) : Prop :=
  ∃ A c, e = .returned (.tuple #[.slice A zs.length c, .bool ok]) ∧ zs.length ≤ c ∧ c ≤ maxLen ∧ Sl w' w.heap.size w'.heap.size 3 1 A zs.length (ints zs) ∧ Below w.heap.size w w'

theorem clip_ints (A : Option Addr) (n c : Nat) (w : World) (h1 : n ≤ c) (h2 : c ≤ maxLen) : Calls Try.prog 54 #[.slice A n c] w fun e w' => e = .returned (.slice A n n) ∧ w = w' := by
  unfold maxLen at h2
  go_enter Try.func54, Try.ntmps54
  go_wp2
  go_ret
  exact ⟨rfl, rfl⟩
theorem int_info : (Try.prog.info? 3).map (fun i => (i.zero, i.size, i.bytes)) = some (some (.int .i64 0), 1, 8) := by kernel_rfl
theorem impl_KeysIn (s b n : Int) (w : World) : Calls Try.prog 33 #[.int .i64 s, .int .i64 b, .int .i64 n] w (SlB (kiL s b n) (kiOk s b n) w) := by
  by_cases hok : kiOk s b n = true
  · have e1 : kiL s b n = kiF s b n 256 := by simp [kiL, hok]
    rw [e1, hok]
    obtain ⟨⟨hs1, hs2⟩, ⟨hn1, hn2⟩, hb1, hb2⟩ := kiOk_iff.1 hok
    clear hok e1
    have t1 : withinB s 16 = true := withinB_iff.2 ⟨hs1, hs2⟩
    have t2 : withinB (n - 1) 16 = true := withinB_iff.2 ⟨by omega, by omega⟩
    have t3 : withinB b n = true := withinB_iff.2 ⟨hb1, hb2⟩
    obtain ⟨i0, hi, hz0, hz1, hz2⟩ := info_parts int_info
    go_enter Try.func33, Try.ntmps33
    go_wp2_with (first | (go_at_call 41; refine (within_any _ _ _).mono ?_; rintro e w' ⟨rfl, rfl⟩) | (go_at_call 45; refine (impl_bucketsValid _ _).mono ?_; rintro e w' ⟨rfl, rfl⟩))
    go_loopw [8, 24] (fun v i wr => ∃ k : Nat, k ≤ 256 ∧ i = .int .i64 k ∧ wr.ownsRow w.heap.size 3 1 v (kiF s b n k).length (ints (kiF s b n k)) ∧ Below w.heap.size w wr) (fun _ i _ => 256 - (intOf i).toNat)
    case atStart => exact ⟨0, by omega, rfl, World.ownsRow_nil _ _ _ _, Below.refl _ _⟩
    case round =>
      obtain ⟨k, hk, rfl, hown, hbw⟩ := hrel
      by_cases hlt : k < 256
      · have hkv : kvB s k = true := kvB_iff.2 ⟨⟨hs1, hs2⟩, by omega, by omega⟩
        have hkl := kiF_len s b n k
        by_cases hh : hashN s k n = b
        · have hc : ∀ w : World, Calls Try.prog 46 #[.agg #[.int .i64 s, .int .i64 k], .int .i64 n] w fun r w' => r = .returned (.int .i64 b) ∧ w.alloc (.cells #[.int .i64 s, .int .i64 k] 31) = w' := fun w => by
            rw [← hh]; exact impl_hash s k n w hkv (by omega) (by omega)
          have HC := Lib.hid hc
          have HH := Lib.hid hh
          have HO := Lib.hid hown
          have i1 : (0 : Int) ≤ (k : Int) := by omega
          have i2 : (k : Int) < 256 := by omega
          clear hc hh hown hkv hkl
          go_wp2_with (fail)
          refine (HC.out _).mono ?_
          rintro e w2 ⟨rfl, rfl⟩
          have HO2 := Lib.hid ((HO.out.alloc (.cells #[.int .i64 s, .int .i64 k] 31)).alloc (.cells #[.int .i64 k] 3))
          go_wp2_with (at_builtin; refine wpList_append_own _ rfl _ _ 45 rfl w.heap.size 3 i0 (.int .i64 0) 1 8 Try.underlying45 hi hz0 hz1 hz2 rfl (by decide) _ _ _ rfl HO2.out _ _ _ [.int .i64 k] rfl rfl ?c1 ?c2 ?c3 ?c4 ?c5 ?_)
          case c1 => exact cell_new1 (by simp)
          case c2 => intro u hu; simp at hu; subst hu; rfl
          case c3 => have := kiF_len s b n k; unfold maxLen; omega
          case c4 => have := kiF_len s b n k; omega
          case c5 => have := hbw.size; simp; omega
          intro v' w3 hown' hgrow _
          have hbw3 : Below w.heap.size w w3 := below_app ((hbw.alloc hbw.size _).alloc (by simp; have := hbw.size; omega) _) (by simp; have := hbw.size; omega) HO2.out hgrow
          rw [ints_snoc, ← kiF_hit HH.out] at hown'
          have R := Lib.hid (And.intro hown' hbw3)
          clear hown' hbw3 hgrow
          go_wp2
          go_roundw
          case rel => exact ⟨k + 1, by omega, by go_num, by rw [kiF_hit HH.out, List.length_append]; rw [kiF_hit HH.out] at R; exact R.out.1, R.out.2⟩
          case measure => simp [intOf]; omega
        · have hc : ∃ h : Int, (h == b) = false ∧ ∀ w : World, Calls Try.prog 46 #[.agg #[.int .i64 s, .int .i64 k], .int .i64 n] w fun r w' => r = .returned (.int .i64 h) ∧ w.alloc (.cells #[.int .i64 s, .int .i64 k] 31) = w' :=
            ⟨hashN s k n, by simpa using hh, fun w => impl_hash s k n w hkv (by omega) (by omega)⟩
          obtain ⟨h, hne, hc⟩ := hc
          have HC := Lib.hid hc
          have HH := Lib.hid hh
          have HO := Lib.hid hown
          have i1 : (0 : Int) ≤ (k : Int) := by omega
          have i2 : (k : Int) < 256 := by omega
          clear hc hh hown hkv hkl
          go_wp2_with (fail)
          refine (HC.out _).mono ?_
          rintro e w2 ⟨rfl, rfl⟩
          go_wp2
          go_roundw
          case rel => exact ⟨k + 1, by omega, by go_num, by rw [kiF_miss HH.out]; exact HO.out.alloc _, hbw.alloc hbw.size _⟩
          case measure => simp [intOf]; omega
      · obtain rfl : k = 256 := by omega
        have HO := Lib.hid hown
        clear hown
        go_wp2_with (fail)
        obtain ⟨A, c, rfl, hc1, hc2, hsl⟩ := Sl.own HO.out
        refine (clip_ints _ _ _ _ hc1 hc2).mono ?_
        rintro e w2 ⟨rfl, rfl⟩
        have HS := Lib.hid hsl
        clear hsl
        go_wp2
        go_ret2
        have hkl := kiF_len s b n 256
        exact ⟨A, _, rfl, Nat.le_refl _, by unfold maxLen; omega, HS.out, hbw⟩
  · have hok' : kiOk s b n = false := by simpa using hok
    have e1 : kiL s b n = [] := by simp [kiL, hok']
    rw [e1, hok']
    have hn := mt kiOk_iff.2 hok
    have t1 : withinB s 16 = decide (0 ≤ s ∧ s < 16) := rfl
    have fin : ∀ e w', (e = .returned (.tuple #[.slice none 0 0, .bool false]) ∧ w = w') → SlB [] false w e w' := by
      rintro e w' ⟨rfl, rfl⟩; exact ⟨none, 0, rfl, Nat.le_refl _, by unfold maxLen; omega, Sl.none_, Below.refl _ _⟩
    refine Calls.mono ?_ fin
    by_cases h1 : withinB s 16 = true
    · by_cases h2 : withinB (n - 1) 16 = true
      · have h3 : withinB b n = false := by
          rcases hq : withinB b n with _ | _
          · rfl
          · exact absurd (by simp [kiOk, h1, h2, hq]) hok
        clear hok hok' e1 hn t1 fin
        go_enter Try.func33, Try.ntmps33
        go_wp2_with (first | (go_at_call 41; refine (within_any _ _ _).mono ?_; rintro e w' ⟨rfl, rfl⟩) | (go_at_call 45; refine (impl_bucketsValid _ _).mono ?_; rintro e w' ⟨rfl, rfl⟩))
        go_ret2
        exact ⟨rfl, rfl⟩
      · have h2' : withinB (n - 1) 16 = false := by simpa using h2
        clear hok hok' e1 hn t1 fin h2
        go_enter Try.func33, Try.ntmps33
        go_wp2_with (first | (go_at_call 41; refine (within_any _ _ _).mono ?_; rintro e w' ⟨rfl, rfl⟩) | (go_at_call 45; refine (impl_bucketsValid _ _).mono ?_; rintro e w' ⟨rfl, rfl⟩))
        go_ret2
        exact ⟨rfl, rfl⟩
    · have h1' : withinB s 16 = false := by simpa using h1
      clear hok hok' e1 hn t1 fin h1
      go_enter Try.func33, Try.ntmps33
      go_wp2_with (first | (go_at_call 41; refine (within_any _ _ _).mono ?_; rintro e w' ⟨rfl, rfl⟩) | (go_at_call 45; refine (impl_bucketsValid _ _).mono ?_; rintro e w' ⟨rfl, rfl⟩))
      go_ret2
      exact ⟨rfl, rfl⟩
theorem spec_KeysIn (s b n : Int) (w : World) : Calls Try.prog 32 #[.int .i64 s, .int .i64 b, .int .i64 n] w (SlB (kiL s b n) (kiOk s b n) w) := by
  by_cases hok : kiOk s b n = true
  · have e1 : kiL s b n = kiF s b n 256 := by simp [kiL, hok]
    rw [e1, hok]
    obtain ⟨⟨hs1, hs2⟩, ⟨hn1, hn2⟩, hb1, hb2⟩ := kiOk_iff.1 hok
    clear hok e1
    have t1 : withinB s 16 = true := withinB_iff.2 ⟨hs1, hs2⟩
    have t2 : withinB (n - 1) 16 = true := withinB_iff.2 ⟨by omega, by omega⟩
    obtain ⟨i0, hi, hz0, hz1, hz2⟩ := info_parts int_info
    go_enter Try.func32, Try.ntmps32
    go_wp2_with (first | (go_at_call 53; refine (spec_l1Space _ _).mono ?_; rintro e w' ⟨rfl, rfl⟩) | (go_at_call 48; refine (spec_l2Buckets _ _).mono ?_; rintro e w' ⟨rfl, rfl⟩))
    go_loopw [8, 9] (fun v i wr => ∃ k : Nat, k ≤ 256 ∧ i = .int .i64 k ∧ wr.ownsRow w.heap.size 3 1 v (kiF s b n k).length (ints (kiF s b n k)) ∧ Below w.heap.size w wr) (fun _ i _ => 256 - (intOf i).toNat)
    case atStart => exact ⟨0, by omega, rfl, World.ownsRow_lit w #[] 0 (Nat.le_refl _) (by unfold maxLen; omega) rfl, Joins.below_alloc1 _ _⟩
    case round =>
      obtain ⟨k, hk, rfl, hown, hbw⟩ := hrel
      by_cases hlt : k < 256
      · have hkv : kvB s k = true := kvB_iff.2 ⟨⟨hs1, hs2⟩, by omega, by omega⟩
        have hkl := kiF_len s b n k
        by_cases hh : hashN s k n = b
        · have hc : ∀ w : World, Calls Try.prog 49 #[.agg #[.int .i64 s, .int .i64 k], .int .i64 n] w fun r w' => r = .returned (.int .i64 b) ∧ w.alloc (.cells #[.int .i64 s, .int .i64 k] 31) = w' := fun w => by
            rw [← hh]; exact spec_l2Hash s k n w hkv (by omega) (by omega)
          have HC := Lib.hid hc
          have HH := Lib.hid hh
          have HO := Lib.hid hown
          have i1 : (0 : Int) ≤ (k : Int) := by omega
          have i2 : (k : Int) < 256 := by omega
          clear hc hh hown hkv hkl
          go_wp2_with (fail)
          refine (HC.out _).mono ?_
          rintro e w2 ⟨rfl, rfl⟩
          have HO2 := Lib.hid ((HO.out.alloc (.cells #[.int .i64 s, .int .i64 k] 31)).alloc (.cells #[.int .i64 k] 3))
          go_wp2_with (at_builtin; refine wpList_append_own _ rfl _ _ 45 rfl w.heap.size 3 i0 (.int .i64 0) 1 8 Try.underlying45 hi hz0 hz1 hz2 rfl (by decide) _ _ _ rfl HO2.out _ _ _ [.int .i64 k] rfl rfl ?c1 ?c2 ?c3 ?c4 ?c5 ?_)
          case c1 => exact cell_new1 (by simp)
          case c2 => intro u hu; simp at hu; subst hu; rfl
          case c3 => have := kiF_len s b n k; unfold maxLen; omega
          case c4 => have := kiF_len s b n k; omega
          case c5 => have := hbw.size; simp; omega
          intro v' w3 hown' hgrow _
          have hbw3 : Below w.heap.size w w3 := below_app ((hbw.alloc hbw.size _).alloc (by simp; have := hbw.size; omega) _) (by simp; have := hbw.size; omega) HO2.out hgrow
          rw [ints_snoc, ← kiF_hit HH.out] at hown'
          have R := Lib.hid (And.intro hown' hbw3)
          clear hown' hbw3 hgrow
          go_wp2
          go_roundw
          case rel => exact ⟨k + 1, by omega, by go_num, by rw [kiF_hit HH.out, List.length_append]; rw [kiF_hit HH.out] at R; exact R.out.1, R.out.2⟩
          case measure => simp [intOf]; omega
        · have hc : ∃ h : Int, (h == b) = false ∧ ∀ w : World, Calls Try.prog 49 #[.agg #[.int .i64 s, .int .i64 k], .int .i64 n] w fun r w' => r = .returned (.int .i64 h) ∧ w.alloc (.cells #[.int .i64 s, .int .i64 k] 31) = w' :=
            ⟨hashN s k n, by simpa using hh, fun w => spec_l2Hash s k n w hkv (by omega) (by omega)⟩
          obtain ⟨h, hne, hc⟩ := hc
          have HC := Lib.hid hc
          have HH := Lib.hid hh
          have HO := Lib.hid hown
          have i1 : (0 : Int) ≤ (k : Int) := by omega
          have i2 : (k : Int) < 256 := by omega
          clear hc hh hown hkv hkl
          go_wp2_with (fail)
          refine (HC.out _).mono ?_
          rintro e w2 ⟨rfl, rfl⟩
          go_wp2
          go_roundw
          case rel => exact ⟨k + 1, by omega, by go_num, by rw [kiF_miss HH.out]; exact HO.out.alloc _, hbw.alloc hbw.size _⟩
          case measure => simp [intOf]; omega
      · obtain rfl : k = 256 := by omega
        have HO := Lib.hid hown
        clear hown
        obtain ⟨A, c, rfl, hc1, hc2, hsl⟩ := Sl.own HO.out
        have HS := Lib.hid hsl
        clear hsl
        go_wp2
        go_ret2
        exact ⟨A, _, rfl, hc1, hc2, HS.out, hbw⟩
  · have hok' : kiOk s b n = false := by simpa using hok
    have e1 : kiL s b n = [] := by simp [kiL, hok']
    rw [e1, hok']
    have fin : ∀ e w', (e = .returned (.tuple #[.slice (some ⟨w.heap.size, 0, none⟩) 0 0, .bool false]) ∧ Below w.heap.size w w') → SlB [] false w e w' := by
      rintro e w' ⟨rfl, hb⟩; exact ⟨_, 0, rfl, Nat.le_refl _, by unfold maxLen; omega, Sl.empty, hb⟩
    refine Calls.mono ?_ fin
    by_cases h1 : withinB s 16 = true
    · by_cases h2 : withinB (n - 1) 16 = true
      · have h3 : withinB b n = false := by
          rcases hq : withinB b n with _ | _
          · rfl
          · exact absurd (by simp [kiOk, h1, h2, hq]) hok
        have h4 := withinB_not.1 h3
        clear hok hok' e1 fin h3
        rcases h4 with h4 | h4
        · go_enter Try.func32, Try.ntmps32
          go_wp2_with (first | (go_at_call 53; refine (spec_l1Space _ _).mono ?_; rintro e w' ⟨rfl, rfl⟩) | (go_at_call 48; refine (spec_l2Buckets _ _).mono ?_; rintro e w' ⟨rfl, rfl⟩))
          all_goals (go_ret2; exact ⟨rfl, by (repeat' (first | with_reducible exact Below.refl _ _ | (with_reducible refine balloc ?_ _) | (with_reducible refine bset ?_ ?_ _) | (with_reducible refine bdrew ?_) | (with_reducible refine bdrewN ?_ _) | (with_reducible refine bstep ?_ (by with_reducible assumption)) | (with_reducible refine bgrow ?_ (by with_reducible assumption) (by omega)) | (simp; done) | (simp; omega)))⟩)
        · go_enter Try.func32, Try.ntmps32
          go_wp2_with (first | (go_at_call 53; refine (spec_l1Space _ _).mono ?_; rintro e w' ⟨rfl, rfl⟩) | (go_at_call 48; refine (spec_l2Buckets _ _).mono ?_; rintro e w' ⟨rfl, rfl⟩))
          all_goals (go_ret2; exact ⟨rfl, by (repeat' (first | with_reducible exact Below.refl _ _ | (with_reducible refine balloc ?_ _) | (with_reducible refine bset ?_ ?_ _) | (with_reducible refine bdrew ?_) | (with_reducible refine bdrewN ?_ _) | (with_reducible refine bstep ?_ (by with_reducible assumption)) | (with_reducible refine bgrow ?_ (by with_reducible assumption) (by omega)) | (simp; done) | (simp; omega)))⟩)
      · have h2' : withinB (n - 1) 16 = false := by simpa using h2
        clear hok hok' e1 fin h2
        go_enter Try.func32, Try.ntmps32
        go_wp2_with (first | (go_at_call 53; refine (spec_l1Space _ _).mono ?_; rintro e w' ⟨rfl, rfl⟩) | (go_at_call 48; refine (spec_l2Buckets _ _).mono ?_; rintro e w' ⟨rfl, rfl⟩))
        all_goals (go_ret2; exact ⟨rfl, by (repeat' (first | with_reducible exact Below.refl _ _ | (with_reducible refine balloc ?_ _) | (with_reducible refine bset ?_ ?_ _) | (with_reducible refine bdrew ?_) | (with_reducible refine bdrewN ?_ _) | (with_reducible refine bstep ?_ (by with_reducible assumption)) | (with_reducible refine bgrow ?_ (by with_reducible assumption) (by omega)) | (simp; done) | (simp; omega)))⟩)
    · have h1' : withinB s 16 = false := by simpa using h1
      clear hok hok' e1 fin h1
      go_enter Try.func32, Try.ntmps32
      go_wp2_with (first | (go_at_call 53; refine (spec_l1Space _ _).mono ?_; rintro e w' ⟨rfl, rfl⟩) | (go_at_call 48; refine (spec_l2Buckets _ _).mono ?_; rintro e w' ⟨rfl, rfl⟩))
      all_goals (go_ret2; exact ⟨rfl, by (repeat' (first | with_reducible exact Below.refl _ _ | (with_reducible refine balloc ?_ _) | (with_reducible refine bset ?_ ?_ _) | (with_reducible refine bdrew ?_) | (with_reducible refine bdrewN ?_ _) | (with_reducible refine bstep ?_ (by with_reducible assumption)) | (with_reducible refine bgrow ?_ (by with_reducible assumption) (by omega)) | (simp; done) | (simp; omega)))⟩)
end Go.Proofs.Ythehcknkehmkkaa
