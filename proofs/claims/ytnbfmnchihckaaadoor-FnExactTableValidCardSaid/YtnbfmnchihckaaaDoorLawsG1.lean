/- Walk of the law FnExactTableValid: it returns true where the variable 'free' holds what its initialiser lays. No other conditions. -/
import Derived.Test.YtnbfmnchihckaaaDoorTvI
import Derived.Test.YtnbfmnchihckaaaDoorTabIn
namespace Go.Proofs.YtnbfmnchihckaaaDoor
set_option linter.unusedVariables false
open Go.ChangeShapes Go.WideShapes Go.ChangeAt Go.RowKit
theorem Tb.set_ {w : World} {lo hi : Nat} {A B : Option Addr} {bk : List Int} {fs : List Fr} (h : Tb w lo hi A B bk fs) {p : Addr} (hp : hi ≤ p.block ∨ p.block < lo) (v : Value) : Tb (w.setCell p v) lo hi A B bk fs := ⟨h.1.set_ hp v, h.2.set_ hp v⟩
theorem toTabA (A B : Option Addr) (nb ca nf cb : Nat) (bk : List Int) (fs : List Fr) (w : World) (h : TIn w A nb B nf bk fs) (hn : nb ≤ 1048576) (hn2 : nf ≤ 1048576) :
    Calls Tryd.prog 18 #[.agg #[.slice A nb ca, .slice B nf cb]] w fun e w' => ∃ ga gb, e = .returned (.agg #[.slice (some ⟨ga, 0, none⟩) bk.length bk.length, .slice (some ⟨gb, 0, none⟩) fs.length fs.length]) ∧
      Tb w' w.heap.size w'.heap.size (some ⟨ga, 0, none⟩) (some ⟨gb, 0, none⟩) bk fs ∧ Below w.heap.size w w' := laws_toTable A B nb ca nf cb bk fs w h hn hn2
theorem sz_tab (A B : Option Addr) (nb ca nf cb : Nat) (left : Int) (hn : nb ≤ maxLen) (hn2 : nf ≤ maxLen) (h0 : 0 ≤ left) (h1 : left ≤ 1048576) : ∃ z : Int, (z = -1 ∧ left < nb + nf ∨ z = left - nb - nf ∧ (nb + nf : Int) ≤ left) ∧
    ∀ w, Calls Tryd.prog 16 #[.agg #[.slice A nb ca, .slice B nf cb], .int .i64 left] w fun e w' => e = .returned (.int .i64 z) ∧ Below w.heap.size w w' := by
  refine ⟨_, ?_, fun w => laws_szTable A B nb ca nf cb left w hn hn2 h0 h1⟩
  split
  · exact .inl ⟨rfl, by omega⟩
  · exact .inr ⟨rfl, by omega⟩
theorem impl_TvA (A B : Option Addr) (ca cb lo hi : Nat) (bk : List Int) (fs : List Fr) (w : World) (hf : FreeIn w) (h : Tb w lo hi A B bk fs) (hn : bk.length ≤ 1048576) (hn2 : fs.length ≤ 1048576) :
    Calls Tryd.prog 19 #[.agg #[.slice A bk.length ca, .slice B fs.length cb]] w fun e w' => e = .returned (.bool (tvB bk fs)) ∧ Below w.heap.size w w' := impl_TableValid A B ca cb lo hi bk fs w hf h hn hn2
theorem spec_TvA (A B : Option Addr) (ca cb lo hi : Nat) (bk : List Int) (fs : List Fr) (w : World) (h : Tb w lo hi A B bk fs) (hn : bk.length ≤ 1048576) (hn2 : fs.length ≤ 1048576) :
    Calls Tryd.prog 17 #[.agg #[.slice A bk.length ca, .slice B fs.length cb]] w fun e w' => e = .returned (.bool (tvB bk fs)) ∧ Below w.heap.size w w' := spec_TableValid A B ca cb lo hi bk fs w h hn hn2
theorem eqTabA (A B A' B' : Option Addr) (ca cb ca' cb' lo hi lo' hi' : Nat) (bk : List Int) (fs : List Fr) (w : World) (h : Tb w lo hi A B bk fs) (h' : Tb w lo' hi' A' B' bk fs) (hn : bk.length ≤ 1048576) (hn2 : fs.length ≤ 1048576) :
    Calls Tryd.prog 13 #[.agg #[.slice A bk.length ca, .slice B fs.length cb], .agg #[.slice A' bk.length ca', .slice B' fs.length cb']] w fun e w' => e = .returned (.bool true) ∧ Below w.heap.size w w' := laws_eqTable A B A' B' ca cb ca' cb' lo hi lo' hi' bk fs w h h' hn hn2
set_option maxHeartbeats 4000000 in
theorem law_FnExactTableValid (w : World) (A : Option Addr) (nb ca : Nat) (B : Option Addr) (nf cb : Nat) (h : ArgTab w A nb ca B nf cb) (hfree : FreeIn w) :
    Calls Tryd.prog 4 #[tabV A nb ca B nf cb] w fun r w' => r = .returned (.bool true) ∧ Below w.heap.size w w' := by
  obtain ⟨⟨bk, fs, ht⟩, ⟨a1, a2⟩, a3, a4⟩ := h
  obtain rfl : bk.length = nb := ht.1.1
  obtain rfl : fs.length = nf := ht.2.1
  have m1 : bk.length ≤ maxLen := by omega
  have m2 : fs.length ≤ maxLen := by omega
  have H := Lib.hid ht
  have HF := Lib.hid hfree
  clear ht a1 a2 a3 a4 hfree
  obtain ⟨z, hz, SZ⟩ := sz_tab A B bk.length ca fs.length cb 1048576 m1 m2 (by omega) (by omega)
  have SZH := Lib.hid SZ
  clear SZ
  unfold tabV
  rcases hz with ⟨rfl, _⟩ | ⟨hz, h5⟩
  · clear m1 m2
    go_enter Tryd.func4, Tryd.ntmps4
    go_wp2_with (fail)
    refine (SZH.out _).mono ?_
    rintro e w1 ⟨rfl, hb1⟩
    go_wp2
    go_ret
    exact ⟨rfl, by (repeat' (first | with_reducible exact Below.refl _ _ | (with_reducible refine balloc ?_ _) | (with_reducible refine bset ?_ ?_ _) | (with_reducible refine bdrew ?_) | (with_reducible refine bdrewN ?_ _) | (with_reducible refine bstep ?_ (by with_reducible assumption)) | (with_reducible refine bgrow ?_ (by with_reducible assumption) (by omega)) | (simp; done) | (simp; omega)))⟩
  have hz0 : 0 ≤ z := by omega
  have c1 : bk.length ≤ 1048576 := by omega
  have c2 : fs.length ≤ 1048576 := by omega
  have hzz : z ≤ 1048576 := by omega
  clear m1 m2 h5 hz
  go_enter Tryd.func4, Tryd.ntmps4
  go_wp2_with (fail)
  refine (SZH.out _).mono ?_
  rintro e w1 ⟨rfl, hb1⟩
  obtain ⟨hc1_0, hf1_0, hz1_0⟩ := bel_at hb1 (w.heap.size) (by first | omega | (simp; done) | (simp; omega))
  go_wp2_with (fail)
  refine (toTabA _ _ _ _ _ _ bk fs _ (H.out.below (by (repeat' (first | with_reducible exact Below.refl _ _ | (with_reducible refine balloc ?_ _) | (with_reducible refine bset ?_ ?_ _) | (with_reducible refine bdrew ?_) | (with_reducible refine bdrewN ?_ _) | (with_reducible refine bstep ?_ (by with_reducible assumption)) | (with_reducible refine bgrow ?_ (by with_reducible assumption) (by omega)) | (simp; done) | (simp; omega))))) (by omega) (by omega)).mono ?_
  rintro e w2 ⟨ga2, gb2, rfl, ht2, hb2⟩
  have HT2 := Lib.hid ht2
  clear ht2
  obtain ⟨hc2_0, hf2_0, hz2_0⟩ := bel_at hb2 (w.heap.size) (by first | omega | (simp; done) | (simp; omega))
  go_wp2_with (fail)
  refine (spec_TvA _ _ _ _ _ _ bk fs _ HT2.out c1 c2).mono ?_
  rintro e w3 ⟨rfl, hb3⟩
  obtain ⟨hc3_0, hf3_0, hz3_0⟩ := bel_at hb3 (w.heap.size) (by first | omega | (simp; done) | (simp; omega))
  go_wp2_with (fail)
  refine (toTabA _ _ _ _ _ _ bk fs _ (H.out.below (by (repeat' (first | with_reducible exact Below.refl _ _ | (with_reducible refine balloc ?_ _) | (with_reducible refine bset ?_ ?_ _) | (with_reducible refine bdrew ?_) | (with_reducible refine bdrewN ?_ _) | (with_reducible refine bstep ?_ (by with_reducible assumption)) | (with_reducible refine bgrow ?_ (by with_reducible assumption) (by omega)) | (simp; done) | (simp; omega))))) (by omega) (by omega)).mono ?_
  rintro e w4 ⟨ga4, gb4, rfl, ht4, hb4⟩
  obtain ⟨l4, h4, hl4, HT4⟩ : ∃ lo hi, hi ≤ w4.heap.size ∧ Hid (Tb w4 lo hi (some ⟨ga4, 0, none⟩) (some ⟨gb4, 0, none⟩) bk fs) := ⟨_, _, Nat.le_refl _, Lib.hid ht4⟩
  clear ht4
  obtain ⟨hc4_0, hf4_0, hz4_0⟩ := bel_at hb4 (w.heap.size) (by first | omega | (simp; done) | (simp; omega))
  go_wp2_with (fail)
  refine (impl_TvA _ _ _ _ l4 h4 bk fs _ (HF.out.below (by (repeat' (first | with_reducible exact Below.refl _ _ | (with_reducible refine balloc ?_ _) | (with_reducible refine bset ?_ ?_ _) | (with_reducible refine bdrew ?_) | (with_reducible refine bdrewN ?_ _) | (with_reducible refine bstep ?_ (by with_reducible assumption)) | (with_reducible refine bgrow ?_ (by with_reducible assumption) (by omega)) | (simp; done) | (simp; omega))))) (by (repeat' (first | (with_reducible assumption) | (with_reducible exact Hid.out (by assumption)) | (with_reducible refine Tb.alloc ?_ _) | (with_reducible refine Tb.drewN ?_ _) | (with_reducible refine Tb.set_ ?_ (by first | (left; (try simp) <;> omega) | (right; (try simp) <;> omega)) _) | (with_reducible refine Tb.below ?_ (by with_reducible assumption))))) c1 c2).mono ?_
  rintro e w5 ⟨rfl, hb5⟩
  obtain ⟨hc5_0, hf5_0, hz5_0⟩ := bel_at hb5 (w.heap.size) (by first | omega | (simp; done) | (simp; omega))
  obtain ⟨hc5_1, hf5_1, hz5_1⟩ := bel_at hb5 (w4.heap.size) (by first | omega | (simp; done) | (simp; omega))
  have HA5 := Lib.hid (show Tb w5 l4 h4 (some ⟨ga4, 0, none⟩) (some ⟨gb4, 0, none⟩) bk fs from (by (repeat' (first | (with_reducible assumption) | (with_reducible exact Hid.out (by assumption)) | (with_reducible refine Tb.alloc ?_ _) | (with_reducible refine Tb.drewN ?_ _) | (with_reducible refine Tb.set_ ?_ (by first | (left; (try simp) <;> omega) | (right; (try simp) <;> omega)) _) | (with_reducible refine Tb.below ?_ (by with_reducible assumption))))))
  go_wp2_with (fail)
  go_region_held3 (fun W' => W'.cell? ⟨w.heap.size, 0, none⟩ = some (.slice A bk.length ca) ∧ W'.cell? ⟨w.heap.size, 1, none⟩ = some (.slice B fs.length cb) ∧ W'.cell? ⟨w4.heap.size, 0, none⟩ = some (.slice (some ⟨ga4, 0, none⟩) bk.length bk.length) ∧ W'.cell? ⟨w4.heap.size, 1, none⟩ = some (.slice (some ⟨gb4, 0, none⟩) fs.length fs.length)) (go_keep)
    (first | (go_at_call 18; refine (toTabA _ _ _ _ _ _ bk fs _ (H.out.below (by (repeat' (first | with_reducible exact Below.refl _ _ | (with_reducible refine balloc ?_ _) | (with_reducible refine bset ?_ ?_ _) | (with_reducible refine bdrew ?_) | (with_reducible refine bdrewN ?_ _) | (with_reducible refine bstep ?_ (by with_reducible assumption)) | (with_reducible refine bgrow ?_ (by with_reducible assumption) (by omega)) | (simp; done) | (simp; omega))))) (by omega) (by omega)).mono ?_; rintro e w6 ⟨ga6, gb6, rfl, ht6, hb6⟩; obtain ⟨hc6_0, hf6_0, hz6_0⟩ := bel_at hb6 (w.heap.size) (by first | omega | (simp; done) | (simp; omega)); obtain ⟨hc6_1, hf6_1, hz6_1⟩ := bel_at hb6 (w4.heap.size) (by first | omega | (simp; done) | (simp; omega))) | (go_at_call 13; refine (eqTabA _ _ _ _ _ _ _ _ _ _ _ _ bk fs _ (HA5.out.below (show Below w5.heap.size w5 w6 from by (repeat' (first | with_reducible exact Below.refl _ _ | (with_reducible refine balloc ?_ _) | (with_reducible refine bset ?_ ?_ _) | (with_reducible refine bdrew ?_) | (with_reducible refine bdrewN ?_ _) | (with_reducible refine bstep ?_ (by with_reducible assumption)) | (with_reducible refine bgrow ?_ (by with_reducible assumption) (by omega)) | (simp; done) | (simp; omega))))) ht6 (by omega) (by omega)).mono ?_; rintro e w7 ⟨rfl, hb7⟩; obtain ⟨hc7_0, hf7_0, hz7_0⟩ := bel_at hb7 (w.heap.size) (by first | omega | (simp; done) | (simp; omega)); obtain ⟨hc7_1, hf7_1, hz7_1⟩ := bel_at hb7 (w4.heap.size) (by first | omega | (simp; done) | (simp; omega))))
  go_wp2_with (fail)
  go_ret
  exact ⟨rfl, by (repeat' (first | with_reducible exact Below.refl _ _ | (with_reducible refine balloc ?_ _) | (with_reducible refine bset ?_ ?_ _) | (with_reducible refine bdrew ?_) | (with_reducible refine bdrewN ?_ _) | (with_reducible refine bstep ?_ (by with_reducible assumption)) | (with_reducible refine bgrow ?_ (by with_reducible assumption) (by omega)) | (simp; done) | (simp; omega)))⟩
end Go.Proofs.YtnbfmnchihckaaaDoor
