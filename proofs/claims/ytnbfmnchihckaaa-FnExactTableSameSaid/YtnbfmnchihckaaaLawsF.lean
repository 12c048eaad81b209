/- Walk of the law FnExactTableSame: it returns true. No conditions. -/
import Derived.Test.YtnbfmnchihckaaaSame
import Derived.Test.YtnbfmnchihckaaaTabIn
namespace Go.Proofs.Ytnbfmnchihckaaa
open Go.ChangeShapes Go.WideShapes Go.ChangeAt Go.RowKit
theorem Tb.set_ {w : World} {lo hi : Nat} {A B : Option Addr} {bk : List Int} {fs : List Fr} (h : Tb w lo hi A B bk fs) {p : Addr} (hp : hi ≤ p.block ∨ p.block < lo) (v : Value) : Tb (w.setCell p v) lo hi A B bk fs := ⟨h.1.set_ hp v, h.2.set_ hp v⟩
theorem toTabA (A B : Option Addr) (nb ca nf cb : Nat) (bk : List Int) (fs : List Fr) (w : World) (h : TIn w A nb B nf bk fs) (hn : nb ≤ 1048576) (hn2 : nf ≤ 1048576) :
    Calls Try.prog 6 #[.agg #[.slice A nb ca, .slice B nf cb]] w fun e w' => ∃ ga gb, e = .returned (.agg #[.slice (some ⟨ga, 0, none⟩) bk.length bk.length, .slice (some ⟨gb, 0, none⟩) fs.length fs.length]) ∧
      Tb w' w.heap.size w'.heap.size (some ⟨ga, 0, none⟩) (some ⟨gb, 0, none⟩) bk fs ∧ Below w.heap.size w w' := laws_toTable A B nb ca nf cb bk fs w h hn hn2
theorem sz_tab (A B : Option Addr) (nb ca nf cb : Nat) (left : Int) (hn : nb ≤ maxLen) (hn2 : nf ≤ maxLen) (h0 : 0 ≤ left) (h1 : left ≤ 1048576) : ∃ z : Int, (z = -1 ∧ left < nb + nf ∨ z = left - nb - nf ∧ (nb + nf : Int) ≤ left) ∧
    ∀ w, Calls Try.prog 4 #[tabV A nb ca B nf cb, .int .i64 left] w fun e w' => e = .returned (.int .i64 z) ∧ Below w.heap.size w w' := by
  refine ⟨_, ?_, fun w => laws_szTable A B nb ca nf cb left w hn hn2 h0 h1⟩
  split
  · exact .inl ⟨rfl, by omega⟩
  · exact .inr ⟨rfl, by omega⟩
set_option maxHeartbeats 4000000 in
theorem law_FnExactTableSame (w : World) (A : Option Addr) (nb ca : Nat) (B : Option Addr) (nf cb : Nat) (h : ArgTab w A nb ca B nf cb) (A' : Option Addr) (nb' ca' : Nat) (B' : Option Addr) (nf' cb' : Nat) (h' : ArgTab w A' nb' ca' B' nf' cb') :
    Calls Try.prog 3 #[tabV A nb ca B nf cb, tabV A' nb' ca' B' nf' cb'] w fun r w' => r = .returned (.bool true) ∧ Below w.heap.size w w' := by
  obtain ⟨⟨bk, fs, ht⟩, ⟨a1, a2⟩, a3, a4⟩ := h
  obtain ⟨⟨bk', fs', ht'⟩, ⟨b1, b2⟩, b3, b4⟩ := h'
  obtain rfl : bk.length = nb := ht.1.1
  obtain rfl : fs.length = nf := ht.2.1
  obtain rfl : bk'.length = nb' := ht'.1.1
  obtain rfl : fs'.length = nf' := ht'.2.1
  have m1 : bk.length ≤ maxLen := by omega
  have m2 : fs.length ≤ maxLen := by omega
  have m3 : bk'.length ≤ maxLen := by omega
  have m4 : fs'.length ≤ maxLen := by omega
  have H := Lib.hid ht
  have H' := Lib.hid ht'
  clear ht ht' a1 a2 a3 a4 b1 b2 b3 b4
  obtain ⟨z, hz, SZ⟩ := sz_tab A B bk.length ca fs.length cb 1048576 m1 m2 (by omega) (by omega)
  have SZH := Lib.hid SZ
  clear SZ
  unfold tabV at SZH ⊢
  rcases hz with ⟨rfl, _⟩ | ⟨hz, h5⟩
  · clear m1 m2 m3 m4
    go_enter Try.func3, Try.ntmps3
    go_wp2_with (fail)
    refine (SZH.out _).mono ?_
    rintro e w1 ⟨rfl, hb1⟩
    go_wp2
    go_ret
    exact ⟨rfl, by (repeat' (first | with_reducible exact Below.refl _ _ | (with_reducible refine balloc ?_ _) | (with_reducible refine bset ?_ ?_ _) | (with_reducible refine bdrew ?_) | (with_reducible refine bdrewN ?_ _) | (with_reducible refine bstep ?_ (by with_reducible assumption)) | (with_reducible refine bgrow ?_ (by with_reducible assumption) (by omega)) | (simp; done) | (simp; omega)))⟩
  obtain ⟨z2, hz2, SZ2⟩ := sz_tab A' B' bk'.length ca' fs'.length cb' z m3 m4 (by omega) (by omega)
  have SZH2 := Lib.hid SZ2
  have hz0 : 0 ≤ z := by omega
  have c1 : bk.length ≤ 1048576 := by omega
  have c2 : fs.length ≤ 1048576 := by omega
  have hzz : z ≤ 1048576 := by omega
  clear SZ2 m1 m2 m3 m4 h5 hz
  unfold tabV at SZH2
  rcases hz2 with ⟨rfl, _⟩ | ⟨hz, h5⟩
  · go_enter Try.func3, Try.ntmps3
    go_wp2_with (fail)
    refine (SZH.out _).mono ?_
    rintro e w1 ⟨rfl, hb1⟩
    obtain ⟨hc0, hf0, hz0⟩ := bel_at hb1 (w.heap.size) (by first | omega | (simp; done) | (simp; omega))
    obtain ⟨hc1, hf1, hz1⟩ := bel_at hb1 (w.heap.size + 1) (by first | omega | (simp; done) | (simp; omega))
    go_wp2_with (fail)
    refine (SZH2.out _).mono ?_
    rintro e w2 ⟨rfl, hb2⟩
    go_wp2
    go_ret
    exact ⟨rfl, by (repeat' (first | with_reducible exact Below.refl _ _ | (with_reducible refine balloc ?_ _) | (with_reducible refine bset ?_ ?_ _) | (with_reducible refine bdrew ?_) | (with_reducible refine bdrewN ?_ _) | (with_reducible refine bstep ?_ (by with_reducible assumption)) | (with_reducible refine bgrow ?_ (by with_reducible assumption) (by omega)) | (simp; done) | (simp; omega)))⟩
  have c3 : bk'.length ≤ 1048576 := by omega
  have c4 : fs'.length ≤ 1048576 := by omega
  have hz3 : 0 ≤ z2 := by omega
  clear hz h5
  go_enter Try.func3, Try.ntmps3
  go_wp2_with (fail)
  refine (SZH.out _).mono ?_
  rintro e w1 ⟨rfl, hb1⟩
  obtain ⟨hc1_0, hf1_0, hz1_0⟩ := bel_at hb1 (w.heap.size) (by first | omega | (simp; done) | (simp; omega))
  obtain ⟨hc1_1, hf1_1, hz1_1⟩ := bel_at hb1 (w.heap.size + 1) (by first | omega | (simp; done) | (simp; omega))
  go_wp2_with (fail)
  refine (SZH2.out _).mono ?_
  rintro e w2 ⟨rfl, hb2⟩
  obtain ⟨hc2_0, hf2_0, hz2_0⟩ := bel_at hb2 (w.heap.size) (by first | omega | (simp; done) | (simp; omega))
  obtain ⟨hc2_1, hf2_1, hz2_1⟩ := bel_at hb2 (w.heap.size + 1) (by first | omega | (simp; done) | (simp; omega))
  go_wp2
  go_region_held3 (fun W' => W'.cell? ⟨w.heap.size, 0, none⟩ = some (.slice A bk.length ca) ∧ W'.cell? ⟨w.heap.size, 1, none⟩ = some (.slice B fs.length cb) ∧ W'.cell? ⟨w.heap.size + 1, 0, none⟩ = some (.slice A' bk'.length ca') ∧ W'.cell? ⟨w.heap.size + 1, 1, none⟩ = some (.slice B' fs'.length cb')) (go_keep)
    (first | (go_at_call 6; refine (toTabA _ _ _ _ _ _ _ _ _ (by first | exact H.out.below (by (repeat' (first | with_reducible exact Below.refl _ _ | (with_reducible refine balloc ?_ _) | (with_reducible refine bset ?_ ?_ _) | (with_reducible refine bdrew ?_) | (with_reducible refine bdrewN ?_ _) | (with_reducible refine bstep ?_ (by with_reducible assumption)) | (with_reducible refine bgrow ?_ (by with_reducible assumption) (by omega)) | (simp; done) | (simp; omega)))) | exact H'.out.below (by (repeat' (first | with_reducible exact Below.refl _ _ | (with_reducible refine balloc ?_ _) | (with_reducible refine bset ?_ ?_ _) | (with_reducible refine bdrew ?_) | (with_reducible refine bdrewN ?_ _) | (with_reducible refine bstep ?_ (by with_reducible assumption)) | (with_reducible refine bgrow ?_ (by with_reducible assumption) (by omega)) | (simp; done) | (simp; omega))))) (by omega) (by omega)).mono ?_; rintro e w7 ⟨ga7, gb7, rfl, ht7, hb7⟩; obtain ⟨hc7_0, hf7_0, hz7_0⟩ := bel_at hb7 (w.heap.size) (by first | omega | (simp; done) | (simp; omega)); obtain ⟨hc7_1, hf7_1, hz7_1⟩ := bel_at hb7 (w.heap.size + 1) (by first | omega | (simp; done) | (simp; omega))) | (go_at_call 5; refine (spec_TableSame _ _ _ _ _ _ _ _ _ _ _ _ bk bk' fs fs' _ (Tb.below (by assumption) hb7) ht7 c1 c2 c3 c4).mono ?_; rintro e w8 ⟨rfl, hb8⟩; obtain ⟨hc8_0, hf8_0, hz8_0⟩ := bel_at hb8 (w.heap.size) (by first | omega | (simp; done) | (simp; omega)); obtain ⟨hc8_1, hf8_1, hz8_1⟩ := bel_at hb8 (w.heap.size + 1) (by first | omega | (simp; done) | (simp; omega))))
  go_wp2_with (fail)
  refine (toTabA _ _ _ _ _ _ bk fs _ (H.out.below (by (repeat' (first | with_reducible exact Below.refl _ _ | (with_reducible refine balloc ?_ _) | (with_reducible refine bset ?_ ?_ _) | (with_reducible refine bdrew ?_) | (with_reducible refine bdrewN ?_ _) | (with_reducible refine bstep ?_ (by with_reducible assumption)) | (with_reducible refine bgrow ?_ (by with_reducible assumption) (by omega)) | (simp; done) | (simp; omega))))) (by omega) (by omega)).mono ?_
  rintro e w9 ⟨ga9, gb9, rfl, ht9, hb9⟩
  obtain ⟨l9, h9, hl9, HT9⟩ : ∃ lo hi, hi ≤ w9.heap.size ∧ Hid (Tb w9 lo hi (some ⟨ga9, 0, none⟩) (some ⟨gb9, 0, none⟩) bk fs) := ⟨_, _, Nat.le_refl _, Lib.hid ht9⟩
  clear ht9
  obtain ⟨hc9_0, hf9_0, hz9_0⟩ := bel_at hb9 (w.heap.size) (by first | omega | (simp; done) | (simp; omega))
  obtain ⟨hc9_1, hf9_1, hz9_1⟩ := bel_at hb9 (w.heap.size + 1) (by first | omega | (simp; done) | (simp; omega))
  go_wp2_with (fail)
  refine (toTabA _ _ _ _ _ _ bk' fs' _ (H'.out.below (by (repeat' (first | with_reducible exact Below.refl _ _ | (with_reducible refine balloc ?_ _) | (with_reducible refine bset ?_ ?_ _) | (with_reducible refine bdrew ?_) | (with_reducible refine bdrewN ?_ _) | (with_reducible refine bstep ?_ (by with_reducible assumption)) | (with_reducible refine bgrow ?_ (by with_reducible assumption) (by omega)) | (simp; done) | (simp; omega))))) (by omega) (by omega)).mono ?_
  rintro e w10 ⟨ga10, gb10, rfl, ht10, hb10⟩
  obtain ⟨l10, h10, hl10, HT10⟩ : ∃ lo hi, hi ≤ w10.heap.size ∧ Hid (Tb w10 lo hi (some ⟨ga10, 0, none⟩) (some ⟨gb10, 0, none⟩) bk' fs') := ⟨_, _, Nat.le_refl _, Lib.hid ht10⟩
  clear ht10
  obtain ⟨hc10_0, hf10_0, hz10_0⟩ := bel_at hb10 (w.heap.size) (by first | omega | (simp; done) | (simp; omega))
  obtain ⟨hc10_1, hf10_1, hz10_1⟩ := bel_at hb10 (w.heap.size + 1) (by first | omega | (simp; done) | (simp; omega))
  obtain ⟨hc10_2, hf10_2, hz10_2⟩ := bel_at hb10 (w9.heap.size) (by first | omega | (simp; done) | (simp; omega))
  go_wp2_with (fail)
  refine (impl_TableSame _ _ _ _ _ _ _ _ l9 h9 l10 h10 bk bk' fs fs' _ (by repeat' (first | (with_reducible assumption) | (with_reducible exact Hid.out (by assumption)) | (with_reducible refine Tb.alloc ?_ _) | (with_reducible refine Tb.drewN ?_ _) | (with_reducible refine Tb.set_ ?_ (by first | (left; (try simp) <;> omega) | (right; (try simp) <;> omega)) _) | (with_reducible refine Tb.below ?_ (by with_reducible assumption)))) (by repeat' (first | (with_reducible assumption) | (with_reducible exact Hid.out (by assumption)) | (with_reducible refine Tb.alloc ?_ _) | (with_reducible refine Tb.drewN ?_ _) | (with_reducible refine Tb.set_ ?_ (by first | (left; (try simp) <;> omega) | (right; (try simp) <;> omega)) _) | (with_reducible refine Tb.below ?_ (by with_reducible assumption)))) c1 c2 c3 c4).mono ?_
  rintro e w11 ⟨rfl, hb11⟩
  obtain ⟨hc11_0, hf11_0, hz11_0⟩ := bel_at hb11 (w.heap.size) (by first | omega | (simp; done) | (simp; omega))
  obtain ⟨hc11_1, hf11_1, hz11_1⟩ := bel_at hb11 (w.heap.size + 1) (by first | omega | (simp; done) | (simp; omega))
  obtain ⟨hc11_2, hf11_2, hz11_2⟩ := bel_at hb11 (w9.heap.size) (by first | omega | (simp; done) | (simp; omega))
  obtain ⟨hc11_3, hf11_3, hz11_3⟩ := bel_at hb11 (w10.heap.size) (by first | omega | (simp; done) | (simp; omega))
  have HA11 := Lib.hid (show Tb w11 l9 h9 (some ⟨ga9, 0, none⟩) (some ⟨gb9, 0, none⟩) bk fs from (by repeat' (first | (with_reducible assumption) | (with_reducible exact Hid.out (by assumption)) | (with_reducible refine Tb.alloc ?_ _) | (with_reducible refine Tb.drewN ?_ _) | (with_reducible refine Tb.set_ ?_ (by first | (left; (try simp) <;> omega) | (right; (try simp) <;> omega)) _) | (with_reducible refine Tb.below ?_ (by with_reducible assumption)))))
  have HB11 := Lib.hid (show Tb w11 l10 h10 (some ⟨ga10, 0, none⟩) (some ⟨gb10, 0, none⟩) bk' fs' from (by repeat' (first | (with_reducible assumption) | (with_reducible exact Hid.out (by assumption)) | (with_reducible refine Tb.alloc ?_ _) | (with_reducible refine Tb.drewN ?_ _) | (with_reducible refine Tb.set_ ?_ (by first | (left; (try simp) <;> omega) | (right; (try simp) <;> omega)) _) | (with_reducible refine Tb.below ?_ (by with_reducible assumption)))))
  go_wp2_with (fail)
  go_region_held3 (fun W' => W'.cell? ⟨w.heap.size, 0, none⟩ = some (.slice A bk.length ca) ∧ W'.cell? ⟨w.heap.size, 1, none⟩ = some (.slice B fs.length cb) ∧ W'.cell? ⟨w.heap.size + 1, 0, none⟩ = some (.slice A' bk'.length ca') ∧ W'.cell? ⟨w.heap.size + 1, 1, none⟩ = some (.slice B' fs'.length cb') ∧ W'.cell? ⟨w9.heap.size, 0, none⟩ = some (.slice (some ⟨ga9, 0, none⟩) bk.length bk.length) ∧ W'.cell? ⟨w9.heap.size, 1, none⟩ = some (.slice (some ⟨gb9, 0, none⟩) fs.length fs.length) ∧ W'.cell? ⟨w10.heap.size, 0, none⟩ = some (.slice (some ⟨ga10, 0, none⟩) bk'.length bk'.length) ∧ W'.cell? ⟨w10.heap.size, 1, none⟩ = some (.slice (some ⟨gb10, 0, none⟩) fs'.length fs'.length)) (go_keep)
    (first | (go_at_call 6; refine (toTabA _ _ _ _ _ _ bk fs _ (H.out.below (by (repeat' (first | with_reducible exact Below.refl _ _ | (with_reducible refine balloc ?_ _) | (with_reducible refine bset ?_ ?_ _) | (with_reducible refine bdrew ?_) | (with_reducible refine bdrewN ?_ _) | (with_reducible refine bstep ?_ (by with_reducible assumption)) | (with_reducible refine bgrow ?_ (by with_reducible assumption) (by omega)) | (simp; done) | (simp; omega))))) (by omega) (by omega)).mono ?_; rintro e w12 ⟨ga12, gb12, rfl, ht12, hb12⟩; obtain ⟨hc12_0, hf12_0, hz12_0⟩ := bel_at hb12 (w.heap.size) (by first | omega | (simp; done) | (simp; omega)); obtain ⟨hc12_1, hf12_1, hz12_1⟩ := bel_at hb12 (w.heap.size + 1) (by first | omega | (simp; done) | (simp; omega)); obtain ⟨hc12_2, hf12_2, hz12_2⟩ := bel_at hb12 (w9.heap.size) (by first | omega | (simp; done) | (simp; omega)); obtain ⟨hc12_3, hf12_3, hz12_3⟩ := bel_at hb12 (w10.heap.size) (by first | omega | (simp; done) | (simp; omega))) | (go_at_call 8; refine (laws_eqTable _ _ _ _ _ _ _ _ _ _ _ _ bk fs _ (HA11.out.below (show Below w11.heap.size w11 w12 from by (repeat' (first | with_reducible exact Below.refl _ _ | (with_reducible refine balloc ?_ _) | (with_reducible refine bset ?_ ?_ _) | (with_reducible refine bdrew ?_) | (with_reducible refine bdrewN ?_ _) | (with_reducible refine bstep ?_ (by with_reducible assumption)) | (with_reducible refine bgrow ?_ (by with_reducible assumption) (by omega)) | (simp; done) | (simp; omega))))) ht12 (by omega) (by omega)).mono ?_; rintro e w13 ⟨rfl, hb13⟩; obtain ⟨hc13_0, hf13_0, hz13_0⟩ := bel_at hb13 (w.heap.size) (by first | omega | (simp; done) | (simp; omega)); obtain ⟨hc13_1, hf13_1, hz13_1⟩ := bel_at hb13 (w.heap.size + 1) (by first | omega | (simp; done) | (simp; omega)); obtain ⟨hc13_2, hf13_2, hz13_2⟩ := bel_at hb13 (w9.heap.size) (by first | omega | (simp; done) | (simp; omega)); obtain ⟨hc13_3, hf13_3, hz13_3⟩ := bel_at hb13 (w10.heap.size) (by first | omega | (simp; done) | (simp; omega))))
  go_wp2_with (fail)
  go_region_held3 (fun W' => W'.cell? ⟨w.heap.size, 0, none⟩ = some (.slice A bk.length ca) ∧ W'.cell? ⟨w.heap.size, 1, none⟩ = some (.slice B fs.length cb) ∧ W'.cell? ⟨w.heap.size + 1, 0, none⟩ = some (.slice A' bk'.length ca') ∧ W'.cell? ⟨w.heap.size + 1, 1, none⟩ = some (.slice B' fs'.length cb') ∧ W'.cell? ⟨w9.heap.size, 0, none⟩ = some (.slice (some ⟨ga9, 0, none⟩) bk.length bk.length) ∧ W'.cell? ⟨w9.heap.size, 1, none⟩ = some (.slice (some ⟨gb9, 0, none⟩) fs.length fs.length) ∧ W'.cell? ⟨w10.heap.size, 0, none⟩ = some (.slice (some ⟨ga10, 0, none⟩) bk'.length bk'.length) ∧ W'.cell? ⟨w10.heap.size, 1, none⟩ = some (.slice (some ⟨gb10, 0, none⟩) fs'.length fs'.length)) (go_keep)
    (first | (go_at_call 6; refine (toTabA _ _ _ _ _ _ bk' fs' _ (H'.out.below (by (repeat' (first | with_reducible exact Below.refl _ _ | (with_reducible refine balloc ?_ _) | (with_reducible refine bset ?_ ?_ _) | (with_reducible refine bdrew ?_) | (with_reducible refine bdrewN ?_ _) | (with_reducible refine bstep ?_ (by with_reducible assumption)) | (with_reducible refine bgrow ?_ (by with_reducible assumption) (by omega)) | (simp; done) | (simp; omega))))) (by omega) (by omega)).mono ?_; rintro e w14 ⟨ga14, gb14, rfl, ht14, hb14⟩; obtain ⟨hc14_0, hf14_0, hz14_0⟩ := bel_at hb14 (w.heap.size) (by first | omega | (simp; done) | (simp; omega)); obtain ⟨hc14_1, hf14_1, hz14_1⟩ := bel_at hb14 (w.heap.size + 1) (by first | omega | (simp; done) | (simp; omega)); obtain ⟨hc14_2, hf14_2, hz14_2⟩ := bel_at hb14 (w9.heap.size) (by first | omega | (simp; done) | (simp; omega)); obtain ⟨hc14_3, hf14_3, hz14_3⟩ := bel_at hb14 (w10.heap.size) (by first | omega | (simp; done) | (simp; omega))) | (go_at_call 8; refine (laws_eqTable _ _ _ _ _ _ _ _ _ _ _ _ bk' fs' _ (HB11.out.below (show Below w11.heap.size w11 w14 from by (repeat' (first | with_reducible exact Below.refl _ _ | (with_reducible refine balloc ?_ _) | (with_reducible refine bset ?_ ?_ _) | (with_reducible refine bdrew ?_) | (with_reducible refine bdrewN ?_ _) | (with_reducible refine bstep ?_ (by with_reducible assumption)) | (with_reducible refine bgrow ?_ (by with_reducible assumption) (by omega)) | (simp; done) | (simp; omega))))) ht14 (by omega) (by omega)).mono ?_; rintro e w15 ⟨rfl, hb15⟩; obtain ⟨hc15_0, hf15_0, hz15_0⟩ := bel_at hb15 (w.heap.size) (by first | omega | (simp; done) | (simp; omega)); obtain ⟨hc15_1, hf15_1, hz15_1⟩ := bel_at hb15 (w.heap.size + 1) (by first | omega | (simp; done) | (simp; omega)); obtain ⟨hc15_2, hf15_2, hz15_2⟩ := bel_at hb15 (w9.heap.size) (by first | omega | (simp; done) | (simp; omega)); obtain ⟨hc15_3, hf15_3, hz15_3⟩ := bel_at hb15 (w10.heap.size) (by first | omega | (simp; done) | (simp; omega))))
  go_wp2_with (fail)
  go_ret
  exact ⟨rfl, by (repeat' (first | with_reducible exact Below.refl _ _ | (with_reducible refine balloc ?_ _) | (with_reducible refine bset ?_ ?_ _) | (with_reducible refine bdrew ?_) | (with_reducible refine bdrewN ?_ _) | (with_reducible refine bstep ?_ (by with_reducible assumption)) | (with_reducible refine bgrow ?_ (by with_reducible assumption) (by omega)) | (simp; done) | (simp; omega)))⟩
end Go.Proofs.Ytnbfmnchihckaaa
