/- The program's TableValid returns what the plain function says. Asked: at most 1048576 frames and buckets; the variable 'free' holds what its initialiser lays. -/
import Derived.Test.YtjdoegekolbdpaaDoorTvS
import Derived.Test.YtjdoegekolbdpaaDoorTabM
import Derived.Test.YtjdoegekolbdpaaDoorFree
import Derived.Deep.LoopGhost
namespace Go.Proofs.YtjdoegekolbdpaaDoor
set_option linter.unusedVariables false
open Go.ChangeShapes Go.WideShapes Go.ChangeAt Go.RowKit
open Go.Maps (Keyed)
/-- block b stands as it did in V -/
def KeepB (V : World) (b : Nat) (W : World) : Prop := W.heap[b]? = V.heap[b]? ∧ b < W.heap.size
theorem KeepB.refl {V : World} {b : Nat} (h : b < V.heap.size) : KeepB V b V := ⟨rfl, h⟩
theorem KeepB.alloc {V W : World} {b : Nat} (h : KeepB V b W) (o : Obj) : KeepB V b (W.alloc o) := ⟨((Joins.below_alloc1 W o).block b h.2).trans h.1, Nat.lt_of_lt_of_le h.2 (Joins.below_alloc1 W o).size⟩
theorem KeepB.drew {V W : World} {b : Nat} (h : KeepB V b W) : KeepB V b W.drew := h
/-- met frames as the keys of a map -/
def metv (M : List Nat) : List Value := (M.map fun (i : Nat) => Value.int .i64 (i : Int)).reverse
theorem mem_metv (k : Nat) (M : List Nat) : Value.int .i64 (k : Int) ∈ metv M ↔ k ∈ M := by
  simp only [metv, List.mem_reverse, List.mem_map]
  constructor
  · rintro ⟨a, h, e⟩
    injection e with _ e
    have : a = k := by omega
    exact this ▸ h
  · exact fun h => ⟨k, h, rfl⟩
theorem metv_len (M : List Nat) : (metv M).length = M.length := by simp [metv]
theorem metv_snoc (M : List Nat) (k : Nat) : metv (M ++ [k]) = Value.int .i64 (k : Int) :: metv M := by simp [metv]
theorem int_law : Keyed Tryd.prog 3 := Maps.int_keyed Tryd.underlying3
theorem keyOf_nat (k : Nat) (h : k ≤ 1048576) : ∃ kl, keyOf Tryd.prog 3 (.int .i64 (k : Int)) = some kl :=
  ⟨_, Maps.keyOf_int_mk Tryd.underlying3 (by simp [Lit.wf, IntKind.min, IntKind.max, IntKind.bits, IntKind.signed]; omega)⟩
theorem frOk_free {s p r x : Int} : frOk ⟨false, s, p, r, x⟩ = true ↔ s = 0 ∧ p = 0 ∧ r = 0 ∧ x = -1 := by simp [frOk, and_assoc]
set_option maxHeartbeats 4000000 in
set_option maxRecDepth 100000 in
theorem impl_TableValid (A B : Option Addr) (ca cb lo hi : Nat) (bk : List Int) (fs : List Fr) (w : World) (hf : FreeIn w) (h : Tb w lo hi A B bk fs) (hn : bk.length ≤ 1048576) (hn2 : fs.length ≤ 1048576) :
    Calls Tryd.prog 14 #[tabV A bk.length ca B fs.length cb] w fun e w' => e = .returned (.bool (tvB bk fs)) ∧ Below w.heap.size w w' := by
  have H := Lib.hid h.top
  have HFree := Lib.hid hf
  clear h hf
  by_cases hd : dimB bk.length fs.length = true
  · obtain ⟨⟨d1, d2⟩, d3, d4⟩ := dimB_iff.1 hd
    have t1 : withinB ((bk.length : Int) - 1) 16 = true := withinB_iff.2 ⟨by omega, by omega⟩
    have HD := Lib.hid hd
    have i1 : (1 : Int) ≤ (fs.length : Int) := by omega
    have i2 : (fs.length : Int) ≤ 16 := by omega
    have i3 : (1 : Int) ≤ (bk.length : Int) := by omega
    have i4 : (bk.length : Int) ≤ 16 := by omega
    have hmm := @run_makeMap Tryd.prog
    clear hd
    unfold tabV
    go_enter Tryd.func14, Tryd.ntmps14
    go_wp2_with (go_at_call 40; refine (impl_bucketsValid _ _).mono ?_; rintro e w' ⟨rfl, rfl⟩)
    have hset0 : SetM Tryd.prog 44 4 ((w.alloc (.cells #[.slice A bk.length ca, .slice B fs.length cb] 28)).alloc (.map #[] 0)) (w.heap.size + 1) ((ukeys (fs.take 0)).map keyV).reverse := by
      have := SetM.made (P := Tryd.prog) (k := 44) (e := 4) (w.alloc (.cells #[.slice A bk.length ca, .slice B fs.length cb] 28))
      simpa [ukeys] using this
    have HS0 := Lib.hid hset0
    have hB0 : Below (w.heap.size + 1) (w.alloc (.cells #[.slice A bk.length ca, .slice B fs.length cb] 28)) ((w.alloc (.cells #[.slice A bk.length ca, .slice B fs.length cb] 28)).alloc (.map #[] 0)) := by
      have := Joins.below_alloc1 (w.alloc (.cells #[.slice A bk.length ca, .slice B fs.length cb] 28)) (.map #[] 0)
      simpa using this
    have HB0 := Lib.hid hB0
    clear hset0 hB0
    go_loopw [30] (fun i wr => ∃ k : Nat, k ≤ fs.length ∧ i = .int .i64 k ∧ FrPre fs k ∧ SetM Tryd.prog 44 4 wr (w.heap.size + 1) ((ukeys (fs.take k)).map keyV).reverse ∧ Below (w.heap.size + 1) (w.alloc (.cells #[.slice A bk.length ca, .slice B fs.length cb] 28)) wr) (fun i _ => fs.length - (intOf i).toNat)
    case atStart => exact ⟨0, by omega, rfl, ⟨fun j hj => by omega, by simp [ukeys]⟩, HS0.out, HB0.out⟩
    case round =>
      obtain ⟨k, hk, rfl, hpre, hset, hbr⟩ := hrel
      have HPre := Lib.hid hpre
      have HBR := Lib.hid hbr
      have HSet := Lib.hid hset
      have hbw : Below w.heap.size w wr := (Joins.below_alloc1 w _).trans (hbr.mono (by omega))
      have hT : ∀ o, wr.cell? ⟨w.heap.size, o, none⟩ = (w.alloc (.cells #[.slice A bk.length ca, .slice B fs.length cb] 28)).cell? ⟨w.heap.size, o, none⟩ := fun o => hbr.cell (p := ⟨w.heap.size, o, none⟩) (by simp)
      have hzr : w.heap.size < wr.heap.size := by have := hbr.size; simp at this; omega
      have hzs : w.heap.size + 1 < wr.heap.size := hset.lt
      clear hpre hbr hset
      by_cases hlt : k < fs.length
      · obtain ⟨gf, hBe, _, hgl, hgf, hg4, _⟩ := (H.out.2.below hbw).frame hlt
        subst hBe
        obtain ⟨hfz, hf0, hf1, hf2, hf3, hf4⟩ := HFree.out.below hbw
        have hbad := @tvB_frame_bad bk fs k hlt
        have htw := @tvB_twice bk fs k hlt
        have hstep := HPre.out.step hlt
        have huk := ukeys_snoc (fs.take k) (fat fs k)
        rw [← take_fat hlt] at huk
        generalize fat fs k = f at *
        have HBad := Lib.hid hbad
        have HTw := Lib.hid htw
        have HStep := Lib.hid hstep
        have HUk := Lib.hid huk
        clear hbad htw hstep huk
        have i5 : (0 : Int) ≤ (k : Int) := by omega
        have i6 : (k : Int) < (fs.length : Int) := by omega
        obtain ⟨v0, v1, v2, v3, v4⟩ := hg4
        obtain ⟨u, s, p, r, nx⟩ := f
        simp only [frN] at v0 v1 v2 v3 v4 hf0 hf1 hf2 hf3 hf4
        rcases u with _ | _
        · by_cases hok : s = 0 ∧ p = 0 ∧ r = 0 ∧ nx = -1
          · obtain ⟨rfl, rfl, rfl, rfl⟩ := hok
            have hs2 : FrPre fs (k + 1) := HStep.out (frOk_free.2 ⟨rfl, rfl, rfl, rfl⟩) (fun h => by cases h)
            have hu2 : ukeys (fs.take (k + 1)) = ukeys (fs.take k) := HUk.out
            have HS2 := Lib.hid hs2
            have HU2 := Lib.hid hu2
            clear hs2 hu2
            go_wp2
            go_roundw
            case rel => exact ⟨k + 1, by omega, by go_num, HS2.out, by rw [HU2.out]; exact HSet.out.alloc _, HBR.out.alloc (by omega) _⟩
            case measure => simp [intOf]; omega
          · have hff : frOk ⟨false, s, p, r, nx⟩ = false := by
              rcases hq : frOk ⟨false, s, p, r, nx⟩ with _ | _
              · rfl
              · exact absurd (frOk_free.1 hq) hok
            have HF := Lib.hid (HBad.out hff)
            clear hff
            have hcases : ((s == 0) = false) ∨ (s = 0 ∧ (p == 0) = false) ∨ (s = 0 ∧ p = 0 ∧ (r == 0) = false) ∨ (s = 0 ∧ p = 0 ∧ r = 0 ∧ (nx == -1) = false) := by
              simp only [beq_eq_false_iff_ne]; omega
            clear hok
            rcases hcases with h1 | ⟨rfl, h1⟩ | ⟨rfl, rfl, h1⟩ | ⟨rfl, rfl, rfl, h1⟩
            all_goals
              go_wp2
              go_ret
              exact ⟨by rw [HF.out]; rfl, by (repeat' (first | with_reducible exact Below.refl _ _ | (with_reducible refine balloc ?_ _) | (with_reducible refine bset ?_ ?_ _) | (with_reducible refine bdrew ?_) | (with_reducible refine bdrewN ?_ _) | (with_reducible refine bstep ?_ (by with_reducible assumption)) | (with_reducible refine bgrow ?_ (by with_reducible assumption) (by omega)) | (simp; done) | (simp; omega)))⟩
        · by_cases hkv : kvB s p = true
          · obtain ⟨⟨b1, b2⟩, b3, b4⟩ := kvB_iff.1 hkv
            obtain ⟨kl, hkl⟩ := keyOf_key s p ⟨b1, b2⟩ ⟨b3, b4⟩
            have HK := Lib.hid hkl
            clear hkl
            by_cases hwr : withinB r 8 = true
            · have hfo : frOk ⟨true, s, p, r, nx⟩ = true := by unfold frOk; rw [if_pos rfl]; simp [hkv, hwr]
              have HFO := Lib.hid hfo
              clear hfo
              go_wp2_with (fail)
              refine (impl_KeyValid_b _ _ _).mono ?_
              rintro e w7 ⟨rfl, hb7⟩
              obtain ⟨hc7, hf7, hz7⟩ := bel_at hb7 (wr.heap.size) (by first | (simp; done) | (simp; omega))
              have HSet7 : Hid (SetM Tryd.prog 44 4 w7 (w.heap.size + 1) ((ukeys (fs.take k)).map keyV).reverse) := (HSet.out.alloc _).below hb7
              have HB7 : Hid (Below (w.heap.size + 1) (w.alloc (.cells #[.slice A bk.length ca, .slice (some ⟨gf, 0, none⟩) fs.length cb] 28)) w7) := (HBR.out.alloc (by omega) _).trans (hb7.mono (by simp; omega))
              have hbw7 : Below w.heap.size w w7 := by (repeat' (first | with_reducible exact Below.refl _ _ | (with_reducible refine balloc ?_ _) | (with_reducible refine bset ?_ ?_ _) | (with_reducible refine bdrew ?_) | (with_reducible refine bdrewN ?_ _) | (with_reducible refine bstep ?_ (by with_reducible assumption)) | (with_reducible refine bgrow ?_ (by with_reducible assumption) (by omega)) | (simp; done) | (simp; omega)))
              clear hb7
              by_cases hmem : (s, p) ∈ ukeys (fs.take k)
              · have hlk := HSet7.out.look key_law Tryd.underlying71 Tryd.underlying4 (zero_bool _) (keyV (s, p)) kl HK.out true (by rw [mem_keyV]; simp [hmem])
                simp only [keyV] at hlk
                have HF := Lib.hid (HTw.out (by first | rfl | trivial) hmem)
                go_wp2_with (go_at_call 47; refine (impl_RightsValid _ _).mono ?_; rintro e w' ⟨rfl, rfl⟩)
                go_ret
                exact ⟨by rw [HF.out]; rfl, hbw7⟩
              · have hlk := HSet7.out.look key_law Tryd.underlying71 Tryd.underlying4 (zero_bool _) (keyV (s, p)) kl HK.out false (by rw [mem_keyV]; simp [hmem])
                simp only [keyV] at hlk
                have hs2 : FrPre fs (k + 1) := HStep.out HFO.out (fun _ => hmem)
                have hu2 : ukeys (fs.take (k + 1)) = ukeys (fs.take k) ++ [(s, p)] := HUk.out
                have HS2 := Lib.hid hs2
                have HU2 := Lib.hid hu2
                have hlen : ((ukeys (fs.take k)).map keyV).reverse.length < maxLen := by
                  rw [List.length_reverse, List.length_map, usedN_keys]; have := usedN_le fs k; unfold maxLen; omega
                have HLen := Lib.hid hlen
                have HMem := Lib.hid hmem
                clear hs2 hu2 hlen hmem
                go_wp2_with (first | (go_at_call 47; refine (impl_RightsValid _ _).mono ?_; rintro e w' ⟨rfl, rfl⟩) | (at_mapUpdate; refine wpList_update_set rfl _ _ _ rfl key_law Tryd.underlying71 Tryd.underlying4 (w.heap.size + 1) _ rfl HSet7.out HLen.out (keyV (s, p)) rfl rfl kl HK.out (by rw [mem_keyV]; exact HMem.out) ?_; intro w8 hset8 hg8))
                have R : Hid (SetM Tryd.prog 44 4 w8 (w.heap.size + 1) ((ukeys (fs.take (k + 1))).map keyV).reverse ∧ Below (w.heap.size + 1) (w.alloc (.cells #[.slice A bk.length ca, .slice (some ⟨gf, 0, none⟩) fs.length cb] 28)) w8) := by
                  refine ⟨?_, HB7.out.grown hg8 (by have := HB7.out.size; simp at this; omega) (fun q e => by cases e; exact Nat.le_refl _)⟩
                  rw [HU2.out, List.map_append, List.reverse_append]
                  simpa using hset8
                clear hset8 hg8
                go_wp2
                go_roundw
                case rel => exact ⟨k + 1, by omega, by go_num, HS2.out, R.out.1, R.out.2⟩
                case measure => simp [intOf]; omega
            · have hwr' : withinB r 8 = false := by simpa using hwr
              have hff : frOk ⟨true, s, p, r, nx⟩ = false := by unfold frOk; rw [if_pos rfl]; simp [hwr']
              have HF := Lib.hid (HBad.out hff)
              clear hff hwr
              go_wp2_with (fail)
              refine (impl_KeyValid_b _ _ _).mono ?_
              rintro e w7 ⟨rfl, hb7⟩
              obtain ⟨hc7, hf7, hz7⟩ := bel_at hb7 (wr.heap.size) (by first | (simp; done) | (simp; omega))
              go_wp2_with (go_at_call 47; refine (impl_RightsValid _ _).mono ?_; rintro e w' ⟨rfl, rfl⟩)
              go_ret
              exact ⟨by rw [HF.out]; rfl, by (repeat' (first | with_reducible exact Below.refl _ _ | (with_reducible refine balloc ?_ _) | (with_reducible refine bset ?_ ?_ _) | (with_reducible refine bdrew ?_) | (with_reducible refine bdrewN ?_ _) | (with_reducible refine bstep ?_ (by with_reducible assumption)) | (with_reducible refine bgrow ?_ (by with_reducible assumption) (by omega)) | (simp; done) | (simp; omega)))⟩
          · have hkv' : kvB s p = false := by simpa using hkv
            have hff : frOk ⟨true, s, p, r, nx⟩ = false := by unfold frOk; rw [if_pos rfl]; simp [hkv']
            have HF := Lib.hid (HBad.out hff)
            clear hff hkv
            go_wp2_with (fail)
            refine (impl_KeyValid_b _ _ _).mono ?_
            rintro e w7 ⟨rfl, hb7⟩
            obtain ⟨hc7, hf7, hz7⟩ := bel_at hb7 (wr.heap.size) (by first | (simp; done) | (simp; omega))
            go_wp2
            go_ret
            exact ⟨by rw [HF.out]; rfl, by (repeat' (first | with_reducible exact Below.refl _ _ | (with_reducible refine balloc ?_ _) | (with_reducible refine bset ?_ ?_ _) | (with_reducible refine bdrew ?_) | (with_reducible refine bdrewN ?_ _) | (with_reducible refine bstep ?_ (by with_reducible assumption)) | (with_reducible refine bgrow ?_ (by with_reducible assumption) (by omega)) | (simp; done) | (simp; omega)))⟩
      · obtain rfl : k = fs.length := by omega
        rw [List.take_length] at *
        have hmm := @run_makeMap Tryd.prog
        go_wp2
        obtain ⟨wm, hwm⟩ : ∃ wm, wm = wr := ⟨_, rfl⟩
        subst hwm
        have hm0 : SetM Tryd.prog 3 4 (wm.alloc (.map #[] 0)) wm.heap.size (metv []) := by have := SetM.made (P := Tryd.prog) (k := 3) (e := 4) wm; simpa [metv] using this
        have hb0 : Below wm.heap.size wm (wm.alloc (.map #[] 0)) := Joins.below_alloc1 wm _
        have HM0 := Lib.hid hm0
        have HB0' := Lib.hid hb0
        clear hm0 hb0
        go_loopw [75] (fun i wq => ∃ (b : Nat) (M : List Nat), b ≤ bk.length ∧ i = .int .i64 b ∧ MetP bk fs b M ∧ SetM Tryd.prog 3 4 wq wm.heap.size (metv M) ∧ Below wm.heap.size wm wq) (fun i _ => bk.length - (intOf i).toNat)
        case atStart => exact ⟨0, [], by omega, rfl, MetP.start _ _, HM0.out, HB0'.out⟩
        case round =>
          obtain ⟨b, M, hb, rfl, hmp, hms, hbq⟩ := hrel
          have HMP := Lib.hid hmp
          have HMS := Lib.hid hms
          have HBQ := Lib.hid hbq
          have hbw2 : Below w.heap.size w wr := hbw.trans (hbq.mono (Nat.le_of_lt hzr))
          have hTq : ∀ o, wr.cell? ⟨w.heap.size, o, none⟩ = (w.alloc (.cells #[.slice A bk.length ca, .slice B fs.length cb] 28)).cell? ⟨w.heap.size, o, none⟩ := fun o => (hbq.cell (p := ⟨w.heap.size, o, none⟩) hzr).trans (hT o)
          have hzq : w.heap.size < wr.heap.size := Nat.lt_of_lt_of_le hzr hbq.size
          have hzm : wm.heap.size < wr.heap.size := hms.lt
          clear hmp hms hbq
          by_cases hlb : b < bk.length
          · obtain ⟨ga, hAe, _, _, hga, hga1, _⟩ := (H.out.1.below hbw2).int hlb
            subst hAe
            generalize hx0 : bk.getD b 0 = x0 at *
            have HX0 := Lib.hid hx0
            clear hx0
            have i5 : (0 : Int) ≤ (b : Int) := by omega
            have i6 : (b : Int) < (bk.length : Int) := by omega
            go_wp2
            have hc0 := HMP.out
            have hms0 : SetM Tryd.prog 3 4 wr wm.heap.size (metv (M ++ [])) := by rw [List.append_nil]; exact HMS.out
            have HMS0 := Lib.hid hms0
            have hmc0 : MetC bk fs b M [] x0 := by have := MetC.start HMP.out; rw [HX0.out] at this; exact this
            have HMC0 := Lib.hid hmc0
            clear hc0 hms0 hmc0
            go_loopg [9] (fs.length - M.length) (fun g i wq => ∃ (x : Int) (p : List Nat), g = fs.length - (M ++ p).length ∧ i = .int .i64 x ∧ MetC bk fs b M p x ∧ SetM Tryd.prog 3 4 wq wm.heap.size (metv (M ++ p)) ∧ Below wm.heap.size wm wq)
            case atStart => exact ⟨x0, [], by simp, rfl, HMC0.out, HMS0.out, HBQ.out⟩
            case round =>
              obtain ⟨x, p, rfl, rfl, hmc, hms, hbq⟩ := hrel
              have HMC := Lib.hid hmc
              have HMS2 := Lib.hid hms
              have HBQ2 := Lib.hid hbq
              have hbw3 : Below w.heap.size w wr := hbw.trans (hbq.mono (Nat.le_of_lt hzr))
              clear hbw2 hTq hzq hzm hga hga1
              have hTq : ∀ o, wr.cell? ⟨w.heap.size, o, none⟩ = (w.alloc (.cells #[.slice (some ⟨ga, 0, none⟩) bk.length ca, .slice B fs.length cb] 28)).cell? ⟨w.heap.size, o, none⟩ := fun o => (hbq.cell (p := ⟨w.heap.size, o, none⟩) hzr).trans (hT o)
              have hzq : w.heap.size < wr.heap.size := Nat.lt_of_lt_of_le hzr hbq.size
              have hzm : wm.heap.size < wr.heap.size := hms.lt
              clear hmc hms hbq
              by_cases hx : x = -1
              · subst hx
                have R := Lib.hid (HMC.out.done)
                go_wp2
                go_roundw
                case rel => exact ⟨b + 1, M ++ p, by omega, by go_num, R.out, HMS2.out, HBQ2.out⟩
                case measure => simp [intOf]; omega
              · have hx' : (x == -1) = false := by simpa using hx
                have HP1 := HPre.out.1
                by_cases hw : withinB x fs.length = true
                · obtain ⟨x1, x2⟩ := withinB_iff.1 hw
                  obtain ⟨k, rfl⟩ := Int.eq_ofNat_of_zero_le x1
                  have hkf : k < fs.length := by omega
                  obtain ⟨kl, hkl⟩ := keyOf_nat k (by omega)
                  have HK := Lib.hid hkl
                  obtain ⟨gf, hBe, _, hgl, hgf, hg4, _⟩ := (H.out.2.below hbw3).frame hkf
                  subst hBe
                  have hfk := HP1 k hkf
                  have hstep := fun (h2 : (fat fs k).u = true) => HMC.out.step (by simpa using hkf) (stepOk_iff.2 ⟨by omega, by omega, by simpa using h2⟩)
                  have hsbad := fun (h2 : (fat fs k).u = false) => HMC.out.step_bad hlb hx (by
                    rcases hq : stepOk fs (k : Int) with _ | _
                    · rfl
                    · have := (stepOk_iff.1 hq).2.2; rw [Int.toNat_natCast, h2] at this; cases this)
                  have hhb := fun (h2 : hashN (fat fs k).s (fat fs k).p bk.length ≠ b) => HMC.out.hash_bad hlb hx (by rw [Int.toNat_natCast]; exact h2)
                  simp only [Int.toNat_natCast, fhash] at hstep
                  generalize fat fs k = f at hfk hstep hsbad hhb hg4
                  obtain ⟨u, s, pp, r, nx⟩ := f
                  obtain ⟨v0, v1, v2, v3, v4⟩ := hg4
                  simp only [] at hfk hstep hsbad hhb v0 v1 v2 v3 v4
                  have HFK := Lib.hid hfk
                  have HStep := Lib.hid hstep
                  have HSB := Lib.hid hsbad
                  have HHB := Lib.hid hhb
                  have i7 : (0 : Int) ≤ (k : Int) := by omega
                  have i8 : (k : Int) < (fs.length : Int) := by omega
                  clear hkl hfk hstep hsbad hhb HP1
                  by_cases hm : k ∈ M ++ p
                  · have hlk := HMS2.out.look int_law Tryd.underlying73 Tryd.underlying4 (zero_bool _) (.int .i64 (k : Int)) kl HK.out true (by rw [mem_metv]; simp only [hm])
                    have HF := Lib.hid (HMC.out.met_bad hlb hx (by simpa using hm))
                    have HMM := Lib.hid hm
                    clear hm
                    have hlk2 : ∀ n, (Instr.lookup 73 (.map (some wm.heap.size)) (.int .i64 (k : Int)) false).run Tryd.prog (wr.drewN n) = .ok (.bool true) (wr.drewN n) := fun n => (HMS2.out.drewN n).look int_law Tryd.underlying73 Tryd.underlying4 (zero_bool _) (.int .i64 (k : Int)) kl HK.out true (by rw [mem_metv]; simp only [HMM.out])
                    go_wp2
                    go_quiet ((go_at_call 48; exact qsame (within_any _ _ _)))
                    go_wp2
                    go_ret
                    exact ⟨by rw [HF.out]; rfl, by (repeat' (first | with_reducible exact Below.refl _ _ | (with_reducible refine balloc ?_ _) | (with_reducible refine bset ?_ ?_ _) | (with_reducible refine bdrew ?_) | (with_reducible refine bdrewN ?_ _) | (with_reducible refine bstep ?_ (by with_reducible assumption)) | (with_reducible refine bgrow ?_ (by with_reducible assumption) (by omega)) | (simp; done) | (simp; omega)))⟩
                  · have hlk := HMS2.out.look int_law Tryd.underlying73 Tryd.underlying4 (zero_bool _) (.int .i64 (k : Int)) kl HK.out false (by rw [mem_metv]; simp [hm])
                    have HM := Lib.hid hm
                    clear hm
                    rcases u with _ | _
                    · have HF := Lib.hid (HSB.out rfl)
                      have hlk2 : ∀ n, (Instr.lookup 73 (.map (some wm.heap.size)) (.int .i64 (k : Int)) false).run Tryd.prog (wr.drewN n) = .ok (.bool false) (wr.drewN n) := fun n => (HMS2.out.drewN n).look int_law Tryd.underlying73 Tryd.underlying4 (zero_bool _) (.int .i64 (k : Int)) kl HK.out false (by rw [mem_metv]; simp [HM.out])
                      go_wp2
                      go_quiet ((go_at_call 48; exact qsame (within_any _ _ _)))
                      go_wp2
                      go_ret
                      exact ⟨by rw [HF.out]; rfl, by (repeat' (first | with_reducible exact Below.refl _ _ | (with_reducible refine balloc ?_ _) | (with_reducible refine bset ?_ ?_ _) | (with_reducible refine bdrew ?_) | (with_reducible refine bdrewN ?_ _) | (with_reducible refine bstep ?_ (by with_reducible assumption)) | (with_reducible refine bgrow ?_ (by with_reducible assumption) (by omega)) | (simp; done) | (simp; omega)))⟩
                    · obtain ⟨hkv, _⟩ := frOk_key HFK.out rfl
                      simp only [] at hkv
                      have hall : ∀ W' : World, KeepB wr wm.heap.size W' → (Instr.lookup 73 (.map (some wm.heap.size)) (.int .i64 (k : Int)) false).run Tryd.prog W' = .ok (.bool false) W' := fun W' h => (HMS2.out.keep h.1).look int_law Tryd.underlying73 Tryd.underlying4 (zero_bool _) (.int .i64 (k : Int)) kl HK.out false (by rw [mem_metv]; simp [HM.out])
                      have hkb : KeepB wr wm.heap.size wr := KeepB.refl hzm
                      have HHash := Lib.hid (fun W' : World => impl_hash s pp bk.length W' hkv (by omega) (by omega))
                      have HLen : Hid ((metv (M ++ p)).length < maxLen) := by
                        show (metv (M ++ p)).length < maxLen
                        have h1 := HMC.out.le; rw [metv_len]; unfold maxLen; omega
                      clear hlk
                      by_cases hh : hashN s pp bk.length = b
                      · go_wp2
                        go_region_held3 (fun W' => W'.cell? ⟨w.heap.size, 0, none⟩ = some (.slice (some ⟨ga, 0, none⟩) bk.length ca) ∧ W'.cell? ⟨w.heap.size, 1, none⟩ = some (.slice (some ⟨gf, 0, none⟩) fs.length cb) ∧ W'.cell? ⟨gf, k * 5, none⟩ = some (.bool true) ∧ W'.cell? ⟨gf, k * 5 + 1, none⟩ = some (.int .i64 s) ∧ W'.cell? ⟨gf, k * 5 + 2, none⟩ = some (.int .i64 pp) ∧ KeepB wr wm.heap.size W') (simp [*, World.cell?_alloc_some, KeepB.alloc, KeepB.drew])
                          (first | (go_at_call 48; refine (within_any _ _ _).mono ?_; rintro e w' ⟨rfl, rfl⟩) | (go_at_call 49; refine (HHash.out _).mono ?_; rintro e w' ⟨rfl, rfl⟩))
                        go_wp2_with (at_mapUpdate; refine wpList_update_set rfl _ _ _ rfl int_law Tryd.underlying73 Tryd.underlying4 (wm.heap.size) _ rfl (SetM.alloc (w := wr.drew) HMS2.out _) HLen.out (.int .i64 (k : Int)) rfl rfl kl HK.out (by rw [mem_metv]; exact HM.out) ?_; intro w8 hset8 hg8; obtain ⟨hc8a, hf8a, hz8a⟩ := gb_at hg8 w.heap.size (by simp; omega) (by omega); obtain ⟨hc8b, hf8b, hz8b⟩ := gb_at hg8 gf (by simp; omega) (by omega))
                        have hmc' := HStep.out trivial HM.out hh
                        have hle := hmc'.le
                        have hbb : Below wm.heap.size wm w8 := bgrow (bdrew (balloc HBQ2.out _)) hg8 (Nat.le_refl _)
                        go_roundg (fs.length - (M ++ (p ++ [k])).length)
                        case measure => simp at hle ⊢; omega
                        case rel => exact ⟨nx, p ++ [k], rfl, rfl, hmc', by rw [← List.append_assoc, metv_snoc]; exact hset8, hbb⟩
                      · have HF := Lib.hid (HHB.out hh)
                        have hh' : (hashN s pp bk.length == b) = false := by simpa using hh
                        go_wp2
                        go_region_held3 (fun W' => W'.cell? ⟨w.heap.size, 0, none⟩ = some (.slice (some ⟨ga, 0, none⟩) bk.length ca) ∧ W'.cell? ⟨w.heap.size, 1, none⟩ = some (.slice (some ⟨gf, 0, none⟩) fs.length cb) ∧ W'.cell? ⟨gf, k * 5, none⟩ = some (.bool true) ∧ W'.cell? ⟨gf, k * 5 + 1, none⟩ = some (.int .i64 s) ∧ W'.cell? ⟨gf, k * 5 + 2, none⟩ = some (.int .i64 pp) ∧ KeepB wr wm.heap.size W') (simp [*, World.cell?_alloc_some, KeepB.alloc, KeepB.drew])
                          (first | (go_at_call 48; refine (within_any _ _ _).mono ?_; rintro e w' ⟨rfl, rfl⟩) | (go_at_call 49; refine (HHash.out _).mono ?_; rintro e w' ⟨rfl, rfl⟩))
                        go_wp2
                        go_ret
                        exact ⟨by rw [HF.out]; rfl, by (repeat' (first | with_reducible exact Below.refl _ _ | (with_reducible refine balloc ?_ _) | (with_reducible refine bset ?_ ?_ _) | (with_reducible refine bdrew ?_) | (with_reducible refine bdrewN ?_ _) | (with_reducible refine bstep ?_ (by with_reducible assumption)) | (with_reducible refine bgrow ?_ (by with_reducible assumption) (by omega)) | (simp; done) | (simp; omega)))⟩
                · have hw' : withinB x fs.length = false := by simpa using hw
                  have HF := Lib.hid (HMC.out.step_bad hlb hx (by
                    rcases hq : stepOk fs x with _ | _
                    · rfl
                    · obtain ⟨q1, q2, _⟩ := stepOk_iff.1 hq
                      exact absurd (withinB_iff.2 ⟨q1, q2⟩) hw))
                  clear hw HP1
                  go_wp2
                  go_quiet ((go_at_call 48; exact qsame (within_any _ _ _)))
                  go_wp2
                  go_ret
                  exact ⟨by rw [HF.out]; rfl, by (repeat' (first | with_reducible exact Below.refl _ _ | (with_reducible refine balloc ?_ _) | (with_reducible refine bset ?_ ?_ _) | (with_reducible refine bdrew ?_) | (with_reducible refine bdrewN ?_ _) | (with_reducible refine bstep ?_ (by with_reducible assumption)) | (with_reducible refine bgrow ?_ (by with_reducible assumption) (by omega)) | (simp; done) | (simp; omega)))⟩
          · obtain rfl : b = bk.length := by omega
            have e0 := tvB_end HD.out HPre.out HMP.out.all
            have e1 := HMP.out.len
            have HS9 : Hid (SetM Tryd.prog 44 4 wr (w.heap.size + 1) ((ukeys fs).map keyV).reverse) := by
              have := HSet.out.below HBQ.out
              exact this
            have e2 : (metv M).length = chSum bk fs bk.length := by rw [metv_len, e1]
            have e3 : (((ukeys fs).map keyV).reverse).length = usedN fs := by rw [List.length_reverse, List.length_map, usedN_keys]
            have E2 := Lib.hid e2
            have E3 := Lib.hid e3
            have E0 := Lib.hid e0
            clear e0 e1 e2 e3
            go_wp2_with (first | (refine wpList_len_set rfl _ rfl Tryd.underlying73 (wm.heap.size) _ rfl HMS.out ?_) | (refine wpList_len_set rfl _ rfl Tryd.underlying71 (w.heap.size + 1) _ rfl HS9.out ?_))
            go_ret
            refine ⟨?_, hbw2⟩
            rw [E0.out]
            refine ret_bool ?_
            rw [E2.out, ← usedN_keys]
            rw [Bool.eq_iff_iff, beq_iff_eq, decide_eq_true_eq]
            omega
  · have hd' : dimB bk.length fs.length = false := by simpa using hd
    have e0 := tvB_dim hd'
    have E := Lib.hid e0
    have hn' := mt dimB_iff.2 hd
    clear e0 hd hd'
    unfold tabV
    rcases (show fs.length < 1 ∨ 16 < fs.length ∨ ((1 ≤ fs.length ∧ fs.length ≤ 16) ∧ (bk.length < 1 ∨ 16 < bk.length)) from by omega) with h1 | h1 | ⟨⟨h1, h2⟩, h3⟩ <;> clear hn'
    · have i1 : (fs.length : Int) < 1 := by omega
      go_enter Tryd.func14, Tryd.ntmps14
      go_wp2
      go_ret
      exact ⟨by rw [E.out]; rfl, by (repeat' (first | with_reducible exact Below.refl _ _ | (with_reducible refine balloc ?_ _) | (with_reducible refine bset ?_ ?_ _) | (with_reducible refine bdrew ?_) | (with_reducible refine bdrewN ?_ _) | (with_reducible refine bstep ?_ (by with_reducible assumption)) | (with_reducible refine bgrow ?_ (by with_reducible assumption) (by omega)) | (simp; done) | (simp; omega)))⟩
    · have i1 : (16 : Int) < (fs.length : Int) := by omega
      go_enter Tryd.func14, Tryd.ntmps14
      go_wp2
      go_ret
      exact ⟨by rw [E.out]; rfl, by (repeat' (first | with_reducible exact Below.refl _ _ | (with_reducible refine balloc ?_ _) | (with_reducible refine bset ?_ ?_ _) | (with_reducible refine bdrew ?_) | (with_reducible refine bdrewN ?_ _) | (with_reducible refine bstep ?_ (by with_reducible assumption)) | (with_reducible refine bgrow ?_ (by with_reducible assumption) (by omega)) | (simp; done) | (simp; omega)))⟩
    · have t1 : withinB ((bk.length : Int) - 1) 16 = false := withinB_not.2 (by omega)
      have i1 : (1 : Int) ≤ (fs.length : Int) := by omega
      have i2 : (fs.length : Int) ≤ 16 := by omega
      clear h3
      go_enter Tryd.func14, Tryd.ntmps14
      go_wp2_with (go_at_call 40; refine (impl_bucketsValid _ _).mono ?_; rintro e w' ⟨rfl, rfl⟩)
      go_ret
      exact ⟨by rw [E.out]; rfl, by (repeat' (first | with_reducible exact Below.refl _ _ | (with_reducible refine balloc ?_ _) | (with_reducible refine bset ?_ ?_ _) | (with_reducible refine bdrew ?_) | (with_reducible refine bdrewN ?_ _) | (with_reducible refine bstep ?_ (by with_reducible assumption)) | (with_reducible refine bgrow ?_ (by with_reducible assumption) (by omega)) | (simp; done) | (simp; omega)))⟩
end Go.Proofs.YtjdoegekolbdpaaDoor
