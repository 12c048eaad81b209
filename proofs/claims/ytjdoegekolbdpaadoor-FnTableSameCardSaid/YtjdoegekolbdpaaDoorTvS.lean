/- The reference's TableValid returns what the plain function says. Asked: at most 1048576 frames and buckets. -/
import Derived.Test.YtjdoegekolbdpaaDoorChain
namespace Go.Proofs.YtjdoegekolbdpaaDoor
set_option linter.unusedVariables false
open Go.ChangeShapes Go.WideShapes Go.ChangeAt Go.RowKit
def FrPre (fs : List Fr) (k : Nat) : Prop := (∀ j, j < k → frOk (fat fs j) = true) ∧ (ukeys (fs.take k)).Nodup
theorem FrPre.step {fs : List Fr} {k : Nat} (h : FrPre fs k) (hk : k < fs.length) (h1 : frOk (fat fs k) = true) (h2 : (fat fs k).u = true → fkey (fat fs k) ∉ ukeys (fs.take k)) : FrPre fs (k + 1) := by
  refine ⟨fun j hj => ?_, ?_⟩
  · rcases Nat.lt_or_eq_of_le (Nat.le_of_lt_succ hj) with h3 | rfl
    · exact h.1 j h3
    · exact h1
  · rw [take_fat hk, ukeys_snoc]
    split
    · rename_i hu
      rw [List.nodup_append]
      refine ⟨h.2, by simp, fun a ha b hb e => ?_⟩
      obtain rfl : b = fkey (fat fs k) := by simpa using hb
      exact h2 hu (e ▸ ha)
    · exact h.2
theorem usedN_step {fs : List Fr} {k : Nat} (hk : k < fs.length) : usedN (fs.take (k + 1)) = usedN (fs.take k) + if (fat fs k).u = true then 1 else 0 := by
  rw [take_fat hk]
  unfold usedN
  rw [List.filter_append, List.length_append]
  rcases h : (fat fs k).u with _ | _ <;> simp [h]
theorem usedN_le (fs : List Fr) (k : Nat) : usedN (fs.take k) ≤ k := by
  unfold usedN
  have := List.length_filter_le (fun f : Fr => f.u) (fs.take k)
  simp at this
  omega
theorem ukeys_step {fs : List Fr} {j : Nat} (hj : j < fs.length) (x : Int × Int) : x ∉ ukeys (fs.take j) → (¬ ((fat fs j).u = true ∧ fkey (fat fs j) = x)) → x ∉ ukeys (fs.take (j + 1)) := by
  intro h1 h2
  rw [take_fat hj, ukeys_snoc]
  split
  · rename_i hu
    intro h
    rcases List.mem_append.1 h with h | h
    · exact h1 h
    · simp at h; exact h2 ⟨hu, h.symm⟩
  · exact h1
theorem ukeys_in {fs : List Fr} {j k : Nat} (hjk : j < k) (hk : k ≤ fs.length) (hu : (fat fs j).u = true) : fkey (fat fs j) ∈ ukeys (fs.take k) := by
  unfold ukeys
  rw [List.mem_map]
  refine ⟨fat fs j, ?_, rfl⟩
  rw [List.mem_filter]
  refine ⟨?_, hu⟩
  rw [List.mem_take_iff_getElem]
  exact ⟨j, by omega, by simp [fat, List.getD_eq_getElem?_getD, show j < fs.length by omega]⟩
theorem chL_len (fs : List Fr) (x : Int) : (chL fs x).length ≤ fs.length := by
  unfold chL
  rcases h : chn fs fs.length x with _ | l
  · simp
  · exact chn_len h
theorem chSum_le (bk : List Int) (fs : List Fr) (h : fs.length ≤ 16) (n : Nat) : chSum bk fs n ≤ n * 16 := by
  induction n with
  | zero => simp [chSum]
  | succ n ih => rw [chSum_succ]; have := chL_len fs (bk.getD n 0); omega
theorem chB_bad {fs : List Fr} {nb b : Nat} {x : Int} {l : List Nat} (h : chn fs fs.length x = some l) {i : Nat} (hi : i < l.length) (hh : fhash fs nb (l.getD i 0) ≠ b) : chB fs nb b x = false := by
  rcases hq : chB fs nb b x with _ | _
  · rfl
  · obtain ⟨l', h1, h2⟩ := chB_iff.1 hq
    rw [h] at h1
    obtain rfl := Option.some.inj h1
    exact absurd (h2 (l.getD i 0) (by simp [List.getD_eq_getElem?_getD, hi])) hh
theorem tvB_end {bk : List Int} {fs : List Fr} (hd : dimB bk.length fs.length = true) (hp : FrPre fs fs.length) (hc : ∀ b, b < bk.length → chB fs bk.length b (bk.getD b 0) = true) : tvB bk fs = decide (chSum bk fs bk.length = usedN fs) := by
  rw [Bool.eq_iff_iff, tvB_iff, decide_eq_true_eq]
  constructor
  · exact fun h => h.2.2.2.2
  · intro h
    refine ⟨hd, fun f hf => ?_, ?_, hc, h⟩
    · obtain ⟨i, hi, rfl⟩ := List.mem_iff_getElem.1 hf
      have := hp.1 i hi
      simpa [fat, List.getD_eq_getElem?_getD, hi] using this
    · have := hp.2
      rwa [List.take_length] at this
theorem frOk_key {f : Fr} (h : frOk f = true) (hu : f.u = true) : kvB f.s f.p = true ∧ withinB f.r 8 = true := by
  unfold frOk at h
  rw [if_pos hu, Bool.and_eq_true] at h
  exact h
theorem tvB_dim {bk : List Int} {fs : List Fr} (h : dimB bk.length fs.length = false) : tvB bk fs = false := by simp [tvB, h]
set_option maxHeartbeats 4000000 in
set_option maxRecDepth 100000 in
theorem spec_TableValid (A B : Option Addr) (ca cb lo hi : Nat) (bk : List Int) (fs : List Fr) (w : World) (h : Tb w lo hi A B bk fs) (hn : bk.length ≤ 1048576) (hn2 : fs.length ≤ 1048576) :
    Calls Tryd.prog 28 #[tabV A bk.length ca B fs.length cb] w fun e w' => e = .returned (.bool (tvB bk fs)) ∧ Below w.heap.size w w' := by
  have H := Lib.hid h.top
  clear h
  by_cases hd : dimB bk.length fs.length = true
  · obtain ⟨⟨d1, d2⟩, d3, d4⟩ := dimB_iff.1 hd
    have t1 : withinB ((bk.length : Int) - 1) 16 = true := withinB_iff.2 ⟨by omega, by omega⟩
    have HD := Lib.hid hd
    have i1 : (1 : Int) ≤ (fs.length : Int) := by omega
    have i2 : (fs.length : Int) ≤ 16 := by omega
    have i3 : (1 : Int) ≤ (bk.length : Int) := by omega
    have i4 : (bk.length : Int) ≤ 16 := by omega
    clear hd
    unfold tabV
    go_enter Tryd.func28, Tryd.ntmps28
    go_wp2_with (go_at_call 43; refine (spec_l2Buckets _ _).mono ?_; rintro e w' ⟨rfl, rfl⟩)
    have hB0 : Below (w.heap.size + 1) (w.alloc (.cells #[.slice A bk.length ca, .slice B fs.length cb] 28)) (w.alloc (.cells #[.slice A bk.length ca, .slice B fs.length cb] 28)) := Below.refl _ _
    go_loopw [3, 4] (fun v i wr => ∃ k : Nat, k ≤ fs.length ∧ i = .int .i64 k ∧ v = .int .i64 (usedN (fs.take k) : Nat) ∧ FrPre fs k ∧ Below (w.heap.size + 1) (w.alloc (.cells #[.slice A bk.length ca, .slice B fs.length cb] 28)) wr) (fun _ i _ => fs.length - (intOf i).toNat)
    case atStart => exact ⟨0, by omega, rfl, rfl, ⟨fun j hj => by omega, by simp [ukeys]⟩, hB0⟩
    case round =>
      clear hB0
      obtain ⟨k, hk, rfl, rfl, hpre, hbr⟩ := hrel
      have HPre := Lib.hid hpre
      have HBR := Lib.hid hbr
      have hbw : Below w.heap.size w wr := (Joins.below_alloc1 w _).trans (hbr.mono (by omega))
      have hT : ∀ o, wr.cell? ⟨w.heap.size, o, none⟩ = (w.alloc (.cells #[.slice A bk.length ca, .slice B fs.length cb] 28)).cell? ⟨w.heap.size, o, none⟩ := fun o => hbr.cell (p := ⟨w.heap.size, o, none⟩) (by simp)
      have hzr : w.heap.size < wr.heap.size := by have := hbr.size; simp at this; omega
      have hul := usedN_le fs k
      clear hpre hbr
      by_cases hlt : k < fs.length
      · obtain ⟨gf, hBe, _, hgl, hgf, hg4, _⟩ := (H.out.2.below hbw).frame hlt
        subst hBe
        have hbad := @tvB_frame_bad bk fs k hlt
        have htw := @tvB_twice bk fs k hlt
        have hus := usedN_step hlt
        have hstep := HPre.out.step hlt
        have hfi : frOk (fat fs k) = true ∨ frOk (fat fs k) = false := by rcases frOk (fat fs k) with _ | _ <;> simp
        have HFE : Hid (∃ f, f = fat fs k) := ⟨_, rfl⟩
        generalize hfk : fat fs k = f at *
        have HFK := Lib.hid hfk
        have HBad := Lib.hid hbad
        have HTw := Lib.hid htw
        have HUs := Lib.hid hus
        have HStep := Lib.hid hstep
        clear hfk hbad htw hus hstep
        have i5 : (0 : Int) ≤ (k : Int) := by omega
        have i6 : (k : Int) < (fs.length : Int) := by omega
        obtain ⟨v0, v1, v2, v3, v4⟩ := hg4
        go_wp2_with (fail)
        refine (spec_l3Frame f _).mono ?_
        rintro e w6 ⟨rfl, hb6⟩
        have hT6 : ∀ o, w6.cell? ⟨w.heap.size, o, none⟩ = (w.alloc (.cells #[.slice A bk.length ca, .slice (some ⟨gf, 0, none⟩) fs.length cb] 28)).cell? ⟨w.heap.size, o, none⟩ := fun o => (hb6.cell (p := ⟨w.heap.size, o, none⟩) hzr).trans (hT o)
        have hbr6 := Lib.hid (HBR.out.trans (hb6.mono (by omega)))
        have q0 := (hb6.cell (p := ⟨gf, k * 5, none⟩) hgf).trans v0
        have q1 := (hb6.cell (p := ⟨gf, k * 5 + 1, none⟩) hgf).trans v1
        have q2 := (hb6.cell (p := ⟨gf, k * 5 + 2, none⟩) hgf).trans v2
        have hz6 : w.heap.size < w6.heap.size := Nat.lt_of_lt_of_le hzr hb6.size
        have hbw6 : Below w.heap.size w w6 := hbw.trans (hb6.mono (by omega))
        clear v0 v1 v2 v3 v4 hT
        rcases hfi with hf1 | hf0
        · obtain ⟨u, s, p, r, nx⟩ := f
          simp only [] at q0 q1 q2
          have hu0 : usedN (fs.take (k + 1)) = usedN (fs.take k) + (if u = true then 1 else 0) := HUs.out
          have HU0 := Lib.hid hu0
          clear hu0
          rcases u with _ | _
          · go_wp2
            go_loopw [5] (fun i wq => ∃ j : Nat, j ≤ k ∧ i = .int .i64 j ∧ Below w6.heap.size w6 wq) (fun i _ => k - (intOf i).toNat)
            case atStart => exact ⟨0, by omega, rfl, Below.refl _ _⟩
            case round =>
              obtain ⟨j, hj, rfl, hbq⟩ := hrel
              by_cases hjk : j < k
              · have hTq : ∀ o, wr.cell? ⟨w.heap.size, o, none⟩ = (w.alloc (.cells #[.slice A bk.length ca, .slice (some ⟨gf, 0, none⟩) fs.length cb] 28)).cell? ⟨w.heap.size, o, none⟩ := fun o => (hbq.cell (p := ⟨w.heap.size, o, none⟩) hz6).trans (hT6 o)
                have y0 := (hbq.cell (p := ⟨gf, k * 5, none⟩) (Nat.lt_of_lt_of_le hgl (Nat.le_of_lt hz6))).trans q0
                have i7 : (0 : Int) ≤ (j : Int) := by omega
                have i8 : (j : Int) < (fs.length : Int) := by omega
                clear q0 q1 q2 hT6
                go_wp2
                go_quiet (fail)
                go_wp2
                go_roundw
                case rel => exact ⟨j + 1, by omega, by go_num, by (repeat' (first | with_reducible exact Below.refl _ _ | (with_reducible refine balloc ?_ _) | (with_reducible refine bset ?_ ?_ _) | (with_reducible refine bdrew ?_) | (with_reducible refine bdrewN ?_ _) | (with_reducible refine bstep ?_ (by with_reducible assumption)) | (with_reducible refine bgrow ?_ (by with_reducible assumption) (by omega)) | (simp; done) | (simp; omega)))⟩
                case measure => simp [intOf]; omega
              · obtain rfl : j = k := by omega
                have hf2 : FrPre fs (j + 1) := HStep.out hf1 (fun h => by cases h)
                have hb8 := hbr6.out.trans (hbq.mono (by omega))
                have R := Lib.hid (And.intro hf2 hb8)
                clear hf2 hb8
                go_wp2
                go_roundw
                case rel => exact ⟨j + 1, by omega, by go_num, by rw [HU0.out]; rfl, R.out.1, R.out.2⟩
                case measure => simp [intOf]; omega
          · go_wp2
            go_loopw [5] (fun i wq => ∃ j : Nat, j ≤ k ∧ i = .int .i64 j ∧ (s, p) ∉ ukeys (fs.take j) ∧ Below w6.heap.size w6 wq) (fun i _ => k - (intOf i).toNat)
            case atStart => exact ⟨0, by omega, rfl, by simp [ukeys], Below.refl _ _⟩
            case round =>
              obtain ⟨j, hj, rfl, hni, hbq⟩ := hrel
              have HNi := Lib.hid hni
              clear hni
              by_cases hjk : j < k
              · have hTq : ∀ o, wr.cell? ⟨w.heap.size, o, none⟩ = (w.alloc (.cells #[.slice A bk.length ca, .slice (some ⟨gf, 0, none⟩) fs.length cb] 28)).cell? ⟨w.heap.size, o, none⟩ := fun o => (hbq.cell (p := ⟨w.heap.size, o, none⟩) hz6).trans (hT6 o)
                have hgf6 := Nat.lt_of_lt_of_le hgl (Nat.le_of_lt hz6)
                have y0 := (hbq.cell (p := ⟨gf, k * 5, none⟩) hgf6).trans q0
                have y1 := (hbq.cell (p := ⟨gf, k * 5 + 1, none⟩) hgf6).trans q1
                have y2 := (hbq.cell (p := ⟨gf, k * 5 + 2, none⟩) hgf6).trans q2
                obtain ⟨g', e, _, _, _, hg5, _⟩ := ((H.out.2.below hbw6).below hbq).frame (show j < fs.length by omega)
                obtain rfl : gf = g' := by simpa using e
                have hkn := ukeys_step (fs := fs) (j := j) (by omega) (s, p) HNi.out
                have hin := @ukeys_in fs j k hjk (by omega)
                generalize fat fs j = f2 at *
                obtain ⟨u2, s2, p2, r2, nx2⟩ := f2
                obtain ⟨x0, x1, x2, _, _⟩ := hg5
                simp only [fkey] at x0 x1 x2 hkn hin
                have HKn := Lib.hid hkn
                have HIn := Lib.hid hin
                have i7 : (0 : Int) ≤ (j : Int) := by omega
                have i8 : (j : Int) < (fs.length : Int) := by omega
                clear q0 q1 q2 hT6 hkn hin e
                rcases u2 with _ | _
                · go_wp2
                  go_quiet (fail)
                  go_wp2
                  go_roundw
                  case rel => exact ⟨j + 1, by omega, by go_num, HKn.out (fun h => by cases h.1), by (repeat' (first | with_reducible exact Below.refl _ _ | (with_reducible refine balloc ?_ _) | (with_reducible refine bset ?_ ?_ _) | (with_reducible refine bdrew ?_) | (with_reducible refine bdrewN ?_ _) | (with_reducible refine bstep ?_ (by with_reducible assumption)) | (with_reducible refine bgrow ?_ (by with_reducible assumption) (by omega)) | (simp; done) | (simp; omega)))⟩
                  case measure => simp [intOf]; omega
                · by_cases e1 : s2 = s
                  · subst e1
                    by_cases e2 : p2 = p
                    · subst e2
                      have hbb : Below w.heap.size w wr := hbw6.trans (hbq.mono (Nat.le_of_lt hz6))
                      have HF := Lib.hid (HTw.out (by first | rfl | trivial) (HIn.out (by first | rfl | trivial)))
                      go_wp2
                      go_quiet (fail)
                      go_wp2
                      go_ret
                      exact ⟨by rw [HF.out]; rfl, by (repeat' (first | with_reducible exact Below.refl _ _ | (with_reducible refine balloc ?_ _) | (with_reducible refine bset ?_ ?_ _) | (with_reducible refine bdrew ?_) | (with_reducible refine bdrewN ?_ _) | (with_reducible refine bstep ?_ (by with_reducible assumption)) | (with_reducible refine bgrow ?_ (by with_reducible assumption) (by omega)) | (simp; done) | (simp; omega)))⟩
                    · have e2' : (p2 == p) = false := by simpa using e2
                      go_wp2
                      go_quiet (fail)
                      go_wp2
                      go_roundw
                      case rel => exact ⟨j + 1, by omega, by go_num, HKn.out (fun h => e2 (by have := h.2; simp at this; exact this)), by (repeat' (first | with_reducible exact Below.refl _ _ | (with_reducible refine balloc ?_ _) | (with_reducible refine bset ?_ ?_ _) | (with_reducible refine bdrew ?_) | (with_reducible refine bdrewN ?_ _) | (with_reducible refine bstep ?_ (by with_reducible assumption)) | (with_reducible refine bgrow ?_ (by with_reducible assumption) (by omega)) | (simp; done) | (simp; omega)))⟩
                      case measure => simp [intOf]; omega
                  · have e1' : (s2 == s) = false := by simpa using e1
                    go_wp2
                    go_quiet (fail)
                    go_wp2
                    go_roundw
                    case rel => exact ⟨j + 1, by omega, by go_num, HKn.out (fun h => e1 (by have := h.2; simp at this; exact this.1)), by (repeat' (first | with_reducible exact Below.refl _ _ | (with_reducible refine balloc ?_ _) | (with_reducible refine bset ?_ ?_ _) | (with_reducible refine bdrew ?_) | (with_reducible refine bdrewN ?_ _) | (with_reducible refine bstep ?_ (by with_reducible assumption)) | (with_reducible refine bgrow ?_ (by with_reducible assumption) (by omega)) | (simp; done) | (simp; omega)))⟩
                    case measure => simp [intOf]; omega
              · obtain rfl : j = k := by omega
                have hf2 : FrPre fs (j + 1) := HStep.out hf1 (fun _ => HNi.out)
                have hb8 := hbr6.out.trans (hbq.mono (by omega))
                have R := Lib.hid (And.intro hf2 hb8)
                clear hf2 hb8
                go_wp2
                go_roundw
                case rel => exact ⟨j + 1, by omega, by go_num, by rw [HU0.out]; go_num, R.out.1, R.out.2⟩
                case measure => simp [intOf]; omega
        · go_wp2
          go_ret
          exact ⟨by rw [HBad.out hf0]; rfl, hbw6⟩
      · obtain rfl : k = fs.length := by omega
        rw [List.take_length] at *
        have hsl := fun n => chSum_le bk fs (by omega) n
        have HSL := Lib.hid hsl
        have hul2 : usedN fs ≤ 16 := by omega
        clear hsl
        have hwr0 : Below (w.heap.size + 1) (w.alloc (.cells #[.slice A bk.length ca, .slice B fs.length cb] 28)) wr := HBR.out
        go_wp2
        go_loopw [3, 6] (fun v i wq => ∃ b : Nat, b ≤ bk.length ∧ i = .int .i64 b ∧ v = .int .i64 ((usedN fs : Int) - (chSum bk fs b : Int)) ∧ (∀ b', b' < b → chB fs bk.length b' (bk.getD b' 0) = true) ∧ Below (w.heap.size + 1) (w.alloc (.cells #[.slice A bk.length ca, .slice B fs.length cb] 28)) wq) (fun _ i _ => bk.length - (intOf i).toNat)
        case atStart => exact ⟨0, by omega, rfl, by simp [chSum], fun b' h => by omega, hwr0⟩
        case round =>
          clear hwr0 hT
          obtain ⟨b, hb, rfl, rfl, hcb, hbq⟩ := hrel
          have HCB := Lib.hid hcb
          have HBQ := Lib.hid hbq
          have hbw2 : Below w.heap.size w wr := (Joins.below_alloc1 w _).trans (hbq.mono (by omega))
          have hT : ∀ o, wr.cell? ⟨w.heap.size, o, none⟩ = (w.alloc (.cells #[.slice A bk.length ca, .slice B fs.length cb] 28)).cell? ⟨w.heap.size, o, none⟩ := fun o => hbq.cell (p := ⟨w.heap.size, o, none⟩) (by simp)
          have hzq : w.heap.size < wr.heap.size := by have := hbq.size; simp at this; omega
          have hs1 := HSL.out b
          have hs2 := HSL.out (b + 1)
          clear hcb hbq
          by_cases hlb : b < bk.length
          · have i7 : (0 : Int) ≤ (b : Int) := by omega
            have i8 : (b : Int) < (bk.length : Int) := by omega
            rcases hcn : chn fs fs.length (bk.getD b 0) with _ | l
            · have hbad := tvB_chain_bad hlb (chB_none (nb := bk.length) (b := b) hcn)
              have HBad := Lib.hid hbad
              have HCN := Lib.hid hcn
              clear hbad hcn
              go_wp2_with (fail)
              refine (spec_l3Chain_no A B ca cb lo w.heap.size bk fs b wr (H.out.below hbw2) hlb HCN.out (by omega) (by omega)).mono ?_
              rintro e w8 ⟨A8, n8, c8, rfl, hb8⟩
              go_wp2
              go_ret
              exact ⟨by rw [HBad.out]; rfl, by (repeat' (first | with_reducible exact Below.refl _ _ | (with_reducible refine balloc ?_ _) | (with_reducible refine bset ?_ ?_ _) | (with_reducible refine bdrew ?_) | (with_reducible refine bdrewN ?_ _) | (with_reducible refine bstep ?_ (by with_reducible assumption)) | (with_reducible refine bgrow ?_ (by with_reducible assumption) (by omega)) | (simp; done) | (simp; omega)))⟩
            · have hll := chn_len hcn
              have hcl := chL_of hcn
              have hsum := chSum_succ bk fs b
              rw [hcl] at hsum
              have HCN := Lib.hid hcn
              have HSum := Lib.hid hsum
              clear hcn hcl hsum
              go_wp2_with (fail)
              refine (spec_l3Chain_yes A B ca cb lo w.heap.size bk fs b l wr (H.out.below hbw2) hlb HCN.out (by omega) (by omega)).mono ?_
              rintro e w8 ⟨A8, c8, rfl, hc81, hc82, hs8, hb8⟩
              have hT8 : ∀ o, w8.cell? ⟨w.heap.size, o, none⟩ = (w.alloc (.cells #[.slice A bk.length ca, .slice B fs.length cb] 28)).cell? ⟨w.heap.size, o, none⟩ := fun o => (hb8.cell (p := ⟨w.heap.size, o, none⟩) hzq).trans (hT o)
              rw [nats_len] at hs8 hc81
              rw [nats_len]
              have HS8 := Lib.hid hs8
              have hz8 : w.heap.size < w8.heap.size := Nat.lt_of_lt_of_le hzq hb8.size
              have hbw8 : Below w.heap.size w w8 := hbw2.trans (hb8.mono (by omega))
              have HB8 := Lib.hid (HBQ.out.trans (hb8.mono (by omega)))
              clear hs8 hb8 hT
              go_wp2
              go_loopw [9] (fun i wq => ∃ j : Nat, j ≤ l.length ∧ i = .int .i64 j ∧ (∀ j', j' < j → fhash fs bk.length (l.getD j' 0) = b) ∧ Below w8.heap.size w8 wq) (fun i _ => l.length - (intOf i).toNat)
              case atStart => exact ⟨0, by omega, rfl, fun j' h => by omega, Below.refl _ _⟩
              case round =>
                obtain ⟨j, hj, rfl, hah, hbj⟩ := hrel
                have HAh := Lib.hid hah
                clear hah
                by_cases hjl : j < l.length
                · obtain ⟨gl, hAe, _, _, hgl1, hgl2, _⟩ := (HS8.out.below hbj).int (k := j) hjl
                  subst hAe
                  have hyl : (nats l).getD j 0 = ((l.getD j 0 : Nat) : Int) := by simp [nats, List.getD_eq_getElem?_getD, hjl]
                  rw [hyl] at hgl2
                  have hmem : l.getD j 0 ∈ l := by simp [List.getD_eq_getElem?_getD, hjl]
                  obtain ⟨m1, m2⟩ := chn_mem HCN.out hmem
                  have hok := HPre.out.1 _ m1
                  have hbad := fun hh => chB_bad (nb := bk.length) (b := b) HCN.out hjl hh
                  have hnext : ∀ j', j' < j + 1 → j' ≠ j → fhash fs bk.length (l.getD j' 0) = b := fun j' h h2 => HAh.out j' (by omega)
                  obtain ⟨gf, hBe, _, hgfl, hgf, hg4, _⟩ := ((H.out.2.below hbw8).below hbj).frame m1
                  subst hBe
                  generalize hy : l.getD j 0 = y at *
                  have HY := Lib.hid hy
                  unfold fhash at hbad
                  have hkv := (frOk_key hok m2).1
                  generalize hfy : fat fs y = f at *
                  have HFY := Lib.hid hfy
                  obtain ⟨u, s, p, r, nx⟩ := f
                  obtain ⟨x0, x1, x2, x3, x4⟩ := hg4
                  simp only [] at x1 x2 hkv hbad
                  have hTj : ∀ o, wr.cell? ⟨w.heap.size, o, none⟩ = (w.alloc (.cells #[.slice A bk.length ca, .slice (some ⟨gf, 0, none⟩) fs.length cb] 28)).cell? ⟨w.heap.size, o, none⟩ := fun o => (hbj.cell (p := ⟨w.heap.size, o, none⟩) hz8).trans (hT8 o)
                  have hzj : w.heap.size < wr.heap.size := Nat.lt_of_lt_of_le hz8 hbj.size
                  have hta : wr.cell? ⟨w.heap.size, 0, none⟩ = some (.slice A bk.length ca) := by rw [hTj]; simp
                  have htb : wr.cell? ⟨w.heap.size, 1, none⟩ = some (.slice (some ⟨gf, 0, none⟩) fs.length cb) := by rw [hTj]; simp
                  have HBad := Lib.hid hbad
                  have HNext := Lib.hid hnext
                  obtain ⟨h1, h2⟩ := hashN_range (s := s) (p := p) (b := (bk.length : Int)) (by omega)
                  have hc : ∀ w : World, Calls Tryd.prog 60 #[.agg #[.int .i64 s, .int .i64 p], .int .i64 (bk.length : Int)] w fun r w' => r = .returned (.int .i64 (hashN s p bk.length)) ∧ w.alloc (.cells #[.int .i64 s, .int .i64 p] 44) = w' := fun w => spec_l2Hash s p bk.length w hkv (by omega) (by omega)
                  obtain ⟨hv, hhv⟩ : ∃ hv, hv = hashN s p bk.length := ⟨_, rfl⟩
                  rw [← hhv] at hc
                  have HHV := Lib.hid hhv
                  have HC := Lib.hid hc
                  have i9 : (0 : Int) ≤ (j : Int) := by omega
                  have i10 : (j : Int) < (l.length : Int) := by omega
                  have i11 : (0 : Int) ≤ (y : Int) := by omega
                  have i12 : (y : Int) < (fs.length : Int) := by omega
                  clear hy hfy hbad hnext hok m2 hc hhv h1 h2 hkv hyl hmem hTj hT8 x0 x3 x4
                  by_cases hhb : hv = (b : Int)
                  · subst hhb
                    have i13 : ((b : Int) == (b : Int)) = true := by simp
                    go_wp2
                    go_region_held3 (fun W' => W'.cell? ⟨w.heap.size, 0, none⟩ = some (.slice A bk.length ca) ∧ W'.cell? ⟨w.heap.size, 1, none⟩ = some (.slice (some ⟨gf, 0, none⟩) fs.length cb) ∧ W'.cell? ⟨gl, j, none⟩ = some (.int .i64 y) ∧ W'.cell? ⟨gf, y * 5 + 1, none⟩ = some (.int .i64 s) ∧ W'.cell? ⟨gf, y * 5 + 2, none⟩ = some (.int .i64 p)) (go_keep)
                      (first | (go_at_call 60; refine (HC.out _).mono ?_; rintro e w' ⟨rfl, rfl⟩))
                    go_wp2
                    all_goals
                      go_roundw
                      case rel => exact ⟨j + 1, by omega, by go_num, fun j' h => by
                        by_cases e : j' = j
                        · subst e; rw [HY.out]; unfold fhash; rw [HFY.out]; exact HHV.out.symm
                        · exact HNext.out j' h e, by (repeat' (first | with_reducible exact Below.refl _ _ | (with_reducible refine balloc ?_ _) | (with_reducible refine bset ?_ ?_ _) | (with_reducible refine bdrew ?_) | (with_reducible refine bdrewN ?_ _) | (with_reducible refine bstep ?_ (by with_reducible assumption)) | (with_reducible refine bgrow ?_ (by with_reducible assumption) (by omega)) | (simp; done) | (simp; omega)))⟩
                      case measure => simp [intOf]; omega
                  · have i13 : (hv == (b : Int)) = false := by simpa using hhb
                    have HF := Lib.hid (tvB_chain_bad hlb (HBad.out (by rw [← HHV.out]; exact hhb)))
                    have hbb : Below w.heap.size w wr := hbw8.trans (hbj.mono (Nat.le_of_lt hz8))
                    go_wp2
                    go_region_held3 (fun W' => W'.cell? ⟨w.heap.size, 0, none⟩ = some (.slice A bk.length ca) ∧ W'.cell? ⟨w.heap.size, 1, none⟩ = some (.slice (some ⟨gf, 0, none⟩) fs.length cb) ∧ W'.cell? ⟨gl, j, none⟩ = some (.int .i64 y) ∧ W'.cell? ⟨gf, y * 5 + 1, none⟩ = some (.int .i64 s) ∧ W'.cell? ⟨gf, y * 5 + 2, none⟩ = some (.int .i64 p)) (go_keep)
                      (first | (go_at_call 60; refine (HC.out _).mono ?_; rintro e w' ⟨rfl, rfl⟩))
                    go_wp2
                    all_goals
                      go_ret
                      exact ⟨by rw [HF.out]; rfl, by (repeat' (first | with_reducible exact Below.refl _ _ | (with_reducible refine balloc ?_ _) | (with_reducible refine bset ?_ ?_ _) | (with_reducible refine bdrew ?_) | (with_reducible refine bdrewN ?_ _) | (with_reducible refine bstep ?_ (by with_reducible assumption)) | (with_reducible refine bgrow ?_ (by with_reducible assumption) (by omega)) | (simp; done) | (simp; omega)))⟩
                · obtain rfl : j = l.length := by omega
                  have hcb : chB fs bk.length b (bk.getD b 0) = true := chB_iff.2 ⟨l, HCN.out, fun y hy => by
                    obtain ⟨i, hi, rfl⟩ := List.mem_iff_getElem.1 hy
                    have := HAh.out i hi
                    simpa [List.getD_eq_getElem?_getD, hi] using this⟩
                  have R := Lib.hid (And.intro hcb (HB8.out.trans (hbj.mono (by omega))))
                  clear hcb
                  go_wp2
                  go_roundw
                  case rel => exact ⟨b + 1, by omega, by go_num, by rw [HSum.out]; (congr 1; push_cast; omega), fun b' h => by
                    by_cases e : b' = b
                    · subst e; exact R.out.1
                    · exact HCB.out b' (by omega), R.out.2⟩
                  case measure => simp [intOf]; omega
          · obtain rfl : b = bk.length := by omega
            have e0 := tvB_end HD.out HPre.out HCB.out
            have E := Lib.hid e0
            clear e0
            go_wp2
            go_ret
            exact ⟨by rw [E.out]; exact ret_bool (by rw [Bool.eq_iff_iff]; simp; omega), hbw2⟩
  · have hd' : dimB bk.length fs.length = false := by simpa using hd
    have e0 := tvB_dim hd'
    have E := Lib.hid e0
    have hn' := mt dimB_iff.2 hd
    clear e0 hd hd'
    unfold tabV
    rcases (show fs.length < 1 ∨ 16 < fs.length ∨ ((1 ≤ fs.length ∧ fs.length ≤ 16) ∧ (bk.length < 1 ∨ 16 < bk.length)) from by omega) with h1 | h1 | ⟨⟨h1, h2⟩, h3⟩ <;> clear hn'
    · have i1 : (fs.length : Int) < 1 := by omega
      go_enter Tryd.func28, Tryd.ntmps28
      go_wp2
      go_ret
      exact ⟨by rw [E.out]; rfl, by (repeat' (first | with_reducible exact Below.refl _ _ | (with_reducible refine balloc ?_ _) | (with_reducible refine bset ?_ ?_ _) | (with_reducible refine bdrew ?_) | (with_reducible refine bdrewN ?_ _) | (with_reducible refine bstep ?_ (by with_reducible assumption)) | (with_reducible refine bgrow ?_ (by with_reducible assumption) (by omega)) | (simp; done) | (simp; omega)))⟩
    · have i1 : (16 : Int) < (fs.length : Int) := by omega
      go_enter Tryd.func28, Tryd.ntmps28
      go_wp2
      go_ret
      exact ⟨by rw [E.out]; rfl, by (repeat' (first | with_reducible exact Below.refl _ _ | (with_reducible refine balloc ?_ _) | (with_reducible refine bset ?_ ?_ _) | (with_reducible refine bdrew ?_) | (with_reducible refine bdrewN ?_ _) | (with_reducible refine bstep ?_ (by with_reducible assumption)) | (with_reducible refine bgrow ?_ (by with_reducible assumption) (by omega)) | (simp; done) | (simp; omega)))⟩
    · have t1 : withinB ((bk.length : Int) - 1) 16 = false := withinB_not.2 (by omega)
      have i1 : (1 : Int) ≤ (fs.length : Int) := by omega
      have i2 : (fs.length : Int) ≤ 16 := by omega
      clear h3
      go_enter Tryd.func28, Tryd.ntmps28
      go_wp2_with (go_at_call 43; refine (spec_l2Buckets _ _).mono ?_; rintro e w' ⟨rfl, rfl⟩)
      go_ret
      exact ⟨by rw [E.out]; rfl, by (repeat' (first | with_reducible exact Below.refl _ _ | (with_reducible refine balloc ?_ _) | (with_reducible refine bset ?_ ?_ _) | (with_reducible refine bdrew ?_) | (with_reducible refine bdrewN ?_ _) | (with_reducible refine bstep ?_ (by with_reducible assumption)) | (with_reducible refine bgrow ?_ (by with_reducible assumption) (by omega)) | (simp; done) | (simp; omega)))⟩
end Go.Proofs.YtjdoegekolbdpaaDoor
