/- The reference's chains and validity of tables return what the plain functions say. Asked: at most 1048576 frames and buckets. -/
import Derived.Test.YtjdoegekolbdpaaDoorTab
namespace Go.Proofs.YtjdoegekolbdpaaDoor
set_option linter.unusedVariables false
open Go.ChangeShapes Go.WideShapes Go.ChangeAt Go.RowKit
def nats (l : List Nat) : List Int := l.map fun (i : Nat) => (i : Int)
theorem nats_len (l : List Nat) : (nats l).length = l.length := by simp [nats]
theorem nats_snoc (l : List Nat) (x : Nat) : nats l ++ [(x : Int)] = nats (l ++ [x]) := by simp [nats]
def slen : Value → Nat
  | .slice _ n _ => n
  | _ => 0
def NoB (w : World) (e : Ending) (w' : World) : Prop := ∃ A n c, e = .returned (.tuple #[.slice A n c, .bool false]) ∧ Below w.heap.size w w'
set_option maxHeartbeats 1000000 in
set_option maxRecDepth 100000 in
theorem spec_l3Chain_yes (A B : Option Addr) (ca cb lo hi : Nat) (bk : List Int) (fs : List Fr) (b : Nat) (l : List Nat) (w : World) (h : Tb w lo hi A B bk fs) (hb : b < bk.length) (hl : chn fs fs.length (bk.getD b 0) = some l) (hn : bk.length ≤ 1048576) (hn2 : fs.length ≤ 1048576) :
    Calls Tryd.prog 56 #[tabV A bk.length ca B fs.length cb, .int .i64 (b : Int)] w (SlB (nats l) true w) := by
  have H := Lib.hid h.2.top
  have HL := Lib.hid hl
  obtain ⟨g, rfl, hg0, hg0', hg1, hg2, _⟩ := h.1.int hb
  clear h hl
  generalize bk.getD b 0 = x0 at *
  obtain ⟨i0, hi0, hz0, hz1, hz2⟩ := info_parts int_info
  have i1 : (0 : Int) ≤ (b : Int) := by omega
  have i2 : (b : Int) < (bk.length : Int) := by omega
  unfold tabV
  go_enter Tryd.func56, Tryd.ntmps56
  have hown0 : ((w.alloc (.cells #[.slice (some ⟨g, 0, none⟩) bk.length ca, .slice B fs.length cb] 28)).alloc (.cells #[] 3)).ownsRow (w.heap.size + 1) 3 1 (.slice (some ⟨w.heap.size + 1, 0, none⟩) 0 0) ([] : List Nat).length (ints (nats [])) := by
    have := World.ownsRow_lit (e := 3) (size := 1) (w.alloc (.cells #[.slice (some ⟨g, 0, none⟩) bk.length ca, .slice B fs.length cb] 28)) #[] 0 (base := w.heap.size + 1) (by simp) (by unfold maxLen; omega) rfl
    simpa [ints, nats] using this
  have HO0 := Lib.hid hown0
  have hbz : Below (w.heap.size + 1) (w.alloc (.cells #[.slice (some ⟨g, 0, none⟩) bk.length ca, .slice B fs.length cb] 28)) ((w.alloc (.cells #[.slice (some ⟨g, 0, none⟩) bk.length ca, .slice B fs.length cb] 28)).alloc (.cells #[] 3)) := by
    have := Joins.below_alloc1 (w.alloc (.cells #[.slice (some ⟨g, 0, none⟩) bk.length ca, .slice B fs.length cb] 28)) (.cells #[] 3)
    simpa using this
  have HBZ := Lib.hid hbz
  clear hown0 hbz
  go_wp2
  go_loopw [6, 7] (fun v i wr => ∃ (p : List Nat) (x : Int), i = .int .i64 x ∧ wr.ownsRow (w.heap.size + 1) 3 1 v p.length (ints (nats p)) ∧ Wlk fs x0 p x ∧ p.length ≤ fs.length ∧ Below (w.heap.size + 1) (w.alloc (.cells #[.slice (some ⟨g, 0, none⟩) bk.length ca, .slice B fs.length cb] 28)) wr) (fun v _ _ => fs.length - slen v)
  case atStart => exact ⟨[], x0, rfl, HO0.out, Wlk.start _ _, by simp, HBZ.out⟩
  case round =>
    obtain ⟨p, x, rfl, hown, hwk, hpl, hbr⟩ := hrel
    have HO := Lib.hid hown
    have HW := Lib.hid hwk
    have hbw : Below w.heap.size w wr := (Joins.below_alloc1 w _).trans (hbr.mono (by omega))
    have hszr := hbr.size
    simp at hszr
    obtain ⟨A2, c2, rfl, hc1, hc2, hsl2⟩ := Sl.own hown
    have HS2 := Lib.hid hsl2
    have hT : ∀ o, wr.cell? ⟨w.heap.size, o, none⟩ = (w.alloc (.cells #[.slice (some ⟨g, 0, none⟩) bk.length ca, .slice B fs.length cb] 28)).cell? ⟨w.heap.size, o, none⟩ := fun o => hbr.cell (p := ⟨w.heap.size, o, none⟩) (by simp)
    clear hown hwk hsl2
    have HBR := Lib.hid hbr
    clear hbr
    by_cases hx : x = -1
    · subst hx
      have e := HW.out.done hpl
      rw [HL.out] at e
      obtain rfl : l = p := Option.some.inj e
      clear e
      go_wp2
      go_ret2
      exact ⟨A2, c2, by rw [nats_len]; rfl, by rw [nats_len]; exact hc1, hc2, by rw [nats_len]; exact HS2.out.more (by omega) (Nat.le_refl _), hbw⟩
    · obtain ⟨l', hle, hs, hplt⟩ := HW.out.next hpl hx HL.out
      clear hle
      obtain ⟨s1, s2, s3⟩ := stepOk_iff.1 hs
      obtain ⟨k, rfl⟩ := Int.eq_ofNat_of_zero_le s1
      have hkf : k < fs.length := by omega
      obtain ⟨gf, hBe, _, hgl, hgf, hg4, _⟩ := (H.out.belowB hbw (Nat.le_refl _)).frame hkf
      subst hBe
      have hwk := HW.out.step hs
      simp only [Int.toNat_natCast] at s3 hwk
      generalize fat fs k = f at *
      obtain ⟨u, s, pp, r, nx⟩ := f
      obtain ⟨v0, v1, v2, v3, v4⟩ := hg4
      simp only [] at s3 v0 v1 v2 v3 v4 hwk
      subst s3
      have HW2 := Lib.hid hwk
      have i3 : (0 : Int) ≤ (k : Int) := by omega
      have i4 : (k : Int) < (fs.length : Int) := by omega
      have i5 : decide ((fs.length : Int) ≤ (p.length : Int)) = false := by simp; omega
      clear hwk hs hx
      go_wp2_with (at_builtin; refine wpList_append_own _ rfl _ _ 25 rfl (w.heap.size + 1) 3 i0 (.int .i64 0) 1 8 Tryd.underlying25 hi0 hz0 hz1 hz2 rfl (by decide) _ _ _ rfl (HO.out.alloc (.cells #[.int .i64 k] 3)) _ _ _ [.int .i64 k] rfl rfl ?c1 ?c2 ?c3 ?c4 ?c5 ?_)
      case c1 => exact cell_new1 (by simp)
      case c2 => intro u hu; simp at hu; subst hu; rfl
      case c3 => unfold maxLen; omega
      case c4 => omega
      case c5 => simp; omega
      intro v' w6 hown' hgrow _
      have hb6 : Below (w.heap.size + 1) (w.alloc (.cells #[.slice (some ⟨g, 0, none⟩) bk.length ca, .slice (some ⟨gf, 0, none⟩) fs.length cb] 28)) w6 := below_app (HBR.out.alloc (by omega) _) (by simp; omega) (HO.out.alloc _) hgrow
      rw [ints_snoc, nats_snoc] at hown'
      obtain ⟨A6, c6, rfl, _, _, _⟩ := Sl.own hown'
      have R := Lib.hid (And.intro hown' hb6)
      clear hown' hb6 hgrow
      have hT6 : ∀ o, w6.cell? ⟨w.heap.size, o, none⟩ = (w.alloc (.cells #[.slice (some ⟨g, 0, none⟩) bk.length ca, .slice (some ⟨gf, 0, none⟩) fs.length cb] 28)).cell? ⟨w.heap.size, o, none⟩ := fun o => R.out.2.cell (p := ⟨w.heap.size, o, none⟩) (by simp)
      have q4 : w6.cell? ⟨gf, k * 5 + 4, none⟩ = some (.int .i64 nx) := by
        rw [R.out.2.cell (p := ⟨gf, k * 5 + 4, none⟩) (by have := hgl; simp; omega), ← HBR.out.cell (p := ⟨gf, k * 5 + 4, none⟩) (by have := hgl; simp; omega)]; exact v4
      go_wp2
      go_roundw
      case rel => exact ⟨p ++ [k], nx, rfl, by simpa using R.out.1, HW2.out, by simp; omega, R.out.2⟩
      case measure => simp [slen]; omega
set_option maxHeartbeats 1000000 in
set_option maxRecDepth 100000 in
theorem spec_l3Chain_no (A B : Option Addr) (ca cb lo hi : Nat) (bk : List Int) (fs : List Fr) (b : Nat) (w : World) (h : Tb w lo hi A B bk fs) (hb : b < bk.length) (hl : chn fs fs.length (bk.getD b 0) = none) (hn : bk.length ≤ 1048576) (hn2 : fs.length ≤ 1048576) :
    Calls Tryd.prog 56 #[tabV A bk.length ca B fs.length cb, .int .i64 (b : Int)] w (NoB w) := by
  have H := Lib.hid h.2.top
  have HL := Lib.hid hl
  obtain ⟨g, rfl, hg0, hg0', hg1, hg2, _⟩ := h.1.int hb
  clear h hl
  generalize bk.getD b 0 = x0 at *
  obtain ⟨i0, hi0, hz0, hz1, hz2⟩ := info_parts int_info
  have i1 : (0 : Int) ≤ (b : Int) := by omega
  have i2 : (b : Int) < (bk.length : Int) := by omega
  unfold tabV
  go_enter Tryd.func56, Tryd.ntmps56
  have hown0 : ((w.alloc (.cells #[.slice (some ⟨g, 0, none⟩) bk.length ca, .slice B fs.length cb] 28)).alloc (.cells #[] 3)).ownsRow (w.heap.size + 1) 3 1 (.slice (some ⟨w.heap.size + 1, 0, none⟩) 0 0) ([] : List Nat).length (ints (nats [])) := by
    have := World.ownsRow_lit (e := 3) (size := 1) (w.alloc (.cells #[.slice (some ⟨g, 0, none⟩) bk.length ca, .slice B fs.length cb] 28)) #[] 0 (base := w.heap.size + 1) (by simp) (by unfold maxLen; omega) rfl
    simpa [ints, nats] using this
  have HO0 := Lib.hid hown0
  have hbz : Below (w.heap.size + 1) (w.alloc (.cells #[.slice (some ⟨g, 0, none⟩) bk.length ca, .slice B fs.length cb] 28)) ((w.alloc (.cells #[.slice (some ⟨g, 0, none⟩) bk.length ca, .slice B fs.length cb] 28)).alloc (.cells #[] 3)) := by
    have := Joins.below_alloc1 (w.alloc (.cells #[.slice (some ⟨g, 0, none⟩) bk.length ca, .slice B fs.length cb] 28)) (.cells #[] 3)
    simpa using this
  have HBZ := Lib.hid hbz
  clear hown0 hbz
  go_wp2
  go_loopw [6, 7] (fun v i wr => ∃ (p : List Nat) (x : Int), i = .int .i64 x ∧ wr.ownsRow (w.heap.size + 1) 3 1 v p.length (ints (nats p)) ∧ Wlk fs x0 p x ∧ p.length ≤ fs.length ∧ Below (w.heap.size + 1) (w.alloc (.cells #[.slice (some ⟨g, 0, none⟩) bk.length ca, .slice B fs.length cb] 28)) wr) (fun v _ _ => fs.length - slen v)
  case atStart => exact ⟨[], x0, rfl, HO0.out, Wlk.start _ _, by simp, HBZ.out⟩
  case round =>
    obtain ⟨p, x, rfl, hown, hwk, hpl, hbr⟩ := hrel
    have HO := Lib.hid hown
    have HW := Lib.hid hwk
    have hbw : Below w.heap.size w wr := (Joins.below_alloc1 w _).trans (hbr.mono (by omega))
    have hszr := hbr.size
    simp at hszr
    obtain ⟨A2, c2, rfl, hc1, hc2, hsl2⟩ := Sl.own hown
    have HS2 := Lib.hid hsl2
    have hT : ∀ o, wr.cell? ⟨w.heap.size, o, none⟩ = (w.alloc (.cells #[.slice (some ⟨g, 0, none⟩) bk.length ca, .slice B fs.length cb] 28)).cell? ⟨w.heap.size, o, none⟩ := fun o => hbr.cell (p := ⟨w.heap.size, o, none⟩) (by simp)
    clear hown hwk hsl2
    have HBR := Lib.hid hbr
    clear hbr
    by_cases hx : x = -1
    · subst hx
      have e := HW.out.done hpl
      rw [HL.out] at e
      cases e
    · rcases hs : stepOk fs x with _ | _
      · have hcases : x < 0 ∨ (fs.length : Int) ≤ x ∨ (0 ≤ x ∧ x < fs.length ∧ (fat fs x.toNat).u = false) := by
          rcases Int.lt_or_le x 0 with h1 | h1
          · exact .inl h1
          · rcases Int.lt_or_le x fs.length with h2 | h2
            · right; right
              refine ⟨h1, h2, ?_⟩
              rcases h3 : (fat fs x.toNat).u with _ | _
              · rfl
              · rw [stepOk_iff.2 ⟨h1, h2, h3⟩] at hs; cases hs
            · exact .inr (.inl h2)
        have hx' : (x == -1) = false := by simpa using hx
        clear hs
        rcases hcases with h1 | h1 | ⟨h1, h2, h3⟩
        · go_wp2
          go_ret2
          exact ⟨_, _, _, rfl, hbw⟩
        · have h0 : 0 ≤ x := by omega
          go_wp2
          go_ret2
          exact ⟨_, _, _, rfl, hbw⟩
        · obtain ⟨k, rfl⟩ := Int.eq_ofNat_of_zero_le h1
          rcases Nat.eq_or_lt_of_le hpl with hpe | hplt
          · have i5 : decide ((fs.length : Int) ≤ (p.length : Int)) = true := by simp; omega
            have h6 : fs.length ≤ p.length := by omega
            have HPE := Lib.hid hpe
            clear hpe
            go_wp2
            go_ret2
            exact ⟨_, _, _, rfl, hbw⟩
          · obtain ⟨gf, hBe, _, hgl, hgf, hg4, _⟩ := (H.out.belowB hbw (Nat.le_refl _)).frame (show k < fs.length by omega)
            subst hBe
            simp only [Int.toNat_natCast] at h3
            generalize fat fs k = f at *
            obtain ⟨u, s, pp, r, nx⟩ := f
            obtain ⟨v0, v1, v2, v3, v4⟩ := hg4
            simp only [] at h3 v0
            subst h3
            have i5 : decide ((fs.length : Int) ≤ (p.length : Int)) = false := by simp; omega
            clear v1 v2 v3 v4
            go_wp2
            go_ret2
            exact ⟨_, _, _, rfl, hbw⟩
      · rcases Nat.eq_or_lt_of_le hpl with hpe | hplt
        · obtain ⟨s1, s2, s3⟩ := stepOk_iff.1 hs
          have i5 : decide ((fs.length : Int) ≤ (p.length : Int)) = true := by simp; omega
          have h6 : fs.length ≤ p.length := by omega
          have HPE := Lib.hid hpe
          have hx' : (x == -1) = false := by simpa using hx
          clear hpe hs s3
          go_wp2
          go_ret2
          exact ⟨_, _, _, rfl, hbw⟩
        · have hx' : (x == -1) = false := by simpa using hx
          obtain ⟨s1, s2, s3⟩ := stepOk_iff.1 hs
          obtain ⟨k, rfl⟩ := Int.eq_ofNat_of_zero_le s1
          have hkf : k < fs.length := by omega
          obtain ⟨gf, hBe, _, hgl, hgf, hg4, _⟩ := (H.out.belowB hbw (Nat.le_refl _)).frame hkf
          subst hBe
          have hwk := HW.out.step hs
          simp only [Int.toNat_natCast] at s3 hwk
          generalize fat fs k = f at *
          obtain ⟨u, s, pp, r, nx⟩ := f
          obtain ⟨v0, v1, v2, v3, v4⟩ := hg4
          simp only [] at s3 v0 v1 v2 v3 v4 hwk
          subst s3
          have HW2 := Lib.hid hwk
          have i3 : (0 : Int) ≤ (k : Int) := by omega
          have i4 : (k : Int) < (fs.length : Int) := by omega
          have i5 : decide ((fs.length : Int) ≤ (p.length : Int)) = false := by simp; omega
          clear hwk hs hx
          go_wp2_with (at_builtin; refine wpList_append_own _ rfl _ _ 25 rfl (w.heap.size + 1) 3 i0 (.int .i64 0) 1 8 Tryd.underlying25 hi0 hz0 hz1 hz2 rfl (by decide) _ _ _ rfl (HO.out.alloc (.cells #[.int .i64 k] 3)) _ _ _ [.int .i64 k] rfl rfl ?c1 ?c2 ?c3 ?c4 ?c5 ?_)
          case c1 => exact cell_new1 (by simp)
          case c2 => intro u hu; simp at hu; subst hu; rfl
          case c3 => unfold maxLen; omega
          case c4 => omega
          case c5 => simp; omega
          intro v' w6 hown' hgrow _
          have hb6 : Below (w.heap.size + 1) (w.alloc (.cells #[.slice (some ⟨g, 0, none⟩) bk.length ca, .slice (some ⟨gf, 0, none⟩) fs.length cb] 28)) w6 := below_app (HBR.out.alloc (by omega) _) (by simp; omega) (HO.out.alloc _) hgrow
          rw [ints_snoc, nats_snoc] at hown'
          obtain ⟨A6, c6, rfl, _, _, _⟩ := Sl.own hown'
          have R := Lib.hid (And.intro hown' hb6)
          clear hown' hb6 hgrow
          have hT6 : ∀ o, w6.cell? ⟨w.heap.size, o, none⟩ = (w.alloc (.cells #[.slice (some ⟨g, 0, none⟩) bk.length ca, .slice (some ⟨gf, 0, none⟩) fs.length cb] 28)).cell? ⟨w.heap.size, o, none⟩ := fun o => R.out.2.cell (p := ⟨w.heap.size, o, none⟩) (by simp)
          have q4 : w6.cell? ⟨gf, k * 5 + 4, none⟩ = some (.int .i64 nx) := by
            rw [R.out.2.cell (p := ⟨gf, k * 5 + 4, none⟩) (by have := hgl; simp; omega), ← HBR.out.cell (p := ⟨gf, k * 5 + 4, none⟩) (by have := hgl; simp; omega)]; exact v4
          go_wp2
          go_roundw
          case rel => exact ⟨p ++ [k], nx, rfl, by simpa using R.out.1, HW2.out, by simp; omega, R.out.2⟩
          case measure => simp [slen]; omega
end Go.Proofs.YtjdoegekolbdpaaDoor
