/- The program's KeysOf returns a table's keys in their order. Asked: at most 1048576 buckets and frames; the variable 'free' holds what its initialiser lays. -/
import Derived.Test.YtjdoegekolbdpaaDoorSortK
import Derived.Shelf.SlSortCmp.NoneTotal
namespace Go.Proofs.YtjdoegekolbdpaaDoor
set_option linter.unusedVariables false
open Go.ChangeShapes Go.WideShapes Go.ChangeAt Go.RowKit
theorem sort_none (cap : Nat) (fv : Value) (w : World) : Calls Tryd.prog 50 #[.slice none 0 cap, fv] w fun e w' => e = .returned (.tuple #[]) ∧ w' = w := AnyF.slices_SortFunc_none Tryd.sortK none cap fv w
theorem clip_keys (A : Option Addr) (n c : Nat) (w : World) (h1 : n ≤ c) (h2 : c ≤ maxLen) : Calls Tryd.prog 52 #[.slice A n c] w fun e w' => e = .returned (.slice A n n) ∧ w = w' := by
  unfold maxLen at h2
  go_enter Tryd.func52, Tryd.ntmps52
  go_wp2
  go_ret
  exact ⟨rfl, rfl⟩
theorem KsP.fin {bk : List Int} {fs : List Fr} {w w' : World} {A : Option Addr} {n base hi : Nat} {ks : List (Int × Int)} (h : Sl w' base hi 44 2 A n (kcells ks)) (hb : w.heap.size ≤ base) (hn : n ≤ maxLen) (hk : ks = ksOf bk fs) (hw : Below w.heap.size w w') : KsP bk fs w (.returned (.slice A n n)) w' := by
  subst hk
  have hl := h.1
  rw [kcells_len] at hl
  obtain rfl : (ksOf bk fs).length = n := by omega
  exact ⟨A, _, rfl, ⟨Nat.le_refl _, hn⟩, Lib.hid (h.top.more hb (Nat.le_refl _)), hw⟩
set_option maxHeartbeats 2000000 in
set_option maxRecDepth 100000 in
theorem impl_KeysOf (A B : Option Addr) (ca cb lo hi : Nat) (bk : List Int) (fs : List Fr) (w : World) (hf : FreeIn w) (h : Tb w lo hi A B bk fs) (hn : bk.length ≤ 1048576) (hn2 : fs.length ≤ 1048576) :
    Calls Tryd.prog 15 #[.agg #[.slice A bk.length ca, .slice B fs.length cb]] w (KsP bk fs w) := by
  have H := Lib.hid h.top
  have HF := Lib.hid hf
  clear h hf
  by_cases htv : tvB bk fs = true
  · have HV : Hid (∀ W : World, FreeIn W → Tb W lo w.heap.size A B bk fs → Calls Tryd.prog 14 #[.agg #[.slice A bk.length ca, .slice B fs.length cb]] W fun e w' => e = .returned (.bool true) ∧ Below W.heap.size W w') := by
      intro W hF hW
      have h := impl_TvA A B ca cb lo w.heap.size bk fs W hF hW hn hn2
      rw [htv] at h
      exact h
    have hd := (dimB_iff.1 (tvB_iff.1 htv).1).1.2
    have HTV := Lib.hid htv
    clear htv
    obtain ⟨ik, hik, hy0, hy1, hy2⟩ := info_parts key_info
    go_enter Tryd.func15, Tryd.ntmps15
    go_wp2_with (fail)
    refine (HV.out _ (HF.out.below (by (repeat' (first | with_reducible exact Below.refl _ _ | (with_reducible refine balloc ?_ _) | (with_reducible refine bset ?_ ?_ _) | (with_reducible refine bdrew ?_) | (with_reducible refine bdrewN ?_ _) | (with_reducible refine bstep ?_ (by with_reducible assumption)) | (with_reducible refine bgrow ?_ (by with_reducible assumption) (by omega)) | (simp; done) | (simp; omega))))) (by (repeat' (first | (with_reducible assumption) | (with_reducible exact Hid.out (by assumption)) | (with_reducible refine Tb.alloc ?_ _) | (with_reducible refine Tb.drewN ?_ _) | (with_reducible refine Tb.drew ?_) | (with_reducible refine Tb.set_ ?_ (by first | (left; (try simp) <;> omega) | (right; (try simp) <;> omega)) _) | (with_reducible refine Tb.below ?_ (by with_reducible assumption)))))).mono ?_
    rintro e w2 ⟨rfl, hb2⟩
    have hB2 : Below w.heap.size w w2 := by (repeat' (first | with_reducible exact Below.refl _ _ | (with_reducible refine balloc ?_ _) | (with_reducible refine bset ?_ ?_ _) | (with_reducible refine bdrew ?_) | (with_reducible refine bdrewN ?_ _) | (with_reducible refine bstep ?_ (by with_reducible assumption)) | (with_reducible refine bgrow ?_ (by with_reducible assumption) (by omega)) | (simp; done) | (simp; omega)))
    have hbx : w2.heap[w.heap.size]? = some (.cells #[.slice A bk.length ca, .slice B fs.length cb] 28 (0, 0)) := (hb2.block _ (by simp)).trans (heap_new rfl)
    have hs2 := hb2.size
    simp at hs2
    have c0 : w2.cell? ⟨w.heap.size, 0, none⟩ = some (.slice A bk.length ca) := by rw [Joins.cell_of_block hbx]; rfl
    have c1 : w2.cell? ⟨w.heap.size, 1, none⟩ = some (.slice B fs.length cb) := by rw [Joins.cell_of_block hbx]; rfl
    have HBX := Lib.hid hbx
    have HB2 := Lib.hid hB2
    clear hb2 hbx hB2
    go_wp2_with (fail)
    go_loopw [3, 12] (fun v i wr => ∃ (j : Nat) (ks : List (Int × Int)), j ≤ fs.length ∧ i = .int .i64 j ∧ wr.ownsRow (w.heap.size + 1) 44 2 v ks.length (kcells ks) ∧ (ks.length = 0 → v = .slice none 0 0) ∧ ks = ukeys (fs.take j) ∧ Below w.heap.size w wr) (fun _ i _ => fs.length - (intOf i).toNat)
    case atStart => exact ⟨0, [], by omega, rfl, World.ownsRow_nil _ _ _ _, fun _ => rfl, by simp [ukeys], HB2.out⟩
    case round =>
      obtain ⟨j, ks, hj, rfl, hown, hnil, hks, hb⟩ := hrel
      have hkl : ks.length ≤ j := by
        rw [hks]; unfold ukeys; rw [List.length_map]
        refine Nat.le_trans (List.length_filter_le _ _) ?_
        rw [List.length_take]; omega
      have HO := Lib.hid hown
      have HN := Lib.hid hnil
      have HK := Lib.hid hks
      obtain ⟨A3, c3, rfl, q1, q2, hsl⟩ := Sl.own hown
      have HSL := Lib.hid hsl
      clear hsl
      have HT : Hid (Tb wr lo w.heap.size A B bk fs) := H.out.below hb
      clear hown hnil hks
      by_cases hlt : j < fs.length
      · obtain ⟨g, rfl, _, hgw, hg1, ⟨f0, f1, f2, f3, f4⟩, _⟩ := (HT.out.2).frame hlt
        have HFT := Lib.hid (take_fat hlt)
        generalize fat fs j = f at *
        obtain ⟨u, s, p, r, nx⟩ := f
        simp only [] at f0 f1 f2 f3 f4
        have i1 : (0 : Int) ≤ (j : Int) := by omega
        have i2 : (j : Int) < (fs.length : Int) := by omega
        rcases u with _ | _
        · go_wp2_with (fail)
          go_roundw
          case rel =>
            refine ⟨j + 1, ks, by omega, by go_num, HO.out.alloc _, HN.out, ?_, balloc hb _⟩
            rw [HFT.out, ukeys_snoc]; exact HK.out
          case measure => simp [intOf]; omega
        · go_wp2_with (at_builtin; refine wpList_append_own _ rfl _ _ 33 rfl (w.heap.size + 1) 44 ik _ 2 16 Tryd.underlying33 hik hy0 hy1 hy2 rfl (by decide) _ _ _ rfl ((HO.out.alloc _).alloc (.cells #[.int .i64 s, .int .i64 p] 44)) _ _ _ [.int .i64 s, .int .i64 p] rfl rfl ?c1 ?c2 ?c3 ?c4 ?c5 ?_)
          case c1 => exact cells_new2 (by simp)
          case c2 => intro u hu; simp at hu; rcases hu with rfl | rfl <;> rfl
          case c3 => unfold maxLen; omega
          case c4 => omega
          case c5 => have := hb.size; have := HB2.out.size; simp; omega
          intro v' w6 hown' hgrow _
          have hb6 : Below w.heap.size w w6 := below_app (balloc (balloc hb _) _) (by have := hb.size; simp; omega) (((HO.out.mono (by omega)).alloc _).alloc _) hgrow
          rw [kcells_snoc] at hown'
          have R := Lib.hid (And.intro hown' hb6)
          clear hown' hb6 hgrow
          go_wp2
          go_roundw
          case rel =>
            refine ⟨j + 1, ks ++ [(s, p)], by omega, by go_num, by rw [List.length_append]; exact R.out.1, fun h => by simp at h, ?_, R.out.2⟩
            rw [HFT.out, ukeys_snoc, if_pos rfl, ← HK.out]; rfl
          case measure => simp [intOf]; omega
      · obtain rfl : j = fs.length := by omega
        have hk2 : ks = ukeys fs := by have h := HK.out; rwa [List.take_length] at h
        have HK2 := Lib.hid hk2
        clear hk2 HK
        by_cases hk0 : ks.length = 0
        · have e0 := HN.out hk0
          obtain rfl : ks = [] := List.eq_nil_of_length_eq_zero hk0
          simp only [List.length_nil] at e0 ⊢
          cases e0
          go_wp2_with (fail)
          refine (sort_none _ _ _).mono ?_
          rintro e w3 ⟨rfl, rfl⟩
          go_wp2_with (fail)
          refine (clip_keys none 0 0 _ (Nat.le_refl _) (by unfold maxLen; omega)).mono ?_
          rintro e w4 ⟨rfl, rfl⟩
          go_wp2
          go_ret
          exact KsP.fin (ks := []) (base := w.heap.size) (hi := 0) Sl.none_ (Nat.le_refl _) (by simp) (ksOf_uniq HTV.out Srt.nil (by rw [← HK2.out])) hb
        · obtain ⟨g, cur, rfl, l1, _⟩ := HSL.out.2 (by omega)
          go_wp2_with (fail)
          refine (sort_keys g (w.heap.size + 1) ks.length c3 ks _ HO.out (by omega)).mono ?_
          rintro e w3 ⟨rfl, ks', hs', hp', HS3, HG3⟩
          go_wp2_with (fail)
          refine (clip_keys _ _ _ _ q1 q2).mono ?_
          rintro e w4 ⟨rfl, rfl⟩
          go_wp2
          go_ret
          exact KsP.fin HS3.out (by omega) (by unfold maxLen; omega) (ksOf_uniq HTV.out hs' (by rw [← HK2.out]; exact hp')) (bgrow hb HG3.out (by omega))
  · have HV : Hid (∀ W : World, FreeIn W → Tb W lo w.heap.size A B bk fs → Calls Tryd.prog 14 #[.agg #[.slice A bk.length ca, .slice B fs.length cb]] W fun e w' => e = .returned (.bool false) ∧ Below W.heap.size W w') := by
      intro W hF hW
      have h := impl_TvA A B ca cb lo w.heap.size bk fs W hF hW hn hn2
      rw [show tvB bk fs = false by simpa using htv] at h
      exact h
    have HK := Lib.hid (ksOf_no htv)
    clear htv
    go_enter Tryd.func15, Tryd.ntmps15
    go_wp2_with (fail)
    refine (HV.out _ (HF.out.below (by (repeat' (first | with_reducible exact Below.refl _ _ | (with_reducible refine balloc ?_ _) | (with_reducible refine bset ?_ ?_ _) | (with_reducible refine bdrew ?_) | (with_reducible refine bdrewN ?_ _) | (with_reducible refine bstep ?_ (by with_reducible assumption)) | (with_reducible refine bgrow ?_ (by with_reducible assumption) (by omega)) | (simp; done) | (simp; omega))))) (by (repeat' (first | (with_reducible assumption) | (with_reducible exact Hid.out (by assumption)) | (with_reducible refine Tb.alloc ?_ _) | (with_reducible refine Tb.drewN ?_ _) | (with_reducible refine Tb.drew ?_) | (with_reducible refine Tb.set_ ?_ (by first | (left; (try simp) <;> omega) | (right; (try simp) <;> omega)) _) | (with_reducible refine Tb.below ?_ (by with_reducible assumption)))))).mono ?_
    rintro e w2 ⟨rfl, hb2⟩
    have hB2 : Below w.heap.size w w2 := by (repeat' (first | with_reducible exact Below.refl _ _ | (with_reducible refine balloc ?_ _) | (with_reducible refine bset ?_ ?_ _) | (with_reducible refine bdrew ?_) | (with_reducible refine bdrewN ?_ _) | (with_reducible refine bstep ?_ (by with_reducible assumption)) | (with_reducible refine bgrow ?_ (by with_reducible assumption) (by omega)) | (simp; done) | (simp; omega)))
    go_wp2
    go_ret
    exact KsP.fin (ks := []) (base := w.heap.size) (hi := 0) Sl.none_ (Nat.le_refl _) (by simp) HK.out.symm hB2
end Go.Proofs.YtjdoegekolbdpaaDoor
