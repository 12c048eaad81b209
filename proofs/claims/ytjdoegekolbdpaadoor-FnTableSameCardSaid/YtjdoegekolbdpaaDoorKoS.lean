/- The reference's KeysOf returns a table's keys in their order. Asked: at most 1048576 buckets and frames. -/
import Derived.Test.YtjdoegekolbdpaaDoorKo
import Derived.Test.YtjdoegekolbdpaaDoorNewS
namespace Go.Proofs.YtjdoegekolbdpaaDoor
set_option linter.unusedVariables false
open Go.ChangeShapes Go.WideShapes Go.ChangeAt Go.RowKit
/-- the keys of a table come back -/
def KsP (bk : List Int) (fs : List Fr) (w : World) (e : Ending) (w' : World) : Prop :=
  ∃ A c, e = .returned (.slice A (ksOf bk fs).length c) ∧ ((ksOf bk fs).length ≤ c ∧ c ≤ maxLen) ∧ Hid (Sl w' w.heap.size w'.heap.size 44 2 A (ksOf bk fs).length (kcells (ksOf bk fs))) ∧ Below w.heap.size w w'
theorem KsP.of {bk : List Int} {fs : List Fr} {w w' : World} {A : Option Addr} {c n base : Nat} {ks : List (Int × Int)} (h : w'.ownsRow base 44 2 (.slice A n c) n (kcells ks)) (hb : w.heap.size ≤ base) (hk : ks = ksOf bk fs) (hw : Below w.heap.size w w') : KsP bk fs w (.returned (.slice A n c)) w' := by
  subst hk
  obtain ⟨A', c', e, h1, h2, hs⟩ := Sl.own h
  cases e
  have hl := hs.1
  rw [kcells_len] at hl
  obtain rfl : (ksOf bk fs).length = n := by omega
  exact ⟨A, c, rfl, ⟨h1, h2⟩, Lib.hid (hs.more hb (Nat.le_refl _)), hw⟩
set_option maxHeartbeats 2000000 in
set_option maxRecDepth 100000 in
theorem spec_KeysOf (A B : Option Addr) (ca cb lo hi : Nat) (bk : List Int) (fs : List Fr) (w : World) (h : Tb w lo hi A B bk fs) (hn : bk.length ≤ 1048576) (hn2 : fs.length ≤ 1048576) :
    Calls Tryd.prog 25 #[.agg #[.slice A bk.length ca, .slice B fs.length cb]] w (KsP bk fs w) := by
  have H := Lib.hid h.top
  clear h
  by_cases htv : tvB bk fs = true
  · have HV : Hid (∀ W : World, Tb W lo w.heap.size A B bk fs → Calls Tryd.prog 28 #[.agg #[.slice A bk.length ca, .slice B fs.length cb]] W fun e w' => e = .returned (.bool true) ∧ Below W.heap.size W w') := by
      intro W hW
      have h := spec_TvA A B ca cb lo w.heap.size bk fs W hW hn hn2
      rw [htv] at h
      exact h
    have hd := (dimB_iff.1 (tvB_iff.1 htv).1).1.2
    have HTV := Lib.hid htv
    clear htv
    obtain ⟨ik, hik, hy0, hy1, hy2⟩ := info_parts key_info
    go_enter Tryd.func25, Tryd.ntmps25
    go_wp2_with (fail)
    go_loopw [3, 4] (fun v i wr => ∃ (j : Nat) (ks : List (Int × Int)), j ≤ fs.length ∧ i = .int .i64 j ∧ wr.ownsRow (w.heap.size + 1) 44 2 v ks.length (kcells ks) ∧ wr.heap[w.heap.size]? = some (.cells #[.slice A bk.length ca, .slice B fs.length cb] 28 (0, 0)) ∧ Srt ks ∧ ks.Perm (ukeys (fs.take j)) ∧ Below w.heap.size w wr) (fun _ i _ => fs.length - (intOf i).toNat)
    case atStart => exact ⟨0, [], by omega, rfl, own_empty (heap_new (by simp)) (Nat.le_refl _), al_keep (heap_new rfl), Srt.nil, by simp [ukeys], by (repeat' (first | with_reducible exact Below.refl _ _ | (with_reducible refine balloc ?_ _) | (with_reducible refine bset ?_ ?_ _) | (with_reducible refine bdrew ?_) | (with_reducible refine bdrewN ?_ _) | (with_reducible refine bstep ?_ (by with_reducible assumption)) | (with_reducible refine bgrow ?_ (by with_reducible assumption) (by omega)) | (simp; done) | (simp; omega)))⟩
    case round =>
      obtain ⟨j, ks, hj, rfl, hown, hc0, hsrt, hperm, hb⟩ := hrel
      have hkl : ks.length ≤ j := by
        rw [hperm.length_eq]; unfold ukeys; rw [List.length_map]
        refine Nat.le_trans (List.length_filter_le _ _) ?_
        rw [List.length_take]; omega
      have hlt0 := block_lt hc0
      have c0 : wr.cell? ⟨w.heap.size, 0, none⟩ = some (.slice A bk.length ca) := by rw [Joins.cell_of_block hc0]; rfl
      have c1 : wr.cell? ⟨w.heap.size, 1, none⟩ = some (.slice B fs.length cb) := by rw [Joins.cell_of_block hc0]; rfl
      have HO := Lib.hid hown
      have HC0 := Lib.hid hc0
      have HS := Lib.hid hsrt
      have HP := Lib.hid hperm
      obtain ⟨A3, c3, rfl, q1, q2, _⟩ := Sl.own hown
      have HT : Hid (Tb wr lo w.heap.size A B bk fs) := H.out.below hb
      clear hown hc0 hsrt hperm
      by_cases hlt : j < fs.length
      · obtain ⟨g, rfl, _, hgw, hg1, ⟨f0, f1, f2, f3, f4⟩, _⟩ := (HT.out.2).frame hlt
        have HF := Lib.hid (take_fat hlt)
        generalize fat fs j = f at *
        obtain ⟨u, s, p, r, nx⟩ := f
        simp only [] at f0 f1 f2
        clear f3 f4
        have i1 : (0 : Int) ≤ (j : Int) := by omega
        have i2 : (j : Int) < (fs.length : Int) := by omega
        rcases u with _ | _
        · go_wp2_with (first | (go_at_call 28; refine (HV.out _ (by (repeat' (first | (with_reducible assumption) | (with_reducible exact Hid.out (by assumption)) | (with_reducible refine Tb.alloc ?_ _) | (with_reducible refine Tb.drewN ?_ _) | (with_reducible refine Tb.drew ?_) | (with_reducible refine Tb.set_ ?_ (by first | (left; (try simp) <;> omega) | (right; (try simp) <;> omega)) _) | (with_reducible refine Tb.below ?_ (by with_reducible assumption)))))).mono ?_; rintro e w5 ⟨rfl, hb5⟩; obtain ⟨hc5_0, hf5_0, hz5_0⟩ := bel_at hb5 (w.heap.size) (by first | omega | (simp; done) | (simp; omega)); obtain ⟨hc5_1, hf5_1, hz5_1⟩ := bel_at hb5 g (by first | omega | (simp; done) | (simp; omega))))
          go_roundw
          case rel =>
            refine ⟨j + 1, ks, by omega, by go_num, own_below HO.out hb5, (hb5.block _ hlt0).trans HC0.out, HS.out, ?_, bstep hb hb5⟩
            rw [HF.out, ukeys_snoc]; exact HP.out
          case measure => simp [intOf]; omega
        · have hh5 : ∃ W : World, W = wr := ⟨_, rfl⟩
          go_wp2_with (first | (go_at_call 28; refine (HV.out _ (by (repeat' (first | (with_reducible assumption) | (with_reducible exact Hid.out (by assumption)) | (with_reducible refine Tb.alloc ?_ _) | (with_reducible refine Tb.drewN ?_ _) | (with_reducible refine Tb.drew ?_) | (with_reducible refine Tb.set_ ?_ (by first | (left; (try simp) <;> omega) | (right; (try simp) <;> omega)) _) | (with_reducible refine Tb.below ?_ (by with_reducible assumption)))))).mono ?_; rintro e w5 ⟨rfl, hb5⟩; obtain ⟨hc5_0, hf5_0, hz5_0⟩ := bel_at hb5 (w.heap.size) (by first | omega | (simp; done) | (simp; omega)); obtain ⟨hc5_1, hf5_1, hz5_1⟩ := bel_at hb5 g (by first | omega | (simp; done) | (simp; omega)); have HO5 := Lib.hid (own_below HO.out hb5); have HC5 : Hid (w5.heap[w.heap.size]? = some (.cells #[.slice A bk.length ca, .slice (some ⟨g, 0, none⟩) fs.length cb] 28 (0, 0))) := Lib.hid ((hb5.block _ hlt0).trans HC0.out)) | (at_builtin; refine wpList_append_own _ rfl _ _ 33 rfl (w.heap.size + 1) 44 ik _ 2 16 Tryd.underlying33 hik hy0 hy1 hy2 rfl (by decide) _ _ _ rfl (HO5.out.alloc (.cells #[.int .i64 s, .int .i64 p] 44)) _ _ _ [.int .i64 s, .int .i64 p] rfl rfl ?c1 ?c2 ?c3 ?c4 ?c5 ?_))
          case c1 => exact cells_new2 (by simp)
          case c2 => intro u hu; simp at hu; rcases hu with rfl | rfl <;> rfl
          case c3 => unfold maxLen; omega
          case c4 => omega
          case c5 => have := hb.size; have := hb5.size; simp; omega
          intro v' w6 hown' hgrow _
          have hne : ∀ q, q < w.heap.size + 1 → some q ≠ (Value.slice A3 ks.length c3).ownBlock := fun q hq e => by have := (HO5.out.lt q e.symm).1; omega
          have hc6 : w6.heap[w.heap.size]? = some (.cells #[.slice A bk.length ca, .slice (some ⟨g, 0, none⟩) fs.length cb] 28 (0, 0)) := (hgrow.block _ (by simp; omega) (hne _ (by omega))).trans (al_keep HC5.out)
          have hb6 : Below w.heap.size w w6 := below_app (balloc (bstep hb hb5) _) (by have := hb.size; have := hb5.size; simp; omega) ((HO5.out.mono (by omega)).alloc _) hgrow
          rw [kcells_snoc] at hown'
          obtain ⟨A6, c6, rfl, r1, r2, hsl6⟩ := Sl.own hown'
          obtain ⟨g6, cur6, rfl, l6, l6', _, _⟩ := hsl6.2 (by omega)
          have HO6 := Lib.hid hown'
          have HC6 := Lib.hid hc6
          have HB6 := Lib.hid hb6
          clear hown' hc6 hb6 hsl6 hgrow hne HO5 HC5 hc5_0 hc5_1 hf5_0 hf5_1 hb5 c0 c1 f0 f1 f2 HO HC0 hh5
          go_wp2_with (fail)
          go_loopw [5] (fun k wq => ∃ (q : Nat) (ks' : List (Int × Int)), k = .int .i64 q ∧ q < ks'.length ∧ ks'.length = ks.length + 1 ∧ wq.ownsRow (w.heap.size + 1) 44 2 (.slice (some ⟨g6, 0, none⟩) (ks.length + 1) c6) (ks.length + 1) (kcells ks') ∧ wq.heap[w.heap.size]? = some (.cells #[.slice A bk.length ca, .slice (some ⟨g, 0, none⟩) fs.length cb] 28 (0, 0)) ∧ Bub ks' q ∧ ks'.Perm (ks ++ [(s, p)]) ∧ Below w.heap.size w wq) (fun k _ => (intOf k).toNat)
          case atStart => exact ⟨ks.length, ks ++ [(s, p)], by go_num, by simp, by simp, HO6.out, HC6.out, Bub.start _ HS.out, .refl _, HB6.out⟩
          case round =>
            obtain ⟨q, ks', rfl, hq, hql, hownq, hcq, hbub, hpq, hbq⟩ := hrel
            have HBq := Lib.hid hbub
            have HPq := Lib.hid hpq
            have HOq := Lib.hid hownq
            have HCq := Lib.hid hcq
            have hltq := block_lt hcq
            have HQ : Hid (∀ ks2 : List (Int × Int), ks2.Perm ks' → ks2.Perm (ukeys (fs.take (j + 1)))) := by
              intro ks2 h2
              rw [HF.out, ukeys_snoc, if_pos rfl]
              exact h2.trans (hpq.trans (HP.out.append_right _))
            clear hbub hpq hcq
            by_cases hq0 : 0 < q
            · obtain ⟨A', c', e, _, _, hsq⟩ := Sl.own hownq
              cases e
              obtain ⟨g', e, _, _, hgq, x1, x2, xf⟩ := hsq.key (k := q) (by omega)
              cases e
              obtain ⟨g', e, _, _, _, y1, y2, _⟩ := hsq.key (k := q - 1) (by omega)
              cases e
              have hx : ks'.getD q (0, 0) = kat ks' q := rfl
              have hy : ks'.getD (q - 1) (0, 0) = kat ks' (q - 1) := rfl
              rw [hx] at x1 x2
              rw [hy] at y1 y2
              clear hx hy hsq hownq
              have HW := Lib.hid (kcells_swap ks' q)
              have HSW := Lib.hid (fun h => HBq.out.swap hq0 hq h)
              have HST := Lib.hid (fun h => HBq.out.stop hq0 h)
              have HKP := Lib.hid (kswap_perm hq0 hq)
              have HKL := Lib.hid (kswap_len ks' q)
              obtain ⟨q1, hq1⟩ : ∃ q1, q - 1 = q1 := ⟨_, rfl⟩
              rw [hq1] at HW HSW HST y1 y2
              have e1 : (q : Int) - 1 = (q1 : Int) := by omega
              have e2 : IntKind.i64.wrap ((q : Int) - 1) = (q1 : Int) := by rw [e1]; exact IntWalk.i64_in _ (by omega)
              have e3 : IntKind.i64.wrap (q1 : Int) = (q1 : Int) := IntWalk.i64_in _ (by omega)
              have i3 : (0 : Int) ≤ (q : Int) := by omega
              have i4 : (q : Int) < (ks.length : Int) + 1 := by omega
              have i5 : (0 : Int) ≤ (q1 : Int) := by omega
              have i6 : (q1 : Int) < (ks.length : Int) + 1 := by omega
              have i7 : (0 : Int) < (q : Int) := by omega
              generalize hX : kat ks' q = X at *
              generalize hY : kat ks' q1 = Y at *
              obtain ⟨s1, p1⟩ := X
              obtain ⟨s2, p2⟩ := Y
              simp only [] at x1 x2 y1 y2
              by_cases hlk : kLt (s1, p1) (s2, p2) = true
              · have hkb : kbB s1 p1 s2 p2 = true := hlk
                have HB7 := Lib.hid (HSW.out hlk)
                clear hlk HSW HST
                go_wp2_with (fail)
                go_region_held3 (fun W' => W'.cell? ⟨g6, q * 2, none⟩ = some (.int .i64 s1) ∧ W'.cell? ⟨g6, q * 2 + 1, none⟩ = some (.int .i64 p1) ∧ W'.cell? ⟨g6, q1 * 2, none⟩ = some (.int .i64 s2) ∧ W'.cell? ⟨g6, q1 * 2 + 1, none⟩ = some (.int .i64 p2)) (go_keep)
                  (first | (go_at_call 58; refine (spec_KeyBefore_b _ _ _ _ _).mono ?_; rintro e w7 ⟨rfl, hb7⟩; obtain ⟨hc7, hf7, hz7⟩ := bel_at hb7 g6 (by first | assumption | simpa using hgq)))
                have m1 : ¬ q * 2 = q1 * 2 := by omega
                have m2 : ¬ q * 2 = q1 * 2 + 1 := by omega
                have m3 : ¬ q * 2 + 1 = q1 * 2 := by omega
                have m4 : ¬ q * 2 + 1 = q1 * 2 + 1 := by omega
                have m5 : ¬ q1 * 2 = q * 2 := by omega
                have m6 : ¬ q1 * 2 = q * 2 + 1 := by omega
                have m7 : ¬ q1 * 2 + 1 = q * 2 := by omega
                have m8 : ¬ q1 * 2 + 1 = q * 2 + 1 := by omega
                have g1 : ¬ g6 = w7.heap.size := by omega
                have g2 : ¬ w7.heap.size = g6 := by omega
                go_wp2
                go_roundw
                case rel =>
                  refine ⟨q1, kswap ks' q, by first | rfl | go_num, by rw [HKL.out]; omega, by rw [HKL.out]; omega, ?_, ?_, HB7.out, HKP.out.trans HPq.out, ?_⟩
                  · rw [← HW.out]
                    exact (own_stored (own_stored (own_stored (own_stored (own_below (w := wr.drew) HOq.out hb7) _ _) _ _) _ _) _ _).alloc _
                  · refine al_keep ?_
                    rw [Below.heap_setCell _ _ _ _ (by simp; omega), Below.heap_setCell _ _ _ _ (by simp; omega), Below.heap_setCell _ _ _ _ (by simp; omega), Below.heap_setCell _ _ _ _ (by simp; omega)]
                    exact (hb7.block _ hltq).trans HCq.out
                  · exact balloc (bset (bset (bset (bset (bstep (bdrew hbq) hb7) (by simp; omega) _) (by simp; omega) _) (by simp; omega) _) (by simp; omega) _) _
                case measure => simp [intOf]; omega
              · have hlk' : kLt (s1, p1) (s2, p2) = false := by simpa using hlk
                have hkb : kbB s1 p1 s2 p2 = false := hlk'
                have HS7 := Lib.hid (HST.out hlk')
                clear hlk hlk' HSW HST
                go_wp2_with (fail)
                go_region_held3 (fun W' => W'.cell? ⟨g6, q * 2, none⟩ = some (.int .i64 s1) ∧ W'.cell? ⟨g6, q * 2 + 1, none⟩ = some (.int .i64 p1) ∧ W'.cell? ⟨g6, q1 * 2, none⟩ = some (.int .i64 s2) ∧ W'.cell? ⟨g6, q1 * 2 + 1, none⟩ = some (.int .i64 p2)) (go_keep)
                  (first | (go_at_call 58; refine (spec_KeyBefore_b _ _ _ _ _).mono ?_; rintro e w7 ⟨rfl, hb7⟩; obtain ⟨hc7, hf7, hz7⟩ := bel_at hb7 g6 (by first | assumption | simpa using hgq)))
                have HO7 := Lib.hid (own_below (w := wr.drew) HOq.out hb7)
                have HC7 : Hid _ := Lib.hid ((hb7.block _ hltq).trans HCq.out)
                go_wp2
                go_roundw
                case rel => exact ⟨j + 1, ks', by omega, by go_num, by rw [hql]; exact HO7.out, HC7.out, HS7.out, HQ.out _ (.refl _), bstep (bdrew hbq) hb7⟩
                case measure => simp [intOf]; omega
            · obtain rfl : q = 0 := by omega
              have HS7 := Lib.hid HBq.out.zero
              clear hownq
              go_wp2_with (fail)
              go_quiet (fail)
              go_wp2
              go_roundw
              case rel => exact ⟨j + 1, ks', by omega, by go_num, by rw [hql]; exact HOq.out, HCq.out, HS7.out, HQ.out _ (.refl _), bdrewN hbq _⟩
              case measure => simp [intOf]; omega
      · obtain rfl : j = fs.length := by omega
        go_wp2_with (fail)
        refine bodyPost_ret (v := .slice A3 ks.length c3) (by simp [results, Tryd.results25, go_sem, *]) rfl ?_
        refine KsP.of HO.out (by omega) (ksOf_uniq HTV.out HS.out ?_) (by (repeat' (first | with_reducible exact Below.refl _ _ | (with_reducible refine balloc ?_ _) | (with_reducible refine bset ?_ ?_ _) | (with_reducible refine bdrew ?_) | (with_reducible refine bdrewN ?_ _) | (with_reducible refine bstep ?_ (by with_reducible assumption)) | (with_reducible refine bgrow ?_ (by with_reducible assumption) (by omega)) | (simp; done) | (simp; omega))))
        have h := HP.out
        rw [List.take_length] at h
        exact h
  · have HV : Hid (∀ W : World, Tb W lo w.heap.size A B bk fs → Calls Tryd.prog 28 #[.agg #[.slice A bk.length ca, .slice B fs.length cb]] W fun e w' => e = .returned (.bool false) ∧ Below W.heap.size W w') := by
      intro W hW
      have h := spec_TvA A B ca cb lo w.heap.size bk fs W hW hn hn2
      rw [show tvB bk fs = false by simpa using htv] at h
      exact h
    have HK := Lib.hid (ksOf_no htv)
    clear htv
    go_enter Tryd.func25, Tryd.ntmps25
    go_wp2_with (fail)
    go_loopw [3, 4] (fun v i wr => i = .int .i64 0 ∧ v = .slice (some ⟨w.heap.size + 1, 0, none⟩) 0 0 ∧ wr.ownsRow (w.heap.size + 1) 44 2 (.slice (some ⟨w.heap.size + 1, 0, none⟩) 0 0) 0 (kcells []) ∧ wr.heap[w.heap.size]? = some (.cells #[.slice A bk.length ca, .slice B fs.length cb] 28 (0, 0)) ∧ Below w.heap.size w wr) (fun _ i _ => fs.length - (intOf i).toNat)
    case atStart => exact ⟨rfl, rfl, own_empty (heap_new (by simp)) (Nat.le_refl _), al_keep (heap_new rfl), by (repeat' (first | with_reducible exact Below.refl _ _ | (with_reducible refine balloc ?_ _) | (with_reducible refine bset ?_ ?_ _) | (with_reducible refine bdrew ?_) | (with_reducible refine bdrewN ?_ _) | (with_reducible refine bstep ?_ (by with_reducible assumption)) | (with_reducible refine bgrow ?_ (by with_reducible assumption) (by omega)) | (simp; done) | (simp; omega)))⟩
    case round =>
      obtain ⟨rfl, rfl, hown, hc0, hb⟩ := hrel
      have hlt0 := block_lt hc0
      have c0 : wr.cell? ⟨w.heap.size, 0, none⟩ = some (.slice A bk.length ca) := by rw [Joins.cell_of_block hc0]; rfl
      have c1 : wr.cell? ⟨w.heap.size, 1, none⟩ = some (.slice B fs.length cb) := by rw [Joins.cell_of_block hc0]; rfl
      have HO := Lib.hid hown
      have HT : Hid (Tb wr lo w.heap.size A B bk fs) := H.out.below hb
      clear hown hc0
      by_cases hlt : 0 < fs.length
      · have i2 : (0 : Int) < (fs.length : Int) := by omega
        go_wp2_with (first | (go_at_call 28; refine (HV.out _ (by (repeat' (first | (with_reducible assumption) | (with_reducible exact Hid.out (by assumption)) | (with_reducible refine Tb.alloc ?_ _) | (with_reducible refine Tb.drewN ?_ _) | (with_reducible refine Tb.drew ?_) | (with_reducible refine Tb.set_ ?_ (by first | (left; (try simp) <;> omega) | (right; (try simp) <;> omega)) _) | (with_reducible refine Tb.below ?_ (by with_reducible assumption)))))).mono ?_; rintro e w5 ⟨rfl, hb5⟩))
        refine bodyPost_ret (v := .slice (some ⟨w.heap.size + 1, 0, none⟩) 0 0) (by simp [results, Tryd.results25, go_sem, *]) rfl ?_
        exact KsP.of (ks := []) (own_below HO.out hb5) (by omega) HK.out.symm (by (repeat' (first | with_reducible exact Below.refl _ _ | (with_reducible refine balloc ?_ _) | (with_reducible refine bset ?_ ?_ _) | (with_reducible refine bdrew ?_) | (with_reducible refine bdrewN ?_ _) | (with_reducible refine bstep ?_ (by with_reducible assumption)) | (with_reducible refine bgrow ?_ (by with_reducible assumption) (by omega)) | (simp; done) | (simp; omega))))
      · have i2 : ¬ (0 : Int) < (fs.length : Int) := by omega
        go_wp2_with (fail)
        refine bodyPost_ret (v := .slice (some ⟨w.heap.size + 1, 0, none⟩) 0 0) (by simp [results, Tryd.results25, go_sem, *]) rfl ?_
        exact KsP.of (ks := []) HO.out (by omega) HK.out.symm (by (repeat' (first | with_reducible exact Below.refl _ _ | (with_reducible refine balloc ?_ _) | (with_reducible refine bset ?_ ?_ _) | (with_reducible refine bdrew ?_) | (with_reducible refine bdrewN ?_ _) | (with_reducible refine bstep ?_ (by with_reducible assumption)) | (with_reducible refine bgrow ?_ (by with_reducible assumption) (by omega)) | (simp; done) | (simp; omega))))
end Go.Proofs.YtjdoegekolbdpaaDoor
