/- The reference's NewTable returns a table without pages. No conditions. -/
import Derived.Test.YtjdoegekolbdpaaDoorNewT
import Derived.Deep.Onto
namespace Go.Proofs.YtjdoegekolbdpaaDoor
set_option linter.unusedVariables false
open Go.ChangeShapes Go.WideShapes Go.ChangeAt Go.RowKit
theorem heap_new {W : World} {o : Obj} {b : Nat} (hb : b = W.heap.size) : (W.alloc o).heap[b]? = some o := by subst hb; exact (MapKept.heap_alloc W o).1
theorem al_keep {w : World} {o : Obj} {k : Nat} {x : Obj} (h : w.heap[k]? = some x) : (w.alloc o).heap[k]? = some x := ((Joins.below_alloc1 w o).block k (block_lt h)).trans h
set_option maxHeartbeats 1000000 in
set_option maxRecDepth 100000 in
theorem spec_NewTable (f b : Int) (w : World) : Calls Tryd.prog 12 #[.int .i64 f, .int .i64 b] w (TabB (ntT f b) (ntOk f b) w) := by
  have fin := fun (w' : World) (hb : Below w.heap.size w w') => TabB.none_ hb
  have FIN := Lib.hid fin
  clear fin
  by_cases hok : ntOk f b = true
  · obtain ⟨⟨f1, f2⟩, b1, b2⟩ := ntOk_iff.1 hok
    obtain ⟨nf, rfl⟩ := Int.eq_ofNat_of_zero_le (show 0 ≤ f by omega)
    obtain ⟨nb, rfl⟩ := Int.eq_ofNat_of_zero_le (show 0 ≤ b by omega)
    have e : ntT (nf : Int) (nb : Int) = newT nf nb := by unfold ntT; rw [if_pos hok]; rfl
    rw [e, hok]
    have t1 : withinB ((nb : Int) - 1) 16 = true := withinB_iff.2 ⟨by omega, by omega⟩
    obtain ⟨i0, hi0, hz0, hz1, hz2⟩ := info_parts int_info
    obtain ⟨i9, hi9, hy0, hy1, hy2⟩ := info_parts fr_info
    clear hok e
    go_enter Tryd.func12, Tryd.ntmps12
    go_wp2_with (go_at_call 43; refine (spec_l2Buckets _ _).mono ?_; rintro e w' ⟨rfl, rfl⟩)
    go_loopw [7] (fun i wr => ∃ (j : Nat) (v : Value), j ≤ nb ∧ i = .int .i64 j ∧ wr.ownsRow (w.heap.size + 2) 3 1 v j (ints (List.replicate j (-1))) ∧ wr.heap[w.heap.size + 1]? = some (.cells #[v, .slice none 0 0] 28 (0, 0)) ∧ wr.heap[w.heap.size]? = some (.cells #[.slice none 0 0, .slice none 0 0] 28 (0, 0)) ∧ Below w.heap.size w wr) (fun i _ => nb - (intOf i).toNat)
    case atStart =>
      refine ⟨0, .slice none 0 0, by omega, rfl, World.ownsRow_nil _ _ _ _, ?_, ?_, by (repeat' (first | with_reducible exact Below.refl _ _ | (with_reducible refine balloc ?_ _) | (with_reducible refine bset ?_ ?_ _) | (with_reducible refine bdrew ?_) | (with_reducible refine bdrewN ?_ _) | (with_reducible refine bstep ?_ (by with_reducible assumption)) | (with_reducible refine bgrow ?_ (by with_reducible assumption) (by omega)) | (simp; done) | (simp; omega)))⟩
      · exact heap_new (by simp)
      · exact al_keep (heap_new rfl)
    case round =>
      obtain ⟨j, v, hj, rfl, hown, hc1, hc0, hb⟩ := hrel
      obtain ⟨A, c, rfl, q1, q2, hsl⟩ := Sl.own hown
      have HO := Lib.hid hown
      have hlt1 := block_lt hc1
      have hlt0 := block_lt hc0
      have c0 : wr.cell? ⟨w.heap.size + 1, 0, none⟩ = some (.slice A j c) := by rw [Joins.cell_of_block hc1]; rfl
      have c1 : wr.cell? ⟨w.heap.size + 1, 1, none⟩ = some (.slice none 0 0) := by rw [Joins.cell_of_block hc1]; rfl
      have HC1 := Lib.hid hc1
      have HC0 := Lib.hid hc0
      have HB := Lib.hid hb
      clear hown hc1 hc0 hb
      by_cases hlt : j < nb
      · have i1 : (0 : Int) ≤ (j : Int) := by omega
        have i2 : (j : Int) < (nb : Int) := by omega
        clear hsl
        go_wp2_with (at_builtin; refine wpList_append_own _ rfl _ _ 25 rfl (w.heap.size + 2) 3 i0 (.int .i64 0) 1 8 Tryd.underlying25 hi0 hz0 hz1 hz2 rfl (by decide) _ _ _ rfl (HO.out.alloc (.cells #[.int .i64 (-1)] 3)) _ _ _ [.int .i64 (-1)] rfl rfl ?c1 ?c2 ?c3 ?c4 ?c5 ?_)
        case c1 => exact cell_new1 (by simp)
        case c2 => intro u hu; simp at hu; subst hu; rfl
        case c3 => unfold maxLen; omega
        case c4 => omega
        case c5 => simp; omega
        intro v' w6 hown' hgrow _
        have hne : ∀ k, k < w.heap.size + 2 → some k ≠ (Value.slice A j c).ownBlock := fun k hk e => by have := (HO.out.lt k e.symm).1; omega
        have hc6 : w6.heap[w.heap.size + 1]? = some (.cells #[.slice A j c, .slice none 0 0] 28 (0, 0)) := (hgrow.block _ (by simp; omega) (hne _ (by omega))).trans (al_keep HC1.out)
        have hc7 : w6.heap[w.heap.size]? = some (.cells #[.slice none 0 0, .slice none 0 0] 28 (0, 0)) := (hgrow.block _ (by simp; omega) (hne _ (by omega))).trans (al_keep HC0.out)
        have hb6 : Below w.heap.size w w6 := below_app (balloc HB.out _) (by simp; omega) ((HO.out.mono (by omega)).alloc _) hgrow
        have e1 : ints (List.replicate j (-1)) ++ [Value.int .i64 (-1)] = ints (List.replicate (j + 1) (-1)) := by rw [ints_snoc, ← List.replicate_succ']
        rw [e1] at hown'
        have d0 : w6.cell? ⟨w.heap.size + 1, 0, none⟩ = some (.slice A j c) := by rw [Joins.cell_of_block hc6]; rfl
        have d1 : w6.frozen? ⟨w.heap.size + 1, 0, none⟩ = false := Joins.unfrozen_of_block hc6 0
        have R : Hid ((w6.setCell ⟨w.heap.size + 1, 0, none⟩ v').ownsRow (w.heap.size + 2) 3 1 v' (j + 1) (ints (List.replicate (j + 1) (-1))) ∧ (w6.setCell ⟨w.heap.size + 1, 0, none⟩ v').heap[w.heap.size + 1]? = some (.cells #[v', .slice none 0 0] 28 (0, 0)) ∧ (w6.setCell ⟨w.heap.size + 1, 0, none⟩ v').heap[w.heap.size]? = some (.cells #[.slice none 0 0, .slice none 0 0] 28 (0, 0)) ∧ Below w.heap.size w (w6.setCell ⟨w.heap.size + 1, 0, none⟩ v')) := by
          refine ⟨ownsRow_setCell_below hown' (by simp) _, ?_, ?_, bset hb6 (by simp) _⟩
          · have := Joins.block_setCell (i := 0) hc6 v'
            simpa using this
          · rw [Below.heap_setCell _ _ _ _ (by simp)]; exact hc7
        obtain ⟨A6, cc6, rfl, _, _, _⟩ := Sl.own hown'
        clear hown' hgrow hc6 hc7 hb6 hne e1 HO HC1 HC0 HB
        go_wp2
        go_roundw
        case rel => exact ⟨j + 1, _, by omega, by go_num, R.out.1, R.out.2.1, R.out.2.2.1, R.out.2.2.2⟩
        case measure => simp [intOf]; omega
      · obtain rfl : j = nb := by omega
        have HS := Lib.hid hsl
        clear hsl HO
        obtain ⟨ws, hws⟩ : ∃ ws, ws = wr := ⟨_, rfl⟩
        subst hws
        go_wp2
        go_loopw [8] (fun i wr => ∃ (k : Nat) (v : Value), k ≤ nf ∧ i = .int .i64 k ∧ wr.ownsRow ws.heap.size 46 5 v k (fcells (List.replicate k frN)) ∧ Sl wr (w.heap.size + 2) ws.heap.size 3 1 A j (ints (List.replicate j (-1))) ∧ wr.heap[w.heap.size + 1]? = some (.cells #[.slice A j c, v] 28 (0, 0)) ∧ wr.heap[w.heap.size]? = some (.cells #[.slice none 0 0, .slice none 0 0] 28 (0, 0)) ∧ ws.heap.size ≤ wr.heap.size ∧ Below w.heap.size w wr) (fun i _ => nf - (intOf i).toNat)
        case atStart => exact ⟨0, .slice none 0 0, by omega, rfl, World.ownsRow_nil _ _ _ _, HS.out, HC1.out, HC0.out, Nat.le_refl _, HB.out⟩
        case round =>
          obtain ⟨k, v, hk, rfl, hown, hsl, hc1, hc0, hsz, hb⟩ := hrel
          obtain ⟨B, d, rfl, p1, p2, hsl2⟩ := Sl.own hown
          have HO := Lib.hid hown
          have HS2 := Lib.hid hsl
          have hlt1' := block_lt hc1
          have hlt0' := block_lt hc0
          clear c0 c1
          have c0 : wr.cell? ⟨w.heap.size + 1, 0, none⟩ = some (.slice A j c) := by rw [Joins.cell_of_block hc1]; rfl
          have c1 : wr.cell? ⟨w.heap.size + 1, 1, none⟩ = some (.slice B k d) := by rw [Joins.cell_of_block hc1]; rfl
          have HC1' := Lib.hid hc1
          have HC0' := Lib.hid hc0
          have HB' := Lib.hid hb
          by_cases hlk : k < nf
          · have i3 : (0 : Int) ≤ (k : Int) := by omega
            have i4 : (k : Int) < (nf : Int) := by omega
            clear hown hsl hc1 hc0 hb hsl2
            go_wp2_with (at_builtin; refine wpList_append_own _ rfl _ _ 26 rfl ws.heap.size 46 i9 _ 5 40 Tryd.underlying26 hi9 hy0 hy1 hy2 rfl (by decide) _ _ _ rfl (HO.out.alloc (.cells #[.bool false, .int .i64 0, .int .i64 0, .int .i64 0, .int .i64 (-1)] 46)) _ _ _ (fcell frN) rfl rfl ?c1 ?c2 ?c3 ?c4 ?c5 ?_)
            case c1 => intro q u hu; rw [add_none, Nat.zero_add, newc (by simp)]; simpa [fcell, frN] using hu
            case c2 => simp [fcell, frN, Value.oneCell']
            case c3 => unfold maxLen; omega
            case c4 => omega
            case c5 => simp; omega
            intro v' w6 hown' hgrow _
            have hne : ∀ q, q < ws.heap.size → some q ≠ (Value.slice B k d).ownBlock := fun q hq e => by have := (HO.out.lt q e.symm).1; omega
            have hc6 : w6.heap[w.heap.size + 1]? = some (.cells #[.slice A j c, .slice B k d] 28 (0, 0)) := (hgrow.block _ (by simp; omega) (hne _ (by omega))).trans (al_keep HC1'.out)
            have hc7 : w6.heap[w.heap.size]? = some (.cells #[.slice none 0 0, .slice none 0 0] 28 (0, 0)) := (hgrow.block _ (by simp; omega) (hne _ (by omega))).trans (al_keep HC0'.out)
            have hs6 : Sl w6 (w.heap.size + 2) ws.heap.size 3 1 A j (ints (List.replicate j (-1))) := (HS2.out.alloc (.cells #[.bool false, .int .i64 0, .int .i64 0, .int .i64 0, .int .i64 (-1)] 46)).keep fun g h1 h2 h3 => hgrow.block g h3 (hne _ h2)
            have hb6 : Below w.heap.size w w6 := below_app (balloc HB'.out _) (by simp; omega) ((HO.out.mono (by omega)).alloc _) hgrow
            have e1 : fcells (List.replicate k frN) ++ fcell frN = fcells (List.replicate (k + 1) frN) := by rw [fcells_snoc, ← List.replicate_succ']
            rw [e1] at hown'
            have d0 : w6.cell? ⟨w.heap.size + 1, 1, none⟩ = some (.slice B k d) := by rw [Joins.cell_of_block hc6]; rfl
            have d1 : w6.frozen? ⟨w.heap.size + 1, 1, none⟩ = false := Joins.unfrozen_of_block hc6 1
            have hsz6 : ws.heap.size ≤ w6.heap.size := by have := hgrow.size; simp at this; omega
            have R : Hid ((w6.setCell ⟨w.heap.size + 1, 1, none⟩ v').ownsRow ws.heap.size 46 5 v' (k + 1) (fcells (List.replicate (k + 1) frN)) ∧ Sl (w6.setCell ⟨w.heap.size + 1, 1, none⟩ v') (w.heap.size + 2) ws.heap.size 3 1 A j (ints (List.replicate j (-1))) ∧ (w6.setCell ⟨w.heap.size + 1, 1, none⟩ v').heap[w.heap.size + 1]? = some (.cells #[.slice A j c, v'] 28 (0, 0)) ∧ (w6.setCell ⟨w.heap.size + 1, 1, none⟩ v').heap[w.heap.size]? = some (.cells #[.slice none 0 0, .slice none 0 0] 28 (0, 0)) ∧ ws.heap.size ≤ (w6.setCell ⟨w.heap.size + 1, 1, none⟩ v').heap.size ∧ Below w.heap.size w (w6.setCell ⟨w.heap.size + 1, 1, none⟩ v')) := by
              refine ⟨ownsRow_setCell_below hown' (by simpa using hlt1) _, hs6.set_ (.inr (by simp)) _, ?_, ?_, by simpa using hsz6, bset hb6 (by simp) _⟩
              · have := Joins.block_setCell (i := 1) hc6 v'
                simpa using this
              · rw [Below.heap_setCell _ _ _ _ (by simp)]; exact hc7
            obtain ⟨A6, cc6, rfl, _, _, _⟩ := Sl.own hown'
            clear hown' hgrow hc6 hc7 hb6 hne e1 HO HC1' HC0' HB' hs6 HS2
            go_wp2
            go_roundw
            case rel => exact ⟨k + 1, _, by omega, by go_num, R.out.1, R.out.2.1, R.out.2.2.1, R.out.2.2.2.1, R.out.2.2.2.2.1, R.out.2.2.2.2.2⟩
            case measure => simp [intOf]; omega
          · obtain rfl : k = nf := by omega
            have HS9 := Lib.hid hsl2
            have e0 : wr.cell? ⟨w.heap.size, 0, none⟩ = some (.slice none 0 0) := by rw [Joins.cell_of_block hc0]; rfl
            have e1 : wr.cell? ⟨w.heap.size, 1, none⟩ = some (.slice none 0 0) := by rw [Joins.cell_of_block hc0]; rfl
            have e2 : wr.frozen? ⟨w.heap.size, 0, none⟩ = false := Joins.unfrozen_of_block hc0 0
            have e3 : wr.frozen? ⟨w.heap.size, 1, none⟩ = false := Joins.unfrozen_of_block hc0 1
            clear hown hsl hc1 hc0 hb hsl2
            go_wp2
            refine bodyPost_ret (v := .tuple #[.agg #[.slice A j c, .slice B k d], .bool true]) (by simp [results, Tryd.results12, go_sem, *]) rfl ?_
            have hA := ((HS2.out.set_ (p := ⟨w.heap.size, 0, none⟩) (.inr (by simp)) (.slice A j c)).set_ (p := ⟨w.heap.size, 1, none⟩) (.inr (by simp)) (.slice B k d))
            have hB := ((HS9.out.set_ (p := ⟨w.heap.size, 0, none⟩) (.inr (by simpa using hlt0)) (.slice A j c)).set_ (p := ⟨w.heap.size, 1, none⟩) (.inr (by simpa using hlt0)) (.slice B k d))
            refine ⟨A, c, B, d, by simp [newT], ⟨by simp [newT]; omega, by omega⟩, ⟨by simp [newT]; omega, by omega⟩, ⟨?_, ?_⟩, bset (bset HB'.out (by simp) _) (by simp) _⟩
            · have := hA.top.more (lo' := w.heap.size) (by omega) (Nat.le_refl _)
              simpa [newT] using this
            · have := hB.top.more (lo' := w.heap.size) (by omega) (Nat.le_refl _)
              simpa [newT] using this
  · have hok' : ntOk f b = false := by simpa using hok
    rw [nt_no hok', hok']
    have hn := mt ntOk_iff.2 hok
    clear hok hok'
    rcases (show f < 1 ∨ 16 < f ∨ ((1 ≤ f ∧ f ≤ 16) ∧ (b < 1 ∨ 16 < b)) from by omega) with h1 | h1 | ⟨⟨h1, h2⟩, h3⟩ <;> clear hn
    · go_enter Tryd.func12, Tryd.ntmps12
      go_wp2
      refine bodyPost_ret (v := .tuple #[.agg #[.slice none 0 0, .slice none 0 0], .bool false]) (by simp [results, Tryd.results12, go_sem, *]) rfl ?_
      exact FIN.out _ (by (repeat' (first | with_reducible exact Below.refl _ _ | (with_reducible refine balloc ?_ _) | (with_reducible refine bset ?_ ?_ _) | (with_reducible refine bdrew ?_) | (with_reducible refine bdrewN ?_ _) | (with_reducible refine bstep ?_ (by with_reducible assumption)) | (with_reducible refine bgrow ?_ (by with_reducible assumption) (by omega)) | (simp; done) | (simp; omega))))
    · have h2 : 1 ≤ f := by omega
      go_enter Tryd.func12, Tryd.ntmps12
      go_wp2
      refine bodyPost_ret (v := .tuple #[.agg #[.slice none 0 0, .slice none 0 0], .bool false]) (by simp [results, Tryd.results12, go_sem, *]) rfl ?_
      exact FIN.out _ (by (repeat' (first | with_reducible exact Below.refl _ _ | (with_reducible refine balloc ?_ _) | (with_reducible refine bset ?_ ?_ _) | (with_reducible refine bdrew ?_) | (with_reducible refine bdrewN ?_ _) | (with_reducible refine bstep ?_ (by with_reducible assumption)) | (with_reducible refine bgrow ?_ (by with_reducible assumption) (by omega)) | (simp; done) | (simp; omega))))
    · have t1 : withinB (b - 1) 16 = false := withinB_not.2 (by omega)
      clear h3
      go_enter Tryd.func12, Tryd.ntmps12
      go_wp2_with (go_at_call 43; refine (spec_l2Buckets _ _).mono ?_; rintro e w' ⟨rfl, rfl⟩)
      refine bodyPost_ret (v := .tuple #[.agg #[.slice none 0 0, .slice none 0 0], .bool false]) (by simp [results, Tryd.results12, go_sem, *]) rfl ?_
      exact FIN.out _ (by (repeat' (first | with_reducible exact Below.refl _ _ | (with_reducible refine balloc ?_ _) | (with_reducible refine bset ?_ ?_ _) | (with_reducible refine bdrew ?_) | (with_reducible refine bdrewN ?_ _) | (with_reducible refine bstep ?_ (by with_reducible assumption)) | (with_reducible refine bgrow ?_ (by with_reducible assumption) (by omega)) | (simp; done) | (simp; omega))))
end Go.Proofs.YtjdoegekolbdpaaDoor
