/- Contracts of the reference's draws of lists of keys: at most 12 keys. Asked of a reader: at most 900000 picks so far. -/
import Derived.Test.YtjdjhfdjafdhoaaRd
import Derived.Test.YtjdjhfdjafdhoaaKeyS
namespace Go.Proofs.Ytjdjhfdjafdhoaa
open Go.ChangeShapes Go.WideShapes Go.ChangeAt Go.RowKit
def KListPost (rb m : Nat) (w : World) (e : Ending) (w' : World) : Prop :=
  ∃ A c ks, e = .returned (.slice A ks.length c) ∧ ks.length ≤ 12 ∧ ks.length ≤ c ∧ c ≤ maxLen ∧ Sl w' w.heap.size w'.heap.size 31 2 A ks.length (kcells ks) ∧ Rd w' rb (m + 40) ∧ w.grownBy w' (some rb)
theorem kcells_snoc (ks : List (Int × Int)) (a b : Int) : kcells ks ++ [.int .i64 a, .int .i64 b] = kcells (ks ++ [(a, b)]) := by simp [kcells]
theorem spec_l2List (rb m : Nat) (w : World) (h : Rd w rb m) (hm : m ≤ 900000) : Calls Try.prog 31 #[.pointer (some ⟨rb, 0, none⟩)] w (KListPost rb m w) := by
  have hlt := h.lt
  obtain ⟨i0, hi0, hz0, hz1, hz2⟩ := info_parts key_info
  have HR := Lib.hid h
  clear h
  go_enter Try.func31, Try.ntmps31
  go_wp2_with (fail)
  have h := HR.out
  refine (rd_num rb m _ _ [5, 3, 8, 1, 12, 0] _ (by (repeat' (first | (with_reducible assumption) | (with_reducible refine Rd.alloc ?_ _) | (with_reducible refine Rd.drewN ?_ _) | (with_reducible refine Rd.drew ?_) | (with_reducible refine Rd.setCell ?_ (by first | omega | (simp; omega)) _)))) (by omega) rfl (by simp) (by decide) (by decide)).mono ?_
  clear h
  rintro e w1 ⟨x1, rfl, hl1, hh1, hm1, hR1, hg1⟩
  have hx : 0 ≤ x1 ∧ x1 ≤ 12 := by have := hm1.out; simp at this; omega
  obtain ⟨x, rfl⟩ := Int.eq_ofNat_of_zero_le hx.1
  have hx12 : x ≤ 12 := by omega
  have hown0 : w1.ownsRow w.heap.size 31 2 (.slice (some ⟨w.heap.size, 0, none⟩) 0 0) ([] : List (Int × Int)).length (kcells []) :=
    (World.ownsRow_lit w #[] 0 (Nat.le_refl _) (by unfold maxLen; omega) rfl).kept hg1 (.inr (by simp [Value.ownBlock]; omega))
  have hgw : w.grownBy w1 (some rb) := by (repeat' (first | with_reducible exact gb_refl _ _ | (with_reducible refine gb_alloc ?_ _) | (with_reducible refine gb_set ?_ ?_ _) | (with_reducible refine gb_drew ?_) | (with_reducible refine gb_drewN ?_ _) | (with_reducible refine gb_step ?_ (by with_reducible assumption)) | (with_reducible refine gb_below ?_ (by with_reducible assumption)) | (simp; done) | (simp; omega)))
  have H0 := Lib.hid (And.intro hown0 (And.intro hR1 hgw))
  clear hown0 hR1 hgw hg1 hm1 hl1 hh1 hx
  go_wp2
  go_loopw [3, 4] (fun v i wr => ∃ (j : Nat) (ks : List (Int × Int)), j ≤ 12 ∧ i = .int .i64 j ∧ wr.ownsRow w.heap.size 31 2 v ks.length (kcells ks) ∧ ks.length + j ≤ 12 ∧ Rd wr rb (m + 1 + 3 * (12 - j)) ∧ w.grownBy wr (some rb)) (fun _ i _ => (intOf i).toNat)
  case atStart => exact ⟨x, [], hx12, rfl, H0.out.1, by simpa using hx12, H0.out.2.1.mono (by omega), H0.out.2.2⟩
  case round =>
    obtain ⟨j, ks, hj, rfl, hown, hkl, hR, hg⟩ := hrel
    have HO := Lib.hid hown
    have HG := Lib.hid hg
    have hsz := hg.size
    clear hown hg
    by_cases hlt : 0 < j
    · have i1 : (0 : Int) < (j : Int) := by omega
      go_wp2_with (fail)
      refine (rd_pick rb (m + 1 + 3 * (12 - j)) _ _ (by (repeat' (first | (with_reducible assumption) | (with_reducible refine Rd.alloc ?_ _) | (with_reducible refine Rd.drewN ?_ _) | (with_reducible refine Rd.drew ?_) | (with_reducible refine Rd.setCell ?_ (by first | omega | (simp; omega)) _)))) (by omega)).mono ?_
      rintro e w2 ⟨x2, rfl, hl2, hh2, hR2, hg2⟩
      have hr2 := hR2.lt
      go_wp2_with (fail)
      refine (rd_pick rb (m + 1 + 3 * (12 - j) + 1) _ _ (by (repeat' (first | (with_reducible assumption) | (with_reducible refine Rd.alloc ?_ _) | (with_reducible refine Rd.drewN ?_ _) | (with_reducible refine Rd.drew ?_) | (with_reducible refine Rd.setCell ?_ (by first | omega | (simp; omega)) _)))) (by omega)).mono ?_
      rintro e w3 ⟨x3, rfl, hl3, hh3, hR3, hg3⟩
      have hr3 := hR3.lt
      have HO3 := Lib.hid ((HO.out.kept hg2 (by first | exact .inl rfl | (right; intro e; have := HO.out.lt _ e; omega))).kept hg3 (by first | exact .inl rfl | (right; intro e; have := HO.out.lt _ e; omega)))
      have HG3 := Lib.hid (gb_step (gb_step HG.out hg2) hg3)
      have hsz3 := HG3.out.size
      clear hg2 hg3 hR hR2
      obtain ⟨A, c, rfl, hc1, hc2, hsl⟩ := Sl.own HO3.out
      have HS3 := Lib.hid (hsl.alloc (.cells #[.int .i64 x2, .int .i64 x3] 31))
      clear hsl
      have i2 : (ks.length : Int) ≤ 12 := by omega
      go_wp2
      go_loopw [6, 7] (fun v i wq => ∃ (q : Nat) (bo : Bool), q ≤ ks.length ∧ i = .int .i64 q ∧ v = .bool bo ∧ Below (w3.alloc (.cells #[.int .i64 x2, .int .i64 x3] 31)).heap.size (w3.alloc (.cells #[.int .i64 x2, .int .i64 x3] 31)) wq) (fun _ i _ => ks.length - (intOf i).toNat)
      case atStart => exact ⟨0, false, by omega, rfl, rfl, Below.refl _ _⟩
      case round =>
        obtain ⟨q, bo, hq, rfl, rfl, hbq⟩ := hrel
        obtain ⟨hcl, hfl, hzl⟩ := bel_at hbq w3.heap.size (by simp)
        by_cases hql : q < ks.length
        · obtain ⟨g, rfl, _, _, hg1, hg2, hg3, _⟩ := (HS3.out.below hbq).key hql
          generalize ks.getD q (0, 0) = z at *
          obtain ⟨z1, z2⟩ := z
          simp only [] at hg2 hg3
          have i3 : (0 : Int) ≤ (q : Int) := by omega
          have i4 : (q : Int) < (ks.length : Int) := by omega
          rcases bo with _ | _
          · by_cases e1 : z1 = x2
            · subst e1
              by_cases e2 : z2 = x3
              · subst e2
                go_wp2
                go_quiet (fail)
                go_wp2
                go_roundw
                case rel => exact ⟨q + 1, _, by omega, by go_num, rfl, by (repeat' (first | with_reducible exact Below.refl _ _ | (with_reducible refine balloc ?_ _) | (with_reducible refine bset ?_ ?_ _) | (with_reducible refine bdrew ?_) | (with_reducible refine bdrewN ?_ _) | (with_reducible refine bstep ?_ (by with_reducible assumption)) | (with_reducible refine bgrow ?_ (by with_reducible assumption) (by omega)) | (simp; done) | (simp; omega)))⟩
                case measure => simp [intOf]; omega
              · have e2' : (z2 == x3) = false := by simpa using e2
                go_wp2
                go_quiet (fail)
                go_wp2
                go_roundw
                case rel => exact ⟨q + 1, _, by omega, by go_num, rfl, by (repeat' (first | with_reducible exact Below.refl _ _ | (with_reducible refine balloc ?_ _) | (with_reducible refine bset ?_ ?_ _) | (with_reducible refine bdrew ?_) | (with_reducible refine bdrewN ?_ _) | (with_reducible refine bstep ?_ (by with_reducible assumption)) | (with_reducible refine bgrow ?_ (by with_reducible assumption) (by omega)) | (simp; done) | (simp; omega)))⟩
                case measure => simp [intOf]; omega
            · have e1' : (z1 == x2) = false := by simpa using e1
              go_wp2
              go_quiet (fail)
              go_wp2
              go_roundw
              case rel => exact ⟨q + 1, _, by omega, by go_num, rfl, by (repeat' (first | with_reducible exact Below.refl _ _ | (with_reducible refine balloc ?_ _) | (with_reducible refine bset ?_ ?_ _) | (with_reducible refine bdrew ?_) | (with_reducible refine bdrewN ?_ _) | (with_reducible refine bstep ?_ (by with_reducible assumption)) | (with_reducible refine bgrow ?_ (by with_reducible assumption) (by omega)) | (simp; done) | (simp; omega)))⟩
              case measure => simp [intOf]; omega
          · go_wp2
            go_quiet (fail)
            go_wp2
            go_roundw
            case rel => exact ⟨q + 1, _, by omega, by go_num, rfl, by (repeat' (first | with_reducible exact Below.refl _ _ | (with_reducible refine balloc ?_ _) | (with_reducible refine bset ?_ ?_ _) | (with_reducible refine bdrew ?_) | (with_reducible refine bdrewN ?_ _) | (with_reducible refine bstep ?_ (by with_reducible assumption)) | (with_reducible refine bgrow ?_ (by with_reducible assumption) (by omega)) | (simp; done) | (simp; omega)))⟩
            case measure => simp [intOf]; omega
        · obtain rfl : q = ks.length := by omega
          have hOq := own_below (HO3.out.alloc (.cells #[.int .i64 x2, .int .i64 x3] 31)) hbq
          have hgq : w.grownBy wr (some rb) := gb_below (gb_alloc HG3.out _) hbq
          have hRq : Rd wr rb (m + 1 + 3 * (12 - j) + 1 + 1) := (hR3.alloc _).below hbq
          have HOq := Lib.hid hOq
          have HGq := Lib.hid hgq
          have hszq := hgq.size
          clear hOq hgq
          rcases bo with _ | _
          · go_wp2_with (at_builtin; refine wpList_append_own _ rfl _ _ 23 rfl w.heap.size 31 i0 _ 2 16 Try.underlying23 hi0 hz0 hz1 hz2 rfl (by decide) _ _ _ rfl (HOq.out.alloc (.cells #[.int .i64 x2, .int .i64 x3] 31)) _ _ _ [.int .i64 x2, .int .i64 x3] rfl rfl ?c1 ?c2 ?c3 ?c4 ?c5 ?_)
            case c1 => exact cells_new2 (by simp)
            case c2 => intro u hu; simp at hu; rcases hu with rfl | rfl <;> rfl
            case c3 => unfold maxLen; omega
            case c4 => omega
            case c5 => simp; omega
            intro v' w6 hown' hgrow _
            rw [kcells_snoc] at hown'
            have hg6 : w.grownBy w6 (some rb) := gb_own (gb_alloc HGq.out _) hgrow (fun k e => (HOq.out.lt k e).1)
            have hR6 : Rd w6 rb (m + 1 + 3 * (12 - j) + 1 + 1) := (hRq.alloc _).grown hgrow (fun k e => by have := (HOq.out.lt k e).1; omega)
            have R := Lib.hid (And.intro hown' (And.intro hR6 hg6))
            clear hown' hR6 hg6 hgrow hRq hR3
            go_wp2
            go_roundw
            case rel => exact ⟨j - 1, ks ++ [(x2, x3)], by omega, by (congr 1; omega), by simpa using R.out.1, by simp; omega, R.out.2.1.mono (by omega), R.out.2.2⟩
            case measure => simp [intOf]; omega
          · go_wp2_with (fail)
            refine (rd_pick rb _ _ _ hRq (by omega)).mono ?_
            rintro e w5 ⟨x5, rfl, hl5, hh5, hR5, hg5⟩
            have hO5 := HOq.out.kept hg5 (by first | exact .inl rfl | (right; intro e; have := HOq.out.lt _ e; omega))
            have hG5 := gb_step HGq.out hg5
            have hsz5 := hG5.size
            obtain ⟨hcl5, hfl5, hzl5⟩ := gb_at hg5 w3.heap.size hzl (by omega)
            have HO5 := Lib.hid hO5
            have HG5 := Lib.hid hG5
            clear hO5 hG5 hg5
            by_cases h0 : x5 = 0
            · subst h0
              go_wp2_with (at_builtin; refine wpList_append_own _ rfl _ _ 23 rfl w.heap.size 31 i0 _ 2 16 Try.underlying23 hi0 hz0 hz1 hz2 rfl (by decide) _ _ _ rfl (HO5.out.alloc (.cells #[.int .i64 x2, .int .i64 x3] 31)) _ _ _ [.int .i64 x2, .int .i64 x3] rfl rfl ?d1 ?d2 ?d3 ?d4 ?d5 ?_)
              case d1 => exact cells_new2 (by simp)
              case d2 => intro u hu; simp at hu; rcases hu with rfl | rfl <;> rfl
              case d3 => unfold maxLen; omega
              case d4 => omega
              case d5 => simp; omega
              intro v' w6 hown' hgrow _
              rw [kcells_snoc] at hown'
              have hg6 : w.grownBy w6 (some rb) := gb_own (gb_alloc HG5.out _) hgrow (fun k e => (HO5.out.lt k e).1)
              have hR6 : Rd w6 rb (m + 1 + 3 * (12 - j) + 1 + 1 + 1) := (hR5.alloc _).grown hgrow (fun k e => by have := (HO5.out.lt k e).1; omega)
              have R := Lib.hid (And.intro hown' (And.intro hR6 hg6))
              clear hown' hR6 hg6 hgrow hRq hR3 hR5
              go_wp2
              go_roundw
              case rel => exact ⟨j - 1, ks ++ [(x2, x3)], by omega, by (congr 1; omega), by simpa using R.out.1, by simp; omega, R.out.2.1.mono (by omega), R.out.2.2⟩
              case measure => simp [intOf]; omega
            · have h0' : (x5 == 0) = false := by simpa using h0
              have R := Lib.hid (And.intro HO5.out (And.intro hR5 HG5.out))
              clear hRq hR3 hR5
              go_wp2
              go_roundw
              case rel => exact ⟨j - 1, ks, by omega, by (congr 1; omega), R.out.1, by omega, R.out.2.1.mono (by omega), R.out.2.2⟩
              case measure => simp [intOf]; omega
    · obtain rfl : j = 0 := by omega
      obtain ⟨A, c, rfl, hc1, hc2, hsl⟩ := Sl.own HO.out
      have HS := Lib.hid hsl
      clear hsl
      go_wp2
      go_ret
      exact ⟨A, c, ks, rfl, by omega, hc1, hc2, HS.out, hR.mono (by omega), HG.out⟩
/-- what the code's bytes are known to be -/
def CodeIn (w : World) (ao : Option Addr) (len cap : Nat) : Prop := CodeAt w w.heap.size ao len ∧ len ≤ cap ∧ cap ≤ maxLen
def DrawL (w : World) (e : Ending) (w' : World) : Prop :=
  ∃ A c ks, e = .returned (.slice A ks.length c) ∧ ks.length ≤ 12 ∧ ks.length ≤ c ∧ c ≤ maxLen ∧ Sl w' w.heap.size w'.heap.size 31 2 A ks.length (kcells ks) ∧ Below w.heap.size w w'
def DrawLI (w : World) (e : Ending) (w' : World) : Prop :=
  ∃ A c ks x, e = .returned (.tuple #[.slice A ks.length c, .int .i64 x]) ∧ ks.length ≤ 12 ∧ ks.length ≤ c ∧ c ≤ maxLen ∧ Sl w' w.heap.size w'.heap.size 31 2 A ks.length (kcells ks) ∧ Below w.heap.size w w'
theorem spec_DrawBestBuckets (ao : Option Addr) (len cap : Nat) (w : World) (h : CodeIn w ao len cap) : Calls Try.prog 23 #[.slice ao len cap] w (DrawL w) := by
  have HC := Lib.hid h
  clear h
  go_enter Try.func23, Try.ntmps23
  go_wp2_with (fail)
  refine (rd_open _ _ _ _ HC.out).mono ?_
  rintro e w1 ⟨rb, rfl, hrb, hR1, hb1⟩
  go_wp2_with (fail)
  refine (spec_l2List rb _ _ hR1 (by omega)).mono ?_
  rintro e w2 ⟨A, c, ks, rfl, hk, hc1, hc2, hs2, hR2, hg2⟩
  have R := Lib.hid (hs2.more hb1.size (Nat.le_refl _))
  clear hs2
  go_wp2
  go_ret
  exact ⟨A, c, ks, rfl, hk, hc1, hc2, R.out, bgrow hb1 hg2 hrb⟩
theorem spec_DrawCountBuckets (ao : Option Addr) (len cap : Nat) (w : World) (h : CodeIn w ao len cap) : Calls Try.prog 12 #[.slice ao len cap] w (DrawLI w) := by
  have HC := Lib.hid h
  clear h
  go_enter Try.func12, Try.ntmps12
  go_wp2_with (fail)
  refine (rd_open _ _ _ _ HC.out).mono ?_
  rintro e w1 ⟨rb, rfl, hrb, hR1, hb1⟩
  go_wp2_with (fail)
  refine (spec_l2List rb _ _ hR1 (by omega)).mono ?_
  rintro e w2 ⟨A, c, ks, rfl, hk, hc1, hc2, hs2, hR2, hg2⟩
  have HS := Lib.hid hs2
  have hb2 := bgrow hb1 hg2 hrb
  have hsz := hb1.size
  have hr1 := hR1.lt
  clear hs2 hg2
  go_wp2_with (fail)
  refine (rd_num rb 40 _ _ [4, 8, 16, 2, 1, 0] w2 (hR2.mono (by omega)) (by omega) rfl (by simp) (by decide) (by decide)).mono ?_
  rintro e w3 ⟨x3, rfl, hl3, hh3, hm3, hR3, hg3⟩
  have hb3 : Below w.heap.size w w3 := bgrow hb2 hg3 hrb
  have hs3 : Sl w3 w.heap.size w3.heap.size 31 2 A ks.length (kcells ks) :=
    ((HS.out.keep (fun g h1 h2 h3 => hg3.block g h3 (fun e => by injection e; omega))).more hsz (Nat.le_refl _)).top
  have R := Lib.hid hs3
  clear hs3
  go_wp2
  go_ret2
  exact ⟨A, c, ks, x3, rfl, hk, hc1, hc2, R.out, hb3⟩
theorem spec_DrawLongestBucket (ao : Option Addr) (len cap : Nat) (w : World) (h : CodeIn w ao len cap) : Calls Try.prog 22 #[.slice ao len cap] w (DrawLI w) := by
  have HC := Lib.hid h
  clear h
  go_enter Try.func22, Try.ntmps22
  go_wp2_with (fail)
  refine (spec_DrawCountBuckets _ _ _ _ HC.out).mono ?_
  rintro e w1 ⟨A, c, ks, x, rfl, hk, hc1, hc2, hs, hb⟩
  have R := Lib.hid hs
  clear hs
  go_wp2
  go_ret2
  exact ⟨A, c, ks, x, rfl, hk, hc1, hc2, R.out, hb⟩
end Go.Proofs.Ytjdjhfdjafdhoaa
