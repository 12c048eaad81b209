/- slices.SortFunc at keys with the program's comparison: the same keys, sorted. Asked: fewer than 2^62 keys, in a block of the caller's own. -/
import Derived.Test.YtjdoegekolbdpaaDoorSortL
import Derived.Test.YtjdoegekolbdpaaDoorKoS
namespace Go.Proofs.YtjdoegekolbdpaaDoor
set_option linter.unusedVariables false
open Go.ChangeShapes Go.WideShapes Go.ChangeAt Go.RowKit
def encK (x : Int × Int) : List Value := [.int .i64 x.1, .int .i64 x.2]
def kcf (x y : Int × Int) : Int := if kLt x y = true then -1 else 1
section
open Go.Shelf Go.Lib Go.Sort
theorem kcf_lt (x y : Int × Int) : ltOf kcf x y = kLt x y := by
  unfold ltOf kcf
  rcases kLt x y with _ | _ <;> simp
theorem swoK : SWO (ltOf kcf) where
  irrefl x := by rw [kcf_lt, kLt_no]; omega
  trans x y z h1 h2 := by rw [kcf_lt, kLt_iff] at *; omega
  ntrans x y z h1 h2 := by rw [kcf_lt, kLt_no] at *; omega
theorem closureK (x y : Int × Int) (W : World) : Calls Tryd.prog 51 #[.agg #[.int .i64 x.1, .int .i64 x.2], .agg #[.int .i64 y.1, .int .i64 y.2]] W fun e w' => e = .returned (.int .i64 (kcf x y)) ∧ ∃ q os', w' = grow (W.drewN q) os' := by
  obtain ⟨a, b⟩ := x
  obtain ⟨c, d⟩ := y
  unfold kcf kLt
  simp only []
  by_cases h : kbB a b c d = true
  · rw [if_pos h]
    go_enter Tryd.func51, Tryd.ntmps51
    go_wp2_with (go_at_call 29; refine (impl_KeyBefore _ _ _ _ _).mono ?_; rintro e w' ⟨rfl, rfl⟩)
    go_ret
    exact ⟨rfl, 0, _, by rw [alloc_eq_grow, alloc_eq_grow, alloc_eq_grow, alloc_eq_grow, grow_grow, grow_grow, grow_grow]; rfl⟩
  · rw [if_neg h]
    have h' : kbB a b c d = false := by simpa using h
    clear h
    go_enter Tryd.func51, Tryd.ntmps51
    go_wp2_with (go_at_call 29; refine (impl_KeyBefore _ _ _ _ _).mono ?_; rintro e w' ⟨rfl, rfl⟩)
    go_ret
    exact ⟨rfl, 0, _, by rw [alloc_eq_grow, alloc_eq_grow, alloc_eq_grow, alloc_eq_grow, grow_grow, grow_grow, grow_grow]; rfl⟩
theorem sort_keysA (blk cap : Nat) (d : Array (Int × Int)) (w : World) (hH : HoldsK encK 2 w blk 0 d) (hblk : blk < w.heap.size) (hsz : d.size < 4611686018427387904) :
    Calls Tryd.prog 50 #[.slice (some ⟨blk, 0, none⟩) d.size cap, .func (.func 51) #[] #[]] w fun e w' => e = .returned (.tuple #[]) ∧ ∃ d' n os, PermIn 0 d.size d d' ∧ SortedIn (ltOf kcf) 0 d.size d' ∧ w' = sortWorldK encK 2 w blk 0 n d' os := by
  have eg : ∀ args w, (callFunc 51 args).run Tryd.prog w = .ok (.enter 51 args) w := enters_of Tryd.func51 (by kernel_rfl) rfl
  have hcon := AnyQ.slices_SortFunc Tryd.sortK 2 Tryd.isAgg44 Tryd.sizeOf44 encK (fun _ => rfl) (fun x v hv => by simp [encK] at hv; rcases hv with rfl | rfl <;> rfl) kcf swoK 51 #[] blk 0 cap d w eg (fun _ _ _ _ x y => closureK x y _) hH hblk hsz
  exact hcon
theorem kcells_get (ks : List (Int × Int)) (j : Nat) (hj : j < ks.length * 2) : (kcells ks)[j]? = some ((encK (kat ks (j / 2)))[j % 2]!) := by
  obtain ⟨h1, h2⟩ := kcells_at ks (j / 2) (by omega)
  rcases (show j % 2 = 0 ∨ j % 2 = 1 by omega) with h | h
  · rw [h, show j = j / 2 * 2 by omega, h1, show j / 2 * 2 / 2 = j / 2 by omega]; rfl
  · rw [h, show j = j / 2 * 2 + 1 by omega, h2, show (j / 2 * 2 + 1) / 2 = j / 2 by omega]; rfl
theorem arr_kat {d : Array (Int × Int)} {i : Nat} (hi : i < d.size) : d[i]! = kat d.toList i := by
  rw [getElem!_pos d i hi]
  unfold kat
  rw [List.getD_eq_getElem?_getD, List.getElem?_eq_getElem (by simpa using hi)]
  rfl
theorem holds_kcells {w : World} {blk : Nat} {d : Array (Int × Int)} (h : HoldsK encK 2 w blk 0 d) (j : Nat) (hj : j < d.size * 2) : w.cell? ⟨blk, j, none⟩ = (kcells d.toList)[j]? := by
  rw [kcells_get _ _ (by simpa using hj)]
  have h' := (h j (by rw [size_flatK]; exact hj)).1
  rw [get_flatK _ _ _ _ hj, Nat.zero_add, arr_kat (by omega)] at h'
  exact h'
theorem sort_keys (blk base n cap : Nat) (ks : List (Int × Int)) (w : World) (hown : w.ownsRow base 44 2 (.slice (some ⟨blk, 0, none⟩) n cap) n (kcells ks)) (hlt : n < 1000000) :
    Calls Tryd.prog 50 #[.slice (some ⟨blk, 0, none⟩) n cap, .func (.func 51) #[] #[]] w fun e w' => e = .returned (.tuple #[]) ∧ ∃ ks', Srt ks' ∧ ks'.Perm ks ∧ Hid (Sl w' base w'.heap.size 44 2 (some ⟨blk, 0, none⟩) n (kcells ks')) ∧ Hid (w.grownBy w' (some blk)) := by
  have hl := hown.1
  rw [kcells_len] at hl
  obtain rfl : ks.length = n := by omega
  rcases hown.2 with ⟨h0, _⟩ | ⟨g, cap', cur, hv, hb, hg, hn', hc, hs, ht⟩
  · cases h0
  cases hv
  have hlb := block_lt hg
  have hH : HoldsK encK 2 w blk 0 ks.toArray := by
    intro j hj
    rw [size_flatK] at hj
    simp only [List.size_toArray] at hj
    refine ⟨?_, Joins.unfrozen_of_block hg _⟩
    rw [get_flatK _ _ _ _ (by simpa using hj), Nat.zero_add, arr_kat (by simp; omega), Joins.cell_of_block hg]
    have := kcells_get ks j hj
    rw [← ht, List.getElem?_take_of_lt hj] at this
    simpa using this
  refine (sort_keysA blk cap ks.toArray w hH hlb (by simp; omega)).mono ?_
  rintro e w' ⟨rfl, d', m, os, ⟨hp1, _, hp2⟩, hsr, rfl⟩
  simp only [List.size_toArray] at hp1 hp2 hsr
  have hH' : HoldsK encK 2 (sortWorldK encK 2 w blk 0 m d' os) blk 0 d' := by
    refine holdsK_grow encK 2 _ os blk 0 d' ?_ (holdsK_putRowK encK 2 (Go.Sort.ahead w m) blk 0 ks.toArray d' (holdsK_ahead encK 2 w m blk 0 _ hH) (by simpa using hp1))
    unfold putRowK
    rw [size_putRow]
    exact hlb
  have hbk : ∃ cur', (sortWorldK encK 2 w blk 0 m d' os).heap[blk]? = some (.cells cur' 44 (0, 0)) := by
    unfold sortWorldK putRowK putRow mapBlock Go.Sort.grow
    simp only [Go.Sort.ahead]
    rw [Array.getElem?_append_left (by simpa using hlb), Array.getElem?_modify]
    simp [hg, onCells]
  have hG : w.grownBy (sortWorldK encK 2 w blk 0 m d' os) (some blk) := by
    unfold sortWorldK putRowK putRow mapBlock Go.Sort.grow
    refine ⟨rfl, rfl, rfl, by simp [Go.Sort.ahead], fun k hk hne => ?_⟩
    simp only [Go.Sort.ahead]
    rw [Array.getElem?_append_left (by simpa using hk), Array.getElem?_modify, if_neg (by rintro rfl; exact hne rfl)]
  refine ⟨rfl, d'.toList, ?_, ?_, Lib.hid ⟨by rw [kcells_len]; simp [hp1], fun _ => ?_⟩, Lib.hid hG⟩
  · intro i j hij hj
    have hj' : j < ks.length := by rw [← hp1]; simpa using hj
    have := hsr i j (Nat.zero_le _) hij hj'
    rw [kcf_lt, arr_kat (by omega), arr_kat (by omega)] at this
    exact this
  · have h2 : (List.take ks.length d'.toList).Perm ks := by simpa [hp1] using hp2
    rwa [List.take_of_length_le (by simp; omega)] at h2
  · obtain ⟨cur', hc'⟩ := hbk
    refine ⟨blk, cur', rfl, hb, block_lt hc', hc', ?_⟩
    apply List.ext_getElem?
    intro j
    rcases Nat.lt_or_ge j (ks.length * 2) with hj | hj
    · rw [List.getElem?_take_of_lt hj]
      have := holds_kcells hH' j (by omega)
      rw [Joins.cell_of_block hc'] at this
      simpa using this
    · rw [List.getElem?_take_eq_none hj, List.getElem?_eq_none (by rw [kcells_len]; simp; omega)]
end
end Go.Proofs.YtjdoegekolbdpaaDoor
