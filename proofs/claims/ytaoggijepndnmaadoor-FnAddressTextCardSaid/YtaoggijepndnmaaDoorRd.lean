/- Contracts of the reference's random source (l12Rd): pick, num and l12Open. Asked of a reader: at most 1000000 picks so far. -/
import Derived.Test.YtaoggijepndnmaaDoorBase
namespace Go.Proofs.YtaoggijepndnmaaDoor
open Go.ChangeShapes Go.WideShapes Go.ChangeAt Go.RowKit

/-- A slice of bytes that came in. -/
def IsRow (k : IntKind) (w : World) (a : Option Addr) (len cap : Nat) (zs : List Int) : Prop :=
  (a = none ∧ len = 0 ∧ cap = 0 ∧ zs = []) ∨
  ∃ x, a = some x ∧ len ≤ cap ∧ cap ≤ maxLen ∧ zs.length = cap ∧ (∀ i, i < zs.length → w.cell? (x.add i) = some (.int k (zs.getD i 0))) ∧ ∀ n ∈ zs, (Lit.int k n).wf = true

/-- The bytes of a reader, in blocks below B. -/
def CodeAt (w : World) (B : Nat) (ao : Option Addr) (len : Nat) : Prop :=
  0 < len → ∃ b off, ao = some ⟨b, off, none⟩ ∧ b < B ∧ ∀ j, j < len → ∃ x : Int, w.cell? ⟨b, off + j, none⟩ = some (.int .u8 x) ∧ 0 ≤ x ∧ x ≤ 255

/-- Block rb is a reader with at most m picks so far. -/
def Rd (w : World) (rb m : Nat) : Prop :=
  ∃ (ao : Option Addr) (len cap p : Nat), w.heap[rb]? = some (.cells #[.slice ao len cap, .int .i64 p] 54 (0, 0)) ∧ p ≤ m ∧ len ≤ 2000 ∧ CodeAt w rb ao len

theorem Rd.lt {w : World} {rb m : Nat} (h : Rd w rb m) : rb < w.heap.size := by
  obtain ⟨_, _, _, _, h, _⟩ := h
  rcases Nat.lt_or_ge rb w.heap.size with h' | h'
  · exact h'
  · rw [Array.getElem?_eq_none h'] at h; cases h
theorem Rd.mono {w : World} {rb m m' : Nat} (h : Rd w rb m) (hm : m ≤ m') : Rd w rb m' := by
  obtain ⟨ao, len, cap, p, h1, h2, h3, h4⟩ := h
  exact ⟨ao, len, cap, p, h1, by omega, h3, h4⟩
theorem CodeAt.kept {w w' : World} {B : Nat} {ao : Option Addr} {len : Nat} (h : CodeAt w B ao len) (hk : ∀ k, k < B → w'.heap[k]? = w.heap[k]?) : CodeAt w' B ao len := by
  intro h0
  obtain ⟨b, off, h1, h2, h3⟩ := h h0
  refine ⟨b, off, h1, h2, fun j hj => ?_⟩
  obtain ⟨x, hx, hr⟩ := h3 j hj
  exact ⟨x, (World.cell?_of_block (hk b h2)).trans hx, hr⟩
/-- A reader stays where blocks up to it stay. -/
theorem Rd.kept {w w' : World} {rb m : Nat} (h : Rd w rb m) (hk : ∀ k, k ≤ rb → w'.heap[k]? = w.heap[k]?) : Rd w' rb m := by
  obtain ⟨ao, len, cap, p, h1, h2, h3, h4⟩ := h
  exact ⟨ao, len, cap, p, (hk rb (Nat.le_refl _)).trans h1, h2, h3, h4.kept (fun k hk' => hk k (by omega))⟩
theorem Rd.below {w w' : World} {rb m : Nat} (h : Rd w rb m) (hb : Below w.heap.size w w') : Rd w' rb m :=
  h.kept (fun k hk => hb.block k (by have := h.lt; omega))
theorem Rd.alloc {w : World} {rb m : Nat} (h : Rd w rb m) (o : Obj) : Rd (w.alloc o) rb m := h.below (Joins.below_alloc1 _ _)
theorem Rd.drewN {w : World} {rb m : Nat} (h : Rd w rb m) (n : Nat) : Rd (w.drewN n) rb m := h.below (Joins.below_draws _ _ _)
theorem Rd.drew {w : World} {rb m : Nat} (h : Rd w rb m) : Rd w.drew rb m := h
theorem Rd.grown {w w' : World} {rb m : Nat} {r : Option Nat} (h : Rd w rb m) (hg : w.grownBy w' r) (hr : ∀ k, r = some k → rb < k) : Rd w' rb m :=
  h.kept (fun k hk => hg.block k (by have := h.lt; omega) (fun e => by have := hr k e.symm; omega))
theorem Rd.setCell {w : World} {rb m : Nat} (h : Rd w rb m) {a : Addr} (ha : rb < a.block) (v : Value) : Rd (w.setCell a v) rb m :=
  h.kept (fun k hk => Below.heap_setCell _ _ _ _ (by omega))

/-- Behind a pick: some number, the reader one pick on, nothing else written. -/
def PickPost (rb : Nat) (n : Int) (m : Nat) (w : World) (e : Ending) (w' : World) : Prop :=
  ∃ x : Int, e = .returned (.int .i64 x) ∧ 0 ≤ x ∧ (x < n ∨ x = 0) ∧ Rd w' rb (m + 1) ∧ w.grownBy w' (some rb)

theorem heap_setCell_at (w : World) (b i : Nat) (v : Value) (cs : Array Value) (t : TypeId) (h : w.heap[b]? = some (.cells cs t (0, 0))) : (w.setCell ⟨b, i, none⟩ v).heap[b]? = some (.cells (cs.setIfInBounds i v) t (0, 0)) := Joins.block_setCell h v

theorem rd_step {w : World} {rb m len cap p nq : Nat} {ao : Option Addr} (h1 : w.heap[rb]? = some (.cells #[.slice ao len cap, .int .i64 p] 54 (0, 0))) (h2 : p ≤ m) (h3 : len ≤ 2000) (h4 : CodeAt w rb ao len) {v : Value} (hv : v = .int .i64 ((p + 1 : Nat) : Int)) :
    Rd ((w.setCell ⟨rb, 1, none⟩ v).drewN nq) rb (m + 1) ∧ w.grownBy ((w.setCell ⟨rb, 1, none⟩ v).drewN nq) (some rb) := by
  subst hv
  have hk : ∀ k, k ≠ rb → (w.setCell ⟨rb, 1, none⟩ (.int .i64 ((p + 1 : Nat) : Int))).heap[k]? = w.heap[k]? := fun k hk => Below.heap_setCell _ _ _ _ hk
  refine ⟨Rd.drewN ⟨ao, len, cap, p + 1, ?_, by omega, h3, h4.kept (fun k hk' => hk k (by omega))⟩ nq, ?_⟩
  · have := heap_setCell_at w rb 1 (.int .i64 ((p + 1 : Nat) : Int)) _ _ h1
    simpa using this
  · have hd := Joins.below_draws (w.setCell ⟨rb, 1, none⟩ (.int .i64 ((p + 1 : Nat) : Int))).heap.size (w.setCell ⟨rb, 1, none⟩ (.int .i64 ((p + 1 : Nat) : Int))) nq
    exact ⟨hd.os, hd.tape, hd.output, by simp, fun k hk1 hk2 => (hd.block k (by simpa using hk1)).trans (hk k (fun e => hk2 (by rw [e])))⟩

theorem bits_xor_i64_nat (a b : Nat) (ha : a < 4294967296) (hb : b < 4294967296) : bits .xor .i64 (a : Int) (b : Int) = ((a ^^^ b : Nat) : Int) := by
  have hx : a ^^^ b < 2 ^ 32 := Nat.xor_lt_two_pow (by omega) (by omega)
  have h1 : (BitVec.ofInt 64 (a : Int)).toNat = a := by
    rw [BitVec.ofInt_natCast, BitVec.toNat_ofNat]; exact Nat.mod_eq_of_lt (by omega)
  have h2 : (BitVec.ofInt 64 (b : Int)).toNat = b := by
    rw [BitVec.ofInt_natCast, BitVec.toNat_ofNat]; exact Nat.mod_eq_of_lt (by omega)
  show IntKind.i64.wrap ((BitVec.ofInt 64 (a : Int) ^^^ BitVec.ofInt 64 (b : Int)).toNat : Int) = _
  rw [BitVec.toNat_xor, h1, h2, IntWalk.i64_in _ (by omega)]
theorem xor_mix (X : Int) (h0 : 0 ≤ X) (h1 : X < 4294967296) : 0 ≤ bits .xor .i64 X (X / 64) ∧ bits .xor .i64 X (X / 64) < 4294967296 := by
  obtain ⟨n, rfl⟩ := Int.eq_ofNat_of_zero_le h0
  have e : ((n : Int) / 64) = ((n / 64 : Nat) : Int) := by omega
  rw [e, bits_xor_i64_nat _ _ (by omega) (by omega)]
  have hx : n ^^^ n / 64 < 2 ^ 32 := Nat.xor_lt_two_pow (by omega) (by omega)
  omega
theorem drewN_zero (w : World) : w.drewN 0 = w := rfl

set_option maxHeartbeats 1000000 in
theorem rd_pick (rb m : Nat) (n : Int) (w : World) (h : Rd w rb m) (hm : m ≤ 1000000) : Calls Tryd.prog 31 #[.pointer (some ⟨rb, 0, none⟩), .int .i64 n] w (PickPost rb n m w) := by
  obtain ⟨ao, len, cap, p, h1, h2, h3, h4⟩ := h
  have c0 : w.cell? ⟨rb, 0, none⟩ = some (.slice ao len cap) := by rw [Joins.cell_of_block h1]; rfl
  have c1 : w.cell? ⟨rb, 1, none⟩ = some (.int .i64 p) := by rw [Joins.cell_of_block h1]; rfl
  have f1 : w.frozen? ⟨rb, 1, none⟩ = false := Joins.unfrozen_of_block h1 1
  have H1 := Lib.hid h1
  have H4 := Lib.hid h4
  clear h1 h4
  by_cases hn : n < 1
  · go_enter Tryd.func31, Tryd.ntmps31
    go_wp2
    go_ret
    obtain ⟨r1, r2⟩ := rd_step (nq := 0) H1.out h2 h3 H4.out (v := .int .i64 (↑p + 1)) (by go_num)
    exact ⟨0, rfl, Int.le_refl _, .inr rfl, r1, r2⟩
  have hn1 : 1 ≤ n := by omega
  clear hn
  by_cases hl : len = 0
  · subst hl
    go_enter Tryd.func31, Tryd.ntmps31
    go_wp2
    go_ret
    obtain ⟨r1, r2⟩ := rd_step (nq := 0) H1.out h2 h3 H4.out (v := .int .i64 (↑p + 1)) (by go_num)
    exact ⟨0, rfl, Int.le_refl _, .inr rfl, r1, r2⟩
  have hl1 : 0 < len := by omega
  obtain ⟨b, off, rfl, hb, hcode⟩ := H4.out hl1
  have hne : b ≠ rb := by omega
  have hbl : ((len : Int) == 0) = false := by simp; omega
  clear hl
  by_cases hp : p < len
  · obtain ⟨x, hx, hx0, hx1⟩ := hcode p hp
    clear hcode
    go_enter Tryd.func31, Tryd.ntmps31
    go_wp2
    go_ret
    obtain ⟨r1, r2⟩ := rd_step (nq := 0) H1.out h2 h3 H4.out (v := .int .i64 (↑p + 1)) (by go_num)
    exact ⟨x % n, rfl, Int.emod_nonneg _ (by omega), .inl (Int.emod_lt_of_pos _ (by omega)), r1, r2⟩
  · have hp1 : len ≤ p := by omega
    obtain ⟨x, hx, hx0, hx1⟩ := hcode (p % len) (Nat.mod_lt _ hl1)
    obtain ⟨y, hy, hy0, hy1⟩ := hcode ((p * 7 + 3) % len) (Nat.mod_lt _ hl1)
    clear hcode hp
    have hq1 := Nat.mod_lt p hl1
    have hq2 := Nat.mod_lt (p * 7 + 3) hl1
    have hq3 := Nat.div_le_self p len
    have t1 : (p : Int).tmod (len : Int) = ((p % len : Nat) : Int) := by rw [Int.tmod_eq_emod_of_nonneg (by omega)]; exact (Int.natCast_emod p len).symm
    have t2 : ((p : Int) * 7 + 3).tmod (len : Int) = (((p * 7 + 3) % len : Nat) : Int) := by
      rw [Int.tmod_eq_emod_of_nonneg (by omega), show ((p : Int) * 7 + 3) = ((p * 7 + 3 : Nat) : Int) from by omega]; exact (Int.natCast_emod _ len).symm
    have t3 : (p : Int).tdiv (len : Int) = ((p / len : Nat) : Int) := by rw [Int.tdiv_eq_ediv_of_nonneg (by omega)]; exact (Int.natCast_ediv p len).symm
    generalize p % len = q1 at *
    generalize (p * 7 + 3) % len = q2 at *
    generalize p / len = q3 at *
    have e1 : IntKind.i64.wrap (q1 : Int) = (q1 : Int) := IntWalk.i64_in _ (by omega)
    have e2 : IntKind.i64.wrap (q2 : Int) = (q2 : Int) := IntWalk.i64_in _ (by omega)
    have e3 : IntKind.i64.wrap (q3 : Int) = (q3 : Int) := IntWalk.i64_in _ (by omega)
    have e4 : IntKind.i64.wrap ((p : Int) * 7) = (p : Int) * 7 := IntWalk.i64_in _ (by omega)
    have e5 : IntKind.i64.wrap ((p : Int) * 7 + 3) = (p : Int) * 7 + 3 := IntWalk.i64_in _ (by omega)
    have e6 : IntKind.i64.wrap (x * 131) = x * 131 := IntWalk.i64_in _ (by omega)
    have e7 : IntKind.i64.wrap (y * 1117) = y * 1117 := IntWalk.i64_in _ (by omega)
    have e8 : IntKind.i64.wrap (x * 131 + y * 1117) = x * 131 + y * 1117 := IntWalk.i64_in _ (by omega)
    have e9 : IntKind.i64.wrap ((p : Int) * 29) = (p : Int) * 29 := IntWalk.i64_in _ (by omega)
    have e10 : IntKind.i64.wrap (x * 131 + y * 1117 + (p : Int) * 29) = x * 131 + y * 1117 + (p : Int) * 29 := IntWalk.i64_in _ (by omega)
    have e11 : IntKind.i64.wrap ((q3 : Int) * 53) = (q3 : Int) * 53 := IntWalk.i64_in _ (by omega)
    have e12 : IntKind.i64.wrap (x * 131 + y * 1117 + (p : Int) * 29 + (q3 : Int) * 53) = x * 131 + y * 1117 + (p : Int) * 29 + (q3 : Int) * 53 := IntWalk.i64_in _ (by omega)
    have e13 : IntKind.i64.wrap x = x := IntWalk.i64_in _ (by omega)
    have e14 : IntKind.i64.wrap y = y := IntWalk.i64_in _ (by omega)
    have X0 : 0 ≤ x * 131 + y * 1117 + (p : Int) * 29 + (q3 : Int) * 53 := by omega
    have X1 : x * 131 + y * 1117 + (p : Int) * 29 + (q3 : Int) * 53 < 4294967296 := by omega
    have hx' : q1 < len := hq1
    have hy' : q2 < len := hq2
    go_enter Tryd.func31, Tryd.ntmps31
    go_wp2
    go_quiet (fail)
    clear e1 e2 e3 e4 e5 e6 e7 e8 e9 e10 e11 e12 e13 e14 t1 t2 t3
    obtain ⟨Y0, Y1⟩ := xor_mix _ X0 X1
    go_wp2
    go_ret
    obtain ⟨r1, r2⟩ := rd_step (nq := nq) H1.out h2 h3 H4.out (v := .int .i64 (↑p + 1)) (by go_num)
    exact ⟨_, rfl, Int.emod_nonneg _ (by omega), .inl (Int.emod_lt_of_pos _ (by omega)), r1, r2⟩

def NumPost (rb : Nat) (zs : List Int) (m : Nat) (w : World) (e : Ending) (w' : World) : Prop :=
  ∃ x : Int, e = .returned (.int .i64 x) ∧ -1000000 ≤ x ∧ x ≤ 1000000 ∧ Hid (x ∈ zs) ∧ Rd w' rb (m + 1) ∧ w.grownBy w' (some rb)

theorem rd_num (rb m B L : Nat) (zs : List Int) (w : World) (h : Rd w rb m) (hm : m ≤ 1000000) (hL : L = zs.length) (hB : B = w.heap.size) (hz : 0 < zs.length) (hr : ∀ x ∈ zs, -1000000 ≤ x ∧ x ≤ 1000000) :
    Calls Tryd.prog 33 #[.pointer (some ⟨rb, 0, none⟩), .slice (some ⟨B, 0, none⟩) L L] (w.alloc (.cells (zs.map (Value.int .i64)).toArray 3)) (NumPost rb zs m w) := by
  subst hL hB
  have hlt := h.lt
  have hL1 : (1 : Int) ≤ (zs.length : Int) := by omega
  have hcell : ∀ j, j < zs.length → (w.alloc (.cells (zs.map (Value.int .i64)).toArray 3)).cell? ⟨w.heap.size, j, none⟩ = some (.int .i64 (zs.getD j 0)) := by
    intro j hj
    rw [World.cell?_alloc_new]
    simp [List.getD_eq_getElem?_getD, List.getElem?_eq_getElem hj]
  have H := Lib.hid h
  have HC := Lib.hid hcell
  have HR := Lib.hid hr
  have hcap : zs.length ≤ zs.length := Nat.le_refl _
  clear h hcell hr
  generalize hW : w.alloc (.cells (zs.map (Value.int .i64)).toArray 3) = W at HC ⊢
  have HW := Lib.hid hW
  clear hW
  go_enter Tryd.func33, Tryd.ntmps33
  go_wp2_with (fail)
  refine (rd_pick rb m _ W (by rw [← HW.out]; exact H.out.alloc _) hm).mono ?_
  rintro e w1 ⟨x, rfl, hx0, hx1, hR, hg⟩
  obtain ⟨k, rfl⟩ := Int.eq_ofNat_of_zero_le hx0
  have hk : k < zs.length := by omega
  have hc := HC.out k hk
  have hc1 : w1.cell? ⟨w.heap.size, k, none⟩ = some (.int .i64 (zs.getD k 0)) := hg.cell hc (by simp; omega)
  clear hx0 hx1
  have HG := Lib.hid hg
  have HRd := Lib.hid hR
  clear hc hg hR
  go_wp2
  go_ret
  have hmem : zs.getD k 0 ∈ zs := by simp [List.getD_eq_getElem?_getD, List.getElem?_eq_getElem hk]
  have hb := HR.out _ hmem
  refine ⟨_, rfl, ?_⟩
  refine ⟨?_, ?_, ?_, HRd.out, ?_⟩
  · first | exact hb.1 | simpa [List.getD_eq_getElem?_getD, List.getElem?_eq_getElem hk] using hb.1
  · first | exact hb.2 | simpa [List.getD_eq_getElem?_getD, List.getElem?_eq_getElem hk] using hb.2
  · first | exact hmem | (show _ ∈ zs; simp)
  · exact gb_step (by rw [← HW.out]; exact gb_alloc (gb_refl _ _) _) HG.out

theorem CodeAt.below {w w' : World} {ao : Option Addr} {len : Nat} (h : CodeAt w w.heap.size ao len) (hb : Below w.heap.size w w') : CodeAt w' w'.heap.size ao len := by
  intro h0
  obtain ⟨b, off, h1, h2, h3⟩ := (h.kept (fun k hk => hb.block k hk)) h0
  exact ⟨b, off, h1, Nat.lt_of_lt_of_le h2 hb.size, h3⟩
theorem CodeAt.alloc {w : World} {ao : Option Addr} {len : Nat} (h : CodeAt w w.heap.size ao len) (o : Obj) : CodeAt (w.alloc o) (w.alloc o).heap.size ao len := h.below (Joins.below_alloc1 _ _)
theorem IsRow.code {w : World} {ao : Option Addr} {len cap : Nat} {zs : List Int} (h : IsRow .u8 w ao len cap zs) : CodeAt w w.heap.size ao len ∧ len ≤ cap ∧ cap ≤ maxLen := by
  rcases h with ⟨rfl, rfl, rfl, rfl⟩ | ⟨x, rfl, hl, hm, hz, hcell, hwz⟩
  · exact ⟨fun h => by omega, Nat.le_refl _, by unfold maxLen; omega⟩
  · refine ⟨fun h0 => ?_, hl, hm⟩
    obtain ⟨b, off, spot⟩ := x
    have hc := hcell 0 (by omega)
    have hspot : spot = none := by simpa [Addr.add] using World.cell?_spot hc
    subst hspot
    refine ⟨b, off, rfl, ?_, fun j hj => ?_⟩
    · exact World.block_lt_of_cell? w _ (by simpa [Addr.add] using hc)
    · have hj' := hcell j (by omega)
      have hw := hwz (zs.getD j 0) (by rw [List.getD_eq_getElem?_getD, List.getElem?_eq_getElem (by omega)]; simp)
      have hb := bounds_u8 hw
      refine ⟨_, ?_, hb.1, hb.2⟩
      rw [← hj']
      simp only [Addr.add]
      by_cases h : j = 0 <;> simp [h]

def OpenPost (w : World) (e : Ending) (w' : World) : Prop := ∃ rb, e = .returned (.pointer (some ⟨rb, 0, none⟩)) ∧ w.heap.size ≤ rb ∧ Rd w' rb 0 ∧ Below w.heap.size w w'
theorem rd_open (ao : Option Addr) (len cap : Nat) (w : World) (h : CodeAt w w.heap.size ao len ∧ len ≤ cap ∧ cap ≤ maxLen) : Calls Tryd.prog 19 #[.slice ao len cap] w (OpenPost w) := by
  obtain ⟨h, h1, h2⟩ := h
  have H := Lib.hid h
  clear h
  unfold maxLen at h2
  by_cases hl : 2000 < len
  · obtain ⟨b, off, rfl, hb, hcode⟩ := H.out (by omega)
    have HC := Lib.hid hcode
    clear hcode H
    go_enter Tryd.func19, Tryd.ntmps19
    go_wp2
    go_ret
    have hh : (w.alloc (.cells #[.slice (some ⟨b, off, none⟩) 2000 cap, .int .i64 0] 54)).heap[w.heap.size]? = some (.cells #[.slice (some ⟨b, off, none⟩) 2000 cap, .int .i64 0] 54 (0, 0)) := heap_alloc_new w _
    refine ⟨w.heap.size, rfl, Nat.le_refl _, ⟨some ⟨b, off, none⟩, 2000, cap, 0, hh, Nat.le_refl _, Nat.le_refl _, ?_⟩, Joins.below_alloc1 _ _⟩
    have hk : CodeAt w w.heap.size (some ⟨b, off, none⟩) 2000 := fun _ => ⟨b, off, rfl, hb, fun j hj => HC.out j (by omega)⟩
    exact hk.kept (fun k hk' => Below.heap_alloc _ _ _ hk')
  · go_enter Tryd.func19, Tryd.ntmps19
    go_wp2
    go_ret
    have hh : (w.alloc (.cells #[.slice ao len cap, .int .i64 0] 54)).heap[w.heap.size]? = some (.cells #[.slice ao len cap, .int .i64 0] 54 (0, 0)) := heap_alloc_new w _
    exact ⟨w.heap.size, rfl, Nat.le_refl _, ⟨ao, len, cap, 0, hh, Nat.le_refl _, by omega, H.out.kept (fun k hk' => Below.heap_alloc _ _ _ hk')⟩, Joins.below_alloc1 _ _⟩
end Go.Proofs.YtaoggijepndnmaaDoor
