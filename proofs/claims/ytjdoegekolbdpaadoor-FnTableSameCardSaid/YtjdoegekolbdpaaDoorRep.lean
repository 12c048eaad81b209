/- slices.Repeat of one element, at ints and at frames, returns that many copies. Asked: 1 to 16 copies. -/
import Derived.Test.YtjdoegekolbdpaaDoorAgg
import Derived.Laws.CopyOwn
import Derived.Deep.RegionLaw
namespace Go.Proofs.YtjdoegekolbdpaaDoor
set_option linter.unusedVariables false
open Go.ChangeShapes Go.WideShapes Go.ChangeAt Go.RowKit
theorem and_small : ∀ n : Fin 17, bits BinOp.and IntKind.u64 (n.val : Int) 4294967295 = (n.val : Int) := by decide +kernel
theorem bits_Mul64 (n : Nat) (hn : n ≤ 16) (w : World) : Calls Tryd.prog 85 #[.int .u64 1, .int .u64 (n : Int)] w fun e w' => e = .returned (.tuple #[.int .u64 0, .int .u64 (n : Int)]) ∧ w = w' := by
  have a1 : bits BinOp.and IntKind.u64 1 4294967295 = 1 := by decide +kernel
  have a0 : bits BinOp.and IntKind.u64 0 4294967295 = 0 := by decide +kernel
  have an : bits BinOp.and IntKind.u64 (n : Int) 4294967295 = (n : Int) := and_small ⟨n, by omega⟩
  have i1 : (0 : Int) ≤ (n : Int) := by omega
  have i2 : (n : Int) ≤ 16 := by omega
  have i3 : (n : Int) / 4294967296 = 0 := by omega
  go_enter Tryd.func85, Tryd.ntmps85
  go_wp2
  go_ret2
  exact ⟨rfl, rfl⟩
theorem bits_Mul (n : Nat) (hn : n ≤ 16) (w : World) : Calls Tryd.prog 72 #[.int .u64 1, .int .u64 (n : Int)] w fun e w' => e = .returned (.tuple #[.int .u64 0, .int .u64 (n : Int)]) ∧ w = w' := by
  go_enter Tryd.func72, Tryd.ntmps72
  go_wp2_with (go_at_call 85; refine (bits_Mul64 n hn _).mono ?_; rintro e w' ⟨rfl, rfl⟩)
  go_ret2
  exact ⟨rfl, rfl⟩
theorem run_copy_k {P : Program} (w : World) (dT sT ty elem : TypeId) (g o dLen dCap : Nat) (a : Addr) (sLen sCap k : Nat) (cur : Array Value) (t : TypeId) (cs : List Value)
    (hu : P.underlying dT = some (.slice elem)) (hs : (P.info? elem).map (·.size) = some k)
    (hg : w.heap[g]? = some (.cells cur t (0, 0))) (hn : cs.length = Nat.min sLen dLen * k)
    (hsrc : ∀ j v, cs[j]? = some v → w.cell? (a.add j) = some v) (hfit : o + cs.length ≤ cur.size) (h1 : ∀ v ∈ cs, v.oneCell' = true) :
    (Builtin.copy_ #[dT, sT] ty #[.slice (some ⟨g, o, none⟩) dLen dCap, .slice (some a) sLen sCap]).run P w =
      .ok (goInt (Nat.min sLen dLen)) (w.setRow g (cur.toList.take o ++ cs ++ cur.toList.drop (o + cs.length)).toArray) := by
  have hl := run_loadCells_list (P := P) w a cs hsrc
  have hst := run_storeCells_at P g o t cs 0 cur w hg (by simpa using hfit) h1
  cases hq : P.info? elem with
  | none => simp [hq] at hs
  | some i =>
    have hi : i.size = k := by simpa [hq] using hs
    simp [Builtin.copy_, run_underlying hu, Builtin.lenOf, Builtin.firstCells, sizeOf, typeInfo, hq, hi, ← hn, hl, hst]
theorem wpList_copy_k {P : Program} {w : World} {ops : Array Oper} {rest : List Oper} {o : Oper} {a : Act} {Q : Exit → Act → World → Prop} (hgd : o.guard = none) (d s : Operand) (dT sT : TypeId)
    (ho : o.op = .call { callee := .builtin .copy, args := #[d, s], argTypes := #[dT, sT] }) (elem : TypeId) (hu : P.underlying dT = some (.slice elem)) (k : Nat) (hsz : (P.info? elem).map (·.size) = some k)
    (g off dLen dCap : Nat) (ad : Addr) (sLen sCap : Nat) (hd : a.eval d = .slice (some ⟨g, off, none⟩) dLen dCap) (hs : a.eval s = .slice (some ad) sLen sCap)
    (cur : List Value) (t : TypeId) (hg : w.heap[g]? = some (.cells cur.toArray t (0, 0))) (cs : List Value) (hn : cs.length = Nat.min sLen dLen * k)
    (hsrc : ∀ j v, cs[j]? = some v → w.cell? (ad.add j) = some v) (hfit : off + cs.length ≤ cur.length) (h1 : ∀ v ∈ cs, v.oneCell' = true) (B : Nat) (w0 : World) (hb : Below B w0 w) (hBg : B ≤ g)
    (h : ∀ w', Hid (w'.heap[g]? = some (.cells (splice cur off cs).toArray t (0, 0))) → Hid (Below B w0 w') → wpList P ops Q rest (a.put o.dst (goInt (Nat.min sLen dLen))) w') : wpList P ops Q (o :: rest) a w := by
  refine wpList_plain hgd fun K hK => ?_
  have hrun := run_copy_k (P := P) w dT sT o.type elem g off dLen dCap ad sLen sCap k cur.toArray t cs hu hsz hg hn hsrc (by simpa using hfit) h1
  unfold Oper.wp
  simp [execOp, ho, resolve, invoke, builtin, hd, hs, hrun, Result.andThen]
  exact hK _ _ (h _ (show _ = _ by simpa [splice] using setRow_heap w g _ _ t _ hg) (below_setRow hb hBg _))
theorem step_copy_k {P : Program} {ops : Array Oper} {o : Oper} {a : Act} {w : World} {K : Act → World → Prop} {Q : Exit → Act → World → Prop} {E : Prop} (hgd : o.guard = none) (d s : Operand) (dT sT : TypeId)
    (ho : o.op = .call { callee := .builtin .copy, args := #[d, s], argTypes := #[dT, sT] }) (elem : TypeId) (hu : P.underlying dT = some (.slice elem)) (k : Nat) (hsz : (P.info? elem).map (·.size) = some k)
    (g off dLen dCap : Nat) (ad : Addr) (sLen sCap : Nat) (hd : a.eval d = .slice (some ⟨g, off, none⟩) dLen dCap) (hs : a.eval s = .slice (some ad) sLen sCap)
    (cur : List Value) (t : TypeId) (hg : w.heap[g]? = some (.cells cur.toArray t (0, 0))) (cs : List Value) (hn : cs.length = Nat.min sLen dLen * k)
    (hsrc : ∀ j v, cs[j]? = some v → w.cell? (ad.add j) = some v) (hfit : off + cs.length ≤ cur.length) (h1 : ∀ v ∈ cs, v.oneCell' = true) (B : Nat) (w0 : World) (hb : Below B w0 w) (hBg : B ≤ g)
    (h : ∀ w', Hid (w'.heap[g]? = some (.cells (splice cur off cs).toArray t (0, 0))) → Hid (Below B w0 w') → K (a.put o.dst (goInt (Nat.min sLen dLen))) w') :
    if Region.wanted o (yielded ops a.tmps) = true then Oper.wp P o a w K Q else E := by
  have hw : Region.wanted o (yielded ops a.tmps) = true := by simp [Region.wanted, hgd]
  rw [if_pos hw]
  have hrun := run_copy_k (P := P) w dT sT o.type elem g off dLen dCap ad sLen sCap k cur.toArray t cs hu hsz hg hn hsrc (by simpa using hfit) h1
  unfold Oper.wp
  simp [execOp, ho, resolve, invoke, builtin, hd, hs, hrun, Result.andThen]
  exact h _ (show _ = _ by simpa [splice] using setRow_heap w g _ _ t _ hg) (below_setRow hb hBg _)
/-- n copies of the cells of an element -/
def rep (c : List Value) (n : Nat) : List Value := (List.replicate n c).flatten
theorem rep_len (c : List Value) (n : Nat) : (rep c n).length = n * c.length := by simp [rep]
theorem rep_add (c : List Value) (n m : Nat) : rep c n ++ rep c m = rep c (n + m) := by simp [rep, ← List.flatten_append]
theorem rep_splice (c Z : List Value) (n m : Nat) : splice (rep c n ++ Z) (n * c.length) (rep c m) = rep c (n + m) ++ Z.drop (m * c.length) := by
  unfold splice
  rw [List.take_left' (rep_len c n), rep_len]
  have : (rep c n ++ Z).drop (n * c.length + m * c.length) = Z.drop (m * c.length) := by
    rw [← rep_len c n, List.drop_append, List.drop_eq_nil_of_le (by omega), Nat.add_sub_cancel_left]; rfl
  rw [this, ← List.append_assoc, rep_add]
theorem rep_one (c : List Value) (h : ∀ v ∈ c, v.oneCell' = true) (n : Nat) : ∀ v ∈ rep c n, v.oneCell' = true := by
  intro v hv
  simp only [rep, List.mem_flatten, List.mem_replicate] at hv
  obtain ⟨l, ⟨_, rfl⟩, hl⟩ := hv
  exact h v hl
theorem rep_pre (c Z : List Value) {n m : Nat} (hm : m ≤ n) {j : Nat} {v : Value} (h : (rep c m)[j]? = some v) : (rep c n ++ Z)[j]? = some v := by
  obtain ⟨q, rfl⟩ : ∃ q, n = m + q := ⟨n - m, by omega⟩
  rw [← rep_add, List.append_assoc, List.getElem?_append_left (by have := (List.getElem?_eq_some_iff.1 h).1; exact this)]
  exact h
theorem own_full {w : World} {base g n size : Nat} {e : TypeId} {xs : List Value} (h : w.ownsRow base e size (.slice (some ⟨g, 0, none⟩) n n) n xs) : ∃ Z : List Value, Z.length = n * size ∧ Hid (w.heap[g]? = some (.cells Z.toArray e (0, 0))) := by
  rcases h.2 with ⟨e1, _⟩ | ⟨g', cap, cur, e1, _, hg, _, _, hs, ht⟩
  · cases e1
  · cases e1
    exact ⟨cur.toList, by simpa using hs, (by simpa using hg : w.heap[g]? = some (.cells cur.toList.toArray e (0, 0)))⟩
theorem splice_first (c Z : List Value) : splice Z 0 c = rep c 1 ++ Z.drop (1 * c.length) := by simp [splice, rep]
theorem fcells_rep (f : Fr) (n : Nat) : rep (fcell f) n = fcells (List.replicate n f) := by
  induction n with
  | zero => rfl
  | succ n ih =>
    have : rep (fcell f) (n + 1) = fcell f ++ rep (fcell f) n := by simp [rep, List.replicate_succ]
    rw [this, ih, List.replicate_succ]
    simp [fcells]
theorem ints_rep (x : Int) (n : Nat) : rep [.int .i64 x] n = ints (List.replicate n x) := by
  induction n with
  | zero => rfl
  | succ n ih =>
    have : rep [Value.int .i64 x] (n + 1) = Value.int .i64 x :: rep [.int .i64 x] n := by simp [rep, List.replicate_succ]
    rw [this, ih, List.replicate_succ]
    simp [ints]
set_option maxHeartbeats 1000000 in
set_option maxRecDepth 100000 in
theorem rep_ints (gx n : Nat) (c : List Value) (w : World) (h1 : 1 ≤ n) (h2 : n ≤ 16) (hc : c.length = 1) (hone : ∀ v ∈ c, v.oneCell' = true) (hx : ∀ j v, c[j]? = some v → w.cell? ⟨gx, j, none⟩ = some v) (hgx : gx < w.heap.size) :
    Calls Tryd.prog 41 #[.slice (some ⟨gx, 0, none⟩) 1 1, .int .i64 (n : Int)] w fun e w' => e = .returned (.slice (some ⟨w.heap.size, 0, none⟩) n n) ∧ Sl w' w.heap.size w'.heap.size 3 1 (some ⟨w.heap.size, 0, none⟩) n (rep c n) ∧ Below w.heap.size w w' := by
  have HX := Lib.hid hx
  have HONE := Lib.hid hone
  obtain ⟨i0, hi, hz0, hz1, hz2⟩ := info_parts int_info
  have hsz : (Tryd.prog.info? 3).map (·.size) = some 1 := by rw [hi]; simp [hz1]
  have i1 : (1 : Int) ≤ (n : Int) := by omega
  have i2 : (n : Int) ≤ 16 := by omega
  have HMin : Hid (Nat.min 1 n = 1) := Nat.min_eq_left h1
  clear hx hone
  go_enter Tryd.func41, Tryd.ntmps41
  go_wp2_with (fail)
  refine (bits_Mul n h2 _).mono ?_
  rintro e w' ⟨rfl, rfl⟩
  go_wp2_with (first | (at_make; refine wpList_make_full _ rfl _ _ 25 rfl w.heap.size 3 i0 _ 1 Tryd.underlying25 hi hz0 hz1 .i64 .i64 _ _ n rfl rfl rfl rfl (by rw [hz2]; omega) (by unfold maxLen; omega) (Nat.le_refl _) ?_; intro w1 hown hg; obtain ⟨Z0, hZl, HZ0⟩ := own_full hown; have hb1 : Below w.heap.size w w1 := (Below.refl _ _).grown hg (Nat.le_refl _) (fun k e => by cases e); have HB1 := Lib.hid hb1; clear hown hg hb1) | (refine wpList_copy_k rfl _ _ 25 25 rfl 3 Tryd.underlying25 1 hsz w.heap.size 0 n n ⟨gx, 0, none⟩ 1 1 rfl rfl Z0 3 HZ0.out c (by rw [hc]; have : Nat.min 1 n = 1 := Nat.min_eq_left h1; omega) (fun j v hj => by have := HX.out j v hj; rw [← HB1.out.cell (p := ⟨gx, j, none⟩) hgx] at this; simpa [add_none] using this) (by rw [hc, hZl]; omega) HONE.out w.heap.size w HB1.out (Nat.le_refl _) ?_; rw [HMin.out]; intro w2 hg2 HB2))
  rw [splice_first] at hg2
  have hZ1 : (Z0.drop (1 * c.length)).length = (n - 1) * 1 := by rw [List.length_drop, hZl, hc]; omega
  generalize Z0.drop (1 * c.length) = Z1 at *
  clear hZl HZ0 HB1
  go_loopw [8] (fun i wr => ∃ (j : Nat) (Z : List Value), 1 ≤ j ∧ j ≤ n ∧ i = .int .i64 j ∧ Z.length = (n - j) * 1 ∧ Hid (wr.heap[w.heap.size]? = some (.cells (rep c j ++ Z).toArray 3 (0, 0))) ∧ Below w.heap.size w wr) (fun i _ => n - (intOf i).toNat)
  case atStart => exact ⟨1, Z1, Nat.le_refl _, h1, rfl, hZ1, hg2, HB2.out⟩
  case round =>
    obtain ⟨j, Z, hj1, hj2, rfl, hZ, HZ, hb⟩ := hrel
    have HB := Lib.hid hb
    clear hb hg2 HB2 hZ1
    by_cases hlt : j < n
    · have i3 : (1 : Int) ≤ (j : Int) := by omega
      have i4 : (j : Int) < (n : Int) := by omega
      have i5 : ¬ n = j := by omega
      have hcs : (rep c (Nat.min j (n - j))).length = Nat.min j (n - j) * 1 := by rw [rep_len, hc]
      have hml : Nat.min j (n - j) ≤ j := Nat.min_le_left _ _
      have hmr : Nat.min j (n - j) ≤ n - j := Nat.min_le_right _ _
      have hm1 : 1 ≤ Nat.min j (n - j) := Nat.le_min.2 ⟨hj1, by omega⟩
      have hsrc : ∀ q v, (rep c (Nat.min j (n - j)))[q]? = some v → wr.cell? ((⟨w.heap.size, 0, none⟩ : Addr).add q) = some v := fun q v h => by
        rw [add_none, Joins.cell_of_block HZ.out]
        have := rep_pre c Z hml h
        simpa using this
      have hfit : j * 1 + (rep c (Nat.min j (n - j))).length ≤ (rep c j ++ Z).length := by
        rw [hcs, List.length_append, rep_len, hc, hZ]
        have := Nat.mul_le_mul_right 1 hmr
        omega
      have hspl := rep_splice c Z j (Nat.min j (n - j))
      have hZ2 : (Z.drop (Nat.min j (n - j) * c.length)).length = (n - (j + Nat.min j (n - j))) * 1 := by
        rw [List.length_drop, hZ, hc, ← Nat.sub_mul, Nat.sub_sub]
      rw [hc] at hspl hZ2
      have hone' := rep_one c HONE.out (Nat.min j (n - j))
      have HCS := Lib.hid hcs
      have HSRC := Lib.hid hsrc
      have HFIT := Lib.hid hfit
      have HSPL := Lib.hid hspl
      have HZ2 := Lib.hid hZ2
      have HONE' := Lib.hid hone'
      clear hcs hsrc hfit hspl hZ2 hone'
      generalize hm : Nat.min j (n - j) = m at *
      have HM := Lib.hid hm
      clear hm
      go_wp2
      go_region_law (refine step_copy_k rfl (.tmp 41) (.tmp 44) 25 25 rfl 3 Tryd.underlying25 1 hsz w.heap.size (j * 1) (n - j) (n - j) ⟨w.heap.size, 0, none⟩ j n (by simp [Act.eval, Act.put]) (by simp [Act.eval, Act.put]) (rep c j ++ Z) 3 HZ.out (rep c m) (by rw [HCS.out, ← HM.out]) HSRC.out HFIT.out HONE'.out w.heap.size w HB.out.drew (Nat.le_refl _) ?_; rw [HM.out]; intro w3 hg3 HB3)
      rw [HSPL.out] at hg3
      have i6 : (0 : Int) ≤ (m : Int) := by omega
      have i7 : (m : Int) ≤ 16 := by omega
      have hwr : IntKind.i64.wrap ((j : Int) + (m : Int)) = (j : Int) + (m : Int) := IntWalk.i64_in _ (by omega)
      simp [Act.put, hwr]
      go_wp2
      go_roundw
      case rel => exact ⟨j + m, Z.drop (m * 1), by omega, by omega, by go_num, HZ2.out, hg3, HB3.out⟩
      case measure => simp [intOf]; omega
    · obtain rfl : j = n := by omega
      have hz : Z = [] := List.eq_nil_of_length_eq_zero (by rw [hZ]; omega)
      subst hz
      have R : Hid (Sl wr w.heap.size wr.heap.size 3 1 (some ⟨w.heap.size, 0, none⟩) j (rep c j)) := by
        have hg := HZ.out
        rw [List.append_nil] at hg
        refine ⟨by rw [rep_len, hc], fun _ => ⟨w.heap.size, _, rfl, Nat.le_refl _, block_lt hg, hg, ?_⟩⟩
        simp only []
        exact List.take_of_length_le (by rw [rep_len, hc]; exact Nat.le_refl _)
      go_wp2
      go_ret
      exact ⟨rfl, R.out, HB.out⟩
set_option maxHeartbeats 1000000 in
set_option maxRecDepth 100000 in
theorem rep_frames (gx n : Nat) (c : List Value) (w : World) (h1 : 1 ≤ n) (h2 : n ≤ 16) (hc : c.length = 5) (hone : ∀ v ∈ c, v.oneCell' = true) (hx : ∀ j v, c[j]? = some v → w.cell? ⟨gx, j, none⟩ = some v) (hgx : gx < w.heap.size) :
    Calls Tryd.prog 42 #[.slice (some ⟨gx, 0, none⟩) 1 1, .int .i64 (n : Int)] w fun e w' => e = .returned (.slice (some ⟨w.heap.size, 0, none⟩) n n) ∧ Sl w' w.heap.size w'.heap.size 46 5 (some ⟨w.heap.size, 0, none⟩) n (rep c n) ∧ Below w.heap.size w w' := by
  have HX := Lib.hid hx
  have HONE := Lib.hid hone
  obtain ⟨i0, hi, hz0, hz1, hz2⟩ := info_parts fr_info
  have hsz : (Tryd.prog.info? 46).map (·.size) = some 5 := by rw [hi]; simp [hz1]
  have i1 : (1 : Int) ≤ (n : Int) := by omega
  have i2 : (n : Int) ≤ 16 := by omega
  have HMin : Hid (Nat.min 1 n = 1) := Nat.min_eq_left h1
  clear hx hone
  go_enter Tryd.func42, Tryd.ntmps42
  go_wp2_with (fail)
  refine (bits_Mul n h2 _).mono ?_
  rintro e w' ⟨rfl, rfl⟩
  go_wp2_with (first | (at_make; refine wpList_make_full _ rfl _ _ 26 rfl w.heap.size 46 i0 _ 5 Tryd.underlying26 hi hz0 hz1 .i64 .i64 _ _ n rfl rfl rfl rfl (by rw [hz2]; omega) (by unfold maxLen; omega) (Nat.le_refl _) ?_; intro w1 hown hg; obtain ⟨Z0, hZl, HZ0⟩ := own_full hown; have hb1 : Below w.heap.size w w1 := (Below.refl _ _).grown hg (Nat.le_refl _) (fun k e => by cases e); have HB1 := Lib.hid hb1; clear hown hg hb1) | (refine wpList_copy_k rfl _ _ 26 26 rfl 46 Tryd.underlying26 5 hsz w.heap.size 0 n n ⟨gx, 0, none⟩ 1 1 rfl rfl Z0 46 HZ0.out c (by rw [hc]; have : Nat.min 1 n = 1 := Nat.min_eq_left h1; omega) (fun j v hj => by have := HX.out j v hj; rw [← HB1.out.cell (p := ⟨gx, j, none⟩) hgx] at this; simpa [add_none] using this) (by rw [hc, hZl]; omega) HONE.out w.heap.size w HB1.out (Nat.le_refl _) ?_; rw [HMin.out]; intro w2 hg2 HB2))
  rw [splice_first] at hg2
  have hZ1 : (Z0.drop (1 * c.length)).length = (n - 1) * 5 := by rw [List.length_drop, hZl, hc]; omega
  generalize Z0.drop (1 * c.length) = Z1 at *
  clear hZl HZ0 HB1
  go_loopw [8] (fun i wr => ∃ (j : Nat) (Z : List Value), 1 ≤ j ∧ j ≤ n ∧ i = .int .i64 j ∧ Z.length = (n - j) * 5 ∧ Hid (wr.heap[w.heap.size]? = some (.cells (rep c j ++ Z).toArray 46 (0, 0))) ∧ Below w.heap.size w wr) (fun i _ => n - (intOf i).toNat)
  case atStart => exact ⟨1, Z1, Nat.le_refl _, h1, rfl, hZ1, hg2, HB2.out⟩
  case round =>
    obtain ⟨j, Z, hj1, hj2, rfl, hZ, HZ, hb⟩ := hrel
    have HB := Lib.hid hb
    clear hb hg2 HB2 hZ1
    by_cases hlt : j < n
    · have i3 : (1 : Int) ≤ (j : Int) := by omega
      have i4 : (j : Int) < (n : Int) := by omega
      have i5 : ¬ n = j := by omega
      have hcs : (rep c (Nat.min j (n - j))).length = Nat.min j (n - j) * 5 := by rw [rep_len, hc]
      have hml : Nat.min j (n - j) ≤ j := Nat.min_le_left _ _
      have hmr : Nat.min j (n - j) ≤ n - j := Nat.min_le_right _ _
      have hm1 : 1 ≤ Nat.min j (n - j) := Nat.le_min.2 ⟨hj1, by omega⟩
      have hsrc : ∀ q v, (rep c (Nat.min j (n - j)))[q]? = some v → wr.cell? ((⟨w.heap.size, 0, none⟩ : Addr).add q) = some v := fun q v h => by
        rw [add_none, Joins.cell_of_block HZ.out]
        have := rep_pre c Z hml h
        simpa using this
      have hfit : j * 5 + (rep c (Nat.min j (n - j))).length ≤ (rep c j ++ Z).length := by
        rw [hcs, List.length_append, rep_len, hc, hZ]
        have := Nat.mul_le_mul_right 5 hmr
        omega
      have hspl := rep_splice c Z j (Nat.min j (n - j))
      have hZ2 : (Z.drop (Nat.min j (n - j) * c.length)).length = (n - (j + Nat.min j (n - j))) * 5 := by
        rw [List.length_drop, hZ, hc, ← Nat.sub_mul, Nat.sub_sub]
      rw [hc] at hspl hZ2
      have hone' := rep_one c HONE.out (Nat.min j (n - j))
      have HCS := Lib.hid hcs
      have HSRC := Lib.hid hsrc
      have HFIT := Lib.hid hfit
      have HSPL := Lib.hid hspl
      have HZ2 := Lib.hid hZ2
      have HONE' := Lib.hid hone'
      clear hcs hsrc hfit hspl hZ2 hone'
      generalize hm : Nat.min j (n - j) = m at *
      have HM := Lib.hid hm
      clear hm
      go_wp2
      go_region_law (refine step_copy_k rfl (.tmp 41) (.tmp 44) 26 26 rfl 46 Tryd.underlying26 5 hsz w.heap.size (j * 5) (n - j) (n - j) ⟨w.heap.size, 0, none⟩ j n (by simp [Act.eval, Act.put]) (by simp [Act.eval, Act.put]) (rep c j ++ Z) 46 HZ.out (rep c m) (by rw [HCS.out, ← HM.out]) HSRC.out HFIT.out HONE'.out w.heap.size w HB.out.drew (Nat.le_refl _) ?_; rw [HM.out]; intro w3 hg3 HB3)
      rw [HSPL.out] at hg3
      have i6 : (0 : Int) ≤ (m : Int) := by omega
      have i7 : (m : Int) ≤ 16 := by omega
      have hwr : IntKind.i64.wrap ((j : Int) + (m : Int)) = (j : Int) + (m : Int) := IntWalk.i64_in _ (by omega)
      simp [Act.put, hwr]
      go_wp2
      go_roundw
      case rel => exact ⟨j + m, Z.drop (m * 5), by omega, by omega, by go_num, HZ2.out, hg3, HB3.out⟩
      case measure => simp [intOf]; omega
    · obtain rfl : j = n := by omega
      have hz : Z = [] := List.eq_nil_of_length_eq_zero (by rw [hZ]; omega)
      subst hz
      have R : Hid (Sl wr w.heap.size wr.heap.size 46 5 (some ⟨w.heap.size, 0, none⟩) j (rep c j)) := by
        have hg := HZ.out
        rw [List.append_nil] at hg
        refine ⟨by rw [rep_len, hc], fun _ => ⟨w.heap.size, _, rfl, Nat.le_refl _, block_lt hg, hg, ?_⟩⟩
        simp only []
        exact List.take_of_length_le (by rw [rep_len, hc]; exact Nat.le_refl _)
      go_wp2
      go_ret
      exact ⟨rfl, R.out, HB.out⟩
theorem rep_ints_ex (gx n : Nat) (c : List Value) (w : World) (h1 : 1 ≤ n) (h2 : n ≤ 16) (hc : c.length = 1) (hone : ∀ v ∈ c, v.oneCell' = true) (hx : ∀ j v, c[j]? = some v → w.cell? ⟨gx, j, none⟩ = some v) (hgx : gx < w.heap.size) :
    Calls Tryd.prog 41 #[.slice (some ⟨gx, 0, none⟩) 1 1, .int .i64 (n : Int)] w fun e w' => ∃ g, e = .returned (.slice (some ⟨g, 0, none⟩) n n) ∧ Sl w' w.heap.size w'.heap.size 3 1 (some ⟨g, 0, none⟩) n (rep c n) ∧ Below w.heap.size w w' :=
  (rep_ints gx n c w h1 h2 hc hone hx hgx).mono fun _ _ h => ⟨_, h⟩
theorem rep_frames_ex (gx n : Nat) (c : List Value) (w : World) (h1 : 1 ≤ n) (h2 : n ≤ 16) (hc : c.length = 5) (hone : ∀ v ∈ c, v.oneCell' = true) (hx : ∀ j v, c[j]? = some v → w.cell? ⟨gx, j, none⟩ = some v) (hgx : gx < w.heap.size) :
    Calls Tryd.prog 42 #[.slice (some ⟨gx, 0, none⟩) 1 1, .int .i64 (n : Int)] w fun e w' => ∃ g, e = .returned (.slice (some ⟨g, 0, none⟩) n n) ∧ Sl w' w.heap.size w'.heap.size 46 5 (some ⟨g, 0, none⟩) n (rep c n) ∧ Below w.heap.size w w' :=
  (rep_frames gx n c w h1 h2 hc hone hx hgx).mono fun _ _ h => ⟨_, h⟩
end Go.Proofs.YtjdoegekolbdpaaDoor
