/- Contracts of the program's smallest functions (within, validity of addresses and keys) and small lemmas on worlds. No conditions. -/
import Derived.Test.YtaoggijepndnmaaDoorProg
import Derived.WalkKit
import Derived.ProofKit
import Derived.OpenShut
import Derived.Lib.SmallJoins
import Derived.Lib.Hide
import Derived.Deep.RegionWith
import Derived.Deep.RegionHeld3
import Derived.Deep.QuietTactic
import Derived.BigQuiet
import Derived.Outline
import Derived.Handy
namespace Go.Proofs.YtaoggijepndnmaaDoor
open Go.ChangeShapes Go.WideShapes Go.ChangeAt Go.RowKit

theorem bel3 {W w1 : World} (hb : Below W.heap.size W w1) : (∀ b o, b < W.heap.size → w1.cell? ⟨b, o, none⟩ = W.cell? ⟨b, o, none⟩) ∧ (∀ b o, b < W.heap.size → w1.frozen? ⟨b, o, none⟩ = W.frozen? ⟨b, o, none⟩) ∧ (∀ b, b < W.heap.size → b < w1.heap.size) :=
  ⟨fun b o h => hb.cell (p := ⟨b, o, none⟩) h, fun b o h => hb.frozen (p := ⟨b, o, none⟩) h, fun _ h => Nat.lt_of_lt_of_le h hb.size⟩
theorem bel_at {W w1 : World} (hb : Below W.heap.size W w1) (n : Nat) (hn : n < W.heap.size) : (∀ o, w1.cell? ⟨n, o, none⟩ = W.cell? ⟨n, o, none⟩) ∧ (∀ o, w1.frozen? ⟨n, o, none⟩ = W.frozen? ⟨n, o, none⟩) ∧ n < w1.heap.size :=
  ⟨fun o => hb.cell (p := ⟨n, o, none⟩) hn, fun o => hb.frozen (p := ⟨n, o, none⟩) hn, Nat.lt_of_lt_of_le hn hb.size⟩
theorem bstep {w w1 w2 : World} (h : Below w.heap.size w w1) (hb : Below w1.heap.size w1 w2) : Below w.heap.size w w2 := h.trans (hb.mono h.size)
theorem bgrow {w w1 w2 : World} {rb : Nat} (h : Below w.heap.size w w1) (hg : w1.grownBy w2 (some rb)) (hr : w.heap.size ≤ rb) : Below w.heap.size w w2 :=
  h.grown hg h.size (fun k e => by cases e; exact hr)
theorem gb_refl (w : World) (r : Option Nat) : w.grownBy w r := ⟨rfl, rfl, rfl, Nat.le_refl _, fun _ _ _ => rfl⟩
theorem gb_below {w w1 w2 : World} {r : Option Nat} (h : w.grownBy w1 r) (hb : Below w1.heap.size w1 w2) : w.grownBy w2 r :=
  ⟨hb.os.trans h.os, hb.tape.trans h.tape, hb.output.trans h.output, Nat.le_trans h.size hb.size, fun k hk hr => (hb.block k (Nat.lt_of_lt_of_le hk h.size)).trans (h.block k hk hr)⟩
theorem gb_step {w w1 w2 : World} {r : Option Nat} (h : w.grownBy w1 r) (hg : w1.grownBy w2 r) : w.grownBy w2 r :=
  ⟨hg.os.trans h.os, hg.tape.trans h.tape, hg.output.trans h.output, Nat.le_trans h.size hg.size, fun k hk hr => (hg.block k (Nat.lt_of_lt_of_le hk h.size) hr).trans (h.block k hk hr)⟩
theorem gb_alloc {w w1 : World} {r : Option Nat} (h : w.grownBy w1 r) (o : Obj) : w.grownBy (w1.alloc o) r := gb_below h (Joins.below_alloc1 _ _)
theorem gb_drewN {w w1 : World} {r : Option Nat} (h : w.grownBy w1 r) (n : Nat) : w.grownBy (w1.drewN n) r := gb_below h (Joins.below_draws _ _ _)
theorem gb_drew {w w1 : World} {r : Option Nat} (h : w.grownBy w1 r) : w.grownBy w1.drew r := ⟨h.os, h.tape, h.output, h.size, h.block⟩
theorem gb_set {w w1 : World} {r : Option Nat} (h : w.grownBy w1 r) {p : Addr} (hp : w.heap.size ≤ p.block) (u : Value) : w.grownBy (w1.setCell p u) r :=
  ⟨h.os, h.tape, h.output, by simpa using h.size, fun k hk hr => (Below.heap_setCell _ _ _ _ (by omega)).trans (h.block k hk hr)⟩
theorem gb_at {W w1 : World} {rb : Nat} (hg : W.grownBy w1 (some rb)) (n : Nat) (hn : n < W.heap.size) (hne : n ≠ rb) : (∀ o, w1.cell? ⟨n, o, none⟩ = W.cell? ⟨n, o, none⟩) ∧ (∀ o, w1.frozen? ⟨n, o, none⟩ = W.frozen? ⟨n, o, none⟩) ∧ n < w1.heap.size :=
  have hb := hg.block n hn (fun e => hne (by cases e; rfl))
  ⟨fun o => World.cell?_of_block (a := ⟨n, o, none⟩) hb, fun o => World.frozen?_of_block (a := ⟨n, o, none⟩) hb, Nat.lt_of_lt_of_le hn hg.size⟩
theorem balloc {w w1 : World} (h : Below w.heap.size w w1) (o : Obj) : Below w.heap.size w (w1.alloc o) := h.alloc h.size o
theorem bset {w w1 : World} (h : Below w.heap.size w w1) {p : Addr} (hp : w.heap.size ≤ p.block) (u : Value) : Below w.heap.size w (w1.setCell p u) := h.setCell hp u
theorem bdrewN {w w1 : World} (h : Below w.heap.size w w1) (n : Nat) : Below w.heap.size w (w1.drewN n) := h.trans ((Joins.below_draws _ _ _).mono h.size)
theorem bdrew {w w1 : World} (h : Below w.heap.size w w1) : Below w.heap.size w w1.drew := h.drew

def withinB (n e : Int) : Bool := decide (0 ≤ n ∧ n < e)

theorem within_any (n e : Int) (w : World) : Calls Tryd.prog 22 #[.int .i64 n, .int .i64 e] w fun r w' => r = .returned (.bool (withinB n e)) ∧ w = w' := by
  have hd : withinB n e = (decide (0 ≤ n) && decide (n < e)) := by simp [withinB]
  rw [hd]; clear hd
  go_enter Tryd.func22, Tryd.ntmps22
  go_wp2
  all_goals (go_ret; exact ⟨by first | (simp [*]; done) | (simp; omega), rfl⟩)

def kvB (s p : Int) : Bool := withinB s 16 && withinB p 256
def avB (s p o : Int) : Bool := withinB s 16 && withinB p 256 && withinB o 64

theorem impl_AddressValid (s p o : Int) (w : World) : Calls Tryd.prog 10 #[.agg #[.int .i64 s, .int .i64 p, .int .i64 o]] w fun r w' => r = .returned (.bool (avB s p o)) ∧ w.alloc (.cells #[.int .i64 s, .int .i64 p, .int .i64 o] 23) = w' := by
  unfold avB
  go_enter Tryd.func10, Tryd.ntmps10
  go_wp2_with (go_at_call 22; refine (within_any _ _ _).mono ?_; rintro e w' ⟨rfl, rfl⟩)
  all_goals (go_ret; exact ⟨by simp [*], rfl⟩)
theorem spec_l1Space (n : Int) (w : World) : Calls Tryd.prog 26 #[.int .i64 n] w fun r w' => r = .returned (.bool (withinB n 16)) ∧ w = w' := by
  have hd : withinB n 16 = (decide (0 ≤ n) && decide (n < 16)) := by simp [withinB]
  rw [hd]; clear hd
  go_enter Tryd.func26, Tryd.ntmps26
  go_wp2
  all_goals (go_ret; exact ⟨by first | (simp [*]; done) | (simp; omega), rfl⟩)
theorem spec_l1Page (n : Int) (w : World) : Calls Tryd.prog 27 #[.int .i64 n] w fun r w' => r = .returned (.bool (withinB n 256)) ∧ w = w' := by
  have hd : withinB n 256 = (decide (0 ≤ n) && decide (n < 256)) := by simp [withinB]
  rw [hd]; clear hd
  go_enter Tryd.func27, Tryd.ntmps27
  go_wp2
  all_goals (go_ret; exact ⟨by first | (simp [*]; done) | (simp; omega), rfl⟩)
theorem spec_AddressValid (s p o : Int) (w : World) : Calls Tryd.prog 14 #[.agg #[.int .i64 s, .int .i64 p, .int .i64 o]] w fun r w' => r = .returned (.bool (avB s p o)) ∧ w.alloc (.cells #[.int .i64 s, .int .i64 p, .int .i64 o] 23) = w' := by
  have hd : withinB o 64 = (decide (0 ≤ o) && decide (o < 64)) := by simp [withinB]
  unfold avB
  rw [hd]; clear hd
  go_enter Tryd.func14, Tryd.ntmps14
  go_wp2_with (first | (go_at_call 26; refine (spec_l1Space _ _).mono ?_; rintro e w' ⟨rfl, rfl⟩) | (go_at_call 27; refine (spec_l1Page _ _).mono ?_; rintro e w' ⟨rfl, rfl⟩))
  all_goals (go_ret; exact ⟨by first | (simp [*]; done) | (simp [*]; omega), rfl⟩)

theorem withinB_iff {n e : Int} : withinB n e = true ↔ 0 ≤ n ∧ n < e := by simp [withinB]
theorem withinB_not {n e : Int} : withinB n e = false ↔ (n < 0 ∨ e ≤ n) := by simp [withinB]; omega
theorem avB_iff {s p o : Int} : avB s p o = true ↔ (0 ≤ s ∧ s < 16) ∧ (0 ≤ p ∧ p < 256) ∧ (0 ≤ o ∧ o < 64) := by simp [avB, withinB_iff, and_assoc]
theorem kvB_iff {s p : Int} : kvB s p = true ↔ (0 ≤ s ∧ s < 16) ∧ (0 ≤ p ∧ p < 256) := by simp [kvB, withinB_iff]
theorem bytes_str_at {P : Program} (w : World) (src dst e : TypeId) (a : Addr) (len cap : Nat) (ns : List Int) (hs : P.underlying src = some (.slice e)) (he : P.underlying e = some (.int .u8)) (hd : P.underlying dst = some .string)
    (hn : ns.length = len) (h : ∀ j v, (ns.map (Value.int .u8))[j]? = some v → w.cell? (a.add j) = some v) :
    (convert src dst (.slice (some a) len cap)).run P w = .ok (.string (ns.foldl (fun r n => r.push (UInt8.ofNat n.toNat)) ByteArray.empty)) w := by
  rw [run_convert_bytes_string w src dst e _ _ _ hs he hd]
  refine run_bytesToString w a len cap ns ?_
  subst hn
  have := run_loadCells_list (P := P) (w := w) a (ns.map (Value.int .u8)) h
  simpa using this
theorem mark_store (w : World) (C : Array Value) (t : TypeId) (fr : Nat × Nat) (i : Nat) (v : Value) : (w.alloc (.cells C t fr)).setCell ⟨w.heap.size, i, none⟩ v = w.alloc (.cells (C.setIfInBounds i v) t fr) := by
  unfold World.setCell World.alloc
  congr 1
  apply Array.ext_getElem?
  intro k
  simp only [Array.getElem?_modify, Array.getElem?_push]
  by_cases hk : k = w.heap.size
  · subst hk; simp
  · simp [hk, Ne.symm hk]
theorem qsame {P : Program} {f : FuncId} {args : Array Value} {w : World} {n : Nat} {v : Value} (h : Calls P f args (w.drewN n) fun e w' => e = .returned v ∧ w.drewN n = w') :
    Calls P f args (w.drewN n) fun e w' => e = .returned v ∧ ∃ m, w' = w.drewN m := h.mono (by rintro e w' ⟨h1, rfl⟩; exact ⟨h1, n, rfl⟩)
theorem ret_bool {a b : Bool} (h : a = b) : Ending.returned (.bool a) = .returned (.bool b) := by rw [h]
theorem ret_int {k : IntKind} {a b : Int} (h : a = b) : Ending.returned (.int k a) = .returned (.int k b) := by rw [h]
end Go.Proofs.YtaoggijepndnmaaDoor
