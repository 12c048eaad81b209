/- Contracts of Allows and FormatRights: each returns what its plain function says. No conditions. -/
import Derived.Test.YthehcknkehmkkaaAddr
namespace Go.Proofs.Ythehcknkehmkkaa
open Go.ChangeShapes Go.WideShapes Go.ChangeAt Go.RowKit

def alB (r n : Int) : Bool := withinB r 8 && withinB n 8 && (bits BinOp.and IntKind.i64 r n == n)
theorem al_both (r n : Int) (h1 : 0 ≤ r) (h2 : r < 8) (h3 : 0 ≤ n) (h4 : n < 8) : (bits BinOp.andNot IntKind.i64 n r == 0) = (bits BinOp.and IntKind.i64 r n == n) := by
  rcases (show r = 0 ∨ r = 1 ∨ r = 2 ∨ r = 3 ∨ r = 4 ∨ r = 5 ∨ r = 6 ∨ r = 7 from by omega) with rfl | rfl | rfl | rfl | rfl | rfl | rfl | rfl <;> rcases (show n = 0 ∨ n = 1 ∨ n = 2 ∨ n = 3 ∨ n = 4 ∨ n = 5 ∨ n = 6 ∨ n = 7 from by omega) with rfl | rfl | rfl | rfl | rfl | rfl | rfl | rfl <;> decide
theorem spec_Allows (r n : Int) (w : World) : Calls Try.prog 16 #[.int .i64 r, .int .i64 n] w fun e w' => e = .returned (.bool (alB r n)) ∧ w = w' := by
  by_cases hr : withinB r 8 = true
  · by_cases hn : withinB n 8 = true
    · have e : alB r n = (bits BinOp.and IntKind.i64 r n == n) := by simp [alB, hr, hn]
      rw [e]; clear e
      go_enter Try.func16, Try.ntmps16
      go_wp2_with (go_at_call 21; refine (spec_RightsValid _ _).mono ?_; rintro e w' ⟨rfl, rfl⟩)
      go_ret
      exact ⟨rfl, rfl⟩
    · have hn' : withinB n 8 = false := by simpa using hn
      have e : alB r n = false := by simp [alB, hn']
      rw [e]; clear e hn
      go_enter Try.func16, Try.ntmps16
      go_wp2_with (go_at_call 21; refine (spec_RightsValid _ _).mono ?_; rintro e w' ⟨rfl, rfl⟩)
      go_ret
      exact ⟨rfl, rfl⟩
  · have hr' : withinB r 8 = false := by simpa using hr
    have e : alB r n = false := by simp [alB, hr']
    rw [e]; clear e hr
    go_enter Try.func16, Try.ntmps16
    go_wp2_with (go_at_call 21; refine (spec_RightsValid _ _).mono ?_; rintro e w' ⟨rfl, rfl⟩)
    go_ret
    exact ⟨rfl, rfl⟩
theorem impl_Allows (r n : Int) (w : World) : Calls Try.prog 15 #[.int .i64 r, .int .i64 n] w fun e w' => e = .returned (.bool (alB r n)) ∧ w = w' := by
  by_cases hr : withinB r 8 = true
  · by_cases hn : withinB n 8 = true
    · obtain ⟨q1, q2⟩ := withinB_iff.1 hr
      obtain ⟨q3, q4⟩ := withinB_iff.1 hn
      have e : alB r n = (bits BinOp.andNot IntKind.i64 n r == 0) := by simp [alB, hr, hn, al_both r n q1 q2 q3 q4]
      rw [e]; clear e
      go_enter Try.func15, Try.ntmps15
      go_wp2_with (go_at_call 17; refine (impl_RightsValid _ _).mono ?_; rintro e w' ⟨rfl, rfl⟩)
      go_ret
      exact ⟨rfl, rfl⟩
    · have hn' : withinB n 8 = false := by simpa using hn
      have e : alB r n = false := by simp [alB, hn']
      rw [e]; clear e hn
      go_enter Try.func15, Try.ntmps15
      go_wp2_with (go_at_call 17; refine (impl_RightsValid _ _).mono ?_; rintro e w' ⟨rfl, rfl⟩)
      go_ret
      exact ⟨rfl, rfl⟩
  · have hr' : withinB r 8 = false := by simpa using hr
    have e : alB r n = false := by simp [alB, hr']
    rw [e]; clear e hr
    go_enter Try.func15, Try.ntmps15
    go_wp2_with (go_at_call 17; refine (impl_RightsValid _ _).mono ?_; rintro e w' ⟨rfl, rfl⟩)
    go_ret
    exact ⟨rfl, rfl⟩
theorem and1 : (bits BinOp.and IntKind.i64 0 1 == 0) = true ∧ (bits BinOp.and IntKind.i64 1 1 == 0) = false ∧ (bits BinOp.and IntKind.i64 2 1 == 0) = true ∧ (bits BinOp.and IntKind.i64 3 1 == 0) = false ∧ (bits BinOp.and IntKind.i64 4 1 == 0) = true ∧ (bits BinOp.and IntKind.i64 5 1 == 0) = false ∧ (bits BinOp.and IntKind.i64 6 1 == 0) = true ∧ (bits BinOp.and IntKind.i64 7 1 == 0) = false := by decide
theorem and2 : (bits BinOp.and IntKind.i64 0 1 == 1) = false ∧ (bits BinOp.and IntKind.i64 1 1 == 1) = true ∧ (bits BinOp.and IntKind.i64 2 1 == 1) = false ∧ (bits BinOp.and IntKind.i64 3 1 == 1) = true ∧ (bits BinOp.and IntKind.i64 4 1 == 1) = false ∧ (bits BinOp.and IntKind.i64 5 1 == 1) = true ∧ (bits BinOp.and IntKind.i64 6 1 == 1) = false ∧ (bits BinOp.and IntKind.i64 7 1 == 1) = true := by decide
theorem rwx_str (w : World) (a b c : Int) : (convert 22 9 (.slice (some ⟨w.heap.size, 0, none⟩) 3 3)).run Try.prog (w.alloc (.cells #[.int .u8 a, .int .u8 b, .int .u8 c] 5 (3, 4))) = .ok (.string (((ByteArray.empty.push (UInt8.ofNat a.toNat)).push (UInt8.ofNat b.toNat)).push (UInt8.ofNat c.toNat))) (w.alloc (.cells #[.int .u8 a, .int .u8 b, .int .u8 c] 5 (3, 4))) := by
  refine bytes_str_at _ _ _ 5 _ _ _ [a, b, c] Try.underlying22 Try.underlying5 Try.underlying9 rfl ?_
  intro j v hj
  have := World.cell?_alloc_mark w #[.int .u8 a, .int .u8 b, .int .u8 c] 5 (3, 4) j
  simp only [Addr.add, Nat.zero_add]
  have e : (if j = 0 then (⟨w.heap.size, 0, none⟩ : Addr) else ⟨w.heap.size, j, none⟩) = ⟨w.heap.size, j, none⟩ := by split <;> simp_all
  rw [e, this]
  simpa using hj
def frT (r : Int) : ByteArray := if r = 0 then ⟨#[45, 45, 45]⟩ else if r = 1 then ⟨#[114, 45, 45]⟩ else if r = 2 then ⟨#[45, 119, 45]⟩ else if r = 3 then ⟨#[114, 119, 45]⟩ else if r = 4 then ⟨#[45, 45, 120]⟩ else if r = 5 then ⟨#[114, 45, 120]⟩ else if r = 6 then ⟨#[45, 119, 120]⟩ else if r = 7 then ⟨#[114, 119, 120]⟩ else ⟨#[]⟩
theorem impl_FormatRights0 (w : World) : Calls Try.prog 19 #[.int .i64 0] w fun e w' => e = .returned (.string ⟨#[45, 45, 45]⟩) ∧ Below w.heap.size w w' := by
  obtain ⟨_, _, _, _, _, _, _, _⟩ := and1
  have mk1 := fun C i v => mark_store w C 5 (3, 4) i v
  have mk2 := fun C j => World.cell?_alloc_mark w C 5 (3, 4) j
  have mk3 := fun C j => World.frozen?_alloc_mark w C 5 3 4 j
  have kd := rwx_str w
  have hr : withinB 0 8 = true := rfl
  have kc := fun (w : World) (C : Array Value) (n c : Nat) => Lib.run_convert_bytes_const (P := Try.prog) w 22 5 C n c Try.underlying22 Try.underlying5
  go_enter Try.func19, Try.ntmps19
  go_wp2_with (go_at_call 17; refine (impl_RightsValid _ _).mono ?_; rintro e w' ⟨rfl, rfl⟩)
  go_rounds 4
  go_returns
  exact ⟨rfl, by (repeat' (first | with_reducible exact Below.refl _ _ | (with_reducible refine balloc ?_ _) | (with_reducible refine bset ?_ ?_ _) | (with_reducible refine bdrew ?_) | (with_reducible refine bdrewN ?_ _) | (with_reducible refine bstep ?_ (by with_reducible assumption)) | (with_reducible refine bgrow ?_ (by with_reducible assumption) (by omega)) | (simp; done) | (simp; omega)))⟩
theorem impl_FormatRights1 (w : World) : Calls Try.prog 19 #[.int .i64 1] w fun e w' => e = .returned (.string ⟨#[114, 45, 45]⟩) ∧ Below w.heap.size w w' := by
  obtain ⟨_, _, _, _, _, _, _, _⟩ := and1
  have mk1 := fun C i v => mark_store w C 5 (3, 4) i v
  have mk2 := fun C j => World.cell?_alloc_mark w C 5 (3, 4) j
  have mk3 := fun C j => World.frozen?_alloc_mark w C 5 3 4 j
  have kd := rwx_str w
  have hr : withinB 1 8 = true := rfl
  have kc := fun (w : World) (C : Array Value) (n c : Nat) => Lib.run_convert_bytes_const (P := Try.prog) w 22 5 C n c Try.underlying22 Try.underlying5
  go_enter Try.func19, Try.ntmps19
  go_wp2_with (go_at_call 17; refine (impl_RightsValid _ _).mono ?_; rintro e w' ⟨rfl, rfl⟩)
  go_rounds 4
  go_returns
  exact ⟨rfl, by (repeat' (first | with_reducible exact Below.refl _ _ | (with_reducible refine balloc ?_ _) | (with_reducible refine bset ?_ ?_ _) | (with_reducible refine bdrew ?_) | (with_reducible refine bdrewN ?_ _) | (with_reducible refine bstep ?_ (by with_reducible assumption)) | (with_reducible refine bgrow ?_ (by with_reducible assumption) (by omega)) | (simp; done) | (simp; omega)))⟩
theorem impl_FormatRights2 (w : World) : Calls Try.prog 19 #[.int .i64 2] w fun e w' => e = .returned (.string ⟨#[45, 119, 45]⟩) ∧ Below w.heap.size w w' := by
  obtain ⟨_, _, _, _, _, _, _, _⟩ := and1
  have mk1 := fun C i v => mark_store w C 5 (3, 4) i v
  have mk2 := fun C j => World.cell?_alloc_mark w C 5 (3, 4) j
  have mk3 := fun C j => World.frozen?_alloc_mark w C 5 3 4 j
  have kd := rwx_str w
  have hr : withinB 2 8 = true := rfl
  have kc := fun (w : World) (C : Array Value) (n c : Nat) => Lib.run_convert_bytes_const (P := Try.prog) w 22 5 C n c Try.underlying22 Try.underlying5
  go_enter Try.func19, Try.ntmps19
  go_wp2_with (go_at_call 17; refine (impl_RightsValid _ _).mono ?_; rintro e w' ⟨rfl, rfl⟩)
  go_rounds 4
  go_returns
  exact ⟨rfl, by (repeat' (first | with_reducible exact Below.refl _ _ | (with_reducible refine balloc ?_ _) | (with_reducible refine bset ?_ ?_ _) | (with_reducible refine bdrew ?_) | (with_reducible refine bdrewN ?_ _) | (with_reducible refine bstep ?_ (by with_reducible assumption)) | (with_reducible refine bgrow ?_ (by with_reducible assumption) (by omega)) | (simp; done) | (simp; omega)))⟩
theorem impl_FormatRights3 (w : World) : Calls Try.prog 19 #[.int .i64 3] w fun e w' => e = .returned (.string ⟨#[114, 119, 45]⟩) ∧ Below w.heap.size w w' := by
  obtain ⟨_, _, _, _, _, _, _, _⟩ := and1
  have mk1 := fun C i v => mark_store w C 5 (3, 4) i v
  have mk2 := fun C j => World.cell?_alloc_mark w C 5 (3, 4) j
  have mk3 := fun C j => World.frozen?_alloc_mark w C 5 3 4 j
  have kd := rwx_str w
  have hr : withinB 3 8 = true := rfl
  have kc := fun (w : World) (C : Array Value) (n c : Nat) => Lib.run_convert_bytes_const (P := Try.prog) w 22 5 C n c Try.underlying22 Try.underlying5
  go_enter Try.func19, Try.ntmps19
  go_wp2_with (go_at_call 17; refine (impl_RightsValid _ _).mono ?_; rintro e w' ⟨rfl, rfl⟩)
  go_rounds 4
  go_returns
  exact ⟨rfl, by (repeat' (first | with_reducible exact Below.refl _ _ | (with_reducible refine balloc ?_ _) | (with_reducible refine bset ?_ ?_ _) | (with_reducible refine bdrew ?_) | (with_reducible refine bdrewN ?_ _) | (with_reducible refine bstep ?_ (by with_reducible assumption)) | (with_reducible refine bgrow ?_ (by with_reducible assumption) (by omega)) | (simp; done) | (simp; omega)))⟩
theorem impl_FormatRights4 (w : World) : Calls Try.prog 19 #[.int .i64 4] w fun e w' => e = .returned (.string ⟨#[45, 45, 120]⟩) ∧ Below w.heap.size w w' := by
  obtain ⟨_, _, _, _, _, _, _, _⟩ := and1
  have mk1 := fun C i v => mark_store w C 5 (3, 4) i v
  have mk2 := fun C j => World.cell?_alloc_mark w C 5 (3, 4) j
  have mk3 := fun C j => World.frozen?_alloc_mark w C 5 3 4 j
  have kd := rwx_str w
  have hr : withinB 4 8 = true := rfl
  have kc := fun (w : World) (C : Array Value) (n c : Nat) => Lib.run_convert_bytes_const (P := Try.prog) w 22 5 C n c Try.underlying22 Try.underlying5
  go_enter Try.func19, Try.ntmps19
  go_wp2_with (go_at_call 17; refine (impl_RightsValid _ _).mono ?_; rintro e w' ⟨rfl, rfl⟩)
  go_rounds 4
  go_returns
  exact ⟨rfl, by (repeat' (first | with_reducible exact Below.refl _ _ | (with_reducible refine balloc ?_ _) | (with_reducible refine bset ?_ ?_ _) | (with_reducible refine bdrew ?_) | (with_reducible refine bdrewN ?_ _) | (with_reducible refine bstep ?_ (by with_reducible assumption)) | (with_reducible refine bgrow ?_ (by with_reducible assumption) (by omega)) | (simp; done) | (simp; omega)))⟩
theorem impl_FormatRights5 (w : World) : Calls Try.prog 19 #[.int .i64 5] w fun e w' => e = .returned (.string ⟨#[114, 45, 120]⟩) ∧ Below w.heap.size w w' := by
  obtain ⟨_, _, _, _, _, _, _, _⟩ := and1
  have mk1 := fun C i v => mark_store w C 5 (3, 4) i v
  have mk2 := fun C j => World.cell?_alloc_mark w C 5 (3, 4) j
  have mk3 := fun C j => World.frozen?_alloc_mark w C 5 3 4 j
  have kd := rwx_str w
  have hr : withinB 5 8 = true := rfl
  have kc := fun (w : World) (C : Array Value) (n c : Nat) => Lib.run_convert_bytes_const (P := Try.prog) w 22 5 C n c Try.underlying22 Try.underlying5
  go_enter Try.func19, Try.ntmps19
  go_wp2_with (go_at_call 17; refine (impl_RightsValid _ _).mono ?_; rintro e w' ⟨rfl, rfl⟩)
  go_rounds 4
  go_returns
  exact ⟨rfl, by (repeat' (first | with_reducible exact Below.refl _ _ | (with_reducible refine balloc ?_ _) | (with_reducible refine bset ?_ ?_ _) | (with_reducible refine bdrew ?_) | (with_reducible refine bdrewN ?_ _) | (with_reducible refine bstep ?_ (by with_reducible assumption)) | (with_reducible refine bgrow ?_ (by with_reducible assumption) (by omega)) | (simp; done) | (simp; omega)))⟩
theorem impl_FormatRights6 (w : World) : Calls Try.prog 19 #[.int .i64 6] w fun e w' => e = .returned (.string ⟨#[45, 119, 120]⟩) ∧ Below w.heap.size w w' := by
  obtain ⟨_, _, _, _, _, _, _, _⟩ := and1
  have mk1 := fun C i v => mark_store w C 5 (3, 4) i v
  have mk2 := fun C j => World.cell?_alloc_mark w C 5 (3, 4) j
  have mk3 := fun C j => World.frozen?_alloc_mark w C 5 3 4 j
  have kd := rwx_str w
  have hr : withinB 6 8 = true := rfl
  have kc := fun (w : World) (C : Array Value) (n c : Nat) => Lib.run_convert_bytes_const (P := Try.prog) w 22 5 C n c Try.underlying22 Try.underlying5
  go_enter Try.func19, Try.ntmps19
  go_wp2_with (go_at_call 17; refine (impl_RightsValid _ _).mono ?_; rintro e w' ⟨rfl, rfl⟩)
  go_rounds 4
  go_returns
  exact ⟨rfl, by (repeat' (first | with_reducible exact Below.refl _ _ | (with_reducible refine balloc ?_ _) | (with_reducible refine bset ?_ ?_ _) | (with_reducible refine bdrew ?_) | (with_reducible refine bdrewN ?_ _) | (with_reducible refine bstep ?_ (by with_reducible assumption)) | (with_reducible refine bgrow ?_ (by with_reducible assumption) (by omega)) | (simp; done) | (simp; omega)))⟩
theorem impl_FormatRights7 (w : World) : Calls Try.prog 19 #[.int .i64 7] w fun e w' => e = .returned (.string ⟨#[114, 119, 120]⟩) ∧ Below w.heap.size w w' := by
  obtain ⟨_, _, _, _, _, _, _, _⟩ := and1
  have mk1 := fun C i v => mark_store w C 5 (3, 4) i v
  have mk2 := fun C j => World.cell?_alloc_mark w C 5 (3, 4) j
  have mk3 := fun C j => World.frozen?_alloc_mark w C 5 3 4 j
  have kd := rwx_str w
  have hr : withinB 7 8 = true := rfl
  have kc := fun (w : World) (C : Array Value) (n c : Nat) => Lib.run_convert_bytes_const (P := Try.prog) w 22 5 C n c Try.underlying22 Try.underlying5
  go_enter Try.func19, Try.ntmps19
  go_wp2_with (go_at_call 17; refine (impl_RightsValid _ _).mono ?_; rintro e w' ⟨rfl, rfl⟩)
  go_rounds 4
  go_returns
  exact ⟨rfl, by (repeat' (first | with_reducible exact Below.refl _ _ | (with_reducible refine balloc ?_ _) | (with_reducible refine bset ?_ ?_ _) | (with_reducible refine bdrew ?_) | (with_reducible refine bdrewN ?_ _) | (with_reducible refine bstep ?_ (by with_reducible assumption)) | (with_reducible refine bgrow ?_ (by with_reducible assumption) (by omega)) | (simp; done) | (simp; omega)))⟩
theorem impl_FormatRights (r : Int) (w : World) : Calls Try.prog 19 #[.int .i64 r] w fun e w' => e = .returned (.string (frT r)) ∧ Below w.heap.size w w' := by
  by_cases hr : withinB r 8 = true
  · obtain ⟨q1, q2⟩ := withinB_iff.1 hr
    clear hr
    rcases (show r = 0 ∨ r = 1 ∨ r = 2 ∨ r = 3 ∨ r = 4 ∨ r = 5 ∨ r = 6 ∨ r = 7 from by omega) with h | h | h | h | h | h | h | h <;> subst h
    · exact impl_FormatRights0 w
    · exact impl_FormatRights1 w
    · exact impl_FormatRights2 w
    · exact impl_FormatRights3 w
    · exact impl_FormatRights4 w
    · exact impl_FormatRights5 w
    · exact impl_FormatRights6 w
    · exact impl_FormatRights7 w
  · have hr' : withinB r 8 = false := by simpa using hr
    have hb := withinB_not.1 hr'
    have e : frT r = ⟨#[]⟩ := by
      unfold frT
      rw [if_neg (by omega), if_neg (by omega), if_neg (by omega), if_neg (by omega), if_neg (by omega), if_neg (by omega), if_neg (by omega), if_neg (by omega)]
    rw [e]; clear e hr hb
    go_enter Try.func19, Try.ntmps19
    go_wp2_with (go_at_call 17; refine (impl_RightsValid _ _).mono ?_; rintro e w' ⟨rfl, rfl⟩)
    go_returns
    exact ⟨rfl, by (repeat' (first | with_reducible exact Below.refl _ _ | (with_reducible refine balloc ?_ _) | (with_reducible refine bset ?_ ?_ _) | (with_reducible refine bdrew ?_) | (with_reducible refine bdrewN ?_ _) | (with_reducible refine bstep ?_ (by with_reducible assumption)) | (with_reducible refine bgrow ?_ (by with_reducible assumption) (by omega)) | (simp; done) | (simp; omega)))⟩
theorem spec_FormatRights0 (w : World) : Calls Try.prog 20 #[.int .i64 0] w fun e w' => e = .returned (.string ⟨#[45, 45, 45]⟩) ∧ Below w.heap.size w w' := by
  obtain ⟨_, _, _, _, _, _, _, _⟩ := and2
  have hr : withinB 0 8 = true := rfl
  go_enter Try.func20, Try.ntmps20
  go_wp2_with (go_at_call 21; refine (spec_RightsValid _ _).mono ?_; rintro e w' ⟨rfl, rfl⟩)
  go_rounds 4
  go_returns
  exact ⟨rfl, by (repeat' (first | with_reducible exact Below.refl _ _ | (with_reducible refine balloc ?_ _) | (with_reducible refine bset ?_ ?_ _) | (with_reducible refine bdrew ?_) | (with_reducible refine bdrewN ?_ _) | (with_reducible refine bstep ?_ (by with_reducible assumption)) | (with_reducible refine bgrow ?_ (by with_reducible assumption) (by omega)) | (simp; done) | (simp; omega)))⟩
theorem spec_FormatRights1 (w : World) : Calls Try.prog 20 #[.int .i64 1] w fun e w' => e = .returned (.string ⟨#[114, 45, 45]⟩) ∧ Below w.heap.size w w' := by
  obtain ⟨_, _, _, _, _, _, _, _⟩ := and2
  have hr : withinB 1 8 = true := rfl
  go_enter Try.func20, Try.ntmps20
  go_wp2_with (go_at_call 21; refine (spec_RightsValid _ _).mono ?_; rintro e w' ⟨rfl, rfl⟩)
  go_rounds 4
  go_returns
  exact ⟨rfl, by (repeat' (first | with_reducible exact Below.refl _ _ | (with_reducible refine balloc ?_ _) | (with_reducible refine bset ?_ ?_ _) | (with_reducible refine bdrew ?_) | (with_reducible refine bdrewN ?_ _) | (with_reducible refine bstep ?_ (by with_reducible assumption)) | (with_reducible refine bgrow ?_ (by with_reducible assumption) (by omega)) | (simp; done) | (simp; omega)))⟩
theorem spec_FormatRights2 (w : World) : Calls Try.prog 20 #[.int .i64 2] w fun e w' => e = .returned (.string ⟨#[45, 119, 45]⟩) ∧ Below w.heap.size w w' := by
  obtain ⟨_, _, _, _, _, _, _, _⟩ := and2
  have hr : withinB 2 8 = true := rfl
  go_enter Try.func20, Try.ntmps20
  go_wp2_with (go_at_call 21; refine (spec_RightsValid _ _).mono ?_; rintro e w' ⟨rfl, rfl⟩)
  go_rounds 4
  go_returns
  exact ⟨rfl, by (repeat' (first | with_reducible exact Below.refl _ _ | (with_reducible refine balloc ?_ _) | (with_reducible refine bset ?_ ?_ _) | (with_reducible refine bdrew ?_) | (with_reducible refine bdrewN ?_ _) | (with_reducible refine bstep ?_ (by with_reducible assumption)) | (with_reducible refine bgrow ?_ (by with_reducible assumption) (by omega)) | (simp; done) | (simp; omega)))⟩
theorem spec_FormatRights3 (w : World) : Calls Try.prog 20 #[.int .i64 3] w fun e w' => e = .returned (.string ⟨#[114, 119, 45]⟩) ∧ Below w.heap.size w w' := by
  obtain ⟨_, _, _, _, _, _, _, _⟩ := and2
  have hr : withinB 3 8 = true := rfl
  go_enter Try.func20, Try.ntmps20
  go_wp2_with (go_at_call 21; refine (spec_RightsValid _ _).mono ?_; rintro e w' ⟨rfl, rfl⟩)
  go_rounds 4
  go_returns
  exact ⟨rfl, by (repeat' (first | with_reducible exact Below.refl _ _ | (with_reducible refine balloc ?_ _) | (with_reducible refine bset ?_ ?_ _) | (with_reducible refine bdrew ?_) | (with_reducible refine bdrewN ?_ _) | (with_reducible refine bstep ?_ (by with_reducible assumption)) | (with_reducible refine bgrow ?_ (by with_reducible assumption) (by omega)) | (simp; done) | (simp; omega)))⟩
theorem spec_FormatRights4 (w : World) : Calls Try.prog 20 #[.int .i64 4] w fun e w' => e = .returned (.string ⟨#[45, 45, 120]⟩) ∧ Below w.heap.size w w' := by
  obtain ⟨_, _, _, _, _, _, _, _⟩ := and2
  have hr : withinB 4 8 = true := rfl
  go_enter Try.func20, Try.ntmps20
  go_wp2_with (go_at_call 21; refine (spec_RightsValid _ _).mono ?_; rintro e w' ⟨rfl, rfl⟩)
  go_rounds 4
  go_returns
  exact ⟨rfl, by (repeat' (first | with_reducible exact Below.refl _ _ | (with_reducible refine balloc ?_ _) | (with_reducible refine bset ?_ ?_ _) | (with_reducible refine bdrew ?_) | (with_reducible refine bdrewN ?_ _) | (with_reducible refine bstep ?_ (by with_reducible assumption)) | (with_reducible refine bgrow ?_ (by with_reducible assumption) (by omega)) | (simp; done) | (simp; omega)))⟩
theorem spec_FormatRights5 (w : World) : Calls Try.prog 20 #[.int .i64 5] w fun e w' => e = .returned (.string ⟨#[114, 45, 120]⟩) ∧ Below w.heap.size w w' := by
  obtain ⟨_, _, _, _, _, _, _, _⟩ := and2
  have hr : withinB 5 8 = true := rfl
  go_enter Try.func20, Try.ntmps20
  go_wp2_with (go_at_call 21; refine (spec_RightsValid _ _).mono ?_; rintro e w' ⟨rfl, rfl⟩)
  go_rounds 4
  go_returns
  exact ⟨rfl, by (repeat' (first | with_reducible exact Below.refl _ _ | (with_reducible refine balloc ?_ _) | (with_reducible refine bset ?_ ?_ _) | (with_reducible refine bdrew ?_) | (with_reducible refine bdrewN ?_ _) | (with_reducible refine bstep ?_ (by with_reducible assumption)) | (with_reducible refine bgrow ?_ (by with_reducible assumption) (by omega)) | (simp; done) | (simp; omega)))⟩
theorem spec_FormatRights6 (w : World) : Calls Try.prog 20 #[.int .i64 6] w fun e w' => e = .returned (.string ⟨#[45, 119, 120]⟩) ∧ Below w.heap.size w w' := by
  obtain ⟨_, _, _, _, _, _, _, _⟩ := and2
  have hr : withinB 6 8 = true := rfl
  go_enter Try.func20, Try.ntmps20
  go_wp2_with (go_at_call 21; refine (spec_RightsValid _ _).mono ?_; rintro e w' ⟨rfl, rfl⟩)
  go_rounds 4
  go_returns
  exact ⟨rfl, by (repeat' (first | with_reducible exact Below.refl _ _ | (with_reducible refine balloc ?_ _) | (with_reducible refine bset ?_ ?_ _) | (with_reducible refine bdrew ?_) | (with_reducible refine bdrewN ?_ _) | (with_reducible refine bstep ?_ (by with_reducible assumption)) | (with_reducible refine bgrow ?_ (by with_reducible assumption) (by omega)) | (simp; done) | (simp; omega)))⟩
theorem spec_FormatRights7 (w : World) : Calls Try.prog 20 #[.int .i64 7] w fun e w' => e = .returned (.string ⟨#[114, 119, 120]⟩) ∧ Below w.heap.size w w' := by
  obtain ⟨_, _, _, _, _, _, _, _⟩ := and2
  have hr : withinB 7 8 = true := rfl
  go_enter Try.func20, Try.ntmps20
  go_wp2_with (go_at_call 21; refine (spec_RightsValid _ _).mono ?_; rintro e w' ⟨rfl, rfl⟩)
  go_rounds 4
  go_returns
  exact ⟨rfl, by (repeat' (first | with_reducible exact Below.refl _ _ | (with_reducible refine balloc ?_ _) | (with_reducible refine bset ?_ ?_ _) | (with_reducible refine bdrew ?_) | (with_reducible refine bdrewN ?_ _) | (with_reducible refine bstep ?_ (by with_reducible assumption)) | (with_reducible refine bgrow ?_ (by with_reducible assumption) (by omega)) | (simp; done) | (simp; omega)))⟩
theorem spec_FormatRights (r : Int) (w : World) : Calls Try.prog 20 #[.int .i64 r] w fun e w' => e = .returned (.string (frT r)) ∧ Below w.heap.size w w' := by
  by_cases hr : withinB r 8 = true
  · obtain ⟨q1, q2⟩ := withinB_iff.1 hr
    clear hr
    rcases (show r = 0 ∨ r = 1 ∨ r = 2 ∨ r = 3 ∨ r = 4 ∨ r = 5 ∨ r = 6 ∨ r = 7 from by omega) with h | h | h | h | h | h | h | h <;> subst h
    · exact spec_FormatRights0 w
    · exact spec_FormatRights1 w
    · exact spec_FormatRights2 w
    · exact spec_FormatRights3 w
    · exact spec_FormatRights4 w
    · exact spec_FormatRights5 w
    · exact spec_FormatRights6 w
    · exact spec_FormatRights7 w
  · have hr' : withinB r 8 = false := by simpa using hr
    have hb := withinB_not.1 hr'
    have e : frT r = ⟨#[]⟩ := by
      unfold frT
      rw [if_neg (by omega), if_neg (by omega), if_neg (by omega), if_neg (by omega), if_neg (by omega), if_neg (by omega), if_neg (by omega), if_neg (by omega)]
    rw [e]; clear e hr hb
    go_enter Try.func20, Try.ntmps20
    go_wp2_with (go_at_call 21; refine (spec_RightsValid _ _).mono ?_; rintro e w' ⟨rfl, rfl⟩)
    go_returns
    exact ⟨rfl, by (repeat' (first | with_reducible exact Below.refl _ _ | (with_reducible refine balloc ?_ _) | (with_reducible refine bset ?_ ?_ _) | (with_reducible refine bdrew ?_) | (with_reducible refine bdrewN ?_ _) | (with_reducible refine bstep ?_ (by with_reducible assumption)) | (with_reducible refine bgrow ?_ (by with_reducible assumption) (by omega)) | (simp; done) | (simp; omega)))⟩
end Go.Proofs.Ythehcknkehmkkaa
