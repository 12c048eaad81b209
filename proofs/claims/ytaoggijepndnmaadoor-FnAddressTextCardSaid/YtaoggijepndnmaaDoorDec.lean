/- The reference's decimal text of a number. Asked: 0 to 999. -/
import Derived.Test.YtaoggijepndnmaaDoorBase
import Derived.Lib.ItoaNum
namespace Go.Proofs.YtaoggijepndnmaaDoor
set_option linter.unusedVariables false
open Go.ChangeShapes Go.WideShapes Go.ChangeAt Go.RowKit
/-- the text of a number -/
def decS (n : Nat) : ByteArray := ⟨(Lib.decDigits n).toArray⟩
theorem u8_add (a : Nat) : UInt8.ofNat (48 + a) = 48 + UInt8.ofNat a := by rw [UInt8.ofNat_add]; rfl
theorem decS_one {n : Nat} (h : n < 10) : decS n = ByteArray.empty.push (48 + UInt8.ofNat n) ++ ⟨#[]⟩ := by
  unfold decS
  rw [Lib.decDigits_one h, u8_add]
  apply ByteArray.ext
  simp
theorem decS_two {n : Nat} (h1 : ¬ n < 10) (h2 : n < 100) : decS n = ByteArray.empty.push (48 + UInt8.ofNat (n / 10)) ++ (ByteArray.empty.push (48 + UInt8.ofNat (n % 10)) ++ ⟨#[]⟩) := by
  unfold decS
  rw [Lib.decDigits_two h1 h2, u8_add, u8_add]
  apply ByteArray.ext
  simp
theorem decS_three {n : Nat} (h1 : ¬ n < 100) (h2 : n < 1000) : decS n = ByteArray.empty.push (48 + UInt8.ofNat (n / 10 / 10)) ++ (ByteArray.empty.push (48 + UInt8.ofNat (n / 10 % 10)) ++ (ByteArray.empty.push (48 + UInt8.ofNat (n % 10)) ++ ⟨#[]⟩)) := by
  unfold decS
  rw [Lib.decDigits, dif_neg (by omega), Lib.decDigits_two (by omega) (by omega), u8_add, u8_add, u8_add]
  apply ByteArray.ext
  simp
theorem one_str (w : World) (a : Int) : (convert 28 9 (.slice (some ⟨w.heap.size, 0, none⟩) 1 1)).run Tryd.prog (w.alloc (.cells #[.int .u8 a] 5)) = .ok (.string (ByteArray.empty.push (UInt8.ofNat a.toNat))) (w.alloc (.cells #[.int .u8 a] 5)) := by
  refine bytes_str_at _ _ _ 5 _ _ _ [a] Tryd.underlying28 Tryd.underlying5 Tryd.underlying9 rfl ?_
  intro j v hj
  rcases j with _ | j
  · simp at hj
    subst hj
    rw [show (⟨w.heap.size, 0, none⟩ : Addr).add 0 = ⟨w.heap.size, 0, none⟩ by simp [Addr.add], World.cell?_alloc_new]
    rfl
  · simp at hj
set_option maxHeartbeats 1000000 in
theorem spec_l12Dec (n : Nat) (hn : n < 1000) (w : World) : Calls Tryd.prog 25 #[.int .i64 (n : Int)] w fun e w' => e = .returned (.string (decS n)) ∧ Below w.heap.size w w' := by
  have h0 : ¬ (n : Int) < 0 := by omega
  have h1 : ¬ (n : Int) < -9223372036854775807 := by omega
  rcases (show n < 10 ∨ 10 ≤ n ∧ n < 100 ∨ 100 ≤ n by omega) with h | h | h
  · have h2 : ¬ (9 : Int) < (n : Int) := by omega
    have kd := one_str
    go_enter Tryd.func25, Tryd.ntmps25
    go_wp2
    go_rounds 1
    refine bodyPost_ret (v := .string (ByteArray.empty.push (48 + UInt8.ofNat n) ++ ⟨#[]⟩)) (by simp [results, Tryd.results25, go_sem, *]) rfl ?_
    exact ⟨by rw [decS_one h], by (repeat' (first | with_reducible exact Below.refl _ _ | (with_reducible refine balloc ?_ _) | (with_reducible refine bset ?_ ?_ _) | (with_reducible refine bdrew ?_) | (with_reducible refine bdrewN ?_ _) | (with_reducible refine bstep ?_ (by with_reducible assumption)) | (with_reducible refine bgrow ?_ (by with_reducible assumption) (by omega)) | (simp; done) | (simp; omega)))⟩
  · obtain ⟨a, ha⟩ : ∃ a, n / 10 = a := ⟨_, rfl⟩
    obtain ⟨b, hb⟩ : ∃ b, n % 10 = b := ⟨_, rfl⟩
    have hd := decS_two (n := n) (by omega) (by omega)
    rw [ha, hb] at hd
    have HD := Lib.hid hd
    have h2 : (9 : Int) < (n : Int) := by omega
    have h3 : ¬ (9 : Int) < (a : Int) := by omega
    have t1 : (n : Int).tmod 10 = (b : Int) := by rw [Int.tmod_eq_emod_of_nonneg (by omega)]; omega
    have t2 : (n : Int).tdiv 10 = (a : Int) := by rw [Int.tdiv_eq_ediv_of_nonneg (by omega)]; omega
    have b1 : b < 10 := by omega
    have a1 : a < 10 := by omega
    have kd := one_str
    have kd1 : ∀ (o : Obj) (a : Int), (convert 28 9 (.slice (some ⟨w.heap.size + 1, 0, none⟩) 1 1)).run Tryd.prog ((w.alloc o).alloc (.cells #[.int .u8 a] 5)) = .ok (.string (ByteArray.empty.push (UInt8.ofNat a.toNat))) ((w.alloc o).alloc (.cells #[.int .u8 a] 5)) := fun o a => by have h := one_str (w.alloc o) a; rwa [World.size_alloc] at h
    clear hd ha hb
    go_enter Tryd.func25, Tryd.ntmps25
    go_wp2
    go_rounds 2
    refine bodyPost_ret (v := .string (ByteArray.empty.push (48 + UInt8.ofNat a) ++ (ByteArray.empty.push (48 + UInt8.ofNat b) ++ ⟨#[]⟩))) (by simp [results, Tryd.results25, go_sem, *]) rfl ?_
    exact ⟨by rw [HD.out], by (repeat' (first | with_reducible exact Below.refl _ _ | (with_reducible refine balloc ?_ _) | (with_reducible refine bset ?_ ?_ _) | (with_reducible refine bdrew ?_) | (with_reducible refine bdrewN ?_ _) | (with_reducible refine bstep ?_ (by with_reducible assumption)) | (with_reducible refine bgrow ?_ (by with_reducible assumption) (by omega)) | (simp; done) | (simp; omega)))⟩
  · obtain ⟨a, ha⟩ : ∃ a, n / 10 = a := ⟨_, rfl⟩
    obtain ⟨b, hb⟩ : ∃ b, n % 10 = b := ⟨_, rfl⟩
    obtain ⟨c, hc⟩ : ∃ c, a / 10 = c := ⟨_, rfl⟩
    obtain ⟨d, hd⟩ : ∃ d, a % 10 = d := ⟨_, rfl⟩
    have hz := decS_three (n := n) (by omega) (by omega)
    rw [ha, hb, hc, hd] at hz
    have HD := Lib.hid hz
    have h2 : (9 : Int) < (n : Int) := by omega
    have h3 : (9 : Int) < (a : Int) := by omega
    have h4 : ¬ (9 : Int) < (c : Int) := by omega
    have t1 : (n : Int).tmod 10 = (b : Int) := by rw [Int.tmod_eq_emod_of_nonneg (by omega)]; omega
    have t2 : (n : Int).tdiv 10 = (a : Int) := by rw [Int.tdiv_eq_ediv_of_nonneg (by omega)]; omega
    have t3 : (a : Int).tmod 10 = (d : Int) := by rw [Int.tmod_eq_emod_of_nonneg (by omega)]; omega
    have t4 : (a : Int).tdiv 10 = (c : Int) := by rw [Int.tdiv_eq_ediv_of_nonneg (by omega)]; omega
    have b1 : b < 10 := by omega
    have c1 : c < 10 := by omega
    have d1 : d < 10 := by omega
    have a1 : a < 100 := by omega
    have kd := one_str
    have kd1 : ∀ (o : Obj) (a : Int), (convert 28 9 (.slice (some ⟨w.heap.size + 1, 0, none⟩) 1 1)).run Tryd.prog ((w.alloc o).alloc (.cells #[.int .u8 a] 5)) = .ok (.string (ByteArray.empty.push (UInt8.ofNat a.toNat))) ((w.alloc o).alloc (.cells #[.int .u8 a] 5)) := fun o a => by have h := one_str (w.alloc o) a; rwa [World.size_alloc] at h
    have kd2 : ∀ (o o' : Obj) (a : Int), (convert 28 9 (.slice (some ⟨w.heap.size + 1 + 1, 0, none⟩) 1 1)).run Tryd.prog (((w.alloc o).alloc o').alloc (.cells #[.int .u8 a] 5)) = .ok (.string (ByteArray.empty.push (UInt8.ofNat a.toNat))) (((w.alloc o).alloc o').alloc (.cells #[.int .u8 a] 5)) := fun o o' a => by have h := one_str ((w.alloc o).alloc o') a; rwa [World.size_alloc, World.size_alloc] at h
    clear hz ha hb hc hd
    go_enter Tryd.func25, Tryd.ntmps25
    go_wp2
    go_rounds 3
    refine bodyPost_ret (v := .string (ByteArray.empty.push (48 + UInt8.ofNat c) ++ (ByteArray.empty.push (48 + UInt8.ofNat d) ++ (ByteArray.empty.push (48 + UInt8.ofNat b) ++ ⟨#[]⟩)))) (by simp [results, Tryd.results25, go_sem, *]) rfl ?_
    exact ⟨by rw [HD.out], by (repeat' (first | with_reducible exact Below.refl _ _ | (with_reducible refine balloc ?_ _) | (with_reducible refine bset ?_ ?_ _) | (with_reducible refine bdrew ?_) | (with_reducible refine bdrewN ?_ _) | (with_reducible refine bstep ?_ (by with_reducible assumption)) | (with_reducible refine bgrow ?_ (by with_reducible assumption) (by omega)) | (simp; done) | (simp; omega)))⟩
end Go.Proofs.YtaoggijepndnmaaDoor
