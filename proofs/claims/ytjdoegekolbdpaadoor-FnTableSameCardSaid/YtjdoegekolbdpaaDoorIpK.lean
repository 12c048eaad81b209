/- Laws' helpers on keys and tables, at equal arguments. Asked: at most 1048576 keys, frames and buckets. -/
import Derived.Test.YtjdoegekolbdpaaDoorKoS
import Derived.Test.YtjdoegekolbdpaaDoorSame
import Derived.BigQuiet
namespace Go.Proofs.YtjdoegekolbdpaaDoor
set_option linter.unusedVariables false
open Go.ChangeShapes Go.WideShapes Go.ChangeAt Go.RowKit
theorem laws_ipKeys (A B : Option Addr) (n c d l1 h1 l2 h2 : Nat) (ks : List (Int × Int)) (w : World) (h : Sl w l1 h1 44 2 A n (kcells ks)) (h' : Sl w l2 h2 44 2 B n (kcells ks)) (hn : n ≤ 1048576) :
    Calls Tryd.prog 23 #[.slice A n c, .slice B n d] w fun e w' => e = .returned (.bool true) ∧ Below w.heap.size w w' := by
  have H := Lib.hid h
  have H' := Lib.hid h'
  clear h h'
  go_enter Tryd.func23, Tryd.ntmps23
  go_wp2
  go_loopw [5] (fun i wr => ∃ k : Nat, k ≤ n ∧ i = .int .i64 k ∧ Below w.heap.size w wr) (fun i _ => n - (intOf i).toNat)
  case atStart => exact ⟨0, Nat.zero_le _, rfl, by (repeat' (first | with_reducible exact Below.refl _ _ | (with_reducible refine balloc ?_ _) | (with_reducible refine bset ?_ ?_ _) | (with_reducible refine bdrew ?_) | (with_reducible refine bdrewN ?_ _) | (with_reducible refine bstep ?_ (by with_reducible assumption)) | (with_reducible refine bgrow ?_ (by with_reducible assumption) (by omega)) | (simp; done) | (simp; omega)))⟩
  case round =>
    obtain ⟨k, hk, rfl, hb⟩ := hrel
    by_cases hlt : k < n
    · obtain ⟨g, rfl, _, _, hg1, hg2, hg3, _⟩ := (H.out.below hb).key hlt
      obtain ⟨g', rfl, _, _, hg4, hg5, hg6, _⟩ := (H'.out.below hb).key hlt
      generalize ks.getD k (0, 0) = z at *
      obtain ⟨z1, z2⟩ := z
      simp only [] at hg2 hg3 hg5 hg6
      have i1 : (0 : Int) ≤ (k : Int) := by omega
      have i2 : (k : Int) < (n : Int) := by omega
      go_wp2
      go_quiet (fail)
      go_wp2
      all_goals
        go_roundw
        case rel => exact ⟨k + 1, by omega, by go_num, by (repeat' (first | with_reducible exact Below.refl _ _ | (with_reducible refine balloc ?_ _) | (with_reducible refine bset ?_ ?_ _) | (with_reducible refine bdrew ?_) | (with_reducible refine bdrewN ?_ _) | (with_reducible refine bstep ?_ (by with_reducible assumption)) | (with_reducible refine bgrow ?_ (by with_reducible assumption) (by omega)) | (simp; done) | (simp; omega)))⟩
        case measure => simp [intOf]; omega
    · go_wp2
      go_ret
      exact ⟨rfl, hb⟩
theorem impl_TsE (A B A' B' : Option Addr) (ca cb ca' cb' l1 h1 l2 h2 : Nat) (bk : List Int) (fs : List Fr) (w : World) (h : Tb w l1 h1 A B bk fs) (h' : Tb w l2 h2 A' B' bk fs) (hn : bk.length ≤ 1048576) (hn2 : fs.length ≤ 1048576) :
    Calls Tryd.prog 13 #[.agg #[.slice A bk.length ca, .slice B fs.length cb], .agg #[.slice A' bk.length ca', .slice B' fs.length cb']] w fun e w' => e = .returned (.bool true) ∧ Below w.heap.size w w' := by
  have h := impl_TableSame A B A' B' ca cb ca' cb' l1 h1 l2 h2 bk bk fs fs w h h' hn hn2 hn hn2
  rw [show tsB bk bk fs fs = true from decide_eq_true ⟨rfl, rfl⟩] at h
  exact h
end Go.Proofs.YtjdoegekolbdpaaDoor
