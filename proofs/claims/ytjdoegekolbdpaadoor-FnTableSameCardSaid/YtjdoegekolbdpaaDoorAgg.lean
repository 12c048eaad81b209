/- Contracts of functions on tables, with the table's value written out. Asked: at most 1048576 frames and buckets; for the program: the variable 'free' holds what its initialiser lays. -/
import Derived.Test.YtjdoegekolbdpaaDoorTvI
import Derived.Test.YtjdoegekolbdpaaDoorTabQ
import Derived.Test.YtjdoegekolbdpaaDoorTabIn
namespace Go.Proofs.YtjdoegekolbdpaaDoor
set_option linter.unusedVariables false
open Go.ChangeShapes Go.WideShapes Go.ChangeAt Go.RowKit
theorem Tb.set_ {w : World} {lo hi : Nat} {A B : Option Addr} {bk : List Int} {fs : List Fr} (h : Tb w lo hi A B bk fs) {p : Addr} (hp : hi ≤ p.block ∨ p.block < lo) (v : Value) : Tb (w.setCell p v) lo hi A B bk fs := ⟨h.1.set_ hp v, h.2.set_ hp v⟩
theorem Tb.drew {w : World} {lo hi : Nat} {A B : Option Addr} {bk : List Int} {fs : List Fr} (h : Tb w lo hi A B bk fs) : Tb w.drew lo hi A B bk fs := h
theorem toTabA (A B : Option Addr) (nb ca nf cb : Nat) (bk : List Int) (fs : List Fr) (w : World) (h : TIn w A nb B nf bk fs) (hn : nb ≤ 1048576) (hn2 : nf ≤ 1048576) :
    Calls Tryd.prog 31 #[.agg #[.slice A nb ca, .slice B nf cb]] w fun e w' => ∃ ga gb, e = .returned (.agg #[.slice (some ⟨ga, 0, none⟩) bk.length bk.length, .slice (some ⟨gb, 0, none⟩) fs.length fs.length]) ∧
      Tb w' w.heap.size w'.heap.size (some ⟨ga, 0, none⟩) (some ⟨gb, 0, none⟩) bk fs ∧ Below w.heap.size w w' := laws_toTable A B nb ca nf cb bk fs w h hn hn2
theorem sz_tab (A B : Option Addr) (nb ca nf cb : Nat) (left : Int) (hn : nb ≤ maxLen) (hn2 : nf ≤ maxLen) (h0 : 0 ≤ left) (h1 : left ≤ 1048576) : ∃ z : Int, (z = -1 ∧ left < nb + nf ∨ z = left - nb - nf ∧ (nb + nf : Int) ≤ left) ∧
    ∀ w, Calls Tryd.prog 30 #[.agg #[.slice A nb ca, .slice B nf cb], .int .i64 left] w fun e w' => e = .returned (.int .i64 z) ∧ Below w.heap.size w w' := by
  refine ⟨_, ?_, fun w => laws_szTable A B nb ca nf cb left w hn hn2 h0 h1⟩
  split
  · exact .inl ⟨rfl, by omega⟩
  · exact .inr ⟨rfl, by omega⟩
theorem impl_TvA (A B : Option Addr) (ca cb lo hi : Nat) (bk : List Int) (fs : List Fr) (w : World) (hf : FreeIn w) (h : Tb w lo hi A B bk fs) (hn : bk.length ≤ 1048576) (hn2 : fs.length ≤ 1048576) :
    Calls Tryd.prog 14 #[.agg #[.slice A bk.length ca, .slice B fs.length cb]] w fun e w' => e = .returned (.bool (tvB bk fs)) ∧ Below w.heap.size w w' := impl_TableValid A B ca cb lo hi bk fs w hf h hn hn2
theorem spec_TvA (A B : Option Addr) (ca cb lo hi : Nat) (bk : List Int) (fs : List Fr) (w : World) (h : Tb w lo hi A B bk fs) (hn : bk.length ≤ 1048576) (hn2 : fs.length ≤ 1048576) :
    Calls Tryd.prog 28 #[.agg #[.slice A bk.length ca, .slice B fs.length cb]] w fun e w' => e = .returned (.bool (tvB bk fs)) ∧ Below w.heap.size w w' := spec_TableValid A B ca cb lo hi bk fs w h hn hn2
theorem eqTabA (A B A' B' : Option Addr) (ca cb ca' cb' lo hi lo' hi' : Nat) (bk : List Int) (fs : List Fr) (w : World) (h : Tb w lo hi A B bk fs) (h' : Tb w lo' hi' A' B' bk fs) (hn : bk.length ≤ 1048576) (hn2 : fs.length ≤ 1048576) :
    Calls Tryd.prog 33 #[.agg #[.slice A bk.length ca, .slice B fs.length cb], .agg #[.slice A' bk.length ca', .slice B' fs.length cb']] w fun e w' => e = .returned (.bool true) ∧ Below w.heap.size w w' := laws_eqTable A B A' B' ca cb ca' cb' lo hi lo' hi' bk fs w h h' hn hn2
end Go.Proofs.YtjdoegekolbdpaaDoor
