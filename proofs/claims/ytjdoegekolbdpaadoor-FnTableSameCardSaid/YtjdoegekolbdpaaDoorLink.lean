/- The program's link puts a page in a frame of a table of the caller's own. Asked: a valid key, 1 to 16 buckets, a frame of the table. -/
import Derived.Test.YtjdoegekolbdpaaDoorNewS
import Derived.Deep.Onto
import Derived.StillTailTactics
namespace Go.Proofs.YtjdoegekolbdpaaDoor
set_option linter.unusedVariables false
open Go.ChangeShapes Go.WideShapes Go.ChangeAt Go.RowKit
def pg (s p r : Int) : Fr := ⟨true, s, p, r, 0⟩
theorem lnk_len (t : List Int × List Fr) (f : Fr) (i : Nat) : (lnk t f i).1.length = t.1.length ∧ (lnk t f i).2.length = t.2.length := by simp [lnk]
/-- the two blocks of a table differ -/
theorem Tb.ne {w : World} {lo hi ga gb : Nat} {bk : List Int} {fs : List Fr} (h : Tb w lo hi (some ⟨ga, 0, none⟩) (some ⟨gb, 0, none⟩) bk fs) (h1 : 0 < bk.length) (h2 : 0 < fs.length) : ga ≠ gb := by
  obtain ⟨g, cur, e1, _, _, a, _⟩ := h.1.2 h1
  obtain ⟨g', cur', e2, _, _, b, _⟩ := h.2.2 h2
  cases e1
  cases e2
  intro e
  subst e
  rw [a] at b
  injection b with b
  injection b with _ b
  exact absurd b (by decide)
/-- a frame stored into a table's frames -/
theorem Tb.store {w : World} {lo hi ga gb : Nat} {bk : List Int} {fs : List Fr} (h : Tb w lo hi (some ⟨ga, 0, none⟩) (some ⟨gb, 0, none⟩) bk fs) (h2 : 0 < fs.length) (i : Nat) (f : Fr) :
    Tb (((((w.setCell ⟨gb, i * 5, none⟩ (.bool f.u)).setCell ⟨gb, i * 5 + 1, none⟩ (.int .i64 f.s)).setCell ⟨gb, i * 5 + 2, none⟩ (.int .i64 f.p)).setCell ⟨gb, i * 5 + 3, none⟩ (.int .i64 f.r)).setCell ⟨gb, i * 5 + 4, none⟩ (.int .i64 f.nx)) lo hi (some ⟨ga, 0, none⟩) (some ⟨gb, 0, none⟩) bk (fs.set i f) := by
  have s1 := h.2.stored h2 (i * 5) (.bool f.u)
  have s2 := s1.stored h2 (i * 5 + 1) (.int .i64 f.s)
  have s3 := s2.stored h2 (i * 5 + 2) (.int .i64 f.p)
  have s4 := s3.stored h2 (i * 5 + 3) (.int .i64 f.r)
  have s5 := s4.stored h2 (i * 5 + 4) (.int .i64 f.nx)
  have k := (((((h.2.keepT h2 (i * 5) (.bool f.u)).trans (s1.keepT h2 (i * 5 + 1) (.int .i64 f.s))).trans (s2.keepT h2 (i * 5 + 2) (.int .i64 f.p))).trans (s3.keepT h2 (i * 5 + 3) (.int .i64 f.r))).trans (s4.keepT h2 (i * 5 + 4) (.int .i64 f.nx)))
  rw [fcells_set] at s5
  exact ⟨k _ _ _ _ _ _ _ (by decide) h.1, by rw [List.length_set]; exact s5⟩
theorem Tb.storeB {w : World} {lo hi ga gb : Nat} {bk : List Int} {fs : List Fr} (h : Tb w lo hi (some ⟨ga, 0, none⟩) (some ⟨gb, 0, none⟩) bk fs) (h1 : 0 < bk.length) (b : Nat) (x : Int) :
    Tb (w.setCell ⟨ga, b, none⟩ (.int .i64 x)) lo hi (some ⟨ga, 0, none⟩) (some ⟨gb, 0, none⟩) (bk.set b x) fs := by
  have s1 := h.1.stored h1 b (.int .i64 x)
  rw [ints_set] at s1
  exact ⟨by rw [List.length_set]; exact s1, (h.1.keepT h1 b (.int .i64 x)) _ _ _ _ _ _ _ (by decide) h.2⟩
end Go.Proofs.YtjdoegekolbdpaaDoor
