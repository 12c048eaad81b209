/- The reference's draw of ParseAddress's text: it returns some text of at most 1000 bytes and writes nothing that was there. Asked: what is known of the code's bytes. -/
import Derived.Test.YtaoggijepndnmaaDoorBend
namespace Go.Proofs.YtaoggijepndnmaaDoor
set_option linter.unusedVariables false
open Go.ChangeShapes Go.WideShapes Go.ChangeAt Go.RowKit
def DrawS (w : World) (e : Ending) (w' : World) : Prop := ∃ t : ByteArray, e = .returned (.string t) ∧ t.size ≤ 1000 ∧ Below w.heap.size w w'
theorem fmtS_size (s p o : Int) : (fmtS s p o).size ≤ 100 := by
  unfold fmtS
  split
  · rename_i h
    have hr := avB_iff.1 h
    unfold fmtA
    simp only [ByteArray.size_append]
    have h1 := decS_size s.toNat (by omega)
    have h2 := decS_size p.toNat (by omega)
    have h3 := decS_size o.toNat (by omega)
    rw [show (ByteArray.mk #[58]).size = 1 from rfl, show (ByteArray.mk #[43]).size = 1 from rfl]
    omega
  · exact Nat.zero_le _
theorem spec_DrawParseAddress (ao : Option Addr) (len cap : Nat) (w : World) (h : CodeIn w ao len cap) : Calls Tryd.prog 9 #[.slice ao len cap] w (DrawS w) := by
  have HC := Lib.hid h
  clear h
  go_enter Tryd.func9, Tryd.ntmps9
  go_wp2_with (fail)
  refine (rd_open _ _ _ _ HC.out).mono ?_
  rintro e w1 ⟨rb, rfl, hrb, hR1, hb1⟩
  have HB1 := Lib.hid hb1
  clear hb1
  go_wp2_with (fail)
  refine (spec_l1Draw rb 0 _ hR1 (by omega)).mono ?_
  rintro e w2 ⟨s, p, o, rfl, hs, hp, ho, hR2, hg2⟩
  have HB2 : Hid (Below w.heap.size w w2) := Lib.hid (HB1.out.grown hg2 HB1.out.size (fun k e => by cases e; exact hrb))
  have HR2 := Lib.hid hR2
  have hsz := fmtS_size s p o
  clear hg2 hR2 hs hp ho hR1
  have SF := Lib.hid (fun (w : World) => spec_FormatAddress s p o w)
  generalize fmtS s p o = x at *
  go_wp2_with (fail)
  refine (SF.out _).mono ?_
  rintro e w3 ⟨rfl, hb3⟩
  have HB3 : Hid (Below w.heap.size w w3) := Lib.hid (bstep HB2.out hb3)
  have hR3 := HR2.out.below hb3
  have hlt := hR3.lt
  have HR3 := Lib.hid hR3
  clear hb3 hR3
  go_wp2_with (fail)
  refine (spec_l1Bend rb _ w3.heap.size 6 x hsz _ (HR3.out.alloc _) (by omega) (by omega) ?_ (by omega) (by omega)).mono ?_
  · intro j hj
    rw [World.cell?_alloc_new]
    rcases (show j = 0 ∨ j = 1 ∨ j = 2 ∨ j = 3 ∨ j = 4 ∨ j = 5 by omega) with rfl | rfl | rfl | rfl | rfl | rfl <;> exact ⟨_, rfl, by decide⟩
  rintro e w4 ⟨t, rfl, ht, hR4, hg4⟩
  have HB4 : Hid (Below w.heap.size w w4) := Lib.hid ((HB3.out.trans ((Joins.below_alloc1 _ _).mono HB3.out.size)).grown hg4 (by have := HB3.out.size; simp; omega) (fun k e => by cases e; exact hrb))
  clear hg4 hR4
  go_wp2_with (fail)
  go_ret
  exact ⟨_, rfl, ht, HB4.out⟩
end Go.Proofs.YtaoggijepndnmaaDoor
