/- The statement 'FnExactTableSame': for every input the law returns true, and each argument reads as it did. No conditions. -/
import Derived.Test.YtnbfmnchihckaaaRows
import Derived.Test.YtnbfmnchihckaaaFacts
import Derived.Test.YtnbfmnchihckaaaLawsF
import Derived.ChangeOld
namespace Go.Proofs.Ytnbfmnchihckaaa.fnExactTableSameDone
open Go.ChangeShapes Go.WideShapes Go.ChangeAt Go.RowKit
open Go.ChangeMaps (open_string shut_string)
set_option linter.unusedVariables false


set_option maxRecDepth 100000 in
theorem lifted (os : Os) (started : os.Started) (H : Type) (enc : TypeId × Value → H) :
    ReturnsInHanded {} Try.checked os 3 .any (Rows.fnExactTableSameSpec.pre6 enc Try.prog Try.f3 Rows.fnExactTableSameRow.domain false) (Rows.fnExactTableSameSpec.post enc Try.prog Try.f3 false true false false) := by
  refine returnsInHanded_of_change (C := Try.checked) Seat.own started (by kernel_rfl) Try.func3
    (ChangeSpec.witness6 (enc := enc) (C := Try.checked) false ⟨#[], #[.agg #[.slice none 0 0, .slice none 0 0], .agg #[.slice none 0 0, .slice none 0 0]], []⟩ 8 (by kernel_rfl) (by kernel_rfl) (by kernel_rfl) (by kernel_rfl)) ?_
  intro W base args ds gs before hval0 hW hcnd _
  have hval : ∀ (j : Nat) t v, Try.f3.params[j]? = some t → args[j]? = some v → Value.okWide Try.prog W .any base t v := hval0
  have hW' := hW
  obtain ⟨p, q, hA0, hV, rfl, hfz, hnd⟩ := hW
  have hA : DataW.TrodAll enc Try.prog W 0 (fun _ => true) true Try.f3.params.toList args.toList ds p := hA0
  rw [Try.params3] at hA hval
  obtain ⟨v0, vs0, d0, ds0, p0, q0, hargs, rfl, rfl, h0, r0⟩ := trodAll_cons hA
  obtain ⟨v1, vs1, d1, ds1, p1, q1, rfl, rfl, rfl, h1, r1⟩ := trodAll_cons r0
  obtain ⟨rfl, rfl, rfl⟩ := trodAll_nil r1
  obtain rfl : args = #[v0, v1] := by cases args; simp_all
  obtain ⟨rfl, rfl⟩ := trodVars_none hV
  have k0 := h0
  have lt0 : ∀ x ∈ p0, x.block < W.heap.size := by obtain ⟨m, hm⟩ := k0; exact DataW.trod_lt m _ _ _ hm
  obtain ⟨a0, nb0, ca0, b0, nf0, cb0, rfl, w0⟩ := open_table (hval 0 25 v0 rfl rfl) h0
  have k1 := h1
  have lt1 : ∀ x ∈ p1, x.block < W.heap.size := by obtain ⟨m, hm⟩ := k1; exact DataW.trod_lt m _ _ _ hm
  obtain ⟨a1, nb1, ca1, b1, nf1, cb1, rfl, w1⟩ := open_table (hval 1 25 v1 rfl rfl) h1
  clear hA0 hval0
  refine (law_FnExactTableSame W a0 nb0 ca0 b0 nf0 cb0 w0 a1 nb1 ca1 b1 nf1 cb1 w1).mono fun e W' ⟨he, bel⟩ => ?_
  subst he
  exact ⟨_, rfl, _, _, _, [], _, [], hW', trodAll_mk1 (shut_bool Try.underlying4 _), (trodAll_cons_mk (Below.trod Seat.laidOut (by kernel_rfl) (of_decide_eq_true (by kernel_rfl)) k0 bel lt0) (trodAll_cons_mk (Below.trod Seat.laidOut (by kernel_rfl) (of_decide_eq_true (by kernel_rfl)) k1 bel lt1) trodAll_mk0)), rfl, bel.frame _, fun h => by cases h⟩
theorem cf0 : (Rows.fnExactTableSameRow.wf (OpenSpec.ofChange Rows.fnExactTableSameSpec)) = true := by kernel_rfl
theorem cf3 : (Try.f3.params.all (Try.pinned.checked.prog.readableRec ·)) = true := by kernel_rfl
theorem cf4 : (namedTie Try.pinned.checked.prog Rows.fnExactTableSameRow.named Rows.fnExactTableSameSpec.vars) = true := by kernel_rfl
theorem cf5 : ((Rows.fnExactTableSameRow.stops == [])) = true := by kernel_rfl
theorem cf7 : ((Rows.fnExactTableSameRow.knobs == [])) = true := by kernel_rfl
theorem cf9 : ((Rows.fnExactTableSameRow.inPlace == Try.pinned.checked.prog.inPlace 3)) = true := by kernel_rfl
theorem cf10 : ((Rows.fnExactTableSameRow.unfollowed == Try.pinned.checked.prog.unfollowed 3)) = true := by kernel_rfl
theorem cf11 : ((Rows.fnExactTableSameRow.recurses == Try.pinned.checked.prog.recurses 3)) = true := by kernel_rfl
theorem cf12 : ((Rows.fnExactTableSameRow.named == Try.pinned.checked.prog.varsNamed 3)) = true := by kernel_rfl
theorem cf13 : ((Rows.fnExactTableSameRow.maps == (Try.f3.params.toList ++ Rows.fnExactTableSameSpec.plain.varTypes Try.pinned.checked.prog).any (Try.pinned.checked.prog.mapsRec ·))) = true := by kernel_rfl
theorem cf14 : ((Rows.fnExactTableSameRow.ifaces == (Try.f3.params.toList ++ Rows.fnExactTableSameSpec.plain.varTypes Try.pinned.checked.prog).any (Try.pinned.checked.prog.ifacesRec ·))) = true := by kernel_rfl
theorem cf15 : ((Rows.fnExactTableSameRow.mapsOut == Try.pinned.checked.prog.mapsAmong Try.f3.resultTypes.toList)) = true := by kernel_rfl
theorem cf16 : ((Rows.fnExactTableSameRow.loops == (Try.f3.params.toList ++ Rows.fnExactTableSameSpec.plain.varTypes Try.pinned.checked.prog).any (Try.pinned.checked.prog.loopsFrom ·))) = true := by kernel_rfl
theorem cf17 : ((Rows.fnExactTableSameRow.wideKeys == (Try.f3.params.toList ++ Rows.fnExactTableSameSpec.plain.varTypes Try.pinned.checked.prog ++ Try.f3.resultTypes.toList).any (Try.pinned.checked.prog.wideKeysFrom ·))) = true := by kernel_rfl
theorem cf18 : (Rows.fnExactTableSameSpec.vars.all (Try.pinned.checked.prog.varReadable ·)) = true := by kernel_rfl
theorem cf19 : (Try.f3.resultTypes.all (fun t => Try.pinned.checked.prog.readableRec t && decide (t < Try.pinned.checked.prog.types.size))) = true := by kernel_rfl
theorem cf20 : ((Rows.fnExactTableSameRow.ifacesOut == Try.f3.resultTypes.toList.any (Try.pinned.checked.prog.ifacesRec ·))) = true := by kernel_rfl
theorem cf21 : ((Rows.fnExactTableSameRow.loopsOut == Try.f3.resultTypes.toList.any (Try.pinned.checked.prog.loopsFrom ·))) = true := by kernel_rfl
theorem cf23 : (Rows.fnExactTableSameRow.shortTexts.isNone) = true := by kernel_rfl
theorem cf28 : ((Rows.fnExactTableSameRow.kinds == (if Rows.fnExactTableSameRow.domain.isEmpty then [] else Try.f3.params.toList.map fun t => match Try.pinned.checked.prog.underlying t with | some (.int k) => some k | _ => none))) = true := by kernel_rfl
theorem cf29 : ((Rows.fnExactTableSameRow.pinned == Rows.fnExactTableSameRow.pinnedBy)) = true := by kernel_rfl
theorem cf30 : ((Rows.fnExactTableSameRow.veiled == (Try.f3.params.toList ++ Rows.fnExactTableSameSpec.plain.varTypes Try.pinned.checked.prog ++ Try.f3.resultTypes.toList).any (Try.pinned.checked.prog.veiledRec ·))) = true := by kernel_rfl
theorem cf31 : (Rows.fnExactTableSameRow.veiledFits Try.pinned.checked.prog Try.f3.params.toList (Try.f3.params.toList ++ Rows.fnExactTableSameSpec.plain.varTypes Try.pinned.checked.prog ++ Try.f3.resultTypes.toList)) = true := by kernel_rfl
theorem closed : joinedFacts Try.pinned.checked.prog 3 Try.f3 Rows.fnExactTableSameSpec Rows.fnExactTableSameRow = true := (Seat.and2 (Seat.and2 (Seat.and2 (Seat.and2 (Seat.and2 (Seat.and2 (Seat.and2 (Seat.and2 (Seat.and2 (Seat.and2 (Seat.and2 (Seat.and2 (Seat.and2 (Seat.and2 (Seat.and2 (Seat.and2 (Seat.and2 (Seat.and2 (Seat.and2 (Seat.and2 (Seat.and2 (Seat.and2 (Seat.and2 (Seat.and2 (Seat.and2 (Seat.and2 (Seat.and2 (Seat.and2 (Seat.and2 (Seat.and2 (Seat.and2 cf0 Seat.laidOutP) Seat.mapsRowed) cf3) cf4) cf5) Seat.stops) cf7) Seat.stopKnobs) cf9) cf10) cf11) cf12) cf13) cf14) cf15) cf16) cf17) cf18) cf19) cf20) cf21) Seat.plainKeys) cf23) Seat.stopsHeard) Seat.mayEnter) Seat.liftsFinal) Seat.make) cf28) cf29) cf30) cf31)

theorem over : Rows.fnExactTableSameRow.holds Try.pinned (OpenSpec.ofChange Rows.fnExactTableSameSpec) :=
  OpenClaim.holds_of_wide 3 Try.f3 rfl rfl rfl rfl rfl rfl rfl ⟨rfl, rfl, rfl, rfl, rfl⟩ rfl rfl rfl rfl rfl (by kernel_rfl) Try.func3 closed
    (of_decide_eq_true (by kernel_rfl)) (by unfold Func.isWrapper; first | (rw [if_pos (by decide +kernel)]; kernel_rfl) | (rw [if_neg (by decide +kernel)]; exact ⟨rfl, rfl⟩))
    (fun os started H enc _ => lifted os started H enc)

theorem proved : Rows.FnExactTableSameSaid := over
#print axioms proved
end Go.Proofs.Ytnbfmnchihckaaa.fnExactTableSameDone
