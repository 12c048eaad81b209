/- The statement 'FnExactKeyValid': for every input the law returns true, and each argument reads as it did. No conditions. -/
import Derived.Test.YtlkbchhlbplmbaaRows
import Derived.Test.YtlkbchhlbplmbaaFacts
import Derived.Test.YtlkbchhlbplmbaaLawsA
import Derived.ChangeOld
namespace Go.Proofs.Ytlkbchhlbplmbaa.fnExactKeyValidDone
open Go.ChangeShapes Go.WideShapes Go.ChangeAt Go.RowKit
open Go.ChangeMaps (open_string shut_string)
set_option linter.unusedVariables false

theorem cells26 : Try.prog.cellsOf 26 = 2 := by kernel_rfl

set_option maxRecDepth 100000 in
theorem lifted (os : Os) (started : os.Started) (H : Type) (enc : TypeId × Value → H) :
    ReturnsInHanded {} Try.checked os 7 .any (Rows.fnExactKeyValidSpec.pre6 enc Try.prog Try.f7 Rows.fnExactKeyValidRow.domain false) (Rows.fnExactKeyValidSpec.post enc Try.prog Try.f7 false true false false) := by
  refine returnsInHanded_of_change (C := Try.checked) Seat.own started (by kernel_rfl) Try.func7
    (ChangeSpec.witness6 (enc := enc) (C := Try.checked) false ⟨#[], #[.agg #[.int .i64 0, .int .i64 0]], []⟩ 8 (by kernel_rfl) (by kernel_rfl) (by kernel_rfl) (by kernel_rfl)) ?_
  intro W base args ds gs before hval0 hW hcnd _
  have hval : ∀ (j : Nat) t v, Try.f7.params[j]? = some t → args[j]? = some v → Value.okWide Try.prog W .any base t v := hval0
  have hW' := hW
  obtain ⟨p, q, hA0, hV, rfl, hfz, hnd⟩ := hW
  have hA : DataW.TrodAll enc Try.prog W 0 (fun _ => true) true Try.f7.params.toList args.toList ds p := hA0
  rw [Try.params7] at hA hval
  obtain ⟨v0, vs0, d0, ds0, p0, q0, hargs, rfl, rfl, h0, r0⟩ := trodAll_cons hA
  obtain ⟨rfl, rfl, rfl⟩ := trodAll_nil r0
  obtain rfl : args = #[v0] := by cases args; simp_all
  obtain ⟨rfl, rfl⟩ := trodVars_none hV
  have k0 := h0
  have lt0 : ∀ x ∈ p0, x.block < W.heap.size := by obtain ⟨m, hm⟩ := k0; exact DataW.trod_lt m _ _ _ hm
  obtain ⟨c00, c01, y00, y01, _, rfl, _, _, hy00, hy01⟩ := Joins.open_agg2 Try.underlying26 (by kernel_rfl) cells26 (hval 0 26 v0 rfl rfl) h0
  obtain ⟨a00, e00, _, w00⟩ := DataW.trod_int Try.underlying3 hy00
  obtain rfl : c00 = .int .i64 a00 := by simpa using e00
  obtain ⟨a01, e01, _, w01⟩ := DataW.trod_int Try.underlying3 hy01
  obtain rfl : c01 = .int .i64 a01 := by simpa using e01
  clear hA0 hval0
  refine (law_FnExactKeyValid a00 a01 w00 w01 W).mono fun e W' ⟨he, bel⟩ => ?_
  subst he
  exact ⟨_, rfl, _, _, _, [], _, [], hW', trodAll_mk1 (shut_bool Try.underlying4 _), (trodAll_cons_mk (Below.trod Seat.laidOut (by kernel_rfl) (of_decide_eq_true (by kernel_rfl)) k0 bel lt0) trodAll_mk0), rfl, bel.frame _, fun h => by cases h⟩
theorem cf0 : (Rows.fnExactKeyValidRow.wf (OpenSpec.ofChange Rows.fnExactKeyValidSpec)) = true := by kernel_rfl
theorem cf3 : (Try.f7.params.all (Try.pinned.checked.prog.readableRec ·)) = true := by kernel_rfl
theorem cf4 : (namedTie Try.pinned.checked.prog Rows.fnExactKeyValidRow.named Rows.fnExactKeyValidSpec.vars) = true := by kernel_rfl
theorem cf5 : ((Rows.fnExactKeyValidRow.stops == [])) = true := by kernel_rfl
theorem cf7 : ((Rows.fnExactKeyValidRow.knobs == [])) = true := by kernel_rfl
theorem cf9 : ((Rows.fnExactKeyValidRow.inPlace == Try.pinned.checked.prog.inPlace 7)) = true := by kernel_rfl
theorem cf10 : ((Rows.fnExactKeyValidRow.unfollowed == Try.pinned.checked.prog.unfollowed 7)) = true := by kernel_rfl
theorem cf11 : ((Rows.fnExactKeyValidRow.recurses == Try.pinned.checked.prog.recurses 7)) = true := by kernel_rfl
theorem cf12 : ((Rows.fnExactKeyValidRow.named == Try.pinned.checked.prog.varsNamed 7)) = true := by kernel_rfl
theorem cf13 : ((Rows.fnExactKeyValidRow.maps == (Try.f7.params.toList ++ Rows.fnExactKeyValidSpec.plain.varTypes Try.pinned.checked.prog).any (Try.pinned.checked.prog.mapsRec ·))) = true := by kernel_rfl
theorem cf14 : ((Rows.fnExactKeyValidRow.ifaces == (Try.f7.params.toList ++ Rows.fnExactKeyValidSpec.plain.varTypes Try.pinned.checked.prog).any (Try.pinned.checked.prog.ifacesRec ·))) = true := by kernel_rfl
theorem cf15 : ((Rows.fnExactKeyValidRow.mapsOut == Try.pinned.checked.prog.mapsAmong Try.f7.resultTypes.toList)) = true := by kernel_rfl
theorem cf16 : ((Rows.fnExactKeyValidRow.loops == (Try.f7.params.toList ++ Rows.fnExactKeyValidSpec.plain.varTypes Try.pinned.checked.prog).any (Try.pinned.checked.prog.loopsFrom ·))) = true := by kernel_rfl
theorem cf17 : ((Rows.fnExactKeyValidRow.wideKeys == (Try.f7.params.toList ++ Rows.fnExactKeyValidSpec.plain.varTypes Try.pinned.checked.prog ++ Try.f7.resultTypes.toList).any (Try.pinned.checked.prog.wideKeysFrom ·))) = true := by kernel_rfl
theorem cf18 : (Rows.fnExactKeyValidSpec.vars.all (Try.pinned.checked.prog.varReadable ·)) = true := by kernel_rfl
theorem cf19 : (Try.f7.resultTypes.all (fun t => Try.pinned.checked.prog.readableRec t && decide (t < Try.pinned.checked.prog.types.size))) = true := by kernel_rfl
theorem cf20 : ((Rows.fnExactKeyValidRow.ifacesOut == Try.f7.resultTypes.toList.any (Try.pinned.checked.prog.ifacesRec ·))) = true := by kernel_rfl
theorem cf21 : ((Rows.fnExactKeyValidRow.loopsOut == Try.f7.resultTypes.toList.any (Try.pinned.checked.prog.loopsFrom ·))) = true := by kernel_rfl
theorem cf23 : (Rows.fnExactKeyValidRow.shortTexts.isNone) = true := by kernel_rfl
theorem cf28 : ((Rows.fnExactKeyValidRow.kinds == (if Rows.fnExactKeyValidRow.domain.isEmpty then [] else Try.f7.params.toList.map fun t => match Try.pinned.checked.prog.underlying t with | some (.int k) => some k | _ => none))) = true := by kernel_rfl
theorem cf29 : ((Rows.fnExactKeyValidRow.pinned == Rows.fnExactKeyValidRow.pinnedBy)) = true := by kernel_rfl
theorem cf30 : ((Rows.fnExactKeyValidRow.veiled == (Try.f7.params.toList ++ Rows.fnExactKeyValidSpec.plain.varTypes Try.pinned.checked.prog ++ Try.f7.resultTypes.toList).any (Try.pinned.checked.prog.veiledRec ·))) = true := by kernel_rfl
theorem cf31 : (Rows.fnExactKeyValidRow.veiledFits Try.pinned.checked.prog Try.f7.params.toList (Try.f7.params.toList ++ Rows.fnExactKeyValidSpec.plain.varTypes Try.pinned.checked.prog ++ Try.f7.resultTypes.toList)) = true := by kernel_rfl
theorem closed : joinedFacts Try.pinned.checked.prog 7 Try.f7 Rows.fnExactKeyValidSpec Rows.fnExactKeyValidRow = true := (Seat.and2 (Seat.and2 (Seat.and2 (Seat.and2 (Seat.and2 (Seat.and2 (Seat.and2 (Seat.and2 (Seat.and2 (Seat.and2 (Seat.and2 (Seat.and2 (Seat.and2 (Seat.and2 (Seat.and2 (Seat.and2 (Seat.and2 (Seat.and2 (Seat.and2 (Seat.and2 (Seat.and2 (Seat.and2 (Seat.and2 (Seat.and2 (Seat.and2 (Seat.and2 (Seat.and2 (Seat.and2 (Seat.and2 (Seat.and2 (Seat.and2 cf0 Seat.laidOutP) Seat.mapsRowed) cf3) cf4) cf5) Seat.stops) cf7) Seat.stopKnobs) cf9) cf10) cf11) cf12) cf13) cf14) cf15) cf16) cf17) cf18) cf19) cf20) cf21) Seat.plainKeys) cf23) Seat.stopsHeard) Seat.mayEnter) Seat.liftsFinal) Seat.make) cf28) cf29) cf30) cf31)

theorem over : Rows.fnExactKeyValidRow.holds Try.pinned (OpenSpec.ofChange Rows.fnExactKeyValidSpec) :=
  OpenClaim.holds_of_wide 7 Try.f7 rfl rfl rfl rfl rfl rfl rfl ⟨rfl, rfl, rfl, rfl, rfl⟩ rfl rfl rfl rfl rfl (by kernel_rfl) Try.func7 closed
    (of_decide_eq_true (by kernel_rfl)) (by unfold Func.isWrapper; first | (rw [if_pos (by decide +kernel)]; kernel_rfl) | (rw [if_neg (by decide +kernel)]; exact ⟨rfl, rfl⟩))
    (fun os started H enc _ => lifted os started H enc)

theorem proved : Rows.FnExactKeyValidSaid := over
#print axioms proved
end Go.Proofs.Ytlkbchhlbplmbaa.fnExactKeyValidDone
