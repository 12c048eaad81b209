/- The statement 'FnExactMoveAddress': for every input the law returns true, and each argument reads as it did. No conditions. -/
import Derived.Test.YtlkbchhlbplmbaaRows
import Derived.Test.YtlkbchhlbplmbaaFacts
import Derived.Test.YtlkbchhlbplmbaaLawsA
import Derived.ChangeOld
namespace Go.Proofs.Ytlkbchhlbplmbaa.fnExactMoveAddressDone
open Go.ChangeShapes Go.WideShapes Go.ChangeAt Go.RowKit
open Go.ChangeMaps (open_string shut_string)
set_option linter.unusedVariables false

theorem cells34 : Try.prog.cellsOf 34 = 3 := by kernel_rfl

set_option maxRecDepth 100000 in
theorem lifted (os : Os) (started : os.Started) (H : Type) (enc : TypeId × Value → H) :
    ReturnsInHanded {} Try.checked os 14 .any (Rows.fnExactMoveAddressSpec.pre6 enc Try.prog Try.f14 Rows.fnExactMoveAddressRow.domain false) (Rows.fnExactMoveAddressSpec.post enc Try.prog Try.f14 false true false false) := by
  refine returnsInHanded_of_change (C := Try.checked) Seat.own started (by kernel_rfl) Try.func14
    (ChangeSpec.witness6 (enc := enc) (C := Try.checked) false ⟨#[], #[.agg #[.int .i64 0, .int .i64 0, .int .i64 0], .int .i64 0], []⟩ 8 (by kernel_rfl) (by kernel_rfl) (by kernel_rfl) (by kernel_rfl)) ?_
  intro W base args ds gs before hval0 hW hcnd _
  have hval : ∀ (j : Nat) t v, Try.f14.params[j]? = some t → args[j]? = some v → Value.okWide Try.prog W .any base t v := hval0
  have hW' := hW
  obtain ⟨p, q, hA0, hV, rfl, hfz, hnd⟩ := hW
  have hA : DataW.TrodAll enc Try.prog W 0 (fun _ => true) true Try.f14.params.toList args.toList ds p := hA0
  rw [Try.params14] at hA hval
  obtain ⟨v0, vs0, d0, ds0, p0, q0, hargs, rfl, rfl, h0, r0⟩ := trodAll_cons hA
  obtain ⟨v1, vs1, d1, ds1, p1, q1, rfl, rfl, rfl, h1, r1⟩ := trodAll_cons r0
  obtain ⟨rfl, rfl, rfl⟩ := trodAll_nil r1
  obtain rfl : args = #[v0, v1] := by cases args; simp_all
  obtain ⟨rfl, rfl⟩ := trodVars_none hV
  have k0 := h0
  have lt0 : ∀ x ∈ p0, x.block < W.heap.size := by obtain ⟨m, hm⟩ := k0; exact DataW.trod_lt m _ _ _ hm
  obtain ⟨c00, c01, c02, y00, y01, y02, _, rfl, _, _, hy00, hy01, hy02⟩ := Joins.open_agg3 Try.underlying34 (by kernel_rfl) cells34 (hval 0 34 v0 rfl rfl) h0
  obtain ⟨a00, e00, _, w00⟩ := DataW.trod_int Try.underlying3 hy00
  obtain rfl : c00 = .int .i64 a00 := by simpa using e00
  obtain ⟨a01, e01, _, w01⟩ := DataW.trod_int Try.underlying3 hy01
  obtain rfl : c01 = .int .i64 a01 := by simpa using e01
  obtain ⟨a02, e02, _, w02⟩ := DataW.trod_int Try.underlying3 hy02
  obtain rfl : c02 = .int .i64 a02 := by simpa using e02
  have k1 := h1
  have lt1 : ∀ x ∈ p1, x.block < W.heap.size := by obtain ⟨m, hm⟩ := k1; exact DataW.trod_lt m _ _ _ hm
  obtain ⟨a1, rfl, _, _, w1⟩ := open_int Try.underlying3 (hval 1 3 v1 rfl rfl) h1
  clear hA0 hval0
  refine (law_FnExactMoveAddress a00 a01 a02 w00 w01 w02 a1 w1 W).mono fun e W' ⟨he, bel⟩ => ?_
  subst he
  exact ⟨_, rfl, _, _, _, [], _, [], hW', trodAll_mk1 (shut_bool Try.underlying4 _), (trodAll_cons_mk (Below.trod Seat.laidOut (by kernel_rfl) (of_decide_eq_true (by kernel_rfl)) k0 bel lt0) (trodAll_cons_mk (Below.trod Seat.laidOut (by kernel_rfl) (of_decide_eq_true (by kernel_rfl)) k1 bel lt1) trodAll_mk0)), rfl, bel.frame _, fun h => by cases h⟩
theorem cf0 : (Rows.fnExactMoveAddressRow.wf (OpenSpec.ofChange Rows.fnExactMoveAddressSpec)) = true := by kernel_rfl
theorem cf3 : (Try.f14.params.all (Try.pinned.checked.prog.readableRec ·)) = true := by kernel_rfl
theorem cf4 : (namedTie Try.pinned.checked.prog Rows.fnExactMoveAddressRow.named Rows.fnExactMoveAddressSpec.vars) = true := by kernel_rfl
theorem cf5 : ((Rows.fnExactMoveAddressRow.stops == [])) = true := by kernel_rfl
theorem cf7 : ((Rows.fnExactMoveAddressRow.knobs == [])) = true := by kernel_rfl
theorem cf9 : ((Rows.fnExactMoveAddressRow.inPlace == Try.pinned.checked.prog.inPlace 14)) = true := by kernel_rfl
theorem cf10 : ((Rows.fnExactMoveAddressRow.unfollowed == Try.pinned.checked.prog.unfollowed 14)) = true := by kernel_rfl
theorem cf11 : ((Rows.fnExactMoveAddressRow.recurses == Try.pinned.checked.prog.recurses 14)) = true := by kernel_rfl
theorem cf12 : ((Rows.fnExactMoveAddressRow.named == Try.pinned.checked.prog.varsNamed 14)) = true := by kernel_rfl
theorem cf13 : ((Rows.fnExactMoveAddressRow.maps == (Try.f14.params.toList ++ Rows.fnExactMoveAddressSpec.plain.varTypes Try.pinned.checked.prog).any (Try.pinned.checked.prog.mapsRec ·))) = true := by kernel_rfl
theorem cf14 : ((Rows.fnExactMoveAddressRow.ifaces == (Try.f14.params.toList ++ Rows.fnExactMoveAddressSpec.plain.varTypes Try.pinned.checked.prog).any (Try.pinned.checked.prog.ifacesRec ·))) = true := by kernel_rfl
theorem cf15 : ((Rows.fnExactMoveAddressRow.mapsOut == Try.pinned.checked.prog.mapsAmong Try.f14.resultTypes.toList)) = true := by kernel_rfl
theorem cf16 : ((Rows.fnExactMoveAddressRow.loops == (Try.f14.params.toList ++ Rows.fnExactMoveAddressSpec.plain.varTypes Try.pinned.checked.prog).any (Try.pinned.checked.prog.loopsFrom ·))) = true := by kernel_rfl
theorem cf17 : ((Rows.fnExactMoveAddressRow.wideKeys == (Try.f14.params.toList ++ Rows.fnExactMoveAddressSpec.plain.varTypes Try.pinned.checked.prog ++ Try.f14.resultTypes.toList).any (Try.pinned.checked.prog.wideKeysFrom ·))) = true := by kernel_rfl
theorem cf18 : (Rows.fnExactMoveAddressSpec.vars.all (Try.pinned.checked.prog.varReadable ·)) = true := by kernel_rfl
theorem cf19 : (Try.f14.resultTypes.all (fun t => Try.pinned.checked.prog.readableRec t && decide (t < Try.pinned.checked.prog.types.size))) = true := by kernel_rfl
theorem cf20 : ((Rows.fnExactMoveAddressRow.ifacesOut == Try.f14.resultTypes.toList.any (Try.pinned.checked.prog.ifacesRec ·))) = true := by kernel_rfl
theorem cf21 : ((Rows.fnExactMoveAddressRow.loopsOut == Try.f14.resultTypes.toList.any (Try.pinned.checked.prog.loopsFrom ·))) = true := by kernel_rfl
theorem cf23 : (Rows.fnExactMoveAddressRow.shortTexts.isNone) = true := by kernel_rfl
theorem cf28 : ((Rows.fnExactMoveAddressRow.kinds == (if Rows.fnExactMoveAddressRow.domain.isEmpty then [] else Try.f14.params.toList.map fun t => match Try.pinned.checked.prog.underlying t with | some (.int k) => some k | _ => none))) = true := by kernel_rfl
theorem cf29 : ((Rows.fnExactMoveAddressRow.pinned == Rows.fnExactMoveAddressRow.pinnedBy)) = true := by kernel_rfl
theorem cf30 : ((Rows.fnExactMoveAddressRow.veiled == (Try.f14.params.toList ++ Rows.fnExactMoveAddressSpec.plain.varTypes Try.pinned.checked.prog ++ Try.f14.resultTypes.toList).any (Try.pinned.checked.prog.veiledRec ·))) = true := by kernel_rfl
theorem cf31 : (Rows.fnExactMoveAddressRow.veiledFits Try.pinned.checked.prog Try.f14.params.toList (Try.f14.params.toList ++ Rows.fnExactMoveAddressSpec.plain.varTypes Try.pinned.checked.prog ++ Try.f14.resultTypes.toList)) = true := by kernel_rfl
theorem closed : joinedFacts Try.pinned.checked.prog 14 Try.f14 Rows.fnExactMoveAddressSpec Rows.fnExactMoveAddressRow = true := (Seat.and2 (Seat.and2 (Seat.and2 (Seat.and2 (Seat.and2 (Seat.and2 (Seat.and2 (Seat.and2 (Seat.and2 (Seat.and2 (Seat.and2 (Seat.and2 (Seat.and2 (Seat.and2 (Seat.and2 (Seat.and2 (Seat.and2 (Seat.and2 (Seat.and2 (Seat.and2 (Seat.and2 (Seat.and2 (Seat.and2 (Seat.and2 (Seat.and2 (Seat.and2 (Seat.and2 (Seat.and2 (Seat.and2 (Seat.and2 (Seat.and2 cf0 Seat.laidOutP) Seat.mapsRowed) cf3) cf4) cf5) Seat.stops) cf7) Seat.stopKnobs) cf9) cf10) cf11) cf12) cf13) cf14) cf15) cf16) cf17) cf18) cf19) cf20) cf21) Seat.plainKeys) cf23) Seat.stopsHeard) Seat.mayEnter) Seat.liftsFinal) Seat.make) cf28) cf29) cf30) cf31)

theorem over : Rows.fnExactMoveAddressRow.holds Try.pinned (OpenSpec.ofChange Rows.fnExactMoveAddressSpec) :=
  OpenClaim.holds_of_wide 14 Try.f14 rfl rfl rfl rfl rfl rfl rfl ⟨rfl, rfl, rfl, rfl, rfl⟩ rfl rfl rfl rfl rfl (by kernel_rfl) Try.func14 closed
    (of_decide_eq_true (by kernel_rfl)) (by unfold Func.isWrapper; first | (rw [if_pos (by decide +kernel)]; kernel_rfl) | (rw [if_neg (by decide +kernel)]; exact ⟨rfl, rfl⟩))
    (fun os started H enc _ => lifted os started H enc)

theorem proved : Rows.FnExactMoveAddressSaid := over
#print axioms proved
end Go.Proofs.Ytlkbchhlbplmbaa.fnExactMoveAddressDone
