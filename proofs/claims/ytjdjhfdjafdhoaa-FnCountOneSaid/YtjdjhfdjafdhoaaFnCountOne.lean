/- The statement 'FnCountOne': for every input the law returns true, and each argument reads as it did. No conditions. -/
import Derived.Test.YtjdjhfdjafdhoaaRows
import Derived.Test.YtjdjhfdjafdhoaaFacts
import Derived.Test.YtjdjhfdjafdhoaaLawsE
import Derived.ChangeOld
namespace Go.Proofs.Ytjdjhfdjafdhoaa.fnCountOneDone
open Go.ChangeShapes Go.WideShapes Go.ChangeAt Go.RowKit
open Go.ChangeMaps (open_string shut_string)
set_option linter.unusedVariables false


set_option maxRecDepth 100000 in
theorem lifted (os : Os) (started : os.Started) (H : Type) (enc : TypeId × Value → H) :
    ReturnsInHanded {} Try.checked os 4 .any (Rows.fnCountOneSpec.pre6 enc Try.prog Try.f4 Rows.fnCountOneRow.domain false) (Rows.fnCountOneSpec.post enc Try.prog Try.f4 false true false false) := by
  refine returnsInHanded_of_change (C := Try.checked) Seat.own started (by kernel_rfl) Try.func4
    (ChangeSpec.witness6 (enc := enc) (C := Try.checked) false ⟨#[], #[.slice none 0 0], []⟩ 8 (by kernel_rfl) (by kernel_rfl) (by kernel_rfl) (by kernel_rfl)) ?_
  intro W base args ds gs before hval0 hW hcnd _
  have hval : ∀ (j : Nat) t v, Try.f4.params[j]? = some t → args[j]? = some v → Value.okWide Try.prog W .any base t v := hval0
  have hW' := hW
  obtain ⟨p, q, hA0, hV, rfl, hfz, hnd⟩ := hW
  have hA : DataW.TrodAll enc Try.prog W 0 (fun _ => true) true Try.f4.params.toList args.toList ds p := hA0
  rw [Try.params4] at hA hval
  obtain ⟨v0, vs0, d0, ds0, p0, q0, hargs, rfl, rfl, h0, r0⟩ := trodAll_cons hA
  obtain ⟨rfl, rfl, rfl⟩ := trodAll_nil r0
  obtain rfl : args = #[v0] := by cases args; simp_all
  obtain ⟨rfl, rfl⟩ := trodVars_none hV
  have k0 := h0
  have lt0 : ∀ x ∈ p0, x.block < W.heap.size := by obtain ⟨m, hm⟩ := k0; exact DataW.trod_lt m _ _ _ hm
  obtain ⟨a0, len0, cap0, rfl⟩ := okWide_slice Try.underlying22 (hval 0 22 v0 rfl rfl)
  obtain ⟨z0, w0⟩ : ∃ zs, IsRow .u8 W a0 len0 cap0 zs := by
    obtain ⟨fuel, hf⟩ := h0
    rcases open_ints Try.underlying22 Try.underlying5 (by kernel_rfl) hf with ⟨hcs, _⟩ | ⟨x, l, c, zs, hcs, _, hl, hm, hz, _, hcell, hwz⟩
    · simp [Value.cells] at hcs
      obtain ⟨rfl, rfl, rfl⟩ := hcs
      exact ⟨[], .inl ⟨rfl, rfl, rfl, rfl⟩⟩
    · simp [Value.cells] at hcs
      obtain ⟨rfl, rfl, rfl⟩ := hcs
      exact ⟨zs, .inr ⟨_, rfl, hl, hm, by simpa using hz, hcell, hwz⟩⟩
  clear hA0 hval0
  refine (law_FnCountOne W a0 len0 cap0 w0.code).mono fun e W' ⟨he, bel⟩ => ?_
  subst he
  exact ⟨_, rfl, _, _, _, [], _, [], hW', trodAll_mk1 (shut_bool Try.underlying4 _), (trodAll_cons_mk (Below.trod Seat.laidOut (by kernel_rfl) (of_decide_eq_true (by kernel_rfl)) k0 bel lt0) trodAll_mk0), rfl, bel.frame _, fun h => by cases h⟩
theorem cf0 : (Rows.fnCountOneRow.wf (OpenSpec.ofChange Rows.fnCountOneSpec)) = true := by kernel_rfl
theorem cf3 : (Try.f4.params.all (Try.pinned.checked.prog.readableRec ·)) = true := by kernel_rfl
theorem cf4 : (namedTie Try.pinned.checked.prog Rows.fnCountOneRow.named Rows.fnCountOneSpec.vars) = true := by kernel_rfl
theorem cf5 : ((Rows.fnCountOneRow.stops == [])) = true := by kernel_rfl
theorem cf7 : ((Rows.fnCountOneRow.knobs == [])) = true := by kernel_rfl
theorem cf9 : ((Rows.fnCountOneRow.inPlace == Try.pinned.checked.prog.inPlace 4)) = true := by kernel_rfl
theorem cf10 : ((Rows.fnCountOneRow.unfollowed == Try.pinned.checked.prog.unfollowed 4)) = true := by kernel_rfl
theorem cf11 : ((Rows.fnCountOneRow.recurses == Try.pinned.checked.prog.recurses 4)) = true := by kernel_rfl
theorem cf12 : ((Rows.fnCountOneRow.named == Try.pinned.checked.prog.varsNamed 4)) = true := by kernel_rfl
theorem cf13 : ((Rows.fnCountOneRow.maps == (Try.f4.params.toList ++ Rows.fnCountOneSpec.plain.varTypes Try.pinned.checked.prog).any (Try.pinned.checked.prog.mapsRec ·))) = true := by kernel_rfl
theorem cf14 : ((Rows.fnCountOneRow.ifaces == (Try.f4.params.toList ++ Rows.fnCountOneSpec.plain.varTypes Try.pinned.checked.prog).any (Try.pinned.checked.prog.ifacesRec ·))) = true := by kernel_rfl
theorem cf15 : ((Rows.fnCountOneRow.mapsOut == Try.pinned.checked.prog.mapsAmong Try.f4.resultTypes.toList)) = true := by kernel_rfl
theorem cf16 : ((Rows.fnCountOneRow.loops == (Try.f4.params.toList ++ Rows.fnCountOneSpec.plain.varTypes Try.pinned.checked.prog).any (Try.pinned.checked.prog.loopsFrom ·))) = true := by kernel_rfl
theorem cf17 : ((Rows.fnCountOneRow.wideKeys == (Try.f4.params.toList ++ Rows.fnCountOneSpec.plain.varTypes Try.pinned.checked.prog ++ Try.f4.resultTypes.toList).any (Try.pinned.checked.prog.wideKeysFrom ·))) = true := by kernel_rfl
theorem cf18 : (Rows.fnCountOneSpec.vars.all (Try.pinned.checked.prog.varReadable ·)) = true := by kernel_rfl
theorem cf19 : (Try.f4.resultTypes.all (fun t => Try.pinned.checked.prog.readableRec t && decide (t < Try.pinned.checked.prog.types.size))) = true := by kernel_rfl
theorem cf20 : ((Rows.fnCountOneRow.ifacesOut == Try.f4.resultTypes.toList.any (Try.pinned.checked.prog.ifacesRec ·))) = true := by kernel_rfl
theorem cf21 : ((Rows.fnCountOneRow.loopsOut == Try.f4.resultTypes.toList.any (Try.pinned.checked.prog.loopsFrom ·))) = true := by kernel_rfl
theorem cf23 : (Rows.fnCountOneRow.shortTexts.isNone) = true := by kernel_rfl
theorem cf28 : ((Rows.fnCountOneRow.kinds == (if Rows.fnCountOneRow.domain.isEmpty then [] else Try.f4.params.toList.map fun t => match Try.pinned.checked.prog.underlying t with | some (.int k) => some k | _ => none))) = true := by kernel_rfl
theorem cf29 : ((Rows.fnCountOneRow.pinned == Rows.fnCountOneRow.pinnedBy)) = true := by kernel_rfl
theorem cf30 : ((Rows.fnCountOneRow.veiled == (Try.f4.params.toList ++ Rows.fnCountOneSpec.plain.varTypes Try.pinned.checked.prog ++ Try.f4.resultTypes.toList).any (Try.pinned.checked.prog.veiledRec ·))) = true := by kernel_rfl
theorem cf31 : (Rows.fnCountOneRow.veiledFits Try.pinned.checked.prog Try.f4.params.toList (Try.f4.params.toList ++ Rows.fnCountOneSpec.plain.varTypes Try.pinned.checked.prog ++ Try.f4.resultTypes.toList)) = true := by kernel_rfl
theorem closed : joinedFacts Try.pinned.checked.prog 4 Try.f4 Rows.fnCountOneSpec Rows.fnCountOneRow = true := (Seat.and2 (Seat.and2 (Seat.and2 (Seat.and2 (Seat.and2 (Seat.and2 (Seat.and2 (Seat.and2 (Seat.and2 (Seat.and2 (Seat.and2 (Seat.and2 (Seat.and2 (Seat.and2 (Seat.and2 (Seat.and2 (Seat.and2 (Seat.and2 (Seat.and2 (Seat.and2 (Seat.and2 (Seat.and2 (Seat.and2 (Seat.and2 (Seat.and2 (Seat.and2 (Seat.and2 (Seat.and2 (Seat.and2 (Seat.and2 (Seat.and2 cf0 Seat.laidOutP) Seat.mapsRowed) cf3) cf4) cf5) Seat.stops) cf7) Seat.stopKnobs) cf9) cf10) cf11) cf12) cf13) cf14) cf15) cf16) cf17) cf18) cf19) cf20) cf21) Seat.plainKeys) cf23) Seat.stopsHeard) Seat.mayEnter) Seat.liftsFinal) Seat.make) cf28) cf29) cf30) cf31)

theorem over : Rows.fnCountOneRow.holds Try.pinned (OpenSpec.ofChange Rows.fnCountOneSpec) :=
  OpenClaim.holds_of_wide 4 Try.f4 rfl rfl rfl rfl rfl rfl rfl ⟨rfl, rfl, rfl, rfl, rfl⟩ rfl rfl rfl rfl rfl (by kernel_rfl) Try.func4 closed
    (of_decide_eq_true (by kernel_rfl)) (by unfold Func.isWrapper; first | (rw [if_pos (by decide +kernel)]; kernel_rfl) | (rw [if_neg (by decide +kernel)]; exact ⟨rfl, rfl⟩))
    (fun os started H enc _ => lifted os started H enc)

theorem proved : Rows.FnCountOneSaid := over
#print axioms proved
end Go.Proofs.Ytjdjhfdjafdhoaa.fnCountOneDone
