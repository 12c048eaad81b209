/- The statement 'FnExactRehashTable': for every input the law returns true, and each argument reads as it did. No conditions. -/
import Derived.Test.YtnbfmnchihckaaaDoorRows
import Derived.Test.YtnbfmnchihckaaaDoorFacts
import Derived.Test.YtnbfmnchihckaaaDoorLawsG4
import Derived.ChangeOld
import Derived.Test.YtnbfmnchihckaaaDoorDoor
import Derived.Test.YtnbfmnchihckaaaDoorTie
import Derived.Test.YtnbfmnchihckaaaDoorCards
import Derived.SevenTiedAt
namespace Go.Proofs.YtnbfmnchihckaaaDoor.fnExactRehashTableDone
open Go.ChangeShapes Go.WideShapes Go.ChangeAt Go.RowKit
open Go.ChangeMaps (open_string shut_string)
set_option linter.unusedVariables false
set_option maxRecDepth 100000


set_option maxRecDepth 100000 in
theorem lifted (os : Os) (started : os.Started) (H : Type) (enc : TypeId × Value → H) :
    ReturnsInHanded {} Tryd.checked os 10 .any (fun w args => (Rows.fnExactRehashTableSpec.pre enc Tryd.prog Tryd.f10 [] false w args ∧ laidMetH Tryd.prog laidF w) ∧ sizedMet enc Tryd.prog Tryd.f10 (OpenSpec.ofChange Rows.fnExactRehashTableSpec) false w args)
      (Rows.fnExactRehashTableSpec.post enc Tryd.prog Tryd.f10 false true false false) := by
  refine returnsInHanded_of_change_and (C := Tryd.checked) (X := fun w _ => laidMetH Tryd.prog laidF w) (fun _ _ _ hh h => h.of_heap hh) Seat.own started (by kernel_rfl) Tryd.func10
    (ChangeSpec.witness_shaped (enc := enc) (C := Tryd.checked) (os := os) (X := fun w _ => laidMetH Tryd.prog laidF w) false (World.doorLaid Tryd.prog 400 os) #[.agg #[.slice none 0 0, .slice none 0 0], .int .i64 0] 8 rfl (World.shaped_of_RefB (by kernel_rfl) (by kernel_rfl)) (by kernel_rfl) (by kernel_rfl) (by kernel_rfl) (door_met os _)) ?_
  intro W base args ds gs before hval0 hW _ _ hL _
  have hval : ∀ (j : Nat) t v, Tryd.f10.params[j]? = some t → args[j]? = some v → Value.okWide Tryd.prog W .any base t v := hval0
  have hW' := hW
  obtain ⟨p, q, hA0, hV0, rfl, hfz, hnd⟩ := hW
  have hA : DataW.TrodAll enc Tryd.prog W 0 (fun _ => true) true Tryd.f10.params.toList args.toList ds p := hA0
  rw [Tryd.params10] at hA hval
  obtain ⟨v0, vs0, d0, ds0, p0, q0, hargs, rfl, rfl, h0, r0⟩ := trodAll_cons hA
  obtain ⟨v1, vs1, d1, ds1, p1, q1, rfl, rfl, rfl, h1, r1⟩ := trodAll_cons r0
  obtain ⟨rfl, rfl, rfl⟩ := trodAll_nil r1
  obtain rfl : args = #[v0, v1] := by cases args; simp_all
  have hV : DataW.TrodVars enc Tryd.prog W (fun _ => true) ["loop.example/invertedpages/impl.free"] gs q := hV0
  obtain ⟨g9, t9, cs9, fu9, d9, p9, rfl, hg9, ht9, hv9, hd9, rfl⟩ := trodVars_one hV
  obtain rfl := Option.some.inj (gFree.symm.trans hg9)
  obtain rfl := Option.some.inj (tFree.symm.trans ht9)
  have k9 : DataW.Trod enc Tryd.prog W 0 (fun _ => true) true 55 (.agg cs9) d9 p9 := ⟨fu9, hd9⟩
  have lt9 : ∀ x ∈ p9, x.block < W.heap.size := by obtain ⟨m, hm⟩ := k9; exact DataW.trod_lt m _ _ _ hm
  have hfree := free_of_laid hL
  have k0 := h0
  have lt0 : ∀ x ∈ p0, x.block < W.heap.size := by obtain ⟨m, hm⟩ := k0; exact DataW.trod_lt m _ _ _ hm
  obtain ⟨a0, nb0, ca0, b0, nf0, cb0, rfl, w0⟩ := open_table (hval 0 33 v0 rfl rfl) h0
  have k1 := h1
  have lt1 : ∀ x ∈ p1, x.block < W.heap.size := by obtain ⟨m, hm⟩ := k1; exact DataW.trod_lt m _ _ _ hm
  obtain ⟨a1, rfl, _, _, w1⟩ := open_int Tryd.underlying3 (hval 1 3 v1 rfl rfl) h1
  clear hA0 hval0
  refine (law_FnExactRehashTable W a0 nb0 ca0 b0 nf0 cb0 w0 a1 w1 hfree).mono fun e W' ⟨he, bel⟩ => ?_
  subst he
  obtain ⟨fu8, hd8⟩ := Below.trod Seat.laidOut (by kernel_rfl) (of_decide_eq_true (by kernel_rfl)) k9 bel lt9
  have hv8 : W'.var? Tryd.prog "loop.example/invertedpages/impl.free" = some cs9 := by
    rw [← hv9]; simp only [World.var?, gFree, Option.bind_some, bel.block 0 hfree.1]
  exact ⟨_, rfl, _, _, _, [], _, _, hW', trodAll_mk1 (shut_bool Tryd.underlying4 _), (trodAll_cons_mk (Below.trod Seat.laidOut (by kernel_rfl) (of_decide_eq_true (by kernel_rfl)) k0 bel lt0) (trodAll_cons_mk (Below.trod Seat.laidOut (by kernel_rfl) (of_decide_eq_true (by kernel_rfl)) k1 bel lt1) trodAll_mk0)), trodVars_mk1 gFree tFree hv8 hd8, bel.frame _, fun h => by cases h⟩
theorem cf0 : (Rows.fnExactRehashTableRow.wf (OpenSpec.ofChange Rows.fnExactRehashTableSpec)) = true := by kernel_rfl
theorem cf3 : (Tryd.f10.params.all (Tryd.pinned.checked.prog.readableRec ·)) = true := by kernel_rfl
theorem cf4 : (namedTie Tryd.pinned.checked.prog Rows.fnExactRehashTableRow.named Rows.fnExactRehashTableSpec.vars) = true := by kernel_rfl
theorem cf5 : ((Rows.fnExactRehashTableRow.stops == [])) = true := by kernel_rfl
theorem cf7 : ((Rows.fnExactRehashTableRow.knobs == [])) = true := by kernel_rfl
theorem cf9 : ((Rows.fnExactRehashTableRow.inPlace == Tryd.pinned.checked.prog.inPlace 10)) = true := by kernel_rfl
theorem cf10 : ((Rows.fnExactRehashTableRow.unfollowed == Tryd.pinned.checked.prog.unfollowed 10)) = true := by kernel_rfl
theorem cf11 : ((Rows.fnExactRehashTableRow.recurses == Tryd.pinned.checked.prog.recurses 10)) = true := by kernel_rfl
theorem cf12 : ((Rows.fnExactRehashTableRow.named == Tryd.pinned.checked.prog.varsNamed 10)) = true := by kernel_rfl
theorem cf13 : ((Rows.fnExactRehashTableRow.maps == (Tryd.f10.params.toList ++ Rows.fnExactRehashTableSpec.plain.varTypes Tryd.pinned.checked.prog).any (Tryd.pinned.checked.prog.mapsRec ·))) = true := by kernel_rfl
theorem cf14 : ((Rows.fnExactRehashTableRow.ifaces == (Tryd.f10.params.toList ++ Rows.fnExactRehashTableSpec.plain.varTypes Tryd.pinned.checked.prog).any (Tryd.pinned.checked.prog.ifacesRec ·))) = true := by kernel_rfl
theorem cf15 : ((Rows.fnExactRehashTableRow.mapsOut == Tryd.pinned.checked.prog.mapsAmong Tryd.f10.resultTypes.toList)) = true := by kernel_rfl
theorem cf16 : ((Rows.fnExactRehashTableRow.loops == (Tryd.f10.params.toList ++ Rows.fnExactRehashTableSpec.plain.varTypes Tryd.pinned.checked.prog).any (Tryd.pinned.checked.prog.loopsFrom ·))) = true := by kernel_rfl
theorem cf17 : ((Rows.fnExactRehashTableRow.wideKeys == (Tryd.f10.params.toList ++ Rows.fnExactRehashTableSpec.plain.varTypes Tryd.pinned.checked.prog ++ Tryd.f10.resultTypes.toList).any (Tryd.pinned.checked.prog.wideKeysFrom ·))) = true := by kernel_rfl
theorem cf18 : (Rows.fnExactRehashTableSpec.vars.all (Tryd.pinned.checked.prog.varReadable ·)) = true := by kernel_rfl
theorem cf19 : (Tryd.f10.resultTypes.all (fun t => Tryd.pinned.checked.prog.readableRec t && decide (t < Tryd.pinned.checked.prog.types.size))) = true := by kernel_rfl
theorem cf20 : ((Rows.fnExactRehashTableRow.ifacesOut == Tryd.f10.resultTypes.toList.any (Tryd.pinned.checked.prog.ifacesRec ·))) = true := by kernel_rfl
theorem cf21 : ((Rows.fnExactRehashTableRow.loopsOut == Tryd.f10.resultTypes.toList.any (Tryd.pinned.checked.prog.loopsFrom ·))) = true := by kernel_rfl
theorem cf23 : (Rows.fnExactRehashTableRow.shortTexts.isNone) = true := by kernel_rfl
theorem cf28 : ((Rows.fnExactRehashTableRow.kinds == (if Rows.fnExactRehashTableRow.domain.isEmpty then [] else Tryd.f10.params.toList.map fun t => match Tryd.pinned.checked.prog.underlying t with | some (.int k) => some k | _ => none))) = true := by kernel_rfl
theorem cf29 : ((Rows.fnExactRehashTableRow.pinned == Rows.fnExactRehashTableRow.pinnedBy)) = true := by kernel_rfl
theorem cf30 : ((Rows.fnExactRehashTableRow.veiled == (Tryd.f10.params.toList ++ Rows.fnExactRehashTableSpec.plain.varTypes Tryd.pinned.checked.prog ++ Tryd.f10.resultTypes.toList).any (Tryd.pinned.checked.prog.veiledRec ·))) = true := by kernel_rfl
theorem cf31 : (Rows.fnExactRehashTableRow.veiledFits Tryd.pinned.checked.prog Tryd.f10.params.toList (Tryd.f10.params.toList ++ Rows.fnExactRehashTableSpec.plain.varTypes Tryd.pinned.checked.prog ++ Tryd.f10.resultTypes.toList)) = true := by kernel_rfl
theorem closed : joinedFacts Tryd.pinned.checked.prog 10 Tryd.f10 Rows.fnExactRehashTableSpec Rows.fnExactRehashTableRow = true := (Seat.and2 (Seat.and2 (Seat.and2 (Seat.and2 (Seat.and2 (Seat.and2 (Seat.and2 (Seat.and2 (Seat.and2 (Seat.and2 (Seat.and2 (Seat.and2 (Seat.and2 (Seat.and2 (Seat.and2 (Seat.and2 (Seat.and2 (Seat.and2 (Seat.and2 (Seat.and2 (Seat.and2 (Seat.and2 (Seat.and2 (Seat.and2 (Seat.and2 (Seat.and2 (Seat.and2 (Seat.and2 (Seat.and2 (Seat.and2 (Seat.and2 cf0 Seat.laidOutP) Seat.mapsRowed) cf3) cf4) cf5) Seat.stops) cf7) Seat.stopKnobs) cf9) cf10) cf11) cf12) cf13) cf14) cf15) cf16) cf17) cf18) cf19) cf20) cf21) Seat.plainKeys) cf23) Seat.stopsHeard) Seat.mayEnter) Seat.liftsFinal) Seat.make) cf28) cf29) cf30) cf31)

theorem over : Rows.fnExactRehashTableRow.holds Tryd.pinned (OpenSpec.ofChange Rows.fnExactRehashTableSpec) :=
  OpenClaim.holds_of_wide 10 Tryd.f10 rfl rfl rfl rfl rfl rfl rfl ⟨rfl, rfl, rfl, rfl, rfl⟩ rfl rfl rfl rfl rfl (by kernel_rfl) Tryd.func10 closed
    (of_decide_eq_true (by kernel_rfl)) (by unfold Func.isWrapper; first | (rw [if_pos (by decide +kernel)]; kernel_rfl) | (rw [if_neg (by decide +kernel)]; exact ⟨rfl, rfl⟩))
    (fun os started H enc _ => lifted os started H enc)

theorem proved : Rows.FnExactRehashTableCardSaid :=
  Claim7.holds_tied_plain_at .later [] [.data] true (true, "5ceb596f2e455a84d135ac860581e745d6d146ed5e2f51689ea8aac083acc7af") false
    over (fun _ h => by cases h) (by kernel_rfl) (fun _ h => by cases h) fnExactRehashTable_row_tie rfl ⟨rfl, rfl⟩ (by kernel_rfl) rfl
    (fun f fn hf hfn => by
      obtain rfl : f = 10 := Option.some.inj ((show Tryd.prog.funcNamed "loop.example/invertedpages/laws.FnExactRehashTable" = some 10 by kernel_rfl).symm.trans hf) |>.symm
      obtain rfl : fn = Tryd.f10 := (Option.some.inj (Tryd.func10.symm.trans hfn)).symm
      exact ⟨by kernel_rfl, fun j t ht => by
        rw [Tryd.params10] at ht
        have hm : t ∈ [33, 3] := by simpa using Array.mem_of_getElem? ht
        have hall : ([33, 3].all fun u => !Tryd.prog.wantsStandIn u) = true := by kernel_rfl
        exact (show Tryd.prog.wantsStandIn t = false by simpa using List.all_eq_true.1 hall t hm)⟩)
    (by kernel_rfl)
#print axioms proved
end Go.Proofs.YtnbfmnchihckaaaDoor.fnExactRehashTableDone
