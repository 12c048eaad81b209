/-
  DERIVED. GIVEN WITH THE SEED: THE CARDS: each row of YtnbfmnchihckaaaDoorRows.lean that lists a variable, with what it lists TIED to the program's text (the seventh form; the later family's looks); each row that meets fmt, with fmt's text TOLD by the authors' own Lean function (tested against real Go, not proved from fmt's source: count such statements apart). THE CARD IS WHAT COUNTS. Prove the row's statement (the work); the ties are given (YtnbfmnchihckaaaDoorTie.lean); close each card by the builder's one call (the guide's Derived/Test/ToyasCard.lean, 'card_holds'). Laid BY PROGRAM, IN A SANDBOX (cutbox-door.mjs). By AI agents, Wed Nov 11 2026. No macro, syntax, notation, axiom, sorry.
-/
import Derived.Test.YtnbfmnchihckaaaDoorRows
import GoSem.ClaimSeven
namespace Go.Proofs.YtnbfmnchihckaaaDoor
namespace Rows

/-- THE TIED CARD OF 'laws.FnExactNewTable'. -/
def fnExactNewTableCard : Claim7 := { stood := { row := fnExactNewTableRow, standIns := [], harness := (true, "5ceb596f2e455a84d135ac860581e745d6d146ed5e2f51689ea8aac083acc7af"), looks := false }, kinds := [], alts := [], laidByText := true, laidKinds := [.data], laidTests := true, laidLooks := .later }
def FnExactNewTableCardSaid : Prop := Claim7.holds Tryd.pinned (.plain (OpenSpec.ofChange fnExactNewTableSpec)) fnExactNewTableCard

/-- THE TIED CARD OF 'laws.FnExactTableValid'. -/
def fnExactTableValidCard : Claim7 := { stood := { row := fnExactTableValidRow, standIns := [], harness := (true, "5ceb596f2e455a84d135ac860581e745d6d146ed5e2f51689ea8aac083acc7af"), looks := false }, kinds := [], alts := [], laidByText := true, laidKinds := [.data], laidTests := true, laidLooks := .later }
def FnExactTableValidCardSaid : Prop := Claim7.holds Tryd.pinned (.plain (OpenSpec.ofChange fnExactTableValidSpec)) fnExactTableValidCard

/-- THE TIED CARD OF 'laws.FnExactFindPage'. -/
def fnExactFindPageCard : Claim7 := { stood := { row := fnExactFindPageRow, standIns := [], harness := (true, "5ceb596f2e455a84d135ac860581e745d6d146ed5e2f51689ea8aac083acc7af"), looks := false }, kinds := [], alts := [], laidByText := true, laidKinds := [.data], laidTests := true, laidLooks := .later }
def FnExactFindPageCardSaid : Prop := Claim7.holds Tryd.pinned (.plain (OpenSpec.ofChange fnExactFindPageSpec)) fnExactFindPageCard

/-- THE TIED CARD OF 'laws.FnExactChainOf'. -/
def fnExactChainOfCard : Claim7 := { stood := { row := fnExactChainOfRow, standIns := [], harness := (true, "5ceb596f2e455a84d135ac860581e745d6d146ed5e2f51689ea8aac083acc7af"), looks := false }, kinds := [], alts := [], laidByText := true, laidKinds := [.data], laidTests := true, laidLooks := .later }
def FnExactChainOfCardSaid : Prop := Claim7.holds Tryd.pinned (.plain (OpenSpec.ofChange fnExactChainOfSpec)) fnExactChainOfCard

/-- THE TIED CARD OF 'laws.FnFindPage'. -/
def fnFindPageCard : Claim7 := { stood := { row := fnFindPageRow, standIns := [], harness := (true, "5ceb596f2e455a84d135ac860581e745d6d146ed5e2f51689ea8aac083acc7af"), looks := false }, kinds := [], alts := [], laidByText := true, laidKinds := [.data], laidTests := true, laidLooks := .later }
def FnFindPageCardSaid : Prop := Claim7.holds Tryd.pinned (.plain (OpenSpec.ofChange fnFindPageSpec)) fnFindPageCard

/-- THE TIED CARD OF 'laws.FnMissSteps'. -/
def fnMissStepsCard : Claim7 := { stood := { row := fnMissStepsRow, standIns := [], harness := (true, "5ceb596f2e455a84d135ac860581e745d6d146ed5e2f51689ea8aac083acc7af"), looks := false }, kinds := [], alts := [], laidByText := true, laidKinds := [.data], laidTests := true, laidLooks := .later }
def FnMissStepsCardSaid : Prop := Claim7.holds Tryd.pinned (.plain (OpenSpec.ofChange fnMissStepsSpec)) fnMissStepsCard

/-- THE TIED CARD OF 'laws.FnRehashTable'. -/
def fnRehashTableCard : Claim7 := { stood := { row := fnRehashTableRow, standIns := [], harness := (true, "5ceb596f2e455a84d135ac860581e745d6d146ed5e2f51689ea8aac083acc7af"), looks := false }, kinds := [], alts := [], laidByText := true, laidKinds := [.data], laidTests := true, laidLooks := .later }
def FnRehashTableCardSaid : Prop := Claim7.holds Tryd.pinned (.plain (OpenSpec.ofChange fnRehashTableSpec)) fnRehashTableCard

/-- THE TIED CARD OF 'laws.FnExactRehashTable'. -/
def fnExactRehashTableCard : Claim7 := { stood := { row := fnExactRehashTableRow, standIns := [], harness := (true, "5ceb596f2e455a84d135ac860581e745d6d146ed5e2f51689ea8aac083acc7af"), looks := false }, kinds := [], alts := [], laidByText := true, laidKinds := [.data], laidTests := true, laidLooks := .later }
def FnExactRehashTableCardSaid : Prop := Claim7.holds Tryd.pinned (.plain (OpenSpec.ofChange fnExactRehashTableSpec)) fnExactRehashTableCard

/-- THE SECOND FORM's CARD OF 'laws.FnExactNewTable'. -/
def fnExactNewTableUptoCard : Claim7 := { stood := { row := fnExactNewTableUptoRow, standIns := [], harness := (true, "5ceb596f2e455a84d135ac860581e745d6d146ed5e2f51689ea8aac083acc7af"), looks := false }, kinds := [], alts := [], laidByText := true, laidKinds := [.data], laidTests := true, laidLooks := .later }
def FnExactNewTableUptoCardSaid : Prop := Claim7.holds Tryd.pinned (.plain (OpenSpec.upto fnExactNewTableSpec)) fnExactNewTableUptoCard

/-- THE SECOND FORM's CARD OF 'laws.FnExactTableValid'. -/
def fnExactTableValidUptoCard : Claim7 := { stood := { row := fnExactTableValidUptoRow, standIns := [], harness := (true, "5ceb596f2e455a84d135ac860581e745d6d146ed5e2f51689ea8aac083acc7af"), looks := false }, kinds := [], alts := [], laidByText := true, laidKinds := [.data], laidTests := true, laidLooks := .later }
def FnExactTableValidUptoCardSaid : Prop := Claim7.holds Tryd.pinned (.plain (OpenSpec.upto fnExactTableValidSpec)) fnExactTableValidUptoCard

/-- THE SECOND FORM's CARD OF 'laws.FnExactFindPage'. -/
def fnExactFindPageUptoCard : Claim7 := { stood := { row := fnExactFindPageUptoRow, standIns := [], harness := (true, "5ceb596f2e455a84d135ac860581e745d6d146ed5e2f51689ea8aac083acc7af"), looks := false }, kinds := [], alts := [], laidByText := true, laidKinds := [.data], laidTests := true, laidLooks := .later }
def FnExactFindPageUptoCardSaid : Prop := Claim7.holds Tryd.pinned (.plain (OpenSpec.upto fnExactFindPageSpec)) fnExactFindPageUptoCard

/-- THE SECOND FORM's CARD OF 'laws.FnExactChainOf'. -/
def fnExactChainOfUptoCard : Claim7 := { stood := { row := fnExactChainOfUptoRow, standIns := [], harness := (true, "5ceb596f2e455a84d135ac860581e745d6d146ed5e2f51689ea8aac083acc7af"), looks := false }, kinds := [], alts := [], laidByText := true, laidKinds := [.data], laidTests := true, laidLooks := .later }
def FnExactChainOfUptoCardSaid : Prop := Claim7.holds Tryd.pinned (.plain (OpenSpec.upto fnExactChainOfSpec)) fnExactChainOfUptoCard

/-- THE SECOND FORM's CARD OF 'laws.FnFindPage'. -/
def fnFindPageUptoCard : Claim7 := { stood := { row := fnFindPageUptoRow, standIns := [], harness := (true, "5ceb596f2e455a84d135ac860581e745d6d146ed5e2f51689ea8aac083acc7af"), looks := false }, kinds := [], alts := [], laidByText := true, laidKinds := [.data], laidTests := true, laidLooks := .later }
def FnFindPageUptoCardSaid : Prop := Claim7.holds Tryd.pinned (.plain (OpenSpec.upto fnFindPageSpec)) fnFindPageUptoCard

/-- THE SECOND FORM's CARD OF 'laws.FnMissSteps'. -/
def fnMissStepsUptoCard : Claim7 := { stood := { row := fnMissStepsUptoRow, standIns := [], harness := (true, "5ceb596f2e455a84d135ac860581e745d6d146ed5e2f51689ea8aac083acc7af"), looks := false }, kinds := [], alts := [], laidByText := true, laidKinds := [.data], laidTests := true, laidLooks := .later }
def FnMissStepsUptoCardSaid : Prop := Claim7.holds Tryd.pinned (.plain (OpenSpec.upto fnMissStepsSpec)) fnMissStepsUptoCard

/-- THE SECOND FORM's CARD OF 'laws.FnRehashTable'. -/
def fnRehashTableUptoCard : Claim7 := { stood := { row := fnRehashTableUptoRow, standIns := [], harness := (true, "5ceb596f2e455a84d135ac860581e745d6d146ed5e2f51689ea8aac083acc7af"), looks := false }, kinds := [], alts := [], laidByText := true, laidKinds := [.data], laidTests := true, laidLooks := .later }
def FnRehashTableUptoCardSaid : Prop := Claim7.holds Tryd.pinned (.plain (OpenSpec.upto fnRehashTableSpec)) fnRehashTableUptoCard

/-- THE SECOND FORM's CARD OF 'laws.FnExactRehashTable'. -/
def fnExactRehashTableUptoCard : Claim7 := { stood := { row := fnExactRehashTableUptoRow, standIns := [], harness := (true, "5ceb596f2e455a84d135ac860581e745d6d146ed5e2f51689ea8aac083acc7af"), looks := false }, kinds := [], alts := [], laidByText := true, laidKinds := [.data], laidTests := true, laidLooks := .later }
def FnExactRehashTableUptoCardSaid : Prop := Claim7.holds Tryd.pinned (.plain (OpenSpec.upto fnExactRehashTableSpec)) fnExactRehashTableUptoCard
end Rows
end Go.Proofs.YtnbfmnchihckaaaDoor
