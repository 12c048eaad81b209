/-
  DERIVED. GIVEN WITH THE SEED: THE CARDS: each row of YtjdoegekolbdpaaDoorRows.lean that lists a variable, with what it lists TIED to the program's text (the seventh form; the later family's looks); each row that meets fmt, with fmt's text TOLD by the authors' own Lean function (tested against real Go, not proved from fmt's source: count such statements apart). THE CARD IS WHAT COUNTS. Prove the row's statement (the work); the ties are given (YtjdoegekolbdpaaDoorTie.lean); close each card by the builder's one call (the guide's Derived/Test/ToyasCard.lean, 'card_holds'). Laid BY PROGRAM, IN A SANDBOX (cutbox-door.mjs). By AI agents, Wed Nov 11 2026. No macro, syntax, notation, axiom, sorry.
-/
import Derived.Test.YtjdoegekolbdpaaDoorRows
import GoSem.ClaimSeven
namespace Go.Proofs.YtjdoegekolbdpaaDoor
namespace Rows

/-- THE TIED CARD OF 'laws.FnNewTable'. -/
def fnNewTableCard : Claim7 := { stood := { row := fnNewTableRow, standIns := [], harness := (true, "30ce9109557e3e9592ccfa94ca3f445ffa46d935d3878bcb20e9e0ec6f49d6ac"), looks := false }, kinds := [], alts := [], laidByText := true, laidKinds := [.data], laidTests := true, laidLooks := .later }
def FnNewTableCardSaid : Prop := Claim7.holds Tryd.pinned (.plain (OpenSpec.ofChange fnNewTableSpec)) fnNewTableCard

/-- THE TIED CARD OF 'laws.FnChainOf'. -/
def fnChainOfCard : Claim7 := { stood := { row := fnChainOfRow, standIns := [], harness := (true, "30ce9109557e3e9592ccfa94ca3f445ffa46d935d3878bcb20e9e0ec6f49d6ac"), looks := false }, kinds := [], alts := [], laidByText := true, laidKinds := [.data], laidTests := true, laidLooks := .later }
def FnChainOfCardSaid : Prop := Claim7.holds Tryd.pinned (.plain (OpenSpec.ofChange fnChainOfSpec)) fnChainOfCard

/-- THE TIED CARD OF 'laws.FnTableSame'. -/
def fnTableSameCard : Claim7 := { stood := { row := fnTableSameRow, standIns := [], harness := (true, "30ce9109557e3e9592ccfa94ca3f445ffa46d935d3878bcb20e9e0ec6f49d6ac"), looks := false }, kinds := [], alts := [], laidByText := true, laidKinds := [.data], laidTests := true, laidLooks := .later }
def FnTableSameCardSaid : Prop := Claim7.holds Tryd.pinned (.plain (OpenSpec.ofChange fnTableSameSpec)) fnTableSameCard

/-- THE TIED CARD OF 'laws.FnFindAll'. -/
def fnFindAllCard : Claim7 := { stood := { row := fnFindAllRow, standIns := [], harness := (true, "30ce9109557e3e9592ccfa94ca3f445ffa46d935d3878bcb20e9e0ec6f49d6ac"), looks := false }, kinds := [], alts := [], laidByText := true, laidKinds := [.data], laidTests := true, laidLooks := .later }
def FnFindAllCardSaid : Prop := Claim7.holds Tryd.pinned (.plain (OpenSpec.ofChange fnFindAllSpec)) fnFindAllCard

/-- THE TIED CARD OF 'laws.FnTableValid'. -/
def fnTableValidCard : Claim7 := { stood := { row := fnTableValidRow, standIns := [], harness := (true, "30ce9109557e3e9592ccfa94ca3f445ffa46d935d3878bcb20e9e0ec6f49d6ac"), looks := false }, kinds := [], alts := [], laidByText := true, laidKinds := [.data], laidTests := true, laidLooks := .later }
def FnTableValidCardSaid : Prop := Claim7.holds Tryd.pinned (.plain (OpenSpec.ofChange fnTableValidSpec)) fnTableValidCard

/-- THE TIED CARD OF 'laws.FnExactKeysOf'. -/
def fnExactKeysOfCard : Claim7 := { stood := { row := fnExactKeysOfRow, standIns := [], harness := (true, "30ce9109557e3e9592ccfa94ca3f445ffa46d935d3878bcb20e9e0ec6f49d6ac"), looks := false }, kinds := [], alts := [], laidByText := true, laidKinds := [.data], laidTests := true, laidLooks := .later }
def FnExactKeysOfCardSaid : Prop := Claim7.holds Tryd.pinned (.plain (OpenSpec.ofChange fnExactKeysOfSpec)) fnExactKeysOfCard

/-- THE TIED CARD OF 'laws.FnChainLoad'. -/
def fnChainLoadCard : Claim7 := { stood := { row := fnChainLoadRow, standIns := [], harness := (true, "30ce9109557e3e9592ccfa94ca3f445ffa46d935d3878bcb20e9e0ec6f49d6ac"), looks := false }, kinds := [], alts := [], laidByText := true, laidKinds := [.data], laidTests := true, laidLooks := .later }
def FnChainLoadCardSaid : Prop := Claim7.holds Tryd.pinned (.plain (OpenSpec.ofChange fnChainLoadSpec)) fnChainLoadCard

/-- THE SECOND FORM's CARD OF 'laws.FnNewTable'. -/
def fnNewTableUptoCard : Claim7 := { stood := { row := fnNewTableUptoRow, standIns := [], harness := (true, "30ce9109557e3e9592ccfa94ca3f445ffa46d935d3878bcb20e9e0ec6f49d6ac"), looks := false }, kinds := [], alts := [], laidByText := true, laidKinds := [.data], laidTests := true, laidLooks := .later }
def FnNewTableUptoCardSaid : Prop := Claim7.holds Tryd.pinned (.plain (OpenSpec.upto fnNewTableSpec)) fnNewTableUptoCard

/-- THE SECOND FORM's CARD OF 'laws.FnChainOf'. -/
def fnChainOfUptoCard : Claim7 := { stood := { row := fnChainOfUptoRow, standIns := [], harness := (true, "30ce9109557e3e9592ccfa94ca3f445ffa46d935d3878bcb20e9e0ec6f49d6ac"), looks := false }, kinds := [], alts := [], laidByText := true, laidKinds := [.data], laidTests := true, laidLooks := .later }
def FnChainOfUptoCardSaid : Prop := Claim7.holds Tryd.pinned (.plain (OpenSpec.upto fnChainOfSpec)) fnChainOfUptoCard

/-- THE SECOND FORM's CARD OF 'laws.FnTableSame'. -/
def fnTableSameUptoCard : Claim7 := { stood := { row := fnTableSameUptoRow, standIns := [], harness := (true, "30ce9109557e3e9592ccfa94ca3f445ffa46d935d3878bcb20e9e0ec6f49d6ac"), looks := false }, kinds := [], alts := [], laidByText := true, laidKinds := [.data], laidTests := true, laidLooks := .later }
def FnTableSameUptoCardSaid : Prop := Claim7.holds Tryd.pinned (.plain (OpenSpec.upto fnTableSameSpec)) fnTableSameUptoCard

/-- THE SECOND FORM's CARD OF 'laws.FnFindAll'. -/
def fnFindAllUptoCard : Claim7 := { stood := { row := fnFindAllUptoRow, standIns := [], harness := (true, "30ce9109557e3e9592ccfa94ca3f445ffa46d935d3878bcb20e9e0ec6f49d6ac"), looks := false }, kinds := [], alts := [], laidByText := true, laidKinds := [.data], laidTests := true, laidLooks := .later }
def FnFindAllUptoCardSaid : Prop := Claim7.holds Tryd.pinned (.plain (OpenSpec.upto fnFindAllSpec)) fnFindAllUptoCard

/-- THE SECOND FORM's CARD OF 'laws.FnTableValid'. -/
def fnTableValidUptoCard : Claim7 := { stood := { row := fnTableValidUptoRow, standIns := [], harness := (true, "30ce9109557e3e9592ccfa94ca3f445ffa46d935d3878bcb20e9e0ec6f49d6ac"), looks := false }, kinds := [], alts := [], laidByText := true, laidKinds := [.data], laidTests := true, laidLooks := .later }
def FnTableValidUptoCardSaid : Prop := Claim7.holds Tryd.pinned (.plain (OpenSpec.upto fnTableValidSpec)) fnTableValidUptoCard

/-- THE SECOND FORM's CARD OF 'laws.FnExactKeysOf'. -/
def fnExactKeysOfUptoCard : Claim7 := { stood := { row := fnExactKeysOfUptoRow, standIns := [], harness := (true, "30ce9109557e3e9592ccfa94ca3f445ffa46d935d3878bcb20e9e0ec6f49d6ac"), looks := false }, kinds := [], alts := [], laidByText := true, laidKinds := [.data], laidTests := true, laidLooks := .later }
def FnExactKeysOfUptoCardSaid : Prop := Claim7.holds Tryd.pinned (.plain (OpenSpec.upto fnExactKeysOfSpec)) fnExactKeysOfUptoCard

/-- THE SECOND FORM's CARD OF 'laws.FnChainLoad'. -/
def fnChainLoadUptoCard : Claim7 := { stood := { row := fnChainLoadUptoRow, standIns := [], harness := (true, "30ce9109557e3e9592ccfa94ca3f445ffa46d935d3878bcb20e9e0ec6f49d6ac"), looks := false }, kinds := [], alts := [], laidByText := true, laidKinds := [.data], laidTests := true, laidLooks := .later }
def FnChainLoadUptoCardSaid : Prop := Claim7.holds Tryd.pinned (.plain (OpenSpec.upto fnChainLoadSpec)) fnChainLoadUptoCard
end Rows
end Go.Proofs.YtjdoegekolbdpaaDoor
