/-
  DERIVED. GIVEN WITH THE SEED: THE CARDS: each row of YtaoggijepndnmaaDoorRows.lean that lists a variable, with what it lists TIED to the program's text (the seventh form; the later family's looks); each row that meets fmt, with fmt's text TOLD by the authors' own Lean function (tested against real Go, not proved from fmt's source: count such statements apart). THE CARD IS WHAT COUNTS. Prove the row's statement (the work); the ties are given (YtaoggijepndnmaaDoorTie.lean); close each card by the builder's one call (the guide's Derived/Test/ToyasCard.lean, 'card_holds'). Laid BY PROGRAM, IN A SANDBOX (cutbox-door.mjs). By AI agents, Wed Nov 11 2026. No macro, syntax, notation, axiom, sorry.
-/
import Derived.Test.YtaoggijepndnmaaDoorRows
import GoSem.ClaimSeven
namespace Go.Proofs.YtaoggijepndnmaaDoor
namespace Rows

/-- THE TIED CARD OF 'laws.FnExactParseAddress'. -/
def fnExactParseAddressCard : Claim7 := { stood := { row := fnExactParseAddressRow, standIns := [], harness := (true, "d9266bd9c5d2522b459bf877c9c3472bc6f4cc7bd86382d4041e4d679a2fea26"), looks := true }, kinds := [], alts := [], laidByText := true, laidKinds := [.data, .data, .data, .sentinel, .sentinel], laidTests := true, laidLooks := .later }
def FnExactParseAddressCardSaid : Prop := Claim7.holds Tryd.pinned (.plain (OpenSpec.ofChange fnExactParseAddressSpec)) fnExactParseAddressCard

/-- THE TIED CARD OF 'laws.FnParseSpace'. -/
def fnParseSpaceCard : Claim7 := { stood := { row := fnParseSpaceRow, standIns := [], harness := (true, "d9266bd9c5d2522b459bf877c9c3472bc6f4cc7bd86382d4041e4d679a2fea26"), looks := true }, kinds := [], alts := [], laidByText := true, laidKinds := [.data, .data, .data, .sentinel, .sentinel], laidTests := true, laidLooks := .later }
def FnParseSpaceCardSaid : Prop := Claim7.holds Tryd.pinned (.plain (OpenSpec.ofChange fnParseSpaceSpec)) fnParseSpaceCard

/-- THE TIED CARD OF 'laws.FnAddressText'. -/
def fnAddressTextCard : Claim7 := { stood := { row := fnAddressTextRow, standIns := [], harness := (true, "d9266bd9c5d2522b459bf877c9c3472bc6f4cc7bd86382d4041e4d679a2fea26"), looks := true }, kinds := [], alts := [], laidByText := true, laidKinds := [.data, .data, .data, .sentinel, .sentinel], laidTests := true, laidLooks := .later }
def FnAddressTextCardSaid : Prop := Claim7.holds Tryd.pinned (.plain (OpenSpec.ofChange fnAddressTextSpec)) fnAddressTextCard

/-- THE SECOND FORM's CARD OF 'laws.FnExactParseAddress'. -/
def fnExactParseAddressUptoCard : Claim7 := { stood := { row := fnExactParseAddressUptoRow, standIns := [], harness := (true, "d9266bd9c5d2522b459bf877c9c3472bc6f4cc7bd86382d4041e4d679a2fea26"), looks := true }, kinds := [], alts := [], laidByText := true, laidKinds := [.data, .data, .data, .sentinel, .sentinel], laidTests := true, laidLooks := .later }
def FnExactParseAddressUptoCardSaid : Prop := Claim7.holds Tryd.pinned (.plain (OpenSpec.upto fnExactParseAddressSpec)) fnExactParseAddressUptoCard

/-- THE SECOND FORM's CARD OF 'laws.FnParseSpace'. -/
def fnParseSpaceUptoCard : Claim7 := { stood := { row := fnParseSpaceUptoRow, standIns := [], harness := (true, "d9266bd9c5d2522b459bf877c9c3472bc6f4cc7bd86382d4041e4d679a2fea26"), looks := true }, kinds := [], alts := [], laidByText := true, laidKinds := [.data, .data, .data, .sentinel, .sentinel], laidTests := true, laidLooks := .later }
def FnParseSpaceUptoCardSaid : Prop := Claim7.holds Tryd.pinned (.plain (OpenSpec.upto fnParseSpaceSpec)) fnParseSpaceUptoCard

/-- THE SECOND FORM's CARD OF 'laws.FnAddressText'. -/
def fnAddressTextUptoCard : Claim7 := { stood := { row := fnAddressTextUptoRow, standIns := [], harness := (true, "d9266bd9c5d2522b459bf877c9c3472bc6f4cc7bd86382d4041e4d679a2fea26"), looks := true }, kinds := [], alts := [], laidByText := true, laidKinds := [.data, .data, .data, .sentinel, .sentinel], laidTests := true, laidLooks := .later }
def FnAddressTextUptoCardSaid : Prop := Claim7.holds Tryd.pinned (.plain (OpenSpec.upto fnAddressTextSpec)) fnAddressTextUptoCard
end Rows
end Go.Proofs.YtaoggijepndnmaaDoor
