/-
  DERIVED. GIVEN WITH THE SEED: THE CARDS: each row of YtmgoddllikiglaaDoorRows.lean that lists a variable, with what it lists TIED to the program's text (the seventh form; the later family's looks); each row that meets fmt, with fmt's text TOLD by the authors' own Lean function (tested against real Go, not proved from fmt's source: count such statements apart). THE CARD IS WHAT COUNTS. Prove the row's statement (the work); the ties are given (YtmgoddllikiglaaDoorTie.lean); close each card by the builder's one call (the guide's Derived/Test/ToyasCard.lean, 'card_holds'). Laid BY PROGRAM, IN A SANDBOX (cutbox-door.mjs). By AI agents, Wed Nov 11 2026. No macro, syntax, notation, axiom, sorry.
-/
import Derived.Test.YtmgoddllikiglaaDoorRows
import GoSem.ClaimSeven
namespace Go.Proofs.YtmgoddllikiglaaDoor
namespace Rows

/-- THE TIED CARD OF 'laws.FnExactFormatAddress'. -/
def fnExactFormatAddressCard : Claim7 := { stood := { row := fnExactFormatAddressRow, standIns := [], harness := (true, "0bf6156fd272f28b122df1d718d38d04f27db1fe9b951eb725e5e42b6559394f"), looks := false }, kinds := [], alts := [], laidByText := true, laidKinds := [.data, .data, .data], laidTests := true, laidLooks := .later }
def FnExactFormatAddressCardSaid : Prop := Claim7.holds Tryd.pinned (.plain (OpenSpec.ofChange fnExactFormatAddressSpec)) fnExactFormatAddressCard

/-- THE TIED CARD OF 'laws.FnAddressValid'. -/
def fnAddressValidCard : Claim7 := { stood := { row := fnAddressValidRow, standIns := [], harness := (true, "0bf6156fd272f28b122df1d718d38d04f27db1fe9b951eb725e5e42b6559394f"), looks := false }, kinds := [], alts := [], laidByText := true, laidKinds := [.data, .data, .data], laidTests := true, laidLooks := .later }
def FnAddressValidCardSaid : Prop := Claim7.holds Tryd.pinned (.plain (OpenSpec.ofChange fnAddressValidSpec)) fnAddressValidCard

/-- THE SECOND FORM's CARD OF 'laws.FnExactFormatAddress'. -/
def fnExactFormatAddressUptoCard : Claim7 := { stood := { row := fnExactFormatAddressUptoRow, standIns := [], harness := (true, "0bf6156fd272f28b122df1d718d38d04f27db1fe9b951eb725e5e42b6559394f"), looks := false }, kinds := [], alts := [], laidByText := true, laidKinds := [.data, .data, .data], laidTests := true, laidLooks := .later }
def FnExactFormatAddressUptoCardSaid : Prop := Claim7.holds Tryd.pinned (.plain (OpenSpec.upto fnExactFormatAddressSpec)) fnExactFormatAddressUptoCard

/-- THE SECOND FORM's CARD OF 'laws.FnAddressValid'. -/
def fnAddressValidUptoCard : Claim7 := { stood := { row := fnAddressValidUptoRow, standIns := [], harness := (true, "0bf6156fd272f28b122df1d718d38d04f27db1fe9b951eb725e5e42b6559394f"), looks := false }, kinds := [], alts := [], laidByText := true, laidKinds := [.data, .data, .data], laidTests := true, laidLooks := .later }
def FnAddressValidUptoCardSaid : Prop := Claim7.holds Tryd.pinned (.plain (OpenSpec.upto fnAddressValidSpec)) fnAddressValidUptoCard
end Rows
end Go.Proofs.YtmgoddllikiglaaDoor
