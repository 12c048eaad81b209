/-
  No cell of these rows narrows 'for every input' (looked for: loops, veiled, ifaces, maps, wideKeys, modest, calm, conditions, laid).
  DERIVED. THE GIVEN ROWS OF THIS SEAT. 11 by the template 'for every input the law returns true; each argument reads behind the call as it read before'; 0 by the template 'total and deterministic' (their statements: YthehcknkehmkkaaTotals.lean).
  GIVEN WITH THE SEED: the statements are not yours to turn. If you find one false, say at which input.
  Laid BY PROGRAM, IN A SANDBOX (cutbox-rows.mjs): the forced cells as the released guide's own fill.sh prints them over the translation c8d87d2cfc7e6919… (all of the seat's roots in one cut). By AI agents, Wed Nov 11 2026. No macro, syntax, notation, axiom, sorry.
-/
import Derived.Test.YthehcknkehmkkaaChecked
import GoSem.Claim
import GoSem.ClaimJoined
import GoSem.ClaimMapViews
import Derived.JoinedTies
import Derived.KernelRfl
namespace Go.Proofs.Ythehcknkehmkkaa
/- THE CELL 'sum', in the pinned program and in every row, IS THE sha256 OF THE DUMP (.gsa) THAT YthehcknkehmkkaaProg.lean LOADS. Nothing in Lean hashes anything: it is a label: what it is worth is what the hold of that sum in a sandbox is worth. -/
noncomputable def Try.pinned : Pinned := { name := "ythehcknkehmkkaa", sum := "c8d87d2cfc7e691963556de883a305ec57fd86b853fac2f60b8e971505b8b748", checked := Try.checked }
namespace Rows
def none {H : Type} : Left H := { results := [], args := [] }

/-- 'laws.FnAllows': WHATEVER THE INPUT: true; the input reads as it did. -/
def fnAllowsSpec : ChangeSpec := { name := "fnAllows", fn := fun _ => fun
  | [d] => { results := [.lit (.bool true)], args := [d] }
  | _ => none }
def fnAllowsRow : OpenClaim := { program := "ythehcknkehmkkaa", sum := "c8d87d2cfc7e691963556de883a305ec57fd86b853fac2f60b8e971505b8b748", func := "loop.example/invertedpages/laws.FnAllows", spec := "fnAllows", apart := false }
def FnAllowsSaid : Prop := fnAllowsRow.holds Try.pinned (OpenSpec.ofChange fnAllowsSpec)

/-- ITS FALSE NEIGHBOUR: 'it returns false'. Refute it at one input. -/
def fnAllowsWrong : ChangeSpec := { name := "fnAllows", fn := fun _ => fun
  | [d] => { results := [.lit (.bool false)], args := [d] }
  | _ => none }
def FnAllowsWrongFalsely : Prop := fnAllowsRow.holds Try.pinned (OpenSpec.ofChange fnAllowsWrong)

/-- 'laws.FnRightsText': WHATEVER THE INPUT: true; the input reads as it did. -/
def fnRightsTextSpec : ChangeSpec := { name := "fnRightsText", fn := fun _ => fun
  | [d] => { results := [.lit (.bool true)], args := [d] }
  | _ => none }
def fnRightsTextRow : OpenClaim := { program := "ythehcknkehmkkaa", sum := "c8d87d2cfc7e691963556de883a305ec57fd86b853fac2f60b8e971505b8b748", func := "loop.example/invertedpages/laws.FnRightsText", spec := "fnRightsText", apart := false }
def FnRightsTextSaid : Prop := fnRightsTextRow.holds Try.pinned (OpenSpec.ofChange fnRightsTextSpec)

/-- ITS FALSE NEIGHBOUR: 'it returns false'. Refute it at one input. -/
def fnRightsTextWrong : ChangeSpec := { name := "fnRightsText", fn := fun _ => fun
  | [d] => { results := [.lit (.bool false)], args := [d] }
  | _ => none }
def FnRightsTextWrongFalsely : Prop := fnRightsTextRow.holds Try.pinned (OpenSpec.ofChange fnRightsTextWrong)

/-- 'laws.FnFormatRights': WHATEVER THE INPUT: true; the input reads as it did. -/
def fnFormatRightsSpec : ChangeSpec := { name := "fnFormatRights", fn := fun _ => fun
  | [d] => { results := [.lit (.bool true)], args := [d] }
  | _ => none }
def fnFormatRightsRow : OpenClaim := { program := "ythehcknkehmkkaa", sum := "c8d87d2cfc7e691963556de883a305ec57fd86b853fac2f60b8e971505b8b748", func := "loop.example/invertedpages/laws.FnFormatRights", spec := "fnFormatRights", apart := false }
def FnFormatRightsSaid : Prop := fnFormatRightsRow.holds Try.pinned (OpenSpec.ofChange fnFormatRightsSpec)

/-- ITS FALSE NEIGHBOUR: 'it returns false'. Refute it at one input. -/
def fnFormatRightsWrong : ChangeSpec := { name := "fnFormatRights", fn := fun _ => fun
  | [d] => { results := [.lit (.bool false)], args := [d] }
  | _ => none }
def FnFormatRightsWrongFalsely : Prop := fnFormatRightsRow.holds Try.pinned (OpenSpec.ofChange fnFormatRightsWrong)

/-- 'laws.FnHashKey': WHATEVER THE INPUT: true; the input reads as it did. -/
def fnHashKeySpec : ChangeSpec := { name := "fnHashKey", fn := fun _ => fun
  | [d] => { results := [.lit (.bool true)], args := [d] }
  | _ => none }
def fnHashKeyRow : OpenClaim := { program := "ythehcknkehmkkaa", sum := "c8d87d2cfc7e691963556de883a305ec57fd86b853fac2f60b8e971505b8b748", func := "loop.example/invertedpages/laws.FnHashKey", spec := "fnHashKey", apart := false }
def FnHashKeySaid : Prop := fnHashKeyRow.holds Try.pinned (OpenSpec.ofChange fnHashKeySpec)

/-- ITS FALSE NEIGHBOUR: 'it returns false'. Refute it at one input. -/
def fnHashKeyWrong : ChangeSpec := { name := "fnHashKey", fn := fun _ => fun
  | [d] => { results := [.lit (.bool false)], args := [d] }
  | _ => none }
def FnHashKeyWrongFalsely : Prop := fnHashKeyRow.holds Try.pinned (OpenSpec.ofChange fnHashKeyWrong)

/-- 'laws.FnMoveSum': WHATEVER THE INPUT: true; the input reads as it did. -/
def fnMoveSumSpec : ChangeSpec := { name := "fnMoveSum", fn := fun _ => fun
  | [d] => { results := [.lit (.bool true)], args := [d] }
  | _ => none }
def fnMoveSumRow : OpenClaim := { program := "ythehcknkehmkkaa", sum := "c8d87d2cfc7e691963556de883a305ec57fd86b853fac2f60b8e971505b8b748", func := "loop.example/invertedpages/laws.FnMoveSum", spec := "fnMoveSum", apart := false }
def FnMoveSumSaid : Prop := fnMoveSumRow.holds Try.pinned (OpenSpec.ofChange fnMoveSumSpec)

/-- ITS FALSE NEIGHBOUR: 'it returns false'. Refute it at one input. -/
def fnMoveSumWrong : ChangeSpec := { name := "fnMoveSum", fn := fun _ => fun
  | [d] => { results := [.lit (.bool false)], args := [d] }
  | _ => none }
def FnMoveSumWrongFalsely : Prop := fnMoveSumRow.holds Try.pinned (OpenSpec.ofChange fnMoveSumWrong)

/-- 'laws.FnMoveAddress': WHATEVER THE INPUT: true; the input reads as it did. -/
def fnMoveAddressSpec : ChangeSpec := { name := "fnMoveAddress", fn := fun _ => fun
  | [d] => { results := [.lit (.bool true)], args := [d] }
  | _ => none }
def fnMoveAddressRow : OpenClaim := { program := "ythehcknkehmkkaa", sum := "c8d87d2cfc7e691963556de883a305ec57fd86b853fac2f60b8e971505b8b748", func := "loop.example/invertedpages/laws.FnMoveAddress", spec := "fnMoveAddress", apart := false }
def FnMoveAddressSaid : Prop := fnMoveAddressRow.holds Try.pinned (OpenSpec.ofChange fnMoveAddressSpec)

/-- ITS FALSE NEIGHBOUR: 'it returns false'. Refute it at one input. -/
def fnMoveAddressWrong : ChangeSpec := { name := "fnMoveAddress", fn := fun _ => fun
  | [d] => { results := [.lit (.bool false)], args := [d] }
  | _ => none }
def FnMoveAddressWrongFalsely : Prop := fnMoveAddressRow.holds Try.pinned (OpenSpec.ofChange fnMoveAddressWrong)

/-- 'laws.FnPagesOne': WHATEVER THE INPUT: true; the input reads as it did. -/
def fnPagesOneSpec : ChangeSpec := { name := "fnPagesOne", fn := fun _ => fun
  | [d] => { results := [.lit (.bool true)], args := [d] }
  | _ => none }
def fnPagesOneRow : OpenClaim := { program := "ythehcknkehmkkaa", sum := "c8d87d2cfc7e691963556de883a305ec57fd86b853fac2f60b8e971505b8b748", func := "loop.example/invertedpages/laws.FnPagesOne", spec := "fnPagesOne", apart := false }
def FnPagesOneSaid : Prop := fnPagesOneRow.holds Try.pinned (OpenSpec.ofChange fnPagesOneSpec)

/-- ITS FALSE NEIGHBOUR: 'it returns false'. Refute it at one input. -/
def fnPagesOneWrong : ChangeSpec := { name := "fnPagesOne", fn := fun _ => fun
  | [d] => { results := [.lit (.bool false)], args := [d] }
  | _ => none }
def FnPagesOneWrongFalsely : Prop := fnPagesOneRow.holds Try.pinned (OpenSpec.ofChange fnPagesOneWrong)

/-- 'laws.FnPagesOf': WHATEVER THE INPUT: true; the input reads as it did. -/
def fnPagesOfSpec : ChangeSpec := { name := "fnPagesOf", fn := fun _ => fun
  | [d] => { results := [.lit (.bool true)], args := [d] }
  | _ => none }
def fnPagesOfRow : OpenClaim := { program := "ythehcknkehmkkaa", sum := "c8d87d2cfc7e691963556de883a305ec57fd86b853fac2f60b8e971505b8b748", func := "loop.example/invertedpages/laws.FnPagesOf", spec := "fnPagesOf", apart := false }
def FnPagesOfSaid : Prop := fnPagesOfRow.holds Try.pinned (OpenSpec.ofChange fnPagesOfSpec)

/-- ITS FALSE NEIGHBOUR: 'it returns false'. Refute it at one input. -/
def fnPagesOfWrong : ChangeSpec := { name := "fnPagesOf", fn := fun _ => fun
  | [d] => { results := [.lit (.bool false)], args := [d] }
  | _ => none }
def FnPagesOfWrongFalsely : Prop := fnPagesOfRow.holds Try.pinned (OpenSpec.ofChange fnPagesOfWrong)

/-- 'laws.FnExactKeysIn': WHATEVER THE INPUT: true; the input reads as it did. -/
def fnExactKeysInSpec : ChangeSpec := { name := "fnExactKeysIn", fn := fun _ => fun
  | [d1, d2, d3] => { results := [.lit (.bool true)], args := [d1, d2, d3] }
  | _ => none }
def fnExactKeysInRow : OpenClaim := { program := "ythehcknkehmkkaa", sum := "c8d87d2cfc7e691963556de883a305ec57fd86b853fac2f60b8e971505b8b748", func := "loop.example/invertedpages/laws.FnExactKeysIn", spec := "fnExactKeysIn", apart := false }
def FnExactKeysInSaid : Prop := fnExactKeysInRow.holds Try.pinned (OpenSpec.ofChange fnExactKeysInSpec)

/-- ITS FALSE NEIGHBOUR: 'it returns false'. Refute it at one input. -/
def fnExactKeysInWrong : ChangeSpec := { name := "fnExactKeysIn", fn := fun _ => fun
  | [d1, d2, d3] => { results := [.lit (.bool false)], args := [d1, d2, d3] }
  | _ => none }
def FnExactKeysInWrongFalsely : Prop := fnExactKeysInRow.holds Try.pinned (OpenSpec.ofChange fnExactKeysInWrong)

/-- 'laws.FnKeysSpaces': WHATEVER THE INPUT: true; the input reads as it did. -/
def fnKeysSpacesSpec : ChangeSpec := { name := "fnKeysSpaces", fn := fun _ => fun
  | [d] => { results := [.lit (.bool true)], args := [d] }
  | _ => none }
def fnKeysSpacesRow : OpenClaim := { program := "ythehcknkehmkkaa", sum := "c8d87d2cfc7e691963556de883a305ec57fd86b853fac2f60b8e971505b8b748", func := "loop.example/invertedpages/laws.FnKeysSpaces", spec := "fnKeysSpaces", apart := false }
def FnKeysSpacesSaid : Prop := fnKeysSpacesRow.holds Try.pinned (OpenSpec.ofChange fnKeysSpacesSpec)

/-- ITS FALSE NEIGHBOUR: 'it returns false'. Refute it at one input. -/
def fnKeysSpacesWrong : ChangeSpec := { name := "fnKeysSpaces", fn := fun _ => fun
  | [d] => { results := [.lit (.bool false)], args := [d] }
  | _ => none }
def FnKeysSpacesWrongFalsely : Prop := fnKeysSpacesRow.holds Try.pinned (OpenSpec.ofChange fnKeysSpacesWrong)

/-- 'laws.FnKeysIn': WHATEVER THE INPUT: true; the input reads as it did. -/
def fnKeysInSpec : ChangeSpec := { name := "fnKeysIn", fn := fun _ => fun
  | [d] => { results := [.lit (.bool true)], args := [d] }
  | _ => none }
def fnKeysInRow : OpenClaim := { program := "ythehcknkehmkkaa", sum := "c8d87d2cfc7e691963556de883a305ec57fd86b853fac2f60b8e971505b8b748", func := "loop.example/invertedpages/laws.FnKeysIn", spec := "fnKeysIn", apart := false }
def FnKeysInSaid : Prop := fnKeysInRow.holds Try.pinned (OpenSpec.ofChange fnKeysInSpec)

/-- ITS FALSE NEIGHBOUR: 'it returns false'. Refute it at one input. -/
def fnKeysInWrong : ChangeSpec := { name := "fnKeysIn", fn := fun _ => fun
  | [d] => { results := [.lit (.bool false)], args := [d] }
  | _ => none }
def FnKeysInWrongFalsely : Prop := fnKeysInRow.holds Try.pinned (OpenSpec.ofChange fnKeysInWrong)

/- THE SECOND FORM. 'bulk': how many values and letters a reading holds, each counted each time it is reached (what is shared counts as often as it is met; a slice's spare places count too). A statement '..UptoSaid' is the law's where the arguments, and the package variables that the reading takes, are together of bulk at most 1048576: NARROWER than '..Said'. Prove '..Said' where nothing that the law and all that it calls make is longer than what came in: it says more and counts as full. Else prove '..UptoSaid'. A law counts once. -/
mutual
def uptoBulk {H : Type} : DataW H → Nat
  | .lit (.string bytes) => bytes.length + 1
  | .lit _ => 1
  | .nil => 1
  | .ptr d => uptoBulk d + 1
  | .slice elems spare => uptoBulkAll elems + uptoBulkAll spare + 1
  | .agg parts => uptoBulkAll parts + 1
  | .iface _ d => uptoBulk d + 1
  | .map entries => uptoBulkEntries entries + 1
  | .held _ => 1
def uptoBulkAll {H : Type} : List (DataW H) → Nat
  | [] => 0
  | d :: r => uptoBulk d + uptoBulkAll r
def uptoBulkEntries {H : Type} : List (Lit × DataW H) → Nat
  | [] => 0
  | x :: r => uptoBulkEntry x + uptoBulkEntries r
def uptoBulkEntry {H : Type} : Lit × DataW H → Nat
  | (.string bytes, d) => bytes.length + uptoBulk d + 1
  | (_, d) => uptoBulk d + 1
 end
def uptoSmall : (H : Type) → List (DataW H) → Bool := fun _ ds => decide (uptoBulkAll ds ≤ 1048576)
def OpenSpec.upto (s : _root_.Go.ChangeSpec) : _root_.Go.OpenSpec := { _root_.Go.OpenSpec.ofChange s with cond := some uptoSmall }

/-- 'laws.FnAllows', WHERE WHAT IT READS IS OF BULK AT MOST 1048576: true; the input reads as it did. -/
def fnAllowsUptoRow : OpenClaim := { program := "ythehcknkehmkkaa", sum := "c8d87d2cfc7e691963556de883a305ec57fd86b853fac2f60b8e971505b8b748", func := "loop.example/invertedpages/laws.FnAllows", spec := "fnAllows", apart := false, narrowed := true }
def FnAllowsUptoSaid : Prop := fnAllowsUptoRow.holds Try.pinned (OpenSpec.upto fnAllowsSpec)

/-- 'laws.FnRightsText', WHERE WHAT IT READS IS OF BULK AT MOST 1048576: true; the input reads as it did. -/
def fnRightsTextUptoRow : OpenClaim := { program := "ythehcknkehmkkaa", sum := "c8d87d2cfc7e691963556de883a305ec57fd86b853fac2f60b8e971505b8b748", func := "loop.example/invertedpages/laws.FnRightsText", spec := "fnRightsText", apart := false, narrowed := true }
def FnRightsTextUptoSaid : Prop := fnRightsTextUptoRow.holds Try.pinned (OpenSpec.upto fnRightsTextSpec)

/-- 'laws.FnFormatRights', WHERE WHAT IT READS IS OF BULK AT MOST 1048576: true; the input reads as it did. -/
def fnFormatRightsUptoRow : OpenClaim := { program := "ythehcknkehmkkaa", sum := "c8d87d2cfc7e691963556de883a305ec57fd86b853fac2f60b8e971505b8b748", func := "loop.example/invertedpages/laws.FnFormatRights", spec := "fnFormatRights", apart := false, narrowed := true }
def FnFormatRightsUptoSaid : Prop := fnFormatRightsUptoRow.holds Try.pinned (OpenSpec.upto fnFormatRightsSpec)

/-- 'laws.FnHashKey', WHERE WHAT IT READS IS OF BULK AT MOST 1048576: true; the input reads as it did. -/
def fnHashKeyUptoRow : OpenClaim := { program := "ythehcknkehmkkaa", sum := "c8d87d2cfc7e691963556de883a305ec57fd86b853fac2f60b8e971505b8b748", func := "loop.example/invertedpages/laws.FnHashKey", spec := "fnHashKey", apart := false, narrowed := true }
def FnHashKeyUptoSaid : Prop := fnHashKeyUptoRow.holds Try.pinned (OpenSpec.upto fnHashKeySpec)

/-- 'laws.FnMoveSum', WHERE WHAT IT READS IS OF BULK AT MOST 1048576: true; the input reads as it did. -/
def fnMoveSumUptoRow : OpenClaim := { program := "ythehcknkehmkkaa", sum := "c8d87d2cfc7e691963556de883a305ec57fd86b853fac2f60b8e971505b8b748", func := "loop.example/invertedpages/laws.FnMoveSum", spec := "fnMoveSum", apart := false, narrowed := true }
def FnMoveSumUptoSaid : Prop := fnMoveSumUptoRow.holds Try.pinned (OpenSpec.upto fnMoveSumSpec)

/-- 'laws.FnMoveAddress', WHERE WHAT IT READS IS OF BULK AT MOST 1048576: true; the input reads as it did. -/
def fnMoveAddressUptoRow : OpenClaim := { program := "ythehcknkehmkkaa", sum := "c8d87d2cfc7e691963556de883a305ec57fd86b853fac2f60b8e971505b8b748", func := "loop.example/invertedpages/laws.FnMoveAddress", spec := "fnMoveAddress", apart := false, narrowed := true }
def FnMoveAddressUptoSaid : Prop := fnMoveAddressUptoRow.holds Try.pinned (OpenSpec.upto fnMoveAddressSpec)

/-- 'laws.FnPagesOne', WHERE WHAT IT READS IS OF BULK AT MOST 1048576: true; the input reads as it did. -/
def fnPagesOneUptoRow : OpenClaim := { program := "ythehcknkehmkkaa", sum := "c8d87d2cfc7e691963556de883a305ec57fd86b853fac2f60b8e971505b8b748", func := "loop.example/invertedpages/laws.FnPagesOne", spec := "fnPagesOne", apart := false, narrowed := true }
def FnPagesOneUptoSaid : Prop := fnPagesOneUptoRow.holds Try.pinned (OpenSpec.upto fnPagesOneSpec)

/-- 'laws.FnPagesOf', WHERE WHAT IT READS IS OF BULK AT MOST 1048576: true; the input reads as it did. -/
def fnPagesOfUptoRow : OpenClaim := { program := "ythehcknkehmkkaa", sum := "c8d87d2cfc7e691963556de883a305ec57fd86b853fac2f60b8e971505b8b748", func := "loop.example/invertedpages/laws.FnPagesOf", spec := "fnPagesOf", apart := false, narrowed := true }
def FnPagesOfUptoSaid : Prop := fnPagesOfUptoRow.holds Try.pinned (OpenSpec.upto fnPagesOfSpec)

/-- 'laws.FnExactKeysIn', WHERE WHAT IT READS IS OF BULK AT MOST 1048576: true; the input reads as it did. -/
def fnExactKeysInUptoRow : OpenClaim := { program := "ythehcknkehmkkaa", sum := "c8d87d2cfc7e691963556de883a305ec57fd86b853fac2f60b8e971505b8b748", func := "loop.example/invertedpages/laws.FnExactKeysIn", spec := "fnExactKeysIn", apart := false, narrowed := true }
def FnExactKeysInUptoSaid : Prop := fnExactKeysInUptoRow.holds Try.pinned (OpenSpec.upto fnExactKeysInSpec)

/-- 'laws.FnKeysSpaces', WHERE WHAT IT READS IS OF BULK AT MOST 1048576: true; the input reads as it did. -/
def fnKeysSpacesUptoRow : OpenClaim := { program := "ythehcknkehmkkaa", sum := "c8d87d2cfc7e691963556de883a305ec57fd86b853fac2f60b8e971505b8b748", func := "loop.example/invertedpages/laws.FnKeysSpaces", spec := "fnKeysSpaces", apart := false, narrowed := true }
def FnKeysSpacesUptoSaid : Prop := fnKeysSpacesUptoRow.holds Try.pinned (OpenSpec.upto fnKeysSpacesSpec)

/-- 'laws.FnKeysIn', WHERE WHAT IT READS IS OF BULK AT MOST 1048576: true; the input reads as it did. -/
def fnKeysInUptoRow : OpenClaim := { program := "ythehcknkehmkkaa", sum := "c8d87d2cfc7e691963556de883a305ec57fd86b853fac2f60b8e971505b8b748", func := "loop.example/invertedpages/laws.FnKeysIn", spec := "fnKeysIn", apart := false, narrowed := true }
def FnKeysInUptoSaid : Prop := fnKeysInUptoRow.holds Try.pinned (OpenSpec.upto fnKeysInSpec)

end Rows
end Go.Proofs.Ythehcknkehmkkaa
