/-
  No cell of these rows narrows 'for every input' (looked for: loops, veiled, ifaces, maps, wideKeys, modest, calm, conditions, laid).
  DERIVED. THE GIVEN ROWS OF THIS SEAT. 12 by the template 'for every input the law returns true; each argument reads behind the call as it read before'; 0 by the template 'total and deterministic' (their statements: YtlkbchhlbplmbaaTotals.lean).
  GIVEN WITH THE SEED: the statements are not yours to turn. If you find one false, say at which input.
  Laid BY PROGRAM, IN A SANDBOX (cutbox-rows.mjs): the forced cells as the released guide's own fill.sh prints them over the translation 6dbe5c36adcf9e4f… (all of the seat's roots in one cut). By AI agents, Wed Nov 11 2026. No macro, syntax, notation, axiom, sorry.
-/
import Derived.Test.YtlkbchhlbplmbaaChecked
import GoSem.Claim
import GoSem.ClaimJoined
import GoSem.ClaimMapViews
import Derived.JoinedTies
import Derived.KernelRfl
namespace Go.Proofs.Ytlkbchhlbplmbaa
/- THE CELL 'sum', in the pinned program and in every row, IS THE sha256 OF THE DUMP (.gsa) THAT YtlkbchhlbplmbaaProg.lean LOADS. Nothing in Lean hashes anything: it is a label: what it is worth is what the hold of that sum in a sandbox is worth. -/
noncomputable def Try.pinned : Pinned := { name := "ytlkbchhlbplmbaa", sum := "6dbe5c36adcf9e4f3bfcc78a5393502a9d60cc8da3adcd56aae40877736f59c2", checked := Try.checked }
namespace Rows
def none {H : Type} : Left H := { results := [], args := [] }

/-- 'laws.FnExactConstants': WHATEVER THE INPUT: true; the input reads as it did. -/
def fnExactConstantsSpec : ChangeSpec := { name := "fnExactConstants", fn := fun _ => fun
  | [] => { results := [.lit (.bool true)], args := [] }
  | _ => none }
def fnExactConstantsRow : OpenClaim := { program := "ytlkbchhlbplmbaa", sum := "6dbe5c36adcf9e4f3bfcc78a5393502a9d60cc8da3adcd56aae40877736f59c2", func := "loop.example/invertedpages/laws.FnExactConstants", spec := "fnExactConstants", apart := false }
def FnExactConstantsSaid : Prop := fnExactConstantsRow.holds Try.pinned (OpenSpec.ofChange fnExactConstantsSpec)

/-- ITS FALSE NEIGHBOUR: 'it returns false'. Refute it at one input. -/
def fnExactConstantsWrong : ChangeSpec := { name := "fnExactConstants", fn := fun _ => fun
  | [] => { results := [.lit (.bool false)], args := [] }
  | _ => none }
def FnExactConstantsWrongFalsely : Prop := fnExactConstantsRow.holds Try.pinned (OpenSpec.ofChange fnExactConstantsWrong)

/-- 'laws.FnExactRightsValid': WHATEVER THE INPUT: true; the input reads as it did. -/
def fnExactRightsValidSpec : ChangeSpec := { name := "fnExactRightsValid", fn := fun _ => fun
  | [d] => { results := [.lit (.bool true)], args := [d] }
  | _ => none }
def fnExactRightsValidRow : OpenClaim := { program := "ytlkbchhlbplmbaa", sum := "6dbe5c36adcf9e4f3bfcc78a5393502a9d60cc8da3adcd56aae40877736f59c2", func := "loop.example/invertedpages/laws.FnExactRightsValid", spec := "fnExactRightsValid", apart := false }
def FnExactRightsValidSaid : Prop := fnExactRightsValidRow.holds Try.pinned (OpenSpec.ofChange fnExactRightsValidSpec)

/-- ITS FALSE NEIGHBOUR: 'it returns false'. Refute it at one input. -/
def fnExactRightsValidWrong : ChangeSpec := { name := "fnExactRightsValid", fn := fun _ => fun
  | [d] => { results := [.lit (.bool false)], args := [d] }
  | _ => none }
def FnExactRightsValidWrongFalsely : Prop := fnExactRightsValidRow.holds Try.pinned (OpenSpec.ofChange fnExactRightsValidWrong)

/-- 'laws.FnExactAllows': WHATEVER THE INPUT: true; the input reads as it did. -/
def fnExactAllowsSpec : ChangeSpec := { name := "fnExactAllows", fn := fun _ => fun
  | [d1, d2] => { results := [.lit (.bool true)], args := [d1, d2] }
  | _ => none }
def fnExactAllowsRow : OpenClaim := { program := "ytlkbchhlbplmbaa", sum := "6dbe5c36adcf9e4f3bfcc78a5393502a9d60cc8da3adcd56aae40877736f59c2", func := "loop.example/invertedpages/laws.FnExactAllows", spec := "fnExactAllows", apart := false }
def FnExactAllowsSaid : Prop := fnExactAllowsRow.holds Try.pinned (OpenSpec.ofChange fnExactAllowsSpec)

/-- ITS FALSE NEIGHBOUR: 'it returns false'. Refute it at one input. -/
def fnExactAllowsWrong : ChangeSpec := { name := "fnExactAllows", fn := fun _ => fun
  | [d1, d2] => { results := [.lit (.bool false)], args := [d1, d2] }
  | _ => none }
def FnExactAllowsWrongFalsely : Prop := fnExactAllowsRow.holds Try.pinned (OpenSpec.ofChange fnExactAllowsWrong)

/-- 'laws.FnExactKeyBefore': WHATEVER THE INPUT: true; the input reads as it did. -/
def fnExactKeyBeforeSpec : ChangeSpec := { name := "fnExactKeyBefore", fn := fun _ => fun
  | [d1, d2] => { results := [.lit (.bool true)], args := [d1, d2] }
  | _ => none }
def fnExactKeyBeforeRow : OpenClaim := { program := "ytlkbchhlbplmbaa", sum := "6dbe5c36adcf9e4f3bfcc78a5393502a9d60cc8da3adcd56aae40877736f59c2", func := "loop.example/invertedpages/laws.FnExactKeyBefore", spec := "fnExactKeyBefore", apart := false }
def FnExactKeyBeforeSaid : Prop := fnExactKeyBeforeRow.holds Try.pinned (OpenSpec.ofChange fnExactKeyBeforeSpec)

/-- ITS FALSE NEIGHBOUR: 'it returns false'. Refute it at one input. -/
def fnExactKeyBeforeWrong : ChangeSpec := { name := "fnExactKeyBefore", fn := fun _ => fun
  | [d1, d2] => { results := [.lit (.bool false)], args := [d1, d2] }
  | _ => none }
def FnExactKeyBeforeWrongFalsely : Prop := fnExactKeyBeforeRow.holds Try.pinned (OpenSpec.ofChange fnExactKeyBeforeWrong)

/-- 'laws.FnExactKeyValid': WHATEVER THE INPUT: true; the input reads as it did. -/
def fnExactKeyValidSpec : ChangeSpec := { name := "fnExactKeyValid", fn := fun _ => fun
  | [d] => { results := [.lit (.bool true)], args := [d] }
  | _ => none }
def fnExactKeyValidRow : OpenClaim := { program := "ytlkbchhlbplmbaa", sum := "6dbe5c36adcf9e4f3bfcc78a5393502a9d60cc8da3adcd56aae40877736f59c2", func := "loop.example/invertedpages/laws.FnExactKeyValid", spec := "fnExactKeyValid", apart := false }
def FnExactKeyValidSaid : Prop := fnExactKeyValidRow.holds Try.pinned (OpenSpec.ofChange fnExactKeyValidSpec)

/-- ITS FALSE NEIGHBOUR: 'it returns false'. Refute it at one input. -/
def fnExactKeyValidWrong : ChangeSpec := { name := "fnExactKeyValid", fn := fun _ => fun
  | [d] => { results := [.lit (.bool false)], args := [d] }
  | _ => none }
def FnExactKeyValidWrongFalsely : Prop := fnExactKeyValidRow.holds Try.pinned (OpenSpec.ofChange fnExactKeyValidWrong)

/-- 'laws.FnExactAddressValid': WHATEVER THE INPUT: true; the input reads as it did. -/
def fnExactAddressValidSpec : ChangeSpec := { name := "fnExactAddressValid", fn := fun _ => fun
  | [d] => { results := [.lit (.bool true)], args := [d] }
  | _ => none }
def fnExactAddressValidRow : OpenClaim := { program := "ytlkbchhlbplmbaa", sum := "6dbe5c36adcf9e4f3bfcc78a5393502a9d60cc8da3adcd56aae40877736f59c2", func := "loop.example/invertedpages/laws.FnExactAddressValid", spec := "fnExactAddressValid", apart := false }
def FnExactAddressValidSaid : Prop := fnExactAddressValidRow.holds Try.pinned (OpenSpec.ofChange fnExactAddressValidSpec)

/-- ITS FALSE NEIGHBOUR: 'it returns false'. Refute it at one input. -/
def fnExactAddressValidWrong : ChangeSpec := { name := "fnExactAddressValid", fn := fun _ => fun
  | [d] => { results := [.lit (.bool false)], args := [d] }
  | _ => none }
def FnExactAddressValidWrongFalsely : Prop := fnExactAddressValidRow.holds Try.pinned (OpenSpec.ofChange fnExactAddressValidWrong)

/-- 'laws.FnExactSplitAddress': WHATEVER THE INPUT: true; the input reads as it did. -/
def fnExactSplitAddressSpec : ChangeSpec := { name := "fnExactSplitAddress", fn := fun _ => fun
  | [d] => { results := [.lit (.bool true)], args := [d] }
  | _ => none }
def fnExactSplitAddressRow : OpenClaim := { program := "ytlkbchhlbplmbaa", sum := "6dbe5c36adcf9e4f3bfcc78a5393502a9d60cc8da3adcd56aae40877736f59c2", func := "loop.example/invertedpages/laws.FnExactSplitAddress", spec := "fnExactSplitAddress", apart := false }
def FnExactSplitAddressSaid : Prop := fnExactSplitAddressRow.holds Try.pinned (OpenSpec.ofChange fnExactSplitAddressSpec)

/-- ITS FALSE NEIGHBOUR: 'it returns false'. Refute it at one input. -/
def fnExactSplitAddressWrong : ChangeSpec := { name := "fnExactSplitAddress", fn := fun _ => fun
  | [d] => { results := [.lit (.bool false)], args := [d] }
  | _ => none }
def FnExactSplitAddressWrongFalsely : Prop := fnExactSplitAddressRow.holds Try.pinned (OpenSpec.ofChange fnExactSplitAddressWrong)

/-- 'laws.FnExactPackAddress': WHATEVER THE INPUT: true; the input reads as it did. -/
def fnExactPackAddressSpec : ChangeSpec := { name := "fnExactPackAddress", fn := fun _ => fun
  | [d] => { results := [.lit (.bool true)], args := [d] }
  | _ => none }
def fnExactPackAddressRow : OpenClaim := { program := "ytlkbchhlbplmbaa", sum := "6dbe5c36adcf9e4f3bfcc78a5393502a9d60cc8da3adcd56aae40877736f59c2", func := "loop.example/invertedpages/laws.FnExactPackAddress", spec := "fnExactPackAddress", apart := false }
def FnExactPackAddressSaid : Prop := fnExactPackAddressRow.holds Try.pinned (OpenSpec.ofChange fnExactPackAddressSpec)

/-- ITS FALSE NEIGHBOUR: 'it returns false'. Refute it at one input. -/
def fnExactPackAddressWrong : ChangeSpec := { name := "fnExactPackAddress", fn := fun _ => fun
  | [d] => { results := [.lit (.bool false)], args := [d] }
  | _ => none }
def FnExactPackAddressWrongFalsely : Prop := fnExactPackAddressRow.holds Try.pinned (OpenSpec.ofChange fnExactPackAddressWrong)

/-- 'laws.FnExactFormatRights': WHATEVER THE INPUT: true; the input reads as it did. -/
def fnExactFormatRightsSpec : ChangeSpec := { name := "fnExactFormatRights", fn := fun _ => fun
  | [d] => { results := [.lit (.bool true)], args := [d] }
  | _ => none }
def fnExactFormatRightsRow : OpenClaim := { program := "ytlkbchhlbplmbaa", sum := "6dbe5c36adcf9e4f3bfcc78a5393502a9d60cc8da3adcd56aae40877736f59c2", func := "loop.example/invertedpages/laws.FnExactFormatRights", spec := "fnExactFormatRights", apart := false }
def FnExactFormatRightsSaid : Prop := fnExactFormatRightsRow.holds Try.pinned (OpenSpec.ofChange fnExactFormatRightsSpec)

/-- ITS FALSE NEIGHBOUR: 'it returns false'. Refute it at one input. -/
def fnExactFormatRightsWrong : ChangeSpec := { name := "fnExactFormatRights", fn := fun _ => fun
  | [d] => { results := [.lit (.bool false)], args := [d] }
  | _ => none }
def FnExactFormatRightsWrongFalsely : Prop := fnExactFormatRightsRow.holds Try.pinned (OpenSpec.ofChange fnExactFormatRightsWrong)

/-- 'laws.FnExactHashKey': WHATEVER THE INPUT: true; the input reads as it did. -/
def fnExactHashKeySpec : ChangeSpec := { name := "fnExactHashKey", fn := fun _ => fun
  | [d1, d2] => { results := [.lit (.bool true)], args := [d1, d2] }
  | _ => none }
def fnExactHashKeyRow : OpenClaim := { program := "ytlkbchhlbplmbaa", sum := "6dbe5c36adcf9e4f3bfcc78a5393502a9d60cc8da3adcd56aae40877736f59c2", func := "loop.example/invertedpages/laws.FnExactHashKey", spec := "fnExactHashKey", apart := false }
def FnExactHashKeySaid : Prop := fnExactHashKeyRow.holds Try.pinned (OpenSpec.ofChange fnExactHashKeySpec)

/-- ITS FALSE NEIGHBOUR: 'it returns false'. Refute it at one input. -/
def fnExactHashKeyWrong : ChangeSpec := { name := "fnExactHashKey", fn := fun _ => fun
  | [d1, d2] => { results := [.lit (.bool false)], args := [d1, d2] }
  | _ => none }
def FnExactHashKeyWrongFalsely : Prop := fnExactHashKeyRow.holds Try.pinned (OpenSpec.ofChange fnExactHashKeyWrong)

/-- 'laws.FnExactPagesOf': WHATEVER THE INPUT: true; the input reads as it did. -/
def fnExactPagesOfSpec : ChangeSpec := { name := "fnExactPagesOf", fn := fun _ => fun
  | [d1, d2] => { results := [.lit (.bool true)], args := [d1, d2] }
  | _ => none }
def fnExactPagesOfRow : OpenClaim := { program := "ytlkbchhlbplmbaa", sum := "6dbe5c36adcf9e4f3bfcc78a5393502a9d60cc8da3adcd56aae40877736f59c2", func := "loop.example/invertedpages/laws.FnExactPagesOf", spec := "fnExactPagesOf", apart := false }
def FnExactPagesOfSaid : Prop := fnExactPagesOfRow.holds Try.pinned (OpenSpec.ofChange fnExactPagesOfSpec)

/-- ITS FALSE NEIGHBOUR: 'it returns false'. Refute it at one input. -/
def fnExactPagesOfWrong : ChangeSpec := { name := "fnExactPagesOf", fn := fun _ => fun
  | [d1, d2] => { results := [.lit (.bool false)], args := [d1, d2] }
  | _ => none }
def FnExactPagesOfWrongFalsely : Prop := fnExactPagesOfRow.holds Try.pinned (OpenSpec.ofChange fnExactPagesOfWrong)

/-- 'laws.FnExactMoveAddress': WHATEVER THE INPUT: true; the input reads as it did. -/
def fnExactMoveAddressSpec : ChangeSpec := { name := "fnExactMoveAddress", fn := fun _ => fun
  | [d1, d2] => { results := [.lit (.bool true)], args := [d1, d2] }
  | _ => none }
def fnExactMoveAddressRow : OpenClaim := { program := "ytlkbchhlbplmbaa", sum := "6dbe5c36adcf9e4f3bfcc78a5393502a9d60cc8da3adcd56aae40877736f59c2", func := "loop.example/invertedpages/laws.FnExactMoveAddress", spec := "fnExactMoveAddress", apart := false }
def FnExactMoveAddressSaid : Prop := fnExactMoveAddressRow.holds Try.pinned (OpenSpec.ofChange fnExactMoveAddressSpec)

/-- ITS FALSE NEIGHBOUR: 'it returns false'. Refute it at one input. -/
def fnExactMoveAddressWrong : ChangeSpec := { name := "fnExactMoveAddress", fn := fun _ => fun
  | [d1, d2] => { results := [.lit (.bool false)], args := [d1, d2] }
  | _ => none }
def FnExactMoveAddressWrongFalsely : Prop := fnExactMoveAddressRow.holds Try.pinned (OpenSpec.ofChange fnExactMoveAddressWrong)

/- THE SECOND FORM. 'bulk': how many values and letters a reading holds, each counted each time it is reached (what is shared counts as often as it is met; a slice's spare places count too). A statement '..UptoSaid' is the law's where the arguments, and the package variables that the reading takes, are together of bulk at most 1048576: NARROWER than '..Said'. Prove '..Said' where nothing that the law and all that it calls make is longer than what came in: it says more and counts as full. Else prove '..UptoSaid'. A law counts once. -/
mutual
def uptoBulk {H : Type} : DataW H → Nat
  | .lit (.string bytes) => bytes.length + 1
  | .lit _ => 1
  | .nil => 1
  | .ptr d => uptoBulk d + 1
  | .slice elems spare => uptoBulkAll elems + uptoBulkAll spare + 1
  | .agg parts => uptoBulkAll parts + 1
  | .iface _ d => uptoBulk d + 1
  | .map entries => uptoBulkEntries entries + 1
  | .held _ => 1
def uptoBulkAll {H : Type} : List (DataW H) → Nat
  | [] => 0
  | d :: r => uptoBulk d + uptoBulkAll r
def uptoBulkEntries {H : Type} : List (Lit × DataW H) → Nat
  | [] => 0
  | x :: r => uptoBulkEntry x + uptoBulkEntries r
def uptoBulkEntry {H : Type} : Lit × DataW H → Nat
  | (.string bytes, d) => bytes.length + uptoBulk d + 1
  | (_, d) => uptoBulk d + 1
 end
def uptoSmall : (H : Type) → List (DataW H) → Bool := fun _ ds => decide (uptoBulkAll ds ≤ 1048576)
def OpenSpec.upto (s : _root_.Go.ChangeSpec) : _root_.Go.OpenSpec := { _root_.Go.OpenSpec.ofChange s with cond := some uptoSmall }

/-- 'laws.FnExactConstants', WHERE WHAT IT READS IS OF BULK AT MOST 1048576: true; the input reads as it did. -/
def fnExactConstantsUptoRow : OpenClaim := { program := "ytlkbchhlbplmbaa", sum := "6dbe5c36adcf9e4f3bfcc78a5393502a9d60cc8da3adcd56aae40877736f59c2", func := "loop.example/invertedpages/laws.FnExactConstants", spec := "fnExactConstants", apart := false, narrowed := true }
def FnExactConstantsUptoSaid : Prop := fnExactConstantsUptoRow.holds Try.pinned (OpenSpec.upto fnExactConstantsSpec)

/-- 'laws.FnExactRightsValid', WHERE WHAT IT READS IS OF BULK AT MOST 1048576: true; the input reads as it did. -/
def fnExactRightsValidUptoRow : OpenClaim := { program := "ytlkbchhlbplmbaa", sum := "6dbe5c36adcf9e4f3bfcc78a5393502a9d60cc8da3adcd56aae40877736f59c2", func := "loop.example/invertedpages/laws.FnExactRightsValid", spec := "fnExactRightsValid", apart := false, narrowed := true }
def FnExactRightsValidUptoSaid : Prop := fnExactRightsValidUptoRow.holds Try.pinned (OpenSpec.upto fnExactRightsValidSpec)

/-- 'laws.FnExactAllows', WHERE WHAT IT READS IS OF BULK AT MOST 1048576: true; the input reads as it did. -/
def fnExactAllowsUptoRow : OpenClaim := { program := "ytlkbchhlbplmbaa", sum := "6dbe5c36adcf9e4f3bfcc78a5393502a9d60cc8da3adcd56aae40877736f59c2", func := "loop.example/invertedpages/laws.FnExactAllows", spec := "fnExactAllows", apart := false, narrowed := true }
def FnExactAllowsUptoSaid : Prop := fnExactAllowsUptoRow.holds Try.pinned (OpenSpec.upto fnExactAllowsSpec)

/-- 'laws.FnExactKeyBefore', WHERE WHAT IT READS IS OF BULK AT MOST 1048576: true; the input reads as it did. -/
def fnExactKeyBeforeUptoRow : OpenClaim := { program := "ytlkbchhlbplmbaa", sum := "6dbe5c36adcf9e4f3bfcc78a5393502a9d60cc8da3adcd56aae40877736f59c2", func := "loop.example/invertedpages/laws.FnExactKeyBefore", spec := "fnExactKeyBefore", apart := false, narrowed := true }
def FnExactKeyBeforeUptoSaid : Prop := fnExactKeyBeforeUptoRow.holds Try.pinned (OpenSpec.upto fnExactKeyBeforeSpec)

/-- 'laws.FnExactKeyValid', WHERE WHAT IT READS IS OF BULK AT MOST 1048576: true; the input reads as it did. -/
def fnExactKeyValidUptoRow : OpenClaim := { program := "ytlkbchhlbplmbaa", sum := "6dbe5c36adcf9e4f3bfcc78a5393502a9d60cc8da3adcd56aae40877736f59c2", func := "loop.example/invertedpages/laws.FnExactKeyValid", spec := "fnExactKeyValid", apart := false, narrowed := true }
def FnExactKeyValidUptoSaid : Prop := fnExactKeyValidUptoRow.holds Try.pinned (OpenSpec.upto fnExactKeyValidSpec)

/-- 'laws.FnExactAddressValid', WHERE WHAT IT READS IS OF BULK AT MOST 1048576: true; the input reads as it did. -/
def fnExactAddressValidUptoRow : OpenClaim := { program := "ytlkbchhlbplmbaa", sum := "6dbe5c36adcf9e4f3bfcc78a5393502a9d60cc8da3adcd56aae40877736f59c2", func := "loop.example/invertedpages/laws.FnExactAddressValid", spec := "fnExactAddressValid", apart := false, narrowed := true }
def FnExactAddressValidUptoSaid : Prop := fnExactAddressValidUptoRow.holds Try.pinned (OpenSpec.upto fnExactAddressValidSpec)

/-- 'laws.FnExactSplitAddress', WHERE WHAT IT READS IS OF BULK AT MOST 1048576: true; the input reads as it did. -/
def fnExactSplitAddressUptoRow : OpenClaim := { program := "ytlkbchhlbplmbaa", sum := "6dbe5c36adcf9e4f3bfcc78a5393502a9d60cc8da3adcd56aae40877736f59c2", func := "loop.example/invertedpages/laws.FnExactSplitAddress", spec := "fnExactSplitAddress", apart := false, narrowed := true }
def FnExactSplitAddressUptoSaid : Prop := fnExactSplitAddressUptoRow.holds Try.pinned (OpenSpec.upto fnExactSplitAddressSpec)

/-- 'laws.FnExactPackAddress', WHERE WHAT IT READS IS OF BULK AT MOST 1048576: true; the input reads as it did. -/
def fnExactPackAddressUptoRow : OpenClaim := { program := "ytlkbchhlbplmbaa", sum := "6dbe5c36adcf9e4f3bfcc78a5393502a9d60cc8da3adcd56aae40877736f59c2", func := "loop.example/invertedpages/laws.FnExactPackAddress", spec := "fnExactPackAddress", apart := false, narrowed := true }
def FnExactPackAddressUptoSaid : Prop := fnExactPackAddressUptoRow.holds Try.pinned (OpenSpec.upto fnExactPackAddressSpec)

/-- 'laws.FnExactFormatRights', WHERE WHAT IT READS IS OF BULK AT MOST 1048576: true; the input reads as it did. -/
def fnExactFormatRightsUptoRow : OpenClaim := { program := "ytlkbchhlbplmbaa", sum := "6dbe5c36adcf9e4f3bfcc78a5393502a9d60cc8da3adcd56aae40877736f59c2", func := "loop.example/invertedpages/laws.FnExactFormatRights", spec := "fnExactFormatRights", apart := false, narrowed := true }
def FnExactFormatRightsUptoSaid : Prop := fnExactFormatRightsUptoRow.holds Try.pinned (OpenSpec.upto fnExactFormatRightsSpec)

/-- 'laws.FnExactHashKey', WHERE WHAT IT READS IS OF BULK AT MOST 1048576: true; the input reads as it did. -/
def fnExactHashKeyUptoRow : OpenClaim := { program := "ytlkbchhlbplmbaa", sum := "6dbe5c36adcf9e4f3bfcc78a5393502a9d60cc8da3adcd56aae40877736f59c2", func := "loop.example/invertedpages/laws.FnExactHashKey", spec := "fnExactHashKey", apart := false, narrowed := true }
def FnExactHashKeyUptoSaid : Prop := fnExactHashKeyUptoRow.holds Try.pinned (OpenSpec.upto fnExactHashKeySpec)

/-- 'laws.FnExactPagesOf', WHERE WHAT IT READS IS OF BULK AT MOST 1048576: true; the input reads as it did. -/
def fnExactPagesOfUptoRow : OpenClaim := { program := "ytlkbchhlbplmbaa", sum := "6dbe5c36adcf9e4f3bfcc78a5393502a9d60cc8da3adcd56aae40877736f59c2", func := "loop.example/invertedpages/laws.FnExactPagesOf", spec := "fnExactPagesOf", apart := false, narrowed := true }
def FnExactPagesOfUptoSaid : Prop := fnExactPagesOfUptoRow.holds Try.pinned (OpenSpec.upto fnExactPagesOfSpec)

/-- 'laws.FnExactMoveAddress', WHERE WHAT IT READS IS OF BULK AT MOST 1048576: true; the input reads as it did. -/
def fnExactMoveAddressUptoRow : OpenClaim := { program := "ytlkbchhlbplmbaa", sum := "6dbe5c36adcf9e4f3bfcc78a5393502a9d60cc8da3adcd56aae40877736f59c2", func := "loop.example/invertedpages/laws.FnExactMoveAddress", spec := "fnExactMoveAddress", apart := false, narrowed := true }
def FnExactMoveAddressUptoSaid : Prop := fnExactMoveAddressUptoRow.holds Try.pinned (OpenSpec.upto fnExactMoveAddressSpec)

end Rows
end Go.Proofs.Ytlkbchhlbplmbaa
