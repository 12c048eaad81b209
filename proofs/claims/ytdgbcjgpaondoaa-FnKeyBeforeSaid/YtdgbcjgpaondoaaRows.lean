/-
  No cell of these rows narrows 'for every input' (looked for: loops, veiled, ifaces, maps, wideKeys, modest, calm, conditions, laid).
  DERIVED. THE GIVEN ROWS OF THIS SEAT. 12 by the template 'for every input the law returns true; each argument reads behind the call as it read before'; 0 by the template 'total and deterministic' (their statements: YtdgbcjgpaondoaaTotals.lean).
  GIVEN WITH THE SEED: the statements are not yours to turn. If you find one false, say at which input.
  Laid BY PROGRAM, IN A SANDBOX (cutbox-rows.mjs): the forced cells as the released guide's own fill.sh prints them over the translation b5b92041dba0dce4… (all of the seat's roots in one cut). By AI agents, Wed Nov 11 2026. No macro, syntax, notation, axiom, sorry.
-/
import Derived.Test.YtdgbcjgpaondoaaChecked
import GoSem.Claim
import GoSem.ClaimJoined
import GoSem.ClaimMapViews
import Derived.JoinedTies
import Derived.KernelRfl
namespace Go.Proofs.Ytdgbcjgpaondoaa
/- THE CELL 'sum', in the pinned program and in every row, IS THE sha256 OF THE DUMP (.gsa) THAT YtdgbcjgpaondoaaProg.lean LOADS. Nothing in Lean hashes anything: it is a label: what it is worth is what the hold of that sum in a sandbox is worth. -/
noncomputable def Try.pinned : Pinned := { name := "ytdgbcjgpaondoaa", sum := "b5b92041dba0dce471fb63f42fb1339156a8416915c29c34d637aa839822b9a1", checked := Try.checked }
namespace Rows
def none {H : Type} : Left H := { results := [], args := [] }

/-- 'laws.FnAllows': WHATEVER THE INPUT: true; the input reads as it did. -/
def fnAllowsSpec : ChangeSpec := { name := "fnAllows", fn := fun _ => fun
  | [d] => { results := [.lit (.bool true)], args := [d] }
  | _ => none }
def fnAllowsRow : OpenClaim := { program := "ytdgbcjgpaondoaa", sum := "b5b92041dba0dce471fb63f42fb1339156a8416915c29c34d637aa839822b9a1", func := "loop.example/invertedpages/laws.FnAllows", spec := "fnAllows", apart := false }
def FnAllowsSaid : Prop := fnAllowsRow.holds Try.pinned (OpenSpec.ofChange fnAllowsSpec)

/-- ITS FALSE NEIGHBOUR: 'it returns false'. Refute it at one input. -/
def fnAllowsWrong : ChangeSpec := { name := "fnAllows", fn := fun _ => fun
  | [d] => { results := [.lit (.bool false)], args := [d] }
  | _ => none }
def FnAllowsWrongFalsely : Prop := fnAllowsRow.holds Try.pinned (OpenSpec.ofChange fnAllowsWrong)

/-- 'laws.FnAllowsTrans': WHATEVER THE INPUT: true; the input reads as it did. -/
def fnAllowsTransSpec : ChangeSpec := { name := "fnAllowsTrans", fn := fun _ => fun
  | [d1, d2] => { results := [.lit (.bool true)], args := [d1, d2] }
  | _ => none }
def fnAllowsTransRow : OpenClaim := { program := "ytdgbcjgpaondoaa", sum := "b5b92041dba0dce471fb63f42fb1339156a8416915c29c34d637aa839822b9a1", func := "loop.example/invertedpages/laws.FnAllowsTrans", spec := "fnAllowsTrans", apart := false }
def FnAllowsTransSaid : Prop := fnAllowsTransRow.holds Try.pinned (OpenSpec.ofChange fnAllowsTransSpec)

/-- ITS FALSE NEIGHBOUR: 'it returns false'. Refute it at one input. -/
def fnAllowsTransWrong : ChangeSpec := { name := "fnAllowsTrans", fn := fun _ => fun
  | [d1, d2] => { results := [.lit (.bool false)], args := [d1, d2] }
  | _ => none }
def FnAllowsTransWrongFalsely : Prop := fnAllowsTransRow.holds Try.pinned (OpenSpec.ofChange fnAllowsTransWrong)

/-- 'laws.FnKeyValid': WHATEVER THE INPUT: true; the input reads as it did. -/
def fnKeyValidSpec : ChangeSpec := { name := "fnKeyValid", fn := fun _ => fun
  | [d] => { results := [.lit (.bool true)], args := [d] }
  | _ => none }
def fnKeyValidRow : OpenClaim := { program := "ytdgbcjgpaondoaa", sum := "b5b92041dba0dce471fb63f42fb1339156a8416915c29c34d637aa839822b9a1", func := "loop.example/invertedpages/laws.FnKeyValid", spec := "fnKeyValid", apart := false }
def FnKeyValidSaid : Prop := fnKeyValidRow.holds Try.pinned (OpenSpec.ofChange fnKeyValidSpec)

/-- ITS FALSE NEIGHBOUR: 'it returns false'. Refute it at one input. -/
def fnKeyValidWrong : ChangeSpec := { name := "fnKeyValid", fn := fun _ => fun
  | [d] => { results := [.lit (.bool false)], args := [d] }
  | _ => none }
def FnKeyValidWrongFalsely : Prop := fnKeyValidRow.holds Try.pinned (OpenSpec.ofChange fnKeyValidWrong)

/-- 'laws.FnKeyBefore': WHATEVER THE INPUT: true; the input reads as it did. -/
def fnKeyBeforeSpec : ChangeSpec := { name := "fnKeyBefore", fn := fun _ => fun
  | [d] => { results := [.lit (.bool true)], args := [d] }
  | _ => none }
def fnKeyBeforeRow : OpenClaim := { program := "ytdgbcjgpaondoaa", sum := "b5b92041dba0dce471fb63f42fb1339156a8416915c29c34d637aa839822b9a1", func := "loop.example/invertedpages/laws.FnKeyBefore", spec := "fnKeyBefore", apart := false }
def FnKeyBeforeSaid : Prop := fnKeyBeforeRow.holds Try.pinned (OpenSpec.ofChange fnKeyBeforeSpec)

/-- ITS FALSE NEIGHBOUR: 'it returns false'. Refute it at one input. -/
def fnKeyBeforeWrong : ChangeSpec := { name := "fnKeyBefore", fn := fun _ => fun
  | [d] => { results := [.lit (.bool false)], args := [d] }
  | _ => none }
def FnKeyBeforeWrongFalsely : Prop := fnKeyBeforeRow.holds Try.pinned (OpenSpec.ofChange fnKeyBeforeWrong)

/-- 'laws.FnKeyTrans': WHATEVER THE INPUT: true; the input reads as it did. -/
def fnKeyTransSpec : ChangeSpec := { name := "fnKeyTrans", fn := fun _ => fun
  | [d1, d2] => { results := [.lit (.bool true)], args := [d1, d2] }
  | _ => none }
def fnKeyTransRow : OpenClaim := { program := "ytdgbcjgpaondoaa", sum := "b5b92041dba0dce471fb63f42fb1339156a8416915c29c34d637aa839822b9a1", func := "loop.example/invertedpages/laws.FnKeyTrans", spec := "fnKeyTrans", apart := false }
def FnKeyTransSaid : Prop := fnKeyTransRow.holds Try.pinned (OpenSpec.ofChange fnKeyTransSpec)

/-- ITS FALSE NEIGHBOUR: 'it returns false'. Refute it at one input. -/
def fnKeyTransWrong : ChangeSpec := { name := "fnKeyTrans", fn := fun _ => fun
  | [d1, d2] => { results := [.lit (.bool false)], args := [d1, d2] }
  | _ => none }
def FnKeyTransWrongFalsely : Prop := fnKeyTransRow.holds Try.pinned (OpenSpec.ofChange fnKeyTransWrong)

/-- 'laws.FnFormatRights': WHATEVER THE INPUT: true; the input reads as it did. -/
def fnFormatRightsSpec : ChangeSpec := { name := "fnFormatRights", fn := fun _ => fun
  | [d] => { results := [.lit (.bool true)], args := [d] }
  | _ => none }
def fnFormatRightsRow : OpenClaim := { program := "ytdgbcjgpaondoaa", sum := "b5b92041dba0dce471fb63f42fb1339156a8416915c29c34d637aa839822b9a1", func := "loop.example/invertedpages/laws.FnFormatRights", spec := "fnFormatRights", apart := false }
def FnFormatRightsSaid : Prop := fnFormatRightsRow.holds Try.pinned (OpenSpec.ofChange fnFormatRightsSpec)

/-- ITS FALSE NEIGHBOUR: 'it returns false'. Refute it at one input. -/
def fnFormatRightsWrong : ChangeSpec := { name := "fnFormatRights", fn := fun _ => fun
  | [d] => { results := [.lit (.bool false)], args := [d] }
  | _ => none }
def FnFormatRightsWrongFalsely : Prop := fnFormatRightsRow.holds Try.pinned (OpenSpec.ofChange fnFormatRightsWrong)

/-- 'laws.FnRightsText': WHATEVER THE INPUT: true; the input reads as it did. -/
def fnRightsTextSpec : ChangeSpec := { name := "fnRightsText", fn := fun _ => fun
  | [d] => { results := [.lit (.bool true)], args := [d] }
  | _ => none }
def fnRightsTextRow : OpenClaim := { program := "ytdgbcjgpaondoaa", sum := "b5b92041dba0dce471fb63f42fb1339156a8416915c29c34d637aa839822b9a1", func := "loop.example/invertedpages/laws.FnRightsText", spec := "fnRightsText", apart := false }
def FnRightsTextSaid : Prop := fnRightsTextRow.holds Try.pinned (OpenSpec.ofChange fnRightsTextSpec)

/-- ITS FALSE NEIGHBOUR: 'it returns false'. Refute it at one input. -/
def fnRightsTextWrong : ChangeSpec := { name := "fnRightsText", fn := fun _ => fun
  | [d] => { results := [.lit (.bool false)], args := [d] }
  | _ => none }
def FnRightsTextWrongFalsely : Prop := fnRightsTextRow.holds Try.pinned (OpenSpec.ofChange fnRightsTextWrong)

/-- 'laws.FnKeyNumber': WHATEVER THE INPUT: true; the input reads as it did. -/
def fnKeyNumberSpec : ChangeSpec := { name := "fnKeyNumber", fn := fun _ => fun
  | [d] => { results := [.lit (.bool true)], args := [d] }
  | _ => none }
def fnKeyNumberRow : OpenClaim := { program := "ytdgbcjgpaondoaa", sum := "b5b92041dba0dce471fb63f42fb1339156a8416915c29c34d637aa839822b9a1", func := "loop.example/invertedpages/laws.FnKeyNumber", spec := "fnKeyNumber", apart := false }
def FnKeyNumberSaid : Prop := fnKeyNumberRow.holds Try.pinned (OpenSpec.ofChange fnKeyNumberSpec)

/-- ITS FALSE NEIGHBOUR: 'it returns false'. Refute it at one input. -/
def fnKeyNumberWrong : ChangeSpec := { name := "fnKeyNumber", fn := fun _ => fun
  | [d] => { results := [.lit (.bool false)], args := [d] }
  | _ => none }
def FnKeyNumberWrongFalsely : Prop := fnKeyNumberRow.holds Try.pinned (OpenSpec.ofChange fnKeyNumberWrong)

/-- 'laws.FnSplitSpace': WHATEVER THE INPUT: true; the input reads as it did. -/
def fnSplitSpaceSpec : ChangeSpec := { name := "fnSplitSpace", fn := fun _ => fun
  | [d] => { results := [.lit (.bool true)], args := [d] }
  | _ => none }
def fnSplitSpaceRow : OpenClaim := { program := "ytdgbcjgpaondoaa", sum := "b5b92041dba0dce471fb63f42fb1339156a8416915c29c34d637aa839822b9a1", func := "loop.example/invertedpages/laws.FnSplitSpace", spec := "fnSplitSpace", apart := false }
def FnSplitSpaceSaid : Prop := fnSplitSpaceRow.holds Try.pinned (OpenSpec.ofChange fnSplitSpaceSpec)

/-- ITS FALSE NEIGHBOUR: 'it returns false'. Refute it at one input. -/
def fnSplitSpaceWrong : ChangeSpec := { name := "fnSplitSpace", fn := fun _ => fun
  | [d] => { results := [.lit (.bool false)], args := [d] }
  | _ => none }
def FnSplitSpaceWrongFalsely : Prop := fnSplitSpaceRow.holds Try.pinned (OpenSpec.ofChange fnSplitSpaceWrong)

/-- 'laws.FnSplitAddress': WHATEVER THE INPUT: true; the input reads as it did. -/
def fnSplitAddressSpec : ChangeSpec := { name := "fnSplitAddress", fn := fun _ => fun
  | [d] => { results := [.lit (.bool true)], args := [d] }
  | _ => none }
def fnSplitAddressRow : OpenClaim := { program := "ytdgbcjgpaondoaa", sum := "b5b92041dba0dce471fb63f42fb1339156a8416915c29c34d637aa839822b9a1", func := "loop.example/invertedpages/laws.FnSplitAddress", spec := "fnSplitAddress", apart := false }
def FnSplitAddressSaid : Prop := fnSplitAddressRow.holds Try.pinned (OpenSpec.ofChange fnSplitAddressSpec)

/-- ITS FALSE NEIGHBOUR: 'it returns false'. Refute it at one input. -/
def fnSplitAddressWrong : ChangeSpec := { name := "fnSplitAddress", fn := fun _ => fun
  | [d] => { results := [.lit (.bool false)], args := [d] }
  | _ => none }
def FnSplitAddressWrongFalsely : Prop := fnSplitAddressRow.holds Try.pinned (OpenSpec.ofChange fnSplitAddressWrong)

/-- 'laws.FnPackAddress': WHATEVER THE INPUT: true; the input reads as it did. -/
def fnPackAddressSpec : ChangeSpec := { name := "fnPackAddress", fn := fun _ => fun
  | [d] => { results := [.lit (.bool true)], args := [d] }
  | _ => none }
def fnPackAddressRow : OpenClaim := { program := "ytdgbcjgpaondoaa", sum := "b5b92041dba0dce471fb63f42fb1339156a8416915c29c34d637aa839822b9a1", func := "loop.example/invertedpages/laws.FnPackAddress", spec := "fnPackAddress", apart := false }
def FnPackAddressSaid : Prop := fnPackAddressRow.holds Try.pinned (OpenSpec.ofChange fnPackAddressSpec)

/-- ITS FALSE NEIGHBOUR: 'it returns false'. Refute it at one input. -/
def fnPackAddressWrong : ChangeSpec := { name := "fnPackAddress", fn := fun _ => fun
  | [d] => { results := [.lit (.bool false)], args := [d] }
  | _ => none }
def FnPackAddressWrongFalsely : Prop := fnPackAddressRow.holds Try.pinned (OpenSpec.ofChange fnPackAddressWrong)

/-- 'laws.FnHashFull': WHATEVER THE INPUT: true; the input reads as it did. -/
def fnHashFullSpec : ChangeSpec := { name := "fnHashFull", fn := fun _ => fun
  | [d] => { results := [.lit (.bool true)], args := [d] }
  | _ => none }
def fnHashFullRow : OpenClaim := { program := "ytdgbcjgpaondoaa", sum := "b5b92041dba0dce471fb63f42fb1339156a8416915c29c34d637aa839822b9a1", func := "loop.example/invertedpages/laws.FnHashFull", spec := "fnHashFull", apart := false }
def FnHashFullSaid : Prop := fnHashFullRow.holds Try.pinned (OpenSpec.ofChange fnHashFullSpec)

/-- ITS FALSE NEIGHBOUR: 'it returns false'. Refute it at one input. -/
def fnHashFullWrong : ChangeSpec := { name := "fnHashFull", fn := fun _ => fun
  | [d] => { results := [.lit (.bool false)], args := [d] }
  | _ => none }
def FnHashFullWrongFalsely : Prop := fnHashFullRow.holds Try.pinned (OpenSpec.ofChange fnHashFullWrong)

/- THE SECOND FORM. 'bulk': how many values and letters a reading holds, each counted each time it is reached (what is shared counts as often as it is met; a slice's spare places count too). A statement '..UptoSaid' is the law's where the arguments, and the package variables that the reading takes, are together of bulk at most 1048576: NARROWER than '..Said'. Prove '..Said' where nothing that the law and all that it calls make is longer than what came in: it says more and counts as full. Else prove '..UptoSaid'. A law counts once. -/
mutual
def uptoBulk {H : Type} : DataW H → Nat
  | .lit (.string bytes) => bytes.length + 1
  | .lit _ => 1
  | .nil => 1
  | .ptr d => uptoBulk d + 1
  | .slice elems spare => uptoBulkAll elems + uptoBulkAll spare + 1
  | .agg parts => uptoBulkAll parts + 1
  | .iface _ d => uptoBulk d + 1
  | .map entries => uptoBulkEntries entries + 1
  | .held _ => 1
def uptoBulkAll {H : Type} : List (DataW H) → Nat
  | [] => 0
  | d :: r => uptoBulk d + uptoBulkAll r
def uptoBulkEntries {H : Type} : List (Lit × DataW H) → Nat
  | [] => 0
  | x :: r => uptoBulkEntry x + uptoBulkEntries r
def uptoBulkEntry {H : Type} : Lit × DataW H → Nat
  | (.string bytes, d) => bytes.length + uptoBulk d + 1
  | (_, d) => uptoBulk d + 1
 end
def uptoSmall : (H : Type) → List (DataW H) → Bool := fun _ ds => decide (uptoBulkAll ds ≤ 1048576)
def OpenSpec.upto (s : _root_.Go.ChangeSpec) : _root_.Go.OpenSpec := { _root_.Go.OpenSpec.ofChange s with cond := some uptoSmall }

/-- 'laws.FnAllows', WHERE WHAT IT READS IS OF BULK AT MOST 1048576: true; the input reads as it did. -/
def fnAllowsUptoRow : OpenClaim := { program := "ytdgbcjgpaondoaa", sum := "b5b92041dba0dce471fb63f42fb1339156a8416915c29c34d637aa839822b9a1", func := "loop.example/invertedpages/laws.FnAllows", spec := "fnAllows", apart := false, narrowed := true }
def FnAllowsUptoSaid : Prop := fnAllowsUptoRow.holds Try.pinned (OpenSpec.upto fnAllowsSpec)

/-- 'laws.FnAllowsTrans', WHERE WHAT IT READS IS OF BULK AT MOST 1048576: true; the input reads as it did. -/
def fnAllowsTransUptoRow : OpenClaim := { program := "ytdgbcjgpaondoaa", sum := "b5b92041dba0dce471fb63f42fb1339156a8416915c29c34d637aa839822b9a1", func := "loop.example/invertedpages/laws.FnAllowsTrans", spec := "fnAllowsTrans", apart := false, narrowed := true }
def FnAllowsTransUptoSaid : Prop := fnAllowsTransUptoRow.holds Try.pinned (OpenSpec.upto fnAllowsTransSpec)

/-- 'laws.FnKeyValid', WHERE WHAT IT READS IS OF BULK AT MOST 1048576: true; the input reads as it did. -/
def fnKeyValidUptoRow : OpenClaim := { program := "ytdgbcjgpaondoaa", sum := "b5b92041dba0dce471fb63f42fb1339156a8416915c29c34d637aa839822b9a1", func := "loop.example/invertedpages/laws.FnKeyValid", spec := "fnKeyValid", apart := false, narrowed := true }
def FnKeyValidUptoSaid : Prop := fnKeyValidUptoRow.holds Try.pinned (OpenSpec.upto fnKeyValidSpec)

/-- 'laws.FnKeyBefore', WHERE WHAT IT READS IS OF BULK AT MOST 1048576: true; the input reads as it did. -/
def fnKeyBeforeUptoRow : OpenClaim := { program := "ytdgbcjgpaondoaa", sum := "b5b92041dba0dce471fb63f42fb1339156a8416915c29c34d637aa839822b9a1", func := "loop.example/invertedpages/laws.FnKeyBefore", spec := "fnKeyBefore", apart := false, narrowed := true }
def FnKeyBeforeUptoSaid : Prop := fnKeyBeforeUptoRow.holds Try.pinned (OpenSpec.upto fnKeyBeforeSpec)

/-- 'laws.FnKeyTrans', WHERE WHAT IT READS IS OF BULK AT MOST 1048576: true; the input reads as it did. -/
def fnKeyTransUptoRow : OpenClaim := { program := "ytdgbcjgpaondoaa", sum := "b5b92041dba0dce471fb63f42fb1339156a8416915c29c34d637aa839822b9a1", func := "loop.example/invertedpages/laws.FnKeyTrans", spec := "fnKeyTrans", apart := false, narrowed := true }
def FnKeyTransUptoSaid : Prop := fnKeyTransUptoRow.holds Try.pinned (OpenSpec.upto fnKeyTransSpec)

/-- 'laws.FnFormatRights', WHERE WHAT IT READS IS OF BULK AT MOST 1048576: true; the input reads as it did. -/
def fnFormatRightsUptoRow : OpenClaim := { program := "ytdgbcjgpaondoaa", sum := "b5b92041dba0dce471fb63f42fb1339156a8416915c29c34d637aa839822b9a1", func := "loop.example/invertedpages/laws.FnFormatRights", spec := "fnFormatRights", apart := false, narrowed := true }
def FnFormatRightsUptoSaid : Prop := fnFormatRightsUptoRow.holds Try.pinned (OpenSpec.upto fnFormatRightsSpec)

/-- 'laws.FnRightsText', WHERE WHAT IT READS IS OF BULK AT MOST 1048576: true; the input reads as it did. -/
def fnRightsTextUptoRow : OpenClaim := { program := "ytdgbcjgpaondoaa", sum := "b5b92041dba0dce471fb63f42fb1339156a8416915c29c34d637aa839822b9a1", func := "loop.example/invertedpages/laws.FnRightsText", spec := "fnRightsText", apart := false, narrowed := true }
def FnRightsTextUptoSaid : Prop := fnRightsTextUptoRow.holds Try.pinned (OpenSpec.upto fnRightsTextSpec)

/-- 'laws.FnKeyNumber', WHERE WHAT IT READS IS OF BULK AT MOST 1048576: true; the input reads as it did. -/
def fnKeyNumberUptoRow : OpenClaim := { program := "ytdgbcjgpaondoaa", sum := "b5b92041dba0dce471fb63f42fb1339156a8416915c29c34d637aa839822b9a1", func := "loop.example/invertedpages/laws.FnKeyNumber", spec := "fnKeyNumber", apart := false, narrowed := true }
def FnKeyNumberUptoSaid : Prop := fnKeyNumberUptoRow.holds Try.pinned (OpenSpec.upto fnKeyNumberSpec)

/-- 'laws.FnSplitSpace', WHERE WHAT IT READS IS OF BULK AT MOST 1048576: true; the input reads as it did. -/
def fnSplitSpaceUptoRow : OpenClaim := { program := "ytdgbcjgpaondoaa", sum := "b5b92041dba0dce471fb63f42fb1339156a8416915c29c34d637aa839822b9a1", func := "loop.example/invertedpages/laws.FnSplitSpace", spec := "fnSplitSpace", apart := false, narrowed := true }
def FnSplitSpaceUptoSaid : Prop := fnSplitSpaceUptoRow.holds Try.pinned (OpenSpec.upto fnSplitSpaceSpec)

/-- 'laws.FnSplitAddress', WHERE WHAT IT READS IS OF BULK AT MOST 1048576: true; the input reads as it did. -/
def fnSplitAddressUptoRow : OpenClaim := { program := "ytdgbcjgpaondoaa", sum := "b5b92041dba0dce471fb63f42fb1339156a8416915c29c34d637aa839822b9a1", func := "loop.example/invertedpages/laws.FnSplitAddress", spec := "fnSplitAddress", apart := false, narrowed := true }
def FnSplitAddressUptoSaid : Prop := fnSplitAddressUptoRow.holds Try.pinned (OpenSpec.upto fnSplitAddressSpec)

/-- 'laws.FnPackAddress', WHERE WHAT IT READS IS OF BULK AT MOST 1048576: true; the input reads as it did. -/
def fnPackAddressUptoRow : OpenClaim := { program := "ytdgbcjgpaondoaa", sum := "b5b92041dba0dce471fb63f42fb1339156a8416915c29c34d637aa839822b9a1", func := "loop.example/invertedpages/laws.FnPackAddress", spec := "fnPackAddress", apart := false, narrowed := true }
def FnPackAddressUptoSaid : Prop := fnPackAddressUptoRow.holds Try.pinned (OpenSpec.upto fnPackAddressSpec)

/-- 'laws.FnHashFull', WHERE WHAT IT READS IS OF BULK AT MOST 1048576: true; the input reads as it did. -/
def fnHashFullUptoRow : OpenClaim := { program := "ytdgbcjgpaondoaa", sum := "b5b92041dba0dce471fb63f42fb1339156a8416915c29c34d637aa839822b9a1", func := "loop.example/invertedpages/laws.FnHashFull", spec := "fnHashFull", apart := false, narrowed := true }
def FnHashFullUptoSaid : Prop := fnHashFullUptoRow.holds Try.pinned (OpenSpec.upto fnHashFullSpec)

end Rows
end Go.Proofs.Ytdgbcjgpaondoaa
