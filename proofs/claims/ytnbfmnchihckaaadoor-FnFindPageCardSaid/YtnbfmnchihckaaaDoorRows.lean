/-
  NARROWER THAN 'FOR EVERY INPUT', by the rows' own cells (each row's printed sentence says how): FnExactNewTable: laid · FnExactTableValid: laid · FnExactFindPage: laid · FnExactChainOf: laid · FnFindPage: laid · FnMissSteps: laid · FnRehashTable: laid · FnExactRehashTable: laid.
  DERIVED. THE GIVEN ROWS OF THIS SEAT. 8 by the template 'for every input the law returns true; each argument reads behind the call as it read before'; 0 by the template 'total and deterministic' (their statements: YtnbfmnchihckaaaDoorTotals.lean).
  GIVEN WITH THE SEED: the statements are not yours to turn. If you find one false, say at which input.
  Laid BY PROGRAM, IN A SANDBOX (cutbox-rows.mjs): the forced cells as the released guide's own fill.sh prints them over the translation 85e359cdd2eb42ae… (all of the seat's roots in one cut). By AI agents, Wed Nov 11 2026. No macro, syntax, notation, axiom, sorry.
-/
import Derived.Test.YtnbfmnchihckaaaDoorChecked
import GoSem.Claim
import GoSem.ClaimJoined
import GoSem.ClaimMapViews
import Derived.JoinedTies
import Derived.KernelRfl
namespace Go.Proofs.YtnbfmnchihckaaaDoor
/- THE CELL 'sum', in the pinned program and in every row, IS THE sha256 OF THE DUMP (.gsa) THAT YtnbfmnchihckaaaDoorProg.lean LOADS. Nothing in Lean hashes anything: it is a label: what it is worth is what the hold of that sum in a sandbox is worth. -/
noncomputable def Tryd.pinned : Pinned := { name := "ytnbfmnchihckaaadoor", sum := "85e359cdd2eb42ae0448d6873a7562c92904f2f301e99740ab461ba97dd5cf25", checked := Tryd.checked }
namespace Rows
def none {H : Type} : Left H := { results := [], args := [] }

/- WHAT THE LISTED PACKAGE-LEVEL VARIABLES READ AS WHEN THE CALL BEGINS. Each datum BY PROGRAM (the guide's laid-datum.mjs) off the statement by which the dump's own 'gosem.cut.vars' lays the variable. In a bare row this is a premise. The card (YtnbfmnchihckaaaDoorCards.lean) ties it to the program's text. -/
def laid_loop_example_invertedpages_impl_free {H : Type} : DataW H := .agg [.lit (.bool false), .agg [.lit (.int .i64 0), .lit (.int .i64 0)], .lit (.int .i64 0), .lit (.int .i64 (-1))]

/-- 'laws.FnExactNewTable': WHATEVER THE INPUT: true; the input reads as it did. -/
def fnExactNewTableSpec : ChangeSpec := { name := "fnExactNewTable", vars := ["loop.example/invertedpages/impl.free"], fn := fun _ => fun
  | [d1, d2, g1] => { results := [.lit (.bool true)], args := [d1, d2], vars := [g1] }
  | _ => none }
def fnExactNewTableRow : OpenClaim := { program := "ytnbfmnchihckaaadoor", sum := "85e359cdd2eb42ae0448d6873a7562c92904f2f301e99740ab461ba97dd5cf25", func := "loop.example/invertedpages/laws.FnExactNewTable", spec := "fnExactNewTable", named := ["loop.example/invertedpages/impl.free"], plainKeys := false, apart := false, laid := [("loop.example/invertedpages/impl.free", laid_loop_example_invertedpages_impl_free)] }
def FnExactNewTableSaid : Prop := fnExactNewTableRow.holds Tryd.pinned (OpenSpec.ofChange fnExactNewTableSpec)

/-- ITS FALSE NEIGHBOUR: 'it returns false'. Refute it at one input. -/
def fnExactNewTableWrong : ChangeSpec := { name := "fnExactNewTable", vars := ["loop.example/invertedpages/impl.free"], fn := fun _ => fun
  | [d1, d2, g1] => { results := [.lit (.bool false)], args := [d1, d2], vars := [g1] }
  | _ => none }
def FnExactNewTableWrongFalsely : Prop := fnExactNewTableRow.holds Tryd.pinned (OpenSpec.ofChange fnExactNewTableWrong)

/-- 'laws.FnExactTableValid': WHATEVER THE INPUT: true; the input reads as it did. -/
def fnExactTableValidSpec : ChangeSpec := { name := "fnExactTableValid", vars := ["loop.example/invertedpages/impl.free"], fn := fun _ => fun
  | [d, g1] => { results := [.lit (.bool true)], args := [d], vars := [g1] }
  | _ => none }
def fnExactTableValidRow : OpenClaim := { program := "ytnbfmnchihckaaadoor", sum := "85e359cdd2eb42ae0448d6873a7562c92904f2f301e99740ab461ba97dd5cf25", func := "loop.example/invertedpages/laws.FnExactTableValid", spec := "fnExactTableValid", named := ["loop.example/invertedpages/impl.free"], plainKeys := false, apart := false, laid := [("loop.example/invertedpages/impl.free", laid_loop_example_invertedpages_impl_free)] }
def FnExactTableValidSaid : Prop := fnExactTableValidRow.holds Tryd.pinned (OpenSpec.ofChange fnExactTableValidSpec)

/-- ITS FALSE NEIGHBOUR: 'it returns false'. Refute it at one input. -/
def fnExactTableValidWrong : ChangeSpec := { name := "fnExactTableValid", vars := ["loop.example/invertedpages/impl.free"], fn := fun _ => fun
  | [d, g1] => { results := [.lit (.bool false)], args := [d], vars := [g1] }
  | _ => none }
def FnExactTableValidWrongFalsely : Prop := fnExactTableValidRow.holds Tryd.pinned (OpenSpec.ofChange fnExactTableValidWrong)

/-- 'laws.FnExactFindPage': WHATEVER THE INPUT: true; the input reads as it did. -/
def fnExactFindPageSpec : ChangeSpec := { name := "fnExactFindPage", vars := ["loop.example/invertedpages/impl.free"], fn := fun _ => fun
  | [d1, d2, g1] => { results := [.lit (.bool true)], args := [d1, d2], vars := [g1] }
  | _ => none }
def fnExactFindPageRow : OpenClaim := { program := "ytnbfmnchihckaaadoor", sum := "85e359cdd2eb42ae0448d6873a7562c92904f2f301e99740ab461ba97dd5cf25", func := "loop.example/invertedpages/laws.FnExactFindPage", spec := "fnExactFindPage", named := ["loop.example/invertedpages/impl.free"], plainKeys := false, apart := false, laid := [("loop.example/invertedpages/impl.free", laid_loop_example_invertedpages_impl_free)] }
def FnExactFindPageSaid : Prop := fnExactFindPageRow.holds Tryd.pinned (OpenSpec.ofChange fnExactFindPageSpec)

/-- ITS FALSE NEIGHBOUR: 'it returns false'. Refute it at one input. -/
def fnExactFindPageWrong : ChangeSpec := { name := "fnExactFindPage", vars := ["loop.example/invertedpages/impl.free"], fn := fun _ => fun
  | [d1, d2, g1] => { results := [.lit (.bool false)], args := [d1, d2], vars := [g1] }
  | _ => none }
def FnExactFindPageWrongFalsely : Prop := fnExactFindPageRow.holds Tryd.pinned (OpenSpec.ofChange fnExactFindPageWrong)

/-- 'laws.FnExactChainOf': WHATEVER THE INPUT: true; the input reads as it did. -/
def fnExactChainOfSpec : ChangeSpec := { name := "fnExactChainOf", vars := ["loop.example/invertedpages/impl.free"], fn := fun _ => fun
  | [d1, d2, g1] => { results := [.lit (.bool true)], args := [d1, d2], vars := [g1] }
  | _ => none }
def fnExactChainOfRow : OpenClaim := { program := "ytnbfmnchihckaaadoor", sum := "85e359cdd2eb42ae0448d6873a7562c92904f2f301e99740ab461ba97dd5cf25", func := "loop.example/invertedpages/laws.FnExactChainOf", spec := "fnExactChainOf", named := ["loop.example/invertedpages/impl.free"], plainKeys := false, apart := false, laid := [("loop.example/invertedpages/impl.free", laid_loop_example_invertedpages_impl_free)] }
def FnExactChainOfSaid : Prop := fnExactChainOfRow.holds Tryd.pinned (OpenSpec.ofChange fnExactChainOfSpec)

/-- ITS FALSE NEIGHBOUR: 'it returns false'. Refute it at one input. -/
def fnExactChainOfWrong : ChangeSpec := { name := "fnExactChainOf", vars := ["loop.example/invertedpages/impl.free"], fn := fun _ => fun
  | [d1, d2, g1] => { results := [.lit (.bool false)], args := [d1, d2], vars := [g1] }
  | _ => none }
def FnExactChainOfWrongFalsely : Prop := fnExactChainOfRow.holds Tryd.pinned (OpenSpec.ofChange fnExactChainOfWrong)

/-- 'laws.FnFindPage': WHATEVER THE INPUT: true; the input reads as it did. -/
def fnFindPageSpec : ChangeSpec := { name := "fnFindPage", vars := ["loop.example/invertedpages/impl.free"], fn := fun _ => fun
  | [d, g1] => { results := [.lit (.bool true)], args := [d], vars := [g1] }
  | _ => none }
def fnFindPageRow : OpenClaim := { program := "ytnbfmnchihckaaadoor", sum := "85e359cdd2eb42ae0448d6873a7562c92904f2f301e99740ab461ba97dd5cf25", func := "loop.example/invertedpages/laws.FnFindPage", spec := "fnFindPage", named := ["loop.example/invertedpages/impl.free"], plainKeys := false, apart := false, laid := [("loop.example/invertedpages/impl.free", laid_loop_example_invertedpages_impl_free)] }
def FnFindPageSaid : Prop := fnFindPageRow.holds Tryd.pinned (OpenSpec.ofChange fnFindPageSpec)

/-- ITS FALSE NEIGHBOUR: 'it returns false'. Refute it at one input. -/
def fnFindPageWrong : ChangeSpec := { name := "fnFindPage", vars := ["loop.example/invertedpages/impl.free"], fn := fun _ => fun
  | [d, g1] => { results := [.lit (.bool false)], args := [d], vars := [g1] }
  | _ => none }
def FnFindPageWrongFalsely : Prop := fnFindPageRow.holds Tryd.pinned (OpenSpec.ofChange fnFindPageWrong)

/-- 'laws.FnMissSteps': WHATEVER THE INPUT: true; the input reads as it did. -/
def fnMissStepsSpec : ChangeSpec := { name := "fnMissSteps", vars := ["loop.example/invertedpages/impl.free"], fn := fun _ => fun
  | [d, g1] => { results := [.lit (.bool true)], args := [d], vars := [g1] }
  | _ => none }
def fnMissStepsRow : OpenClaim := { program := "ytnbfmnchihckaaadoor", sum := "85e359cdd2eb42ae0448d6873a7562c92904f2f301e99740ab461ba97dd5cf25", func := "loop.example/invertedpages/laws.FnMissSteps", spec := "fnMissSteps", named := ["loop.example/invertedpages/impl.free"], plainKeys := false, apart := false, laid := [("loop.example/invertedpages/impl.free", laid_loop_example_invertedpages_impl_free)] }
def FnMissStepsSaid : Prop := fnMissStepsRow.holds Tryd.pinned (OpenSpec.ofChange fnMissStepsSpec)

/-- ITS FALSE NEIGHBOUR: 'it returns false'. Refute it at one input. -/
def fnMissStepsWrong : ChangeSpec := { name := "fnMissSteps", vars := ["loop.example/invertedpages/impl.free"], fn := fun _ => fun
  | [d, g1] => { results := [.lit (.bool false)], args := [d], vars := [g1] }
  | _ => none }
def FnMissStepsWrongFalsely : Prop := fnMissStepsRow.holds Tryd.pinned (OpenSpec.ofChange fnMissStepsWrong)

/-- 'laws.FnRehashTable': WHATEVER THE INPUT: true; the input reads as it did. -/
def fnRehashTableSpec : ChangeSpec := { name := "fnRehashTable", vars := ["loop.example/invertedpages/impl.free"], fn := fun _ => fun
  | [d, g1] => { results := [.lit (.bool true)], args := [d], vars := [g1] }
  | _ => none }
def fnRehashTableRow : OpenClaim := { program := "ytnbfmnchihckaaadoor", sum := "85e359cdd2eb42ae0448d6873a7562c92904f2f301e99740ab461ba97dd5cf25", func := "loop.example/invertedpages/laws.FnRehashTable", spec := "fnRehashTable", named := ["loop.example/invertedpages/impl.free"], plainKeys := false, apart := false, laid := [("loop.example/invertedpages/impl.free", laid_loop_example_invertedpages_impl_free)] }
def FnRehashTableSaid : Prop := fnRehashTableRow.holds Tryd.pinned (OpenSpec.ofChange fnRehashTableSpec)

/-- ITS FALSE NEIGHBOUR: 'it returns false'. Refute it at one input. -/
def fnRehashTableWrong : ChangeSpec := { name := "fnRehashTable", vars := ["loop.example/invertedpages/impl.free"], fn := fun _ => fun
  | [d, g1] => { results := [.lit (.bool false)], args := [d], vars := [g1] }
  | _ => none }
def FnRehashTableWrongFalsely : Prop := fnRehashTableRow.holds Tryd.pinned (OpenSpec.ofChange fnRehashTableWrong)

/-- 'laws.FnExactRehashTable': WHATEVER THE INPUT: true; the input reads as it did. -/
def fnExactRehashTableSpec : ChangeSpec := { name := "fnExactRehashTable", vars := ["loop.example/invertedpages/impl.free"], fn := fun _ => fun
  | [d1, d2, g1] => { results := [.lit (.bool true)], args := [d1, d2], vars := [g1] }
  | _ => none }
def fnExactRehashTableRow : OpenClaim := { program := "ytnbfmnchihckaaadoor", sum := "85e359cdd2eb42ae0448d6873a7562c92904f2f301e99740ab461ba97dd5cf25", func := "loop.example/invertedpages/laws.FnExactRehashTable", spec := "fnExactRehashTable", named := ["loop.example/invertedpages/impl.free"], plainKeys := false, apart := false, laid := [("loop.example/invertedpages/impl.free", laid_loop_example_invertedpages_impl_free)] }
def FnExactRehashTableSaid : Prop := fnExactRehashTableRow.holds Tryd.pinned (OpenSpec.ofChange fnExactRehashTableSpec)

/-- ITS FALSE NEIGHBOUR: 'it returns false'. Refute it at one input. -/
def fnExactRehashTableWrong : ChangeSpec := { name := "fnExactRehashTable", vars := ["loop.example/invertedpages/impl.free"], fn := fun _ => fun
  | [d1, d2, g1] => { results := [.lit (.bool false)], args := [d1, d2], vars := [g1] }
  | _ => none }
def FnExactRehashTableWrongFalsely : Prop := fnExactRehashTableRow.holds Tryd.pinned (OpenSpec.ofChange fnExactRehashTableWrong)

/- THE SECOND FORM. 'bulk': how many values and letters a reading holds, each counted each time it is reached (what is shared counts as often as it is met; a slice's spare places count too). A statement '..UptoSaid' is the law's where the arguments, and the package variables that the reading takes, are together of bulk at most 1048576: NARROWER than '..Said'. Prove '..Said' where nothing that the law and all that it calls make is longer than what came in: it says more and counts as full. Else prove '..UptoSaid'. A law counts once. -/
mutual
def uptoBulk {H : Type} : DataW H → Nat
  | .lit (.string bytes) => bytes.length + 1
  | .lit _ => 1
  | .nil => 1
  | .ptr d => uptoBulk d + 1
  | .slice elems spare => uptoBulkAll elems + uptoBulkAll spare + 1
  | .agg parts => uptoBulkAll parts + 1
  | .iface _ d => uptoBulk d + 1
  | .map entries => uptoBulkEntries entries + 1
  | .held _ => 1
def uptoBulkAll {H : Type} : List (DataW H) → Nat
  | [] => 0
  | d :: r => uptoBulk d + uptoBulkAll r
def uptoBulkEntries {H : Type} : List (Lit × DataW H) → Nat
  | [] => 0
  | x :: r => uptoBulkEntry x + uptoBulkEntries r
def uptoBulkEntry {H : Type} : Lit × DataW H → Nat
  | (.string bytes, d) => bytes.length + uptoBulk d + 1
  | (_, d) => uptoBulk d + 1
 end
def uptoSmall : (H : Type) → List (DataW H) → Bool := fun _ ds => decide (uptoBulkAll ds ≤ 1048576)
def OpenSpec.upto (s : _root_.Go.ChangeSpec) : _root_.Go.OpenSpec := { _root_.Go.OpenSpec.ofChange s with cond := some uptoSmall }

/-- 'laws.FnExactNewTable', WHERE WHAT IT READS IS OF BULK AT MOST 1048576: true; the input reads as it did. -/
def fnExactNewTableUptoRow : OpenClaim := { program := "ytnbfmnchihckaaadoor", sum := "85e359cdd2eb42ae0448d6873a7562c92904f2f301e99740ab461ba97dd5cf25", func := "loop.example/invertedpages/laws.FnExactNewTable", spec := "fnExactNewTable", named := ["loop.example/invertedpages/impl.free"], plainKeys := false, apart := false, laid := [("loop.example/invertedpages/impl.free", laid_loop_example_invertedpages_impl_free)], narrowed := true }
def FnExactNewTableUptoSaid : Prop := fnExactNewTableUptoRow.holds Tryd.pinned (OpenSpec.upto fnExactNewTableSpec)

/-- 'laws.FnExactTableValid', WHERE WHAT IT READS IS OF BULK AT MOST 1048576: true; the input reads as it did. -/
def fnExactTableValidUptoRow : OpenClaim := { program := "ytnbfmnchihckaaadoor", sum := "85e359cdd2eb42ae0448d6873a7562c92904f2f301e99740ab461ba97dd5cf25", func := "loop.example/invertedpages/laws.FnExactTableValid", spec := "fnExactTableValid", named := ["loop.example/invertedpages/impl.free"], plainKeys := false, apart := false, laid := [("loop.example/invertedpages/impl.free", laid_loop_example_invertedpages_impl_free)], narrowed := true }
def FnExactTableValidUptoSaid : Prop := fnExactTableValidUptoRow.holds Tryd.pinned (OpenSpec.upto fnExactTableValidSpec)

/-- 'laws.FnExactFindPage', WHERE WHAT IT READS IS OF BULK AT MOST 1048576: true; the input reads as it did. -/
def fnExactFindPageUptoRow : OpenClaim := { program := "ytnbfmnchihckaaadoor", sum := "85e359cdd2eb42ae0448d6873a7562c92904f2f301e99740ab461ba97dd5cf25", func := "loop.example/invertedpages/laws.FnExactFindPage", spec := "fnExactFindPage", named := ["loop.example/invertedpages/impl.free"], plainKeys := false, apart := false, laid := [("loop.example/invertedpages/impl.free", laid_loop_example_invertedpages_impl_free)], narrowed := true }
def FnExactFindPageUptoSaid : Prop := fnExactFindPageUptoRow.holds Tryd.pinned (OpenSpec.upto fnExactFindPageSpec)

/-- 'laws.FnExactChainOf', WHERE WHAT IT READS IS OF BULK AT MOST 1048576: true; the input reads as it did. -/
def fnExactChainOfUptoRow : OpenClaim := { program := "ytnbfmnchihckaaadoor", sum := "85e359cdd2eb42ae0448d6873a7562c92904f2f301e99740ab461ba97dd5cf25", func := "loop.example/invertedpages/laws.FnExactChainOf", spec := "fnExactChainOf", named := ["loop.example/invertedpages/impl.free"], plainKeys := false, apart := false, laid := [("loop.example/invertedpages/impl.free", laid_loop_example_invertedpages_impl_free)], narrowed := true }
def FnExactChainOfUptoSaid : Prop := fnExactChainOfUptoRow.holds Tryd.pinned (OpenSpec.upto fnExactChainOfSpec)

/-- 'laws.FnFindPage', WHERE WHAT IT READS IS OF BULK AT MOST 1048576: true; the input reads as it did. -/
def fnFindPageUptoRow : OpenClaim := { program := "ytnbfmnchihckaaadoor", sum := "85e359cdd2eb42ae0448d6873a7562c92904f2f301e99740ab461ba97dd5cf25", func := "loop.example/invertedpages/laws.FnFindPage", spec := "fnFindPage", named := ["loop.example/invertedpages/impl.free"], plainKeys := false, apart := false, laid := [("loop.example/invertedpages/impl.free", laid_loop_example_invertedpages_impl_free)], narrowed := true }
def FnFindPageUptoSaid : Prop := fnFindPageUptoRow.holds Tryd.pinned (OpenSpec.upto fnFindPageSpec)

/-- 'laws.FnMissSteps', WHERE WHAT IT READS IS OF BULK AT MOST 1048576: true; the input reads as it did. -/
def fnMissStepsUptoRow : OpenClaim := { program := "ytnbfmnchihckaaadoor", sum := "85e359cdd2eb42ae0448d6873a7562c92904f2f301e99740ab461ba97dd5cf25", func := "loop.example/invertedpages/laws.FnMissSteps", spec := "fnMissSteps", named := ["loop.example/invertedpages/impl.free"], plainKeys := false, apart := false, laid := [("loop.example/invertedpages/impl.free", laid_loop_example_invertedpages_impl_free)], narrowed := true }
def FnMissStepsUptoSaid : Prop := fnMissStepsUptoRow.holds Tryd.pinned (OpenSpec.upto fnMissStepsSpec)

/-- 'laws.FnRehashTable', WHERE WHAT IT READS IS OF BULK AT MOST 1048576: true; the input reads as it did. -/
def fnRehashTableUptoRow : OpenClaim := { program := "ytnbfmnchihckaaadoor", sum := "85e359cdd2eb42ae0448d6873a7562c92904f2f301e99740ab461ba97dd5cf25", func := "loop.example/invertedpages/laws.FnRehashTable", spec := "fnRehashTable", named := ["loop.example/invertedpages/impl.free"], plainKeys := false, apart := false, laid := [("loop.example/invertedpages/impl.free", laid_loop_example_invertedpages_impl_free)], narrowed := true }
def FnRehashTableUptoSaid : Prop := fnRehashTableUptoRow.holds Tryd.pinned (OpenSpec.upto fnRehashTableSpec)

/-- 'laws.FnExactRehashTable', WHERE WHAT IT READS IS OF BULK AT MOST 1048576: true; the input reads as it did. -/
def fnExactRehashTableUptoRow : OpenClaim := { program := "ytnbfmnchihckaaadoor", sum := "85e359cdd2eb42ae0448d6873a7562c92904f2f301e99740ab461ba97dd5cf25", func := "loop.example/invertedpages/laws.FnExactRehashTable", spec := "fnExactRehashTable", named := ["loop.example/invertedpages/impl.free"], plainKeys := false, apart := false, laid := [("loop.example/invertedpages/impl.free", laid_loop_example_invertedpages_impl_free)], narrowed := true }
def FnExactRehashTableUptoSaid : Prop := fnExactRehashTableUptoRow.holds Tryd.pinned (OpenSpec.upto fnExactRehashTableSpec)

end Rows
end Go.Proofs.YtnbfmnchihckaaaDoor
