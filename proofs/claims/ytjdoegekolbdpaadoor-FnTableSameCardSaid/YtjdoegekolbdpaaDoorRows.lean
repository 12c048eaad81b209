/-
  NARROWER THAN 'FOR EVERY INPUT', by the rows' own cells (each row's printed sentence says how): FnNewTable: laid · FnChainOf: laid · FnTableSame: laid · FnFindAll: laid · FnTableValid: laid · FnExactKeysOf: laid · FnChainLoad: laid.
  DERIVED. THE GIVEN ROWS OF THIS SEAT. 7 by the template 'for every input the law returns true; each argument reads behind the call as it read before'; 0 by the template 'total and deterministic' (their statements: YtjdoegekolbdpaaDoorTotals.lean).
  GIVEN WITH THE SEED: the statements are not yours to turn. If you find one false, say at which input.
  Laid BY PROGRAM, IN A SANDBOX (cutbox-rows.mjs): the forced cells as the released guide's own fill.sh prints them over the translation ca118715619707fc… (all of the seat's roots in one cut). By AI agents, Wed Nov 11 2026. No macro, syntax, notation, axiom, sorry.
-/
import Derived.Test.YtjdoegekolbdpaaDoorChecked
import GoSem.Claim
import GoSem.ClaimJoined
import GoSem.ClaimMapViews
import Derived.JoinedTies
import Derived.KernelRfl
namespace Go.Proofs.YtjdoegekolbdpaaDoor
/- THE CELL 'sum', in the pinned program and in every row, IS THE sha256 OF THE DUMP (.gsa) THAT YtjdoegekolbdpaaDoorProg.lean LOADS. Nothing in Lean hashes anything: it is a label: what it is worth is what the hold of that sum in a sandbox is worth. -/
noncomputable def Tryd.pinned : Pinned := { name := "ytjdoegekolbdpaadoor", sum := "ca118715619707fc0a58d60d2da6ad33c4ad1ea0287d96e18fd2ddbb975e6397", checked := Tryd.checked }
namespace Rows
def none {H : Type} : Left H := { results := [], args := [] }

/- WHAT THE LISTED PACKAGE-LEVEL VARIABLES READ AS WHEN THE CALL BEGINS. Each datum BY PROGRAM (the guide's laid-datum.mjs) off the statement by which the dump's own 'gosem.cut.vars' lays the variable. In a bare row this is a premise. The card (YtjdoegekolbdpaaDoorCards.lean) ties it to the program's text. -/
def laid_loop_example_invertedpages_impl_free {H : Type} : DataW H := .agg [.lit (.bool false), .agg [.lit (.int .i64 0), .lit (.int .i64 0)], .lit (.int .i64 0), .lit (.int .i64 (-1))]

/-- 'laws.FnNewTable': WHATEVER THE INPUT: true; the input reads as it did. -/
def fnNewTableSpec : ChangeSpec := { name := "fnNewTable", vars := ["loop.example/invertedpages/impl.free"], fn := fun _ => fun
  | [d, g1] => { results := [.lit (.bool true)], args := [d], vars := [g1] }
  | _ => none }
def fnNewTableRow : OpenClaim := { program := "ytjdoegekolbdpaadoor", sum := "ca118715619707fc0a58d60d2da6ad33c4ad1ea0287d96e18fd2ddbb975e6397", func := "loop.example/invertedpages/laws.FnNewTable", spec := "fnNewTable", unfollowed := true, recurses := true, named := ["loop.example/invertedpages/impl.free"], plainKeys := false, apart := false, laid := [("loop.example/invertedpages/impl.free", laid_loop_example_invertedpages_impl_free)] }
def FnNewTableSaid : Prop := fnNewTableRow.holds Tryd.pinned (OpenSpec.ofChange fnNewTableSpec)

/-- ITS FALSE NEIGHBOUR: 'it returns false'. Refute it at one input. -/
def fnNewTableWrong : ChangeSpec := { name := "fnNewTable", vars := ["loop.example/invertedpages/impl.free"], fn := fun _ => fun
  | [d, g1] => { results := [.lit (.bool false)], args := [d], vars := [g1] }
  | _ => none }
def FnNewTableWrongFalsely : Prop := fnNewTableRow.holds Tryd.pinned (OpenSpec.ofChange fnNewTableWrong)

/-- 'laws.FnChainOf': WHATEVER THE INPUT: true; the input reads as it did. -/
def fnChainOfSpec : ChangeSpec := { name := "fnChainOf", vars := ["loop.example/invertedpages/impl.free"], fn := fun _ => fun
  | [d, g1] => { results := [.lit (.bool true)], args := [d], vars := [g1] }
  | _ => none }
def fnChainOfRow : OpenClaim := { program := "ytjdoegekolbdpaadoor", sum := "ca118715619707fc0a58d60d2da6ad33c4ad1ea0287d96e18fd2ddbb975e6397", func := "loop.example/invertedpages/laws.FnChainOf", spec := "fnChainOf", unfollowed := true, recurses := true, named := ["loop.example/invertedpages/impl.free"], plainKeys := false, apart := false, laid := [("loop.example/invertedpages/impl.free", laid_loop_example_invertedpages_impl_free)] }
def FnChainOfSaid : Prop := fnChainOfRow.holds Tryd.pinned (OpenSpec.ofChange fnChainOfSpec)

/-- ITS FALSE NEIGHBOUR: 'it returns false'. Refute it at one input. -/
def fnChainOfWrong : ChangeSpec := { name := "fnChainOf", vars := ["loop.example/invertedpages/impl.free"], fn := fun _ => fun
  | [d, g1] => { results := [.lit (.bool false)], args := [d], vars := [g1] }
  | _ => none }
def FnChainOfWrongFalsely : Prop := fnChainOfRow.holds Tryd.pinned (OpenSpec.ofChange fnChainOfWrong)

/-- 'laws.FnTableSame': WHATEVER THE INPUT: true; the input reads as it did. -/
def fnTableSameSpec : ChangeSpec := { name := "fnTableSame", vars := ["loop.example/invertedpages/impl.free"], fn := fun _ => fun
  | [d, g1] => { results := [.lit (.bool true)], args := [d], vars := [g1] }
  | _ => none }
def fnTableSameRow : OpenClaim := { program := "ytjdoegekolbdpaadoor", sum := "ca118715619707fc0a58d60d2da6ad33c4ad1ea0287d96e18fd2ddbb975e6397", func := "loop.example/invertedpages/laws.FnTableSame", spec := "fnTableSame", unfollowed := true, recurses := true, named := ["loop.example/invertedpages/impl.free"], plainKeys := false, apart := false, laid := [("loop.example/invertedpages/impl.free", laid_loop_example_invertedpages_impl_free)] }
def FnTableSameSaid : Prop := fnTableSameRow.holds Tryd.pinned (OpenSpec.ofChange fnTableSameSpec)

/-- ITS FALSE NEIGHBOUR: 'it returns false'. Refute it at one input. -/
def fnTableSameWrong : ChangeSpec := { name := "fnTableSame", vars := ["loop.example/invertedpages/impl.free"], fn := fun _ => fun
  | [d, g1] => { results := [.lit (.bool false)], args := [d], vars := [g1] }
  | _ => none }
def FnTableSameWrongFalsely : Prop := fnTableSameRow.holds Tryd.pinned (OpenSpec.ofChange fnTableSameWrong)

/-- 'laws.FnFindAll': WHATEVER THE INPUT: true; the input reads as it did. -/
def fnFindAllSpec : ChangeSpec := { name := "fnFindAll", vars := ["loop.example/invertedpages/impl.free"], fn := fun _ => fun
  | [d, g1] => { results := [.lit (.bool true)], args := [d], vars := [g1] }
  | _ => none }
def fnFindAllRow : OpenClaim := { program := "ytjdoegekolbdpaadoor", sum := "ca118715619707fc0a58d60d2da6ad33c4ad1ea0287d96e18fd2ddbb975e6397", func := "loop.example/invertedpages/laws.FnFindAll", spec := "fnFindAll", unfollowed := true, recurses := true, named := ["loop.example/invertedpages/impl.free"], plainKeys := false, apart := false, laid := [("loop.example/invertedpages/impl.free", laid_loop_example_invertedpages_impl_free)] }
def FnFindAllSaid : Prop := fnFindAllRow.holds Tryd.pinned (OpenSpec.ofChange fnFindAllSpec)

/-- ITS FALSE NEIGHBOUR: 'it returns false'. Refute it at one input. -/
def fnFindAllWrong : ChangeSpec := { name := "fnFindAll", vars := ["loop.example/invertedpages/impl.free"], fn := fun _ => fun
  | [d, g1] => { results := [.lit (.bool false)], args := [d], vars := [g1] }
  | _ => none }
def FnFindAllWrongFalsely : Prop := fnFindAllRow.holds Tryd.pinned (OpenSpec.ofChange fnFindAllWrong)

/-- 'laws.FnTableValid': WHATEVER THE INPUT: true; the input reads as it did. -/
def fnTableValidSpec : ChangeSpec := { name := "fnTableValid", vars := ["loop.example/invertedpages/impl.free"], fn := fun _ => fun
  | [d, g1] => { results := [.lit (.bool true)], args := [d], vars := [g1] }
  | _ => none }
def fnTableValidRow : OpenClaim := { program := "ytjdoegekolbdpaadoor", sum := "ca118715619707fc0a58d60d2da6ad33c4ad1ea0287d96e18fd2ddbb975e6397", func := "loop.example/invertedpages/laws.FnTableValid", spec := "fnTableValid", unfollowed := true, recurses := true, named := ["loop.example/invertedpages/impl.free"], plainKeys := false, apart := false, laid := [("loop.example/invertedpages/impl.free", laid_loop_example_invertedpages_impl_free)] }
def FnTableValidSaid : Prop := fnTableValidRow.holds Tryd.pinned (OpenSpec.ofChange fnTableValidSpec)

/-- ITS FALSE NEIGHBOUR: 'it returns false'. Refute it at one input. -/
def fnTableValidWrong : ChangeSpec := { name := "fnTableValid", vars := ["loop.example/invertedpages/impl.free"], fn := fun _ => fun
  | [d, g1] => { results := [.lit (.bool false)], args := [d], vars := [g1] }
  | _ => none }
def FnTableValidWrongFalsely : Prop := fnTableValidRow.holds Tryd.pinned (OpenSpec.ofChange fnTableValidWrong)

/-- 'laws.FnExactKeysOf': WHATEVER THE INPUT: true; the input reads as it did. -/
def fnExactKeysOfSpec : ChangeSpec := { name := "fnExactKeysOf", vars := ["loop.example/invertedpages/impl.free"], fn := fun _ => fun
  | [d, g1] => { results := [.lit (.bool true)], args := [d], vars := [g1] }
  | _ => none }
def fnExactKeysOfRow : OpenClaim := { program := "ytjdoegekolbdpaadoor", sum := "ca118715619707fc0a58d60d2da6ad33c4ad1ea0287d96e18fd2ddbb975e6397", func := "loop.example/invertedpages/laws.FnExactKeysOf", spec := "fnExactKeysOf", unfollowed := true, recurses := true, named := ["loop.example/invertedpages/impl.free"], plainKeys := false, apart := false, laid := [("loop.example/invertedpages/impl.free", laid_loop_example_invertedpages_impl_free)] }
def FnExactKeysOfSaid : Prop := fnExactKeysOfRow.holds Tryd.pinned (OpenSpec.ofChange fnExactKeysOfSpec)

/-- ITS FALSE NEIGHBOUR: 'it returns false'. Refute it at one input. -/
def fnExactKeysOfWrong : ChangeSpec := { name := "fnExactKeysOf", vars := ["loop.example/invertedpages/impl.free"], fn := fun _ => fun
  | [d, g1] => { results := [.lit (.bool false)], args := [d], vars := [g1] }
  | _ => none }
def FnExactKeysOfWrongFalsely : Prop := fnExactKeysOfRow.holds Tryd.pinned (OpenSpec.ofChange fnExactKeysOfWrong)

/-- 'laws.FnChainLoad': WHATEVER THE INPUT: true; the input reads as it did. -/
def fnChainLoadSpec : ChangeSpec := { name := "fnChainLoad", vars := ["loop.example/invertedpages/impl.free"], fn := fun _ => fun
  | [d, g1] => { results := [.lit (.bool true)], args := [d], vars := [g1] }
  | _ => none }
def fnChainLoadRow : OpenClaim := { program := "ytjdoegekolbdpaadoor", sum := "ca118715619707fc0a58d60d2da6ad33c4ad1ea0287d96e18fd2ddbb975e6397", func := "loop.example/invertedpages/laws.FnChainLoad", spec := "fnChainLoad", unfollowed := true, recurses := true, named := ["loop.example/invertedpages/impl.free"], plainKeys := false, apart := false, laid := [("loop.example/invertedpages/impl.free", laid_loop_example_invertedpages_impl_free)] }
def FnChainLoadSaid : Prop := fnChainLoadRow.holds Tryd.pinned (OpenSpec.ofChange fnChainLoadSpec)

/-- ITS FALSE NEIGHBOUR: 'it returns false'. Refute it at one input. -/
def fnChainLoadWrong : ChangeSpec := { name := "fnChainLoad", vars := ["loop.example/invertedpages/impl.free"], fn := fun _ => fun
  | [d, g1] => { results := [.lit (.bool false)], args := [d], vars := [g1] }
  | _ => none }
def FnChainLoadWrongFalsely : Prop := fnChainLoadRow.holds Tryd.pinned (OpenSpec.ofChange fnChainLoadWrong)

/- THE SECOND FORM. 'bulk': how many values and letters a reading holds, each counted each time it is reached (what is shared counts as often as it is met; a slice's spare places count too). A statement '..UptoSaid' is the law's where the arguments, and the package variables that the reading takes, are together of bulk at most 1048576: NARROWER than '..Said'. Prove '..Said' where nothing that the law and all that it calls make is longer than what came in: it says more and counts as full. Else prove '..UptoSaid'. A law counts once. -/
mutual
def uptoBulk {H : Type} : DataW H → Nat
  | .lit (.string bytes) => bytes.length + 1
  | .lit _ => 1
  | .nil => 1
  | .ptr d => uptoBulk d + 1
  | .slice elems spare => uptoBulkAll elems + uptoBulkAll spare + 1
  | .agg parts => uptoBulkAll parts + 1
  | .iface _ d => uptoBulk d + 1
  | .map entries => uptoBulkEntries entries + 1
  | .held _ => 1
def uptoBulkAll {H : Type} : List (DataW H) → Nat
  | [] => 0
  | d :: r => uptoBulk d + uptoBulkAll r
def uptoBulkEntries {H : Type} : List (Lit × DataW H) → Nat
  | [] => 0
  | x :: r => uptoBulkEntry x + uptoBulkEntries r
def uptoBulkEntry {H : Type} : Lit × DataW H → Nat
  | (.string bytes, d) => bytes.length + uptoBulk d + 1
  | (_, d) => uptoBulk d + 1
 end
def uptoSmall : (H : Type) → List (DataW H) → Bool := fun _ ds => decide (uptoBulkAll ds ≤ 1048576)
def OpenSpec.upto (s : _root_.Go.ChangeSpec) : _root_.Go.OpenSpec := { _root_.Go.OpenSpec.ofChange s with cond := some uptoSmall }

/-- 'laws.FnNewTable', WHERE WHAT IT READS IS OF BULK AT MOST 1048576: true; the input reads as it did. -/
def fnNewTableUptoRow : OpenClaim := { program := "ytjdoegekolbdpaadoor", sum := "ca118715619707fc0a58d60d2da6ad33c4ad1ea0287d96e18fd2ddbb975e6397", func := "loop.example/invertedpages/laws.FnNewTable", spec := "fnNewTable", unfollowed := true, recurses := true, named := ["loop.example/invertedpages/impl.free"], plainKeys := false, apart := false, laid := [("loop.example/invertedpages/impl.free", laid_loop_example_invertedpages_impl_free)], narrowed := true }
def FnNewTableUptoSaid : Prop := fnNewTableUptoRow.holds Tryd.pinned (OpenSpec.upto fnNewTableSpec)

/-- 'laws.FnChainOf', WHERE WHAT IT READS IS OF BULK AT MOST 1048576: true; the input reads as it did. -/
def fnChainOfUptoRow : OpenClaim := { program := "ytjdoegekolbdpaadoor", sum := "ca118715619707fc0a58d60d2da6ad33c4ad1ea0287d96e18fd2ddbb975e6397", func := "loop.example/invertedpages/laws.FnChainOf", spec := "fnChainOf", unfollowed := true, recurses := true, named := ["loop.example/invertedpages/impl.free"], plainKeys := false, apart := false, laid := [("loop.example/invertedpages/impl.free", laid_loop_example_invertedpages_impl_free)], narrowed := true }
def FnChainOfUptoSaid : Prop := fnChainOfUptoRow.holds Tryd.pinned (OpenSpec.upto fnChainOfSpec)

/-- 'laws.FnTableSame', WHERE WHAT IT READS IS OF BULK AT MOST 1048576: true; the input reads as it did. -/
def fnTableSameUptoRow : OpenClaim := { program := "ytjdoegekolbdpaadoor", sum := "ca118715619707fc0a58d60d2da6ad33c4ad1ea0287d96e18fd2ddbb975e6397", func := "loop.example/invertedpages/laws.FnTableSame", spec := "fnTableSame", unfollowed := true, recurses := true, named := ["loop.example/invertedpages/impl.free"], plainKeys := false, apart := false, laid := [("loop.example/invertedpages/impl.free", laid_loop_example_invertedpages_impl_free)], narrowed := true }
def FnTableSameUptoSaid : Prop := fnTableSameUptoRow.holds Tryd.pinned (OpenSpec.upto fnTableSameSpec)

/-- 'laws.FnFindAll', WHERE WHAT IT READS IS OF BULK AT MOST 1048576: true; the input reads as it did. -/
def fnFindAllUptoRow : OpenClaim := { program := "ytjdoegekolbdpaadoor", sum := "ca118715619707fc0a58d60d2da6ad33c4ad1ea0287d96e18fd2ddbb975e6397", func := "loop.example/invertedpages/laws.FnFindAll", spec := "fnFindAll", unfollowed := true, recurses := true, named := ["loop.example/invertedpages/impl.free"], plainKeys := false, apart := false, laid := [("loop.example/invertedpages/impl.free", laid_loop_example_invertedpages_impl_free)], narrowed := true }
def FnFindAllUptoSaid : Prop := fnFindAllUptoRow.holds Tryd.pinned (OpenSpec.upto fnFindAllSpec)

/-- 'laws.FnTableValid', WHERE WHAT IT READS IS OF BULK AT MOST 1048576: true; the input reads as it did. -/
def fnTableValidUptoRow : OpenClaim := { program := "ytjdoegekolbdpaadoor", sum := "ca118715619707fc0a58d60d2da6ad33c4ad1ea0287d96e18fd2ddbb975e6397", func := "loop.example/invertedpages/laws.FnTableValid", spec := "fnTableValid", unfollowed := true, recurses := true, named := ["loop.example/invertedpages/impl.free"], plainKeys := false, apart := false, laid := [("loop.example/invertedpages/impl.free", laid_loop_example_invertedpages_impl_free)], narrowed := true }
def FnTableValidUptoSaid : Prop := fnTableValidUptoRow.holds Tryd.pinned (OpenSpec.upto fnTableValidSpec)

/-- 'laws.FnExactKeysOf', WHERE WHAT IT READS IS OF BULK AT MOST 1048576: true; the input reads as it did. -/
def fnExactKeysOfUptoRow : OpenClaim := { program := "ytjdoegekolbdpaadoor", sum := "ca118715619707fc0a58d60d2da6ad33c4ad1ea0287d96e18fd2ddbb975e6397", func := "loop.example/invertedpages/laws.FnExactKeysOf", spec := "fnExactKeysOf", unfollowed := true, recurses := true, named := ["loop.example/invertedpages/impl.free"], plainKeys := false, apart := false, laid := [("loop.example/invertedpages/impl.free", laid_loop_example_invertedpages_impl_free)], narrowed := true }
def FnExactKeysOfUptoSaid : Prop := fnExactKeysOfUptoRow.holds Tryd.pinned (OpenSpec.upto fnExactKeysOfSpec)

/-- 'laws.FnChainLoad', WHERE WHAT IT READS IS OF BULK AT MOST 1048576: true; the input reads as it did. -/
def fnChainLoadUptoRow : OpenClaim := { program := "ytjdoegekolbdpaadoor", sum := "ca118715619707fc0a58d60d2da6ad33c4ad1ea0287d96e18fd2ddbb975e6397", func := "loop.example/invertedpages/laws.FnChainLoad", spec := "fnChainLoad", unfollowed := true, recurses := true, named := ["loop.example/invertedpages/impl.free"], plainKeys := false, apart := false, laid := [("loop.example/invertedpages/impl.free", laid_loop_example_invertedpages_impl_free)], narrowed := true }
def FnChainLoadUptoSaid : Prop := fnChainLoadUptoRow.holds Tryd.pinned (OpenSpec.upto fnChainLoadSpec)

end Rows
end Go.Proofs.YtjdoegekolbdpaaDoor
