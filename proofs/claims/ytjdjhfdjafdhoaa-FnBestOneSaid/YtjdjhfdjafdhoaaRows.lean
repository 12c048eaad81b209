/-
  No cell of these rows narrows 'for every input' (looked for: loops, veiled, ifaces, maps, wideKeys, modest, calm, conditions, laid).
  DERIVED. THE GIVEN ROWS OF THIS SEAT. 9 by the template 'for every input the law returns true; each argument reads behind the call as it read before'; 0 by the template 'total and deterministic' (their statements: YtjdjhfdjafdhoaaTotals.lean).
  GIVEN WITH THE SEED: the statements are not yours to turn. If you find one false, say at which input.
  Laid BY PROGRAM, IN A SANDBOX (cutbox-rows.mjs): the forced cells as the released guide's own fill.sh prints them over the translation a6275bca569604c2… (all of the seat's roots in one cut). By AI agents, Wed Nov 11 2026. No macro, syntax, notation, axiom, sorry.
-/
import Derived.Test.YtjdjhfdjafdhoaaChecked
import GoSem.Claim
import GoSem.ClaimJoined
import GoSem.ClaimMapViews
import Derived.JoinedTies
import Derived.KernelRfl
namespace Go.Proofs.Ytjdjhfdjafdhoaa
/- THE CELL 'sum', in the pinned program and in every row, IS THE sha256 OF THE DUMP (.gsa) THAT YtjdjhfdjafdhoaaProg.lean LOADS. Nothing in Lean hashes anything: it is a label: what it is worth is what the hold of that sum in a sandbox is worth. -/
noncomputable def Try.pinned : Pinned := { name := "ytjdjhfdjafdhoaa", sum := "a6275bca569604c2bfdc9cf8993668ee756dde8270f3859bc8abe34dc946e982", checked := Try.checked }
namespace Rows
def none {H : Type} : Left H := { results := [], args := [] }

/-- 'laws.FnCountOrder': WHATEVER THE INPUT: true; the input reads as it did. -/
def fnCountOrderSpec : ChangeSpec := { name := "fnCountOrder", fn := fun _ => fun
  | [d] => { results := [.lit (.bool true)], args := [d] }
  | _ => none }
def fnCountOrderRow : OpenClaim := { program := "ytjdjhfdjafdhoaa", sum := "a6275bca569604c2bfdc9cf8993668ee756dde8270f3859bc8abe34dc946e982", func := "loop.example/invertedpages/laws.FnCountOrder", spec := "fnCountOrder", plainKeys := false, apart := false }
def FnCountOrderSaid : Prop := fnCountOrderRow.holds Try.pinned (OpenSpec.ofChange fnCountOrderSpec)

/-- ITS FALSE NEIGHBOUR: 'it returns false'. Refute it at one input. -/
def fnCountOrderWrong : ChangeSpec := { name := "fnCountOrder", fn := fun _ => fun
  | [d] => { results := [.lit (.bool false)], args := [d] }
  | _ => none }
def FnCountOrderWrongFalsely : Prop := fnCountOrderRow.holds Try.pinned (OpenSpec.ofChange fnCountOrderWrong)

/-- 'laws.FnCountOne': WHATEVER THE INPUT: true; the input reads as it did. -/
def fnCountOneSpec : ChangeSpec := { name := "fnCountOne", fn := fun _ => fun
  | [d] => { results := [.lit (.bool true)], args := [d] }
  | _ => none }
def fnCountOneRow : OpenClaim := { program := "ytjdjhfdjafdhoaa", sum := "a6275bca569604c2bfdc9cf8993668ee756dde8270f3859bc8abe34dc946e982", func := "loop.example/invertedpages/laws.FnCountOne", spec := "fnCountOne", plainKeys := false, apart := false }
def FnCountOneSaid : Prop := fnCountOneRow.holds Try.pinned (OpenSpec.ofChange fnCountOneSpec)

/-- ITS FALSE NEIGHBOUR: 'it returns false'. Refute it at one input. -/
def fnCountOneWrong : ChangeSpec := { name := "fnCountOne", fn := fun _ => fun
  | [d] => { results := [.lit (.bool false)], args := [d] }
  | _ => none }
def FnCountOneWrongFalsely : Prop := fnCountOneRow.holds Try.pinned (OpenSpec.ofChange fnCountOneWrong)

/-- 'laws.FnExactLongestBucket': WHATEVER THE INPUT: true; the input reads as it did. -/
def fnExactLongestBucketSpec : ChangeSpec := { name := "fnExactLongestBucket", fn := fun _ => fun
  | [d1, d2] => { results := [.lit (.bool true)], args := [d1, d2] }
  | _ => none }
def fnExactLongestBucketRow : OpenClaim := { program := "ytjdjhfdjafdhoaa", sum := "a6275bca569604c2bfdc9cf8993668ee756dde8270f3859bc8abe34dc946e982", func := "loop.example/invertedpages/laws.FnExactLongestBucket", spec := "fnExactLongestBucket", plainKeys := false, apart := false }
def FnExactLongestBucketSaid : Prop := fnExactLongestBucketRow.holds Try.pinned (OpenSpec.ofChange fnExactLongestBucketSpec)

/-- ITS FALSE NEIGHBOUR: 'it returns false'. Refute it at one input. -/
def fnExactLongestBucketWrong : ChangeSpec := { name := "fnExactLongestBucket", fn := fun _ => fun
  | [d1, d2] => { results := [.lit (.bool false)], args := [d1, d2] }
  | _ => none }
def FnExactLongestBucketWrongFalsely : Prop := fnExactLongestBucketRow.holds Try.pinned (OpenSpec.ofChange fnExactLongestBucketWrong)

/-- 'laws.FnLongestBucket': WHATEVER THE INPUT: true; the input reads as it did. -/
def fnLongestBucketSpec : ChangeSpec := { name := "fnLongestBucket", fn := fun _ => fun
  | [d] => { results := [.lit (.bool true)], args := [d] }
  | _ => none }
def fnLongestBucketRow : OpenClaim := { program := "ytjdjhfdjafdhoaa", sum := "a6275bca569604c2bfdc9cf8993668ee756dde8270f3859bc8abe34dc946e982", func := "loop.example/invertedpages/laws.FnLongestBucket", spec := "fnLongestBucket", plainKeys := false, apart := false }
def FnLongestBucketSaid : Prop := fnLongestBucketRow.holds Try.pinned (OpenSpec.ofChange fnLongestBucketSpec)

/-- ITS FALSE NEIGHBOUR: 'it returns false'. Refute it at one input. -/
def fnLongestBucketWrong : ChangeSpec := { name := "fnLongestBucket", fn := fun _ => fun
  | [d] => { results := [.lit (.bool false)], args := [d] }
  | _ => none }
def FnLongestBucketWrongFalsely : Prop := fnLongestBucketRow.holds Try.pinned (OpenSpec.ofChange fnLongestBucketWrong)

/-- 'laws.FnCountBuckets': WHATEVER THE INPUT: true; the input reads as it did. -/
def fnCountBucketsSpec : ChangeSpec := { name := "fnCountBuckets", fn := fun _ => fun
  | [d] => { results := [.lit (.bool true)], args := [d] }
  | _ => none }
def fnCountBucketsRow : OpenClaim := { program := "ytjdjhfdjafdhoaa", sum := "a6275bca569604c2bfdc9cf8993668ee756dde8270f3859bc8abe34dc946e982", func := "loop.example/invertedpages/laws.FnCountBuckets", spec := "fnCountBuckets", plainKeys := false, apart := false }
def FnCountBucketsSaid : Prop := fnCountBucketsRow.holds Try.pinned (OpenSpec.ofChange fnCountBucketsSpec)

/-- ITS FALSE NEIGHBOUR: 'it returns false'. Refute it at one input. -/
def fnCountBucketsWrong : ChangeSpec := { name := "fnCountBuckets", fn := fun _ => fun
  | [d] => { results := [.lit (.bool false)], args := [d] }
  | _ => none }
def FnCountBucketsWrongFalsely : Prop := fnCountBucketsRow.holds Try.pinned (OpenSpec.ofChange fnCountBucketsWrong)

/-- 'laws.FnBestOne': WHATEVER THE INPUT: true; the input reads as it did. -/
def fnBestOneSpec : ChangeSpec := { name := "fnBestOne", fn := fun _ => fun
  | [d] => { results := [.lit (.bool true)], args := [d] }
  | _ => none }
def fnBestOneRow : OpenClaim := { program := "ytjdjhfdjafdhoaa", sum := "a6275bca569604c2bfdc9cf8993668ee756dde8270f3859bc8abe34dc946e982", func := "loop.example/invertedpages/laws.FnBestOne", spec := "fnBestOne", plainKeys := false, apart := false }
def FnBestOneSaid : Prop := fnBestOneRow.holds Try.pinned (OpenSpec.ofChange fnBestOneSpec)

/-- ITS FALSE NEIGHBOUR: 'it returns false'. Refute it at one input. -/
def fnBestOneWrong : ChangeSpec := { name := "fnBestOne", fn := fun _ => fun
  | [d] => { results := [.lit (.bool false)], args := [d] }
  | _ => none }
def FnBestOneWrongFalsely : Prop := fnBestOneRow.holds Try.pinned (OpenSpec.ofChange fnBestOneWrong)

/-- 'laws.FnExactCountBuckets': WHATEVER THE INPUT: true; the input reads as it did. -/
def fnExactCountBucketsSpec : ChangeSpec := { name := "fnExactCountBuckets", fn := fun _ => fun
  | [d1, d2] => { results := [.lit (.bool true)], args := [d1, d2] }
  | _ => none }
def fnExactCountBucketsRow : OpenClaim := { program := "ytjdjhfdjafdhoaa", sum := "a6275bca569604c2bfdc9cf8993668ee756dde8270f3859bc8abe34dc946e982", func := "loop.example/invertedpages/laws.FnExactCountBuckets", spec := "fnExactCountBuckets", plainKeys := false, apart := false }
def FnExactCountBucketsSaid : Prop := fnExactCountBucketsRow.holds Try.pinned (OpenSpec.ofChange fnExactCountBucketsSpec)

/-- ITS FALSE NEIGHBOUR: 'it returns false'. Refute it at one input. -/
def fnExactCountBucketsWrong : ChangeSpec := { name := "fnExactCountBuckets", fn := fun _ => fun
  | [d1, d2] => { results := [.lit (.bool false)], args := [d1, d2] }
  | _ => none }
def FnExactCountBucketsWrongFalsely : Prop := fnExactCountBucketsRow.holds Try.pinned (OpenSpec.ofChange fnExactCountBucketsWrong)

/-- 'laws.FnExactBestBuckets': WHATEVER THE INPUT: true; the input reads as it did. -/
def fnExactBestBucketsSpec : ChangeSpec := { name := "fnExactBestBuckets", fn := fun _ => fun
  | [d] => { results := [.lit (.bool true)], args := [d] }
  | _ => none }
def fnExactBestBucketsRow : OpenClaim := { program := "ytjdjhfdjafdhoaa", sum := "a6275bca569604c2bfdc9cf8993668ee756dde8270f3859bc8abe34dc946e982", func := "loop.example/invertedpages/laws.FnExactBestBuckets", spec := "fnExactBestBuckets", plainKeys := false, apart := false }
def FnExactBestBucketsSaid : Prop := fnExactBestBucketsRow.holds Try.pinned (OpenSpec.ofChange fnExactBestBucketsSpec)

/-- ITS FALSE NEIGHBOUR: 'it returns false'. Refute it at one input. -/
def fnExactBestBucketsWrong : ChangeSpec := { name := "fnExactBestBuckets", fn := fun _ => fun
  | [d] => { results := [.lit (.bool false)], args := [d] }
  | _ => none }
def FnExactBestBucketsWrongFalsely : Prop := fnExactBestBucketsRow.holds Try.pinned (OpenSpec.ofChange fnExactBestBucketsWrong)

/-- 'laws.FnBestBuckets': WHATEVER THE INPUT: true; the input reads as it did. -/
def fnBestBucketsSpec : ChangeSpec := { name := "fnBestBuckets", fn := fun _ => fun
  | [d] => { results := [.lit (.bool true)], args := [d] }
  | _ => none }
def fnBestBucketsRow : OpenClaim := { program := "ytjdjhfdjafdhoaa", sum := "a6275bca569604c2bfdc9cf8993668ee756dde8270f3859bc8abe34dc946e982", func := "loop.example/invertedpages/laws.FnBestBuckets", spec := "fnBestBuckets", plainKeys := false, apart := false }
def FnBestBucketsSaid : Prop := fnBestBucketsRow.holds Try.pinned (OpenSpec.ofChange fnBestBucketsSpec)

/-- ITS FALSE NEIGHBOUR: 'it returns false'. Refute it at one input. -/
def fnBestBucketsWrong : ChangeSpec := { name := "fnBestBuckets", fn := fun _ => fun
  | [d] => { results := [.lit (.bool false)], args := [d] }
  | _ => none }
def FnBestBucketsWrongFalsely : Prop := fnBestBucketsRow.holds Try.pinned (OpenSpec.ofChange fnBestBucketsWrong)

/- THE SECOND FORM. 'bulk': how many values and letters a reading holds, each counted each time it is reached (what is shared counts as often as it is met; a slice's spare places count too). A statement '..UptoSaid' is the law's where the arguments, and the package variables that the reading takes, are together of bulk at most 1048576: NARROWER than '..Said'. Prove '..Said' where nothing that the law and all that it calls make is longer than what came in: it says more and counts as full. Else prove '..UptoSaid'. A law counts once. -/
mutual
def uptoBulk {H : Type} : DataW H → Nat
  | .lit (.string bytes) => bytes.length + 1
  | .lit _ => 1
  | .nil => 1
  | .ptr d => uptoBulk d + 1
  | .slice elems spare => uptoBulkAll elems + uptoBulkAll spare + 1
  | .agg parts => uptoBulkAll parts + 1
  | .iface _ d => uptoBulk d + 1
  | .map entries => uptoBulkEntries entries + 1
  | .held _ => 1
def uptoBulkAll {H : Type} : List (DataW H) → Nat
  | [] => 0
  | d :: r => uptoBulk d + uptoBulkAll r
def uptoBulkEntries {H : Type} : List (Lit × DataW H) → Nat
  | [] => 0
  | x :: r => uptoBulkEntry x + uptoBulkEntries r
def uptoBulkEntry {H : Type} : Lit × DataW H → Nat
  | (.string bytes, d) => bytes.length + uptoBulk d + 1
  | (_, d) => uptoBulk d + 1
 end
def uptoSmall : (H : Type) → List (DataW H) → Bool := fun _ ds => decide (uptoBulkAll ds ≤ 1048576)
def OpenSpec.upto (s : _root_.Go.ChangeSpec) : _root_.Go.OpenSpec := { _root_.Go.OpenSpec.ofChange s with cond := some uptoSmall }

/-- 'laws.FnCountOrder', WHERE WHAT IT READS IS OF BULK AT MOST 1048576: true; the input reads as it did. -/
def fnCountOrderUptoRow : OpenClaim := { program := "ytjdjhfdjafdhoaa", sum := "a6275bca569604c2bfdc9cf8993668ee756dde8270f3859bc8abe34dc946e982", func := "loop.example/invertedpages/laws.FnCountOrder", spec := "fnCountOrder", plainKeys := false, apart := false, narrowed := true }
def FnCountOrderUptoSaid : Prop := fnCountOrderUptoRow.holds Try.pinned (OpenSpec.upto fnCountOrderSpec)

/-- 'laws.FnCountOne', WHERE WHAT IT READS IS OF BULK AT MOST 1048576: true; the input reads as it did. -/
def fnCountOneUptoRow : OpenClaim := { program := "ytjdjhfdjafdhoaa", sum := "a6275bca569604c2bfdc9cf8993668ee756dde8270f3859bc8abe34dc946e982", func := "loop.example/invertedpages/laws.FnCountOne", spec := "fnCountOne", plainKeys := false, apart := false, narrowed := true }
def FnCountOneUptoSaid : Prop := fnCountOneUptoRow.holds Try.pinned (OpenSpec.upto fnCountOneSpec)

/-- 'laws.FnExactLongestBucket', WHERE WHAT IT READS IS OF BULK AT MOST 1048576: true; the input reads as it did. -/
def fnExactLongestBucketUptoRow : OpenClaim := { program := "ytjdjhfdjafdhoaa", sum := "a6275bca569604c2bfdc9cf8993668ee756dde8270f3859bc8abe34dc946e982", func := "loop.example/invertedpages/laws.FnExactLongestBucket", spec := "fnExactLongestBucket", plainKeys := false, apart := false, narrowed := true }
def FnExactLongestBucketUptoSaid : Prop := fnExactLongestBucketUptoRow.holds Try.pinned (OpenSpec.upto fnExactLongestBucketSpec)

/-- 'laws.FnLongestBucket', WHERE WHAT IT READS IS OF BULK AT MOST 1048576: true; the input reads as it did. -/
def fnLongestBucketUptoRow : OpenClaim := { program := "ytjdjhfdjafdhoaa", sum := "a6275bca569604c2bfdc9cf8993668ee756dde8270f3859bc8abe34dc946e982", func := "loop.example/invertedpages/laws.FnLongestBucket", spec := "fnLongestBucket", plainKeys := false, apart := false, narrowed := true }
def FnLongestBucketUptoSaid : Prop := fnLongestBucketUptoRow.holds Try.pinned (OpenSpec.upto fnLongestBucketSpec)

/-- 'laws.FnCountBuckets', WHERE WHAT IT READS IS OF BULK AT MOST 1048576: true; the input reads as it did. -/
def fnCountBucketsUptoRow : OpenClaim := { program := "ytjdjhfdjafdhoaa", sum := "a6275bca569604c2bfdc9cf8993668ee756dde8270f3859bc8abe34dc946e982", func := "loop.example/invertedpages/laws.FnCountBuckets", spec := "fnCountBuckets", plainKeys := false, apart := false, narrowed := true }
def FnCountBucketsUptoSaid : Prop := fnCountBucketsUptoRow.holds Try.pinned (OpenSpec.upto fnCountBucketsSpec)

/-- 'laws.FnBestOne', WHERE WHAT IT READS IS OF BULK AT MOST 1048576: true; the input reads as it did. -/
def fnBestOneUptoRow : OpenClaim := { program := "ytjdjhfdjafdhoaa", sum := "a6275bca569604c2bfdc9cf8993668ee756dde8270f3859bc8abe34dc946e982", func := "loop.example/invertedpages/laws.FnBestOne", spec := "fnBestOne", plainKeys := false, apart := false, narrowed := true }
def FnBestOneUptoSaid : Prop := fnBestOneUptoRow.holds Try.pinned (OpenSpec.upto fnBestOneSpec)

/-- 'laws.FnExactCountBuckets', WHERE WHAT IT READS IS OF BULK AT MOST 1048576: true; the input reads as it did. -/
def fnExactCountBucketsUptoRow : OpenClaim := { program := "ytjdjhfdjafdhoaa", sum := "a6275bca569604c2bfdc9cf8993668ee756dde8270f3859bc8abe34dc946e982", func := "loop.example/invertedpages/laws.FnExactCountBuckets", spec := "fnExactCountBuckets", plainKeys := false, apart := false, narrowed := true }
def FnExactCountBucketsUptoSaid : Prop := fnExactCountBucketsUptoRow.holds Try.pinned (OpenSpec.upto fnExactCountBucketsSpec)

/-- 'laws.FnExactBestBuckets', WHERE WHAT IT READS IS OF BULK AT MOST 1048576: true; the input reads as it did. -/
def fnExactBestBucketsUptoRow : OpenClaim := { program := "ytjdjhfdjafdhoaa", sum := "a6275bca569604c2bfdc9cf8993668ee756dde8270f3859bc8abe34dc946e982", func := "loop.example/invertedpages/laws.FnExactBestBuckets", spec := "fnExactBestBuckets", plainKeys := false, apart := false, narrowed := true }
def FnExactBestBucketsUptoSaid : Prop := fnExactBestBucketsUptoRow.holds Try.pinned (OpenSpec.upto fnExactBestBucketsSpec)

/-- 'laws.FnBestBuckets', WHERE WHAT IT READS IS OF BULK AT MOST 1048576: true; the input reads as it did. -/
def fnBestBucketsUptoRow : OpenClaim := { program := "ytjdjhfdjafdhoaa", sum := "a6275bca569604c2bfdc9cf8993668ee756dde8270f3859bc8abe34dc946e982", func := "loop.example/invertedpages/laws.FnBestBuckets", spec := "fnBestBuckets", plainKeys := false, apart := false, narrowed := true }
def FnBestBucketsUptoSaid : Prop := fnBestBucketsUptoRow.holds Try.pinned (OpenSpec.upto fnBestBucketsSpec)

end Rows
end Go.Proofs.Ytjdjhfdjafdhoaa
