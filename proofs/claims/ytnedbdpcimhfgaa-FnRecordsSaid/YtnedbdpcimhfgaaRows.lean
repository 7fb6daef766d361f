/-
  No cell of these rows narrows 'for every input' (looked for: loops, veiled, ifaces, maps, wideKeys, modest, calm, conditions, laid).
  DERIVED. THE GIVEN ROWS OF THIS SEAT. 9 by the template 'for every input the law returns true; each argument reads behind the call as it read before'; 0 by the template 'total and deterministic' (their statements: YtnedbdpcimhfgaaTotals.lean).
  GIVEN WITH THE SEED: the statements are not yours to turn. If you find one false, say at which input.
  Laid BY PROGRAM, IN A SANDBOX (cutbox-rows.mjs): the forced cells as the released guide's own fill.sh prints them over the translation c37cdff1157ca395… (all of the seat's roots in one cut). By AI agents, Wed Nov 11 2026. No macro, syntax, notation, axiom, sorry.
-/
import Derived.Test.YtnedbdpcimhfgaaChecked
import GoSem.Claim
import GoSem.ClaimJoined
import GoSem.ClaimMapViews
import Derived.JoinedTies
import Derived.KernelRfl
namespace Go.Proofs.Ytnedbdpcimhfgaa
/- THE CELL 'sum', in the pinned program and in every row, IS THE sha256 OF THE DUMP (.gsa) THAT YtnedbdpcimhfgaaProg.lean LOADS. Nothing in Lean hashes anything: it is a label: what it is worth is what the hold of that sum in a sandbox is worth. -/
noncomputable def Try.pinned : Pinned := { name := "ytnedbdpcimhfgaa", sum := "c37cdff1157ca39524189780479502da5a7eddf2466d87306b92f4ff00f076b0", checked := Try.checked }
namespace Rows
def none {H : Type} : Left H := { results := [], args := [] }

/-- 'laws.FnExactEnter': WHATEVER THE INPUT: true; the input reads as it did. -/
def fnExactEnterSpec : ChangeSpec := { name := "fnExactEnter", fn := fun _ => fun
  | [d1, d2] => { results := [.lit (.bool true)], args := [d1, d2] }
  | _ => none }
def fnExactEnterRow : OpenClaim := { program := "ytnedbdpcimhfgaa", sum := "c37cdff1157ca39524189780479502da5a7eddf2466d87306b92f4ff00f076b0", func := "loop.example/g03307/laws.FnExactEnter", spec := "fnExactEnter", apart := false }
def FnExactEnterSaid : Prop := fnExactEnterRow.holds Try.pinned (OpenSpec.ofChange fnExactEnterSpec)

/-- ITS FALSE NEIGHBOUR: 'it returns false'. Refute it at one input. -/
def fnExactEnterWrong : ChangeSpec := { name := "fnExactEnter", fn := fun _ => fun
  | [d1, d2] => { results := [.lit (.bool false)], args := [d1, d2] }
  | _ => none }
def FnExactEnterWrongFalsely : Prop := fnExactEnterRow.holds Try.pinned (OpenSpec.ofChange fnExactEnterWrong)

/-- 'laws.FnBooks': WHATEVER THE INPUT: true; the input reads as it did. -/
def fnBooksSpec : ChangeSpec := { name := "fnBooks", fn := fun _ => fun
  | [d] => { results := [.lit (.bool true)], args := [d] }
  | _ => none }
def fnBooksRow : OpenClaim := { program := "ytnedbdpcimhfgaa", sum := "c37cdff1157ca39524189780479502da5a7eddf2466d87306b92f4ff00f076b0", func := "loop.example/g03307/laws.FnBooks", spec := "fnBooks", apart := false }
def FnBooksSaid : Prop := fnBooksRow.holds Try.pinned (OpenSpec.ofChange fnBooksSpec)

/-- ITS FALSE NEIGHBOUR: 'it returns false'. Refute it at one input. -/
def fnBooksWrong : ChangeSpec := { name := "fnBooks", fn := fun _ => fun
  | [d] => { results := [.lit (.bool false)], args := [d] }
  | _ => none }
def FnBooksWrongFalsely : Prop := fnBooksRow.holds Try.pinned (OpenSpec.ofChange fnBooksWrong)

/-- 'laws.FnExactTwoWells': WHATEVER THE INPUT: true; the input reads as it did. -/
def fnExactTwoWellsSpec : ChangeSpec := { name := "fnExactTwoWells", fn := fun _ => fun
  | [d] => { results := [.lit (.bool true)], args := [d] }
  | _ => none }
def fnExactTwoWellsRow : OpenClaim := { program := "ytnedbdpcimhfgaa", sum := "c37cdff1157ca39524189780479502da5a7eddf2466d87306b92f4ff00f076b0", func := "loop.example/g03307/laws.FnExactTwoWells", spec := "fnExactTwoWells", unfollowed := true, recurses := true, apart := false }
def FnExactTwoWellsSaid : Prop := fnExactTwoWellsRow.holds Try.pinned (OpenSpec.ofChange fnExactTwoWellsSpec)

/-- ITS FALSE NEIGHBOUR: 'it returns false'. Refute it at one input. -/
def fnExactTwoWellsWrong : ChangeSpec := { name := "fnExactTwoWells", fn := fun _ => fun
  | [d] => { results := [.lit (.bool false)], args := [d] }
  | _ => none }
def FnExactTwoWellsWrongFalsely : Prop := fnExactTwoWellsRow.holds Try.pinned (OpenSpec.ofChange fnExactTwoWellsWrong)

/-- 'laws.FnQueues': WHATEVER THE INPUT: true; the input reads as it did. -/
def fnQueuesSpec : ChangeSpec := { name := "fnQueues", fn := fun _ => fun
  | [d] => { results := [.lit (.bool true)], args := [d] }
  | _ => none }
def fnQueuesRow : OpenClaim := { program := "ytnedbdpcimhfgaa", sum := "c37cdff1157ca39524189780479502da5a7eddf2466d87306b92f4ff00f076b0", func := "loop.example/g03307/laws.FnQueues", spec := "fnQueues", unfollowed := true, recurses := true, apart := false }
def FnQueuesSaid : Prop := fnQueuesRow.holds Try.pinned (OpenSpec.ofChange fnQueuesSpec)

/-- ITS FALSE NEIGHBOUR: 'it returns false'. Refute it at one input. -/
def fnQueuesWrong : ChangeSpec := { name := "fnQueues", fn := fun _ => fun
  | [d] => { results := [.lit (.bool false)], args := [d] }
  | _ => none }
def FnQueuesWrongFalsely : Prop := fnQueuesRow.holds Try.pinned (OpenSpec.ofChange fnQueuesWrong)

/-- 'laws.FnExactMiddleYear': WHATEVER THE INPUT: true; the input reads as it did. -/
def fnExactMiddleYearSpec : ChangeSpec := { name := "fnExactMiddleYear", fn := fun _ => fun
  | [d] => { results := [.lit (.bool true)], args := [d] }
  | _ => none }
def fnExactMiddleYearRow : OpenClaim := { program := "ytnedbdpcimhfgaa", sum := "c37cdff1157ca39524189780479502da5a7eddf2466d87306b92f4ff00f076b0", func := "loop.example/g03307/laws.FnExactMiddleYear", spec := "fnExactMiddleYear", recurses := true, apart := false }
def FnExactMiddleYearSaid : Prop := fnExactMiddleYearRow.holds Try.pinned (OpenSpec.ofChange fnExactMiddleYearSpec)

/-- ITS FALSE NEIGHBOUR: 'it returns false'. Refute it at one input. -/
def fnExactMiddleYearWrong : ChangeSpec := { name := "fnExactMiddleYear", fn := fun _ => fun
  | [d] => { results := [.lit (.bool false)], args := [d] }
  | _ => none }
def FnExactMiddleYearWrongFalsely : Prop := fnExactMiddleYearRow.holds Try.pinned (OpenSpec.ofChange fnExactMiddleYearWrong)

/-- 'laws.FnExactSortedYears': WHATEVER THE INPUT: true; the input reads as it did. -/
def fnExactSortedYearsSpec : ChangeSpec := { name := "fnExactSortedYears", fn := fun _ => fun
  | [d] => { results := [.lit (.bool true)], args := [d] }
  | _ => none }
def fnExactSortedYearsRow : OpenClaim := { program := "ytnedbdpcimhfgaa", sum := "c37cdff1157ca39524189780479502da5a7eddf2466d87306b92f4ff00f076b0", func := "loop.example/g03307/laws.FnExactSortedYears", spec := "fnExactSortedYears", recurses := true, apart := false }
def FnExactSortedYearsSaid : Prop := fnExactSortedYearsRow.holds Try.pinned (OpenSpec.ofChange fnExactSortedYearsSpec)

/-- ITS FALSE NEIGHBOUR: 'it returns false'. Refute it at one input. -/
def fnExactSortedYearsWrong : ChangeSpec := { name := "fnExactSortedYears", fn := fun _ => fun
  | [d] => { results := [.lit (.bool false)], args := [d] }
  | _ => none }
def FnExactSortedYearsWrongFalsely : Prop := fnExactSortedYearsRow.holds Try.pinned (OpenSpec.ofChange fnExactSortedYearsWrong)

/-- 'laws.FnExactDryYears': WHATEVER THE INPUT: true; the input reads as it did. -/
def fnExactDryYearsSpec : ChangeSpec := { name := "fnExactDryYears", fn := fun _ => fun
  | [d1, d2] => { results := [.lit (.bool true)], args := [d1, d2] }
  | _ => none }
def fnExactDryYearsRow : OpenClaim := { program := "ytnedbdpcimhfgaa", sum := "c37cdff1157ca39524189780479502da5a7eddf2466d87306b92f4ff00f076b0", func := "loop.example/g03307/laws.FnExactDryYears", spec := "fnExactDryYears", recurses := true, apart := false }
def FnExactDryYearsSaid : Prop := fnExactDryYearsRow.holds Try.pinned (OpenSpec.ofChange fnExactDryYearsSpec)

/-- ITS FALSE NEIGHBOUR: 'it returns false'. Refute it at one input. -/
def fnExactDryYearsWrong : ChangeSpec := { name := "fnExactDryYears", fn := fun _ => fun
  | [d1, d2] => { results := [.lit (.bool false)], args := [d1, d2] }
  | _ => none }
def FnExactDryYearsWrongFalsely : Prop := fnExactDryYearsRow.holds Try.pinned (OpenSpec.ofChange fnExactDryYearsWrong)

/-- 'laws.FnExactLongestDrought': WHATEVER THE INPUT: true; the input reads as it did. -/
def fnExactLongestDroughtSpec : ChangeSpec := { name := "fnExactLongestDrought", fn := fun _ => fun
  | [d1, d2] => { results := [.lit (.bool true)], args := [d1, d2] }
  | _ => none }
def fnExactLongestDroughtRow : OpenClaim := { program := "ytnedbdpcimhfgaa", sum := "c37cdff1157ca39524189780479502da5a7eddf2466d87306b92f4ff00f076b0", func := "loop.example/g03307/laws.FnExactLongestDrought", spec := "fnExactLongestDrought", recurses := true, apart := false }
def FnExactLongestDroughtSaid : Prop := fnExactLongestDroughtRow.holds Try.pinned (OpenSpec.ofChange fnExactLongestDroughtSpec)

/-- ITS FALSE NEIGHBOUR: 'it returns false'. Refute it at one input. -/
def fnExactLongestDroughtWrong : ChangeSpec := { name := "fnExactLongestDrought", fn := fun _ => fun
  | [d1, d2] => { results := [.lit (.bool false)], args := [d1, d2] }
  | _ => none }
def FnExactLongestDroughtWrongFalsely : Prop := fnExactLongestDroughtRow.holds Try.pinned (OpenSpec.ofChange fnExactLongestDroughtWrong)

/-- 'laws.FnRecords': WHATEVER THE INPUT: true; the input reads as it did. -/
def fnRecordsSpec : ChangeSpec := { name := "fnRecords", fn := fun _ => fun
  | [d] => { results := [.lit (.bool true)], args := [d] }
  | _ => none }
def fnRecordsRow : OpenClaim := { program := "ytnedbdpcimhfgaa", sum := "c37cdff1157ca39524189780479502da5a7eddf2466d87306b92f4ff00f076b0", func := "loop.example/g03307/laws.FnRecords", spec := "fnRecords", recurses := true, apart := false }
def FnRecordsSaid : Prop := fnRecordsRow.holds Try.pinned (OpenSpec.ofChange fnRecordsSpec)

/-- ITS FALSE NEIGHBOUR: 'it returns false'. Refute it at one input. -/
def fnRecordsWrong : ChangeSpec := { name := "fnRecords", fn := fun _ => fun
  | [d] => { results := [.lit (.bool false)], args := [d] }
  | _ => none }
def FnRecordsWrongFalsely : Prop := fnRecordsRow.holds Try.pinned (OpenSpec.ofChange fnRecordsWrong)

/- THE SECOND FORM. 'bulk': how many values and letters a reading holds, each counted each time it is reached (what is shared counts as often as it is met; a slice's spare places count too). A statement '..UptoSaid' is the law's where the arguments, and the package variables that the reading takes, are together of bulk at most 1048576: NARROWER than '..Said'. Prove '..Said' where nothing that the law and all that it calls make is longer than what came in: it says more and counts as full. Else prove '..UptoSaid'. A law counts once. -/
mutual
def uptoBulk {H : Type} : DataW H → Nat
  | .lit (.string bytes) => bytes.length + 1
  | .lit _ => 1
  | .nil => 1
  | .ptr d => uptoBulk d + 1
  | .slice elems spare => uptoBulkAll elems + uptoBulkAll spare + 1
  | .agg parts => uptoBulkAll parts + 1
  | .iface _ d => uptoBulk d + 1
  | .map entries => uptoBulkEntries entries + 1
  | .held _ => 1
def uptoBulkAll {H : Type} : List (DataW H) → Nat
  | [] => 0
  | d :: r => uptoBulk d + uptoBulkAll r
def uptoBulkEntries {H : Type} : List (Lit × DataW H) → Nat
  | [] => 0
  | x :: r => uptoBulkEntry x + uptoBulkEntries r
def uptoBulkEntry {H : Type} : Lit × DataW H → Nat
  | (.string bytes, d) => bytes.length + uptoBulk d + 1
  | (_, d) => uptoBulk d + 1
 end
def uptoSmall : (H : Type) → List (DataW H) → Bool := fun _ ds => decide (uptoBulkAll ds ≤ 1048576)
def OpenSpec.upto (s : _root_.Go.ChangeSpec) : _root_.Go.OpenSpec := { _root_.Go.OpenSpec.ofChange s with cond := some uptoSmall }

/-- 'laws.FnExactEnter', WHERE WHAT IT READS IS OF BULK AT MOST 1048576: true; the input reads as it did. -/
def fnExactEnterUptoRow : OpenClaim := { program := "ytnedbdpcimhfgaa", sum := "c37cdff1157ca39524189780479502da5a7eddf2466d87306b92f4ff00f076b0", func := "loop.example/g03307/laws.FnExactEnter", spec := "fnExactEnter", apart := false, narrowed := true }
def FnExactEnterUptoSaid : Prop := fnExactEnterUptoRow.holds Try.pinned (OpenSpec.upto fnExactEnterSpec)

/-- 'laws.FnBooks', WHERE WHAT IT READS IS OF BULK AT MOST 1048576: true; the input reads as it did. -/
def fnBooksUptoRow : OpenClaim := { program := "ytnedbdpcimhfgaa", sum := "c37cdff1157ca39524189780479502da5a7eddf2466d87306b92f4ff00f076b0", func := "loop.example/g03307/laws.FnBooks", spec := "fnBooks", apart := false, narrowed := true }
def FnBooksUptoSaid : Prop := fnBooksUptoRow.holds Try.pinned (OpenSpec.upto fnBooksSpec)

/-- 'laws.FnExactTwoWells', WHERE WHAT IT READS IS OF BULK AT MOST 1048576: true; the input reads as it did. -/
def fnExactTwoWellsUptoRow : OpenClaim := { program := "ytnedbdpcimhfgaa", sum := "c37cdff1157ca39524189780479502da5a7eddf2466d87306b92f4ff00f076b0", func := "loop.example/g03307/laws.FnExactTwoWells", spec := "fnExactTwoWells", unfollowed := true, recurses := true, apart := false, narrowed := true }
def FnExactTwoWellsUptoSaid : Prop := fnExactTwoWellsUptoRow.holds Try.pinned (OpenSpec.upto fnExactTwoWellsSpec)

/-- 'laws.FnQueues', WHERE WHAT IT READS IS OF BULK AT MOST 1048576: true; the input reads as it did. -/
def fnQueuesUptoRow : OpenClaim := { program := "ytnedbdpcimhfgaa", sum := "c37cdff1157ca39524189780479502da5a7eddf2466d87306b92f4ff00f076b0", func := "loop.example/g03307/laws.FnQueues", spec := "fnQueues", unfollowed := true, recurses := true, apart := false, narrowed := true }
def FnQueuesUptoSaid : Prop := fnQueuesUptoRow.holds Try.pinned (OpenSpec.upto fnQueuesSpec)

/-- 'laws.FnExactMiddleYear', WHERE WHAT IT READS IS OF BULK AT MOST 1048576: true; the input reads as it did. -/
def fnExactMiddleYearUptoRow : OpenClaim := { program := "ytnedbdpcimhfgaa", sum := "c37cdff1157ca39524189780479502da5a7eddf2466d87306b92f4ff00f076b0", func := "loop.example/g03307/laws.FnExactMiddleYear", spec := "fnExactMiddleYear", recurses := true, apart := false, narrowed := true }
def FnExactMiddleYearUptoSaid : Prop := fnExactMiddleYearUptoRow.holds Try.pinned (OpenSpec.upto fnExactMiddleYearSpec)

/-- 'laws.FnExactSortedYears', WHERE WHAT IT READS IS OF BULK AT MOST 1048576: true; the input reads as it did. -/
def fnExactSortedYearsUptoRow : OpenClaim := { program := "ytnedbdpcimhfgaa", sum := "c37cdff1157ca39524189780479502da5a7eddf2466d87306b92f4ff00f076b0", func := "loop.example/g03307/laws.FnExactSortedYears", spec := "fnExactSortedYears", recurses := true, apart := false, narrowed := true }
def FnExactSortedYearsUptoSaid : Prop := fnExactSortedYearsUptoRow.holds Try.pinned (OpenSpec.upto fnExactSortedYearsSpec)

/-- 'laws.FnExactDryYears', WHERE WHAT IT READS IS OF BULK AT MOST 1048576: true; the input reads as it did. -/
def fnExactDryYearsUptoRow : OpenClaim := { program := "ytnedbdpcimhfgaa", sum := "c37cdff1157ca39524189780479502da5a7eddf2466d87306b92f4ff00f076b0", func := "loop.example/g03307/laws.FnExactDryYears", spec := "fnExactDryYears", recurses := true, apart := false, narrowed := true }
def FnExactDryYearsUptoSaid : Prop := fnExactDryYearsUptoRow.holds Try.pinned (OpenSpec.upto fnExactDryYearsSpec)

/-- 'laws.FnExactLongestDrought', WHERE WHAT IT READS IS OF BULK AT MOST 1048576: true; the input reads as it did. -/
def fnExactLongestDroughtUptoRow : OpenClaim := { program := "ytnedbdpcimhfgaa", sum := "c37cdff1157ca39524189780479502da5a7eddf2466d87306b92f4ff00f076b0", func := "loop.example/g03307/laws.FnExactLongestDrought", spec := "fnExactLongestDrought", recurses := true, apart := false, narrowed := true }
def FnExactLongestDroughtUptoSaid : Prop := fnExactLongestDroughtUptoRow.holds Try.pinned (OpenSpec.upto fnExactLongestDroughtSpec)

/-- 'laws.FnRecords', WHERE WHAT IT READS IS OF BULK AT MOST 1048576: true; the input reads as it did. -/
def fnRecordsUptoRow : OpenClaim := { program := "ytnedbdpcimhfgaa", sum := "c37cdff1157ca39524189780479502da5a7eddf2466d87306b92f4ff00f076b0", func := "loop.example/g03307/laws.FnRecords", spec := "fnRecords", recurses := true, apart := false, narrowed := true }
def FnRecordsUptoSaid : Prop := fnRecordsUptoRow.holds Try.pinned (OpenSpec.upto fnRecordsSpec)

end Rows
end Go.Proofs.Ytnedbdpcimhfgaa
