/-
  No cell of these rows narrows 'for every input' (looked for: loops, veiled, ifaces, maps, wideKeys, modest, calm, conditions, laid).
  DERIVED. THE GIVEN ROWS OF THIS SEAT. 12 by the template 'for every input the law returns true; each argument reads behind the call as it read before'; 0 by the template 'total and deterministic' (their statements: YtimjnliajnknbaaTotals.lean).
  GIVEN WITH THE SEED: the statements are not yours to turn. If you find one false, say at which input.
  Laid BY PROGRAM, IN A SANDBOX (cutbox-rows.mjs): the forced cells as the released guide's own fill.sh prints them over the translation 7497eb26f558e66c… (all of the seat's roots in one cut). By AI agents, Wed Nov 11 2026. No macro, syntax, notation, axiom, sorry.
-/
import Derived.Test.YtimjnliajnknbaaChecked
import GoSem.Claim
import GoSem.ClaimJoined
import GoSem.ClaimMapViews
import Derived.JoinedTies
import Derived.KernelRfl
namespace Go.Proofs.Ytimjnliajnknbaa
/- THE CELL 'sum', in the pinned program and in every row, IS THE sha256 OF THE DUMP (.gsa) THAT YtimjnliajnknbaaProg.lean LOADS. Nothing in Lean hashes anything: it is a label: what it is worth is what the hold of that sum in a sandbox is worth. -/
noncomputable def Try.pinned : Pinned := { name := "ytimjnliajnknbaa", sum := "7497eb26f558e66ce4a0e0d6fc6915bfa40c985dee2af6756983d51346f0cebe", checked := Try.checked }
namespace Rows
def none {H : Type} : Left H := { results := [], args := [] }

/-- 'laws.FnExactQueueOk': WHATEVER THE INPUT: true; the input reads as it did. -/
def fnExactQueueOkSpec : ChangeSpec := { name := "fnExactQueueOk", fn := fun _ => fun
  | [d] => { results := [.lit (.bool true)], args := [d] }
  | _ => none }
def fnExactQueueOkRow : OpenClaim := { program := "ytimjnliajnknbaa", sum := "7497eb26f558e66ce4a0e0d6fc6915bfa40c985dee2af6756983d51346f0cebe", func := "loop.example/g03307/laws.FnExactQueueOk", spec := "fnExactQueueOk", apart := false }
def FnExactQueueOkSaid : Prop := fnExactQueueOkRow.holds Try.pinned (OpenSpec.ofChange fnExactQueueOkSpec)

/-- ITS FALSE NEIGHBOUR: 'it returns false'. Refute it at one input. -/
def fnExactQueueOkWrong : ChangeSpec := { name := "fnExactQueueOk", fn := fun _ => fun
  | [d] => { results := [.lit (.bool false)], args := [d] }
  | _ => none }
def FnExactQueueOkWrongFalsely : Prop := fnExactQueueOkRow.holds Try.pinned (OpenSpec.ofChange fnExactQueueOkWrong)

/-- 'laws.FnExactYearsOk': WHATEVER THE INPUT: true; the input reads as it did. -/
def fnExactYearsOkSpec : ChangeSpec := { name := "fnExactYearsOk", fn := fun _ => fun
  | [d] => { results := [.lit (.bool true)], args := [d] }
  | _ => none }
def fnExactYearsOkRow : OpenClaim := { program := "ytimjnliajnknbaa", sum := "7497eb26f558e66ce4a0e0d6fc6915bfa40c985dee2af6756983d51346f0cebe", func := "loop.example/g03307/laws.FnExactYearsOk", spec := "fnExactYearsOk", apart := false }
def FnExactYearsOkSaid : Prop := fnExactYearsOkRow.holds Try.pinned (OpenSpec.ofChange fnExactYearsOkSpec)

/-- ITS FALSE NEIGHBOUR: 'it returns false'. Refute it at one input. -/
def fnExactYearsOkWrong : ChangeSpec := { name := "fnExactYearsOk", fn := fun _ => fun
  | [d] => { results := [.lit (.bool false)], args := [d] }
  | _ => none }
def FnExactYearsOkWrongFalsely : Prop := fnExactYearsOkRow.holds Try.pinned (OpenSpec.ofChange fnExactYearsOkWrong)

/-- 'laws.FnExactActOk': WHATEVER THE INPUT: true; the input reads as it did. -/
def fnExactActOkSpec : ChangeSpec := { name := "fnExactActOk", fn := fun _ => fun
  | [d] => { results := [.lit (.bool true)], args := [d] }
  | _ => none }
def fnExactActOkRow : OpenClaim := { program := "ytimjnliajnknbaa", sum := "7497eb26f558e66ce4a0e0d6fc6915bfa40c985dee2af6756983d51346f0cebe", func := "loop.example/g03307/laws.FnExactActOk", spec := "fnExactActOk", apart := false }
def FnExactActOkSaid : Prop := fnExactActOkRow.holds Try.pinned (OpenSpec.ofChange fnExactActOkSpec)

/-- ITS FALSE NEIGHBOUR: 'it returns false'. Refute it at one input. -/
def fnExactActOkWrong : ChangeSpec := { name := "fnExactActOk", fn := fun _ => fun
  | [d] => { results := [.lit (.bool false)], args := [d] }
  | _ => none }
def FnExactActOkWrongFalsely : Prop := fnExactActOkRow.holds Try.pinned (OpenSpec.ofChange fnExactActOkWrong)

/-- 'laws.FnExactEventOn': WHATEVER THE INPUT: true; the input reads as it did. -/
def fnExactEventOnSpec : ChangeSpec := { name := "fnExactEventOn", fn := fun _ => fun
  | [d1, d2, d3] => { results := [.lit (.bool true)], args := [d1, d2, d3] }
  | _ => none }
def fnExactEventOnRow : OpenClaim := { program := "ytimjnliajnknbaa", sum := "7497eb26f558e66ce4a0e0d6fc6915bfa40c985dee2af6756983d51346f0cebe", func := "loop.example/g03307/laws.FnExactEventOn", spec := "fnExactEventOn", apart := false }
def FnExactEventOnSaid : Prop := fnExactEventOnRow.holds Try.pinned (OpenSpec.ofChange fnExactEventOnSpec)

/-- ITS FALSE NEIGHBOUR: 'it returns false'. Refute it at one input. -/
def fnExactEventOnWrong : ChangeSpec := { name := "fnExactEventOn", fn := fun _ => fun
  | [d1, d2, d3] => { results := [.lit (.bool false)], args := [d1, d2, d3] }
  | _ => none }
def FnExactEventOnWrongFalsely : Prop := fnExactEventOnRow.holds Try.pinned (OpenSpec.ofChange fnExactEventOnWrong)

/-- 'laws.FnExactRankOf': WHATEVER THE INPUT: true; the input reads as it did. -/
def fnExactRankOfSpec : ChangeSpec := { name := "fnExactRankOf", fn := fun _ => fun
  | [d1, d2] => { results := [.lit (.bool true)], args := [d1, d2] }
  | _ => none }
def fnExactRankOfRow : OpenClaim := { program := "ytimjnliajnknbaa", sum := "7497eb26f558e66ce4a0e0d6fc6915bfa40c985dee2af6756983d51346f0cebe", func := "loop.example/g03307/laws.FnExactRankOf", spec := "fnExactRankOf", apart := false }
def FnExactRankOfSaid : Prop := fnExactRankOfRow.holds Try.pinned (OpenSpec.ofChange fnExactRankOfSpec)

/-- ITS FALSE NEIGHBOUR: 'it returns false'. Refute it at one input. -/
def fnExactRankOfWrong : ChangeSpec := { name := "fnExactRankOf", fn := fun _ => fun
  | [d1, d2] => { results := [.lit (.bool false)], args := [d1, d2] }
  | _ => none }
def FnExactRankOfWrongFalsely : Prop := fnExactRankOfRow.holds Try.pinned (OpenSpec.ofChange fnExactRankOfWrong)

/-- 'laws.FnExactWaitOf': WHATEVER THE INPUT: true; the input reads as it did. -/
def fnExactWaitOfSpec : ChangeSpec := { name := "fnExactWaitOf", fn := fun _ => fun
  | [d1, d2] => { results := [.lit (.bool true)], args := [d1, d2] }
  | _ => none }
def fnExactWaitOfRow : OpenClaim := { program := "ytimjnliajnknbaa", sum := "7497eb26f558e66ce4a0e0d6fc6915bfa40c985dee2af6756983d51346f0cebe", func := "loop.example/g03307/laws.FnExactWaitOf", spec := "fnExactWaitOf", apart := false }
def FnExactWaitOfSaid : Prop := fnExactWaitOfRow.holds Try.pinned (OpenSpec.ofChange fnExactWaitOfSpec)

/-- ITS FALSE NEIGHBOUR: 'it returns false'. Refute it at one input. -/
def fnExactWaitOfWrong : ChangeSpec := { name := "fnExactWaitOf", fn := fun _ => fun
  | [d1, d2] => { results := [.lit (.bool false)], args := [d1, d2] }
  | _ => none }
def FnExactWaitOfWrongFalsely : Prop := fnExactWaitOfRow.holds Try.pinned (OpenSpec.ofChange fnExactWaitOfWrong)

/-- 'laws.FnExactRecordYears': WHATEVER THE INPUT: true; the input reads as it did. -/
def fnExactRecordYearsSpec : ChangeSpec := { name := "fnExactRecordYears", fn := fun _ => fun
  | [d] => { results := [.lit (.bool true)], args := [d] }
  | _ => none }
def fnExactRecordYearsRow : OpenClaim := { program := "ytimjnliajnknbaa", sum := "7497eb26f558e66ce4a0e0d6fc6915bfa40c985dee2af6756983d51346f0cebe", func := "loop.example/g03307/laws.FnExactRecordYears", spec := "fnExactRecordYears", apart := false }
def FnExactRecordYearsSaid : Prop := fnExactRecordYearsRow.holds Try.pinned (OpenSpec.ofChange fnExactRecordYearsSpec)

/-- ITS FALSE NEIGHBOUR: 'it returns false'. Refute it at one input. -/
def fnExactRecordYearsWrong : ChangeSpec := { name := "fnExactRecordYears", fn := fun _ => fun
  | [d] => { results := [.lit (.bool false)], args := [d] }
  | _ => none }
def FnExactRecordYearsWrongFalsely : Prop := fnExactRecordYearsRow.holds Try.pinned (OpenSpec.ofChange fnExactRecordYearsWrong)

/-- 'laws.FnExactUseWater': WHATEVER THE INPUT: true; the input reads as it did. -/
def fnExactUseWaterSpec : ChangeSpec := { name := "fnExactUseWater", fn := fun _ => fun
  | [d1, d2] => { results := [.lit (.bool true)], args := [d1, d2] }
  | _ => none }
def fnExactUseWaterRow : OpenClaim := { program := "ytimjnliajnknbaa", sum := "7497eb26f558e66ce4a0e0d6fc6915bfa40c985dee2af6756983d51346f0cebe", func := "loop.example/g03307/laws.FnExactUseWater", spec := "fnExactUseWater", apart := false }
def FnExactUseWaterSaid : Prop := fnExactUseWaterRow.holds Try.pinned (OpenSpec.ofChange fnExactUseWaterSpec)

/-- ITS FALSE NEIGHBOUR: 'it returns false'. Refute it at one input. -/
def fnExactUseWaterWrong : ChangeSpec := { name := "fnExactUseWater", fn := fun _ => fun
  | [d1, d2] => { results := [.lit (.bool false)], args := [d1, d2] }
  | _ => none }
def FnExactUseWaterWrongFalsely : Prop := fnExactUseWaterRow.holds Try.pinned (OpenSpec.ofChange fnExactUseWaterWrong)

/-- 'laws.FnExactSwapSaves': WHATEVER THE INPUT: true; the input reads as it did. -/
def fnExactSwapSavesSpec : ChangeSpec := { name := "fnExactSwapSaves", fn := fun _ => fun
  | [d1, d2, d3] => { results := [.lit (.bool true)], args := [d1, d2, d3] }
  | _ => none }
def fnExactSwapSavesRow : OpenClaim := { program := "ytimjnliajnknbaa", sum := "7497eb26f558e66ce4a0e0d6fc6915bfa40c985dee2af6756983d51346f0cebe", func := "loop.example/g03307/laws.FnExactSwapSaves", spec := "fnExactSwapSaves", apart := false }
def FnExactSwapSavesSaid : Prop := fnExactSwapSavesRow.holds Try.pinned (OpenSpec.ofChange fnExactSwapSavesSpec)

/-- ITS FALSE NEIGHBOUR: 'it returns false'. Refute it at one input. -/
def fnExactSwapSavesWrong : ChangeSpec := { name := "fnExactSwapSaves", fn := fun _ => fun
  | [d1, d2, d3] => { results := [.lit (.bool false)], args := [d1, d2, d3] }
  | _ => none }
def FnExactSwapSavesWrongFalsely : Prop := fnExactSwapSavesRow.holds Try.pinned (OpenSpec.ofChange fnExactSwapSavesWrong)

/-- 'laws.FnExactLastDone': WHATEVER THE INPUT: true; the input reads as it did. -/
def fnExactLastDoneSpec : ChangeSpec := { name := "fnExactLastDone", fn := fun _ => fun
  | [d] => { results := [.lit (.bool true)], args := [d] }
  | _ => none }
def fnExactLastDoneRow : OpenClaim := { program := "ytimjnliajnknbaa", sum := "7497eb26f558e66ce4a0e0d6fc6915bfa40c985dee2af6756983d51346f0cebe", func := "loop.example/g03307/laws.FnExactLastDone", spec := "fnExactLastDone", apart := false }
def FnExactLastDoneSaid : Prop := fnExactLastDoneRow.holds Try.pinned (OpenSpec.ofChange fnExactLastDoneSpec)

/-- ITS FALSE NEIGHBOUR: 'it returns false'. Refute it at one input. -/
def fnExactLastDoneWrong : ChangeSpec := { name := "fnExactLastDone", fn := fun _ => fun
  | [d] => { results := [.lit (.bool false)], args := [d] }
  | _ => none }
def FnExactLastDoneWrongFalsely : Prop := fnExactLastDoneRow.holds Try.pinned (OpenSpec.ofChange fnExactLastDoneWrong)

/-- 'laws.FnExactBookOk': WHATEVER THE INPUT: true; the input reads as it did. -/
def fnExactBookOkSpec : ChangeSpec := { name := "fnExactBookOk", fn := fun _ => fun
  | [d] => { results := [.lit (.bool true)], args := [d] }
  | _ => none }
def fnExactBookOkRow : OpenClaim := { program := "ytimjnliajnknbaa", sum := "7497eb26f558e66ce4a0e0d6fc6915bfa40c985dee2af6756983d51346f0cebe", func := "loop.example/g03307/laws.FnExactBookOk", spec := "fnExactBookOk", apart := false }
def FnExactBookOkSaid : Prop := fnExactBookOkRow.holds Try.pinned (OpenSpec.ofChange fnExactBookOkSpec)

/-- ITS FALSE NEIGHBOUR: 'it returns false'. Refute it at one input. -/
def fnExactBookOkWrong : ChangeSpec := { name := "fnExactBookOk", fn := fun _ => fun
  | [d] => { results := [.lit (.bool false)], args := [d] }
  | _ => none }
def FnExactBookOkWrongFalsely : Prop := fnExactBookOkRow.holds Try.pinned (OpenSpec.ofChange fnExactBookOkWrong)

/-- 'laws.FnExactBestQueue': WHATEVER THE INPUT: true; the input reads as it did. -/
def fnExactBestQueueSpec : ChangeSpec := { name := "fnExactBestQueue", fn := fun _ => fun
  | [d] => { results := [.lit (.bool true)], args := [d] }
  | _ => none }
def fnExactBestQueueRow : OpenClaim := { program := "ytimjnliajnknbaa", sum := "7497eb26f558e66ce4a0e0d6fc6915bfa40c985dee2af6756983d51346f0cebe", func := "loop.example/g03307/laws.FnExactBestQueue", spec := "fnExactBestQueue", unfollowed := true, recurses := true, apart := false }
def FnExactBestQueueSaid : Prop := fnExactBestQueueRow.holds Try.pinned (OpenSpec.ofChange fnExactBestQueueSpec)

/-- ITS FALSE NEIGHBOUR: 'it returns false'. Refute it at one input. -/
def fnExactBestQueueWrong : ChangeSpec := { name := "fnExactBestQueue", fn := fun _ => fun
  | [d] => { results := [.lit (.bool false)], args := [d] }
  | _ => none }
def FnExactBestQueueWrongFalsely : Prop := fnExactBestQueueRow.holds Try.pinned (OpenSpec.ofChange fnExactBestQueueWrong)

/- THE SECOND FORM. 'bulk': how many values and letters a reading holds, each counted each time it is reached (what is shared counts as often as it is met; a slice's spare places count too). A statement '..UptoSaid' is the law's where the arguments, and the package variables that the reading takes, are together of bulk at most 1048576: NARROWER than '..Said'. Prove '..Said' where nothing that the law and all that it calls make is longer than what came in: it says more and counts as full. Else prove '..UptoSaid'. A law counts once. -/
mutual
def uptoBulk {H : Type} : DataW H → Nat
  | .lit (.string bytes) => bytes.length + 1
  | .lit _ => 1
  | .nil => 1
  | .ptr d => uptoBulk d + 1
  | .slice elems spare => uptoBulkAll elems + uptoBulkAll spare + 1
  | .agg parts => uptoBulkAll parts + 1
  | .iface _ d => uptoBulk d + 1
  | .map entries => uptoBulkEntries entries + 1
  | .held _ => 1
def uptoBulkAll {H : Type} : List (DataW H) → Nat
  | [] => 0
  | d :: r => uptoBulk d + uptoBulkAll r
def uptoBulkEntries {H : Type} : List (Lit × DataW H) → Nat
  | [] => 0
  | x :: r => uptoBulkEntry x + uptoBulkEntries r
def uptoBulkEntry {H : Type} : Lit × DataW H → Nat
  | (.string bytes, d) => bytes.length + uptoBulk d + 1
  | (_, d) => uptoBulk d + 1
 end
def uptoSmall : (H : Type) → List (DataW H) → Bool := fun _ ds => decide (uptoBulkAll ds ≤ 1048576)
def OpenSpec.upto (s : _root_.Go.ChangeSpec) : _root_.Go.OpenSpec := { _root_.Go.OpenSpec.ofChange s with cond := some uptoSmall }

/-- 'laws.FnExactQueueOk', WHERE WHAT IT READS IS OF BULK AT MOST 1048576: true; the input reads as it did. -/
def fnExactQueueOkUptoRow : OpenClaim := { program := "ytimjnliajnknbaa", sum := "7497eb26f558e66ce4a0e0d6fc6915bfa40c985dee2af6756983d51346f0cebe", func := "loop.example/g03307/laws.FnExactQueueOk", spec := "fnExactQueueOk", apart := false, narrowed := true }
def FnExactQueueOkUptoSaid : Prop := fnExactQueueOkUptoRow.holds Try.pinned (OpenSpec.upto fnExactQueueOkSpec)

/-- 'laws.FnExactYearsOk', WHERE WHAT IT READS IS OF BULK AT MOST 1048576: true; the input reads as it did. -/
def fnExactYearsOkUptoRow : OpenClaim := { program := "ytimjnliajnknbaa", sum := "7497eb26f558e66ce4a0e0d6fc6915bfa40c985dee2af6756983d51346f0cebe", func := "loop.example/g03307/laws.FnExactYearsOk", spec := "fnExactYearsOk", apart := false, narrowed := true }
def FnExactYearsOkUptoSaid : Prop := fnExactYearsOkUptoRow.holds Try.pinned (OpenSpec.upto fnExactYearsOkSpec)

/-- 'laws.FnExactActOk', WHERE WHAT IT READS IS OF BULK AT MOST 1048576: true; the input reads as it did. -/
def fnExactActOkUptoRow : OpenClaim := { program := "ytimjnliajnknbaa", sum := "7497eb26f558e66ce4a0e0d6fc6915bfa40c985dee2af6756983d51346f0cebe", func := "loop.example/g03307/laws.FnExactActOk", spec := "fnExactActOk", apart := false, narrowed := true }
def FnExactActOkUptoSaid : Prop := fnExactActOkUptoRow.holds Try.pinned (OpenSpec.upto fnExactActOkSpec)

/-- 'laws.FnExactEventOn', WHERE WHAT IT READS IS OF BULK AT MOST 1048576: true; the input reads as it did. -/
def fnExactEventOnUptoRow : OpenClaim := { program := "ytimjnliajnknbaa", sum := "7497eb26f558e66ce4a0e0d6fc6915bfa40c985dee2af6756983d51346f0cebe", func := "loop.example/g03307/laws.FnExactEventOn", spec := "fnExactEventOn", apart := false, narrowed := true }
def FnExactEventOnUptoSaid : Prop := fnExactEventOnUptoRow.holds Try.pinned (OpenSpec.upto fnExactEventOnSpec)

/-- 'laws.FnExactRankOf', WHERE WHAT IT READS IS OF BULK AT MOST 1048576: true; the input reads as it did. -/
def fnExactRankOfUptoRow : OpenClaim := { program := "ytimjnliajnknbaa", sum := "7497eb26f558e66ce4a0e0d6fc6915bfa40c985dee2af6756983d51346f0cebe", func := "loop.example/g03307/laws.FnExactRankOf", spec := "fnExactRankOf", apart := false, narrowed := true }
def FnExactRankOfUptoSaid : Prop := fnExactRankOfUptoRow.holds Try.pinned (OpenSpec.upto fnExactRankOfSpec)

/-- 'laws.FnExactWaitOf', WHERE WHAT IT READS IS OF BULK AT MOST 1048576: true; the input reads as it did. -/
def fnExactWaitOfUptoRow : OpenClaim := { program := "ytimjnliajnknbaa", sum := "7497eb26f558e66ce4a0e0d6fc6915bfa40c985dee2af6756983d51346f0cebe", func := "loop.example/g03307/laws.FnExactWaitOf", spec := "fnExactWaitOf", apart := false, narrowed := true }
def FnExactWaitOfUptoSaid : Prop := fnExactWaitOfUptoRow.holds Try.pinned (OpenSpec.upto fnExactWaitOfSpec)

/-- 'laws.FnExactRecordYears', WHERE WHAT IT READS IS OF BULK AT MOST 1048576: true; the input reads as it did. -/
def fnExactRecordYearsUptoRow : OpenClaim := { program := "ytimjnliajnknbaa", sum := "7497eb26f558e66ce4a0e0d6fc6915bfa40c985dee2af6756983d51346f0cebe", func := "loop.example/g03307/laws.FnExactRecordYears", spec := "fnExactRecordYears", apart := false, narrowed := true }
def FnExactRecordYearsUptoSaid : Prop := fnExactRecordYearsUptoRow.holds Try.pinned (OpenSpec.upto fnExactRecordYearsSpec)

/-- 'laws.FnExactUseWater', WHERE WHAT IT READS IS OF BULK AT MOST 1048576: true; the input reads as it did. -/
def fnExactUseWaterUptoRow : OpenClaim := { program := "ytimjnliajnknbaa", sum := "7497eb26f558e66ce4a0e0d6fc6915bfa40c985dee2af6756983d51346f0cebe", func := "loop.example/g03307/laws.FnExactUseWater", spec := "fnExactUseWater", apart := false, narrowed := true }
def FnExactUseWaterUptoSaid : Prop := fnExactUseWaterUptoRow.holds Try.pinned (OpenSpec.upto fnExactUseWaterSpec)

/-- 'laws.FnExactSwapSaves', WHERE WHAT IT READS IS OF BULK AT MOST 1048576: true; the input reads as it did. -/
def fnExactSwapSavesUptoRow : OpenClaim := { program := "ytimjnliajnknbaa", sum := "7497eb26f558e66ce4a0e0d6fc6915bfa40c985dee2af6756983d51346f0cebe", func := "loop.example/g03307/laws.FnExactSwapSaves", spec := "fnExactSwapSaves", apart := false, narrowed := true }
def FnExactSwapSavesUptoSaid : Prop := fnExactSwapSavesUptoRow.holds Try.pinned (OpenSpec.upto fnExactSwapSavesSpec)

/-- 'laws.FnExactLastDone', WHERE WHAT IT READS IS OF BULK AT MOST 1048576: true; the input reads as it did. -/
def fnExactLastDoneUptoRow : OpenClaim := { program := "ytimjnliajnknbaa", sum := "7497eb26f558e66ce4a0e0d6fc6915bfa40c985dee2af6756983d51346f0cebe", func := "loop.example/g03307/laws.FnExactLastDone", spec := "fnExactLastDone", apart := false, narrowed := true }
def FnExactLastDoneUptoSaid : Prop := fnExactLastDoneUptoRow.holds Try.pinned (OpenSpec.upto fnExactLastDoneSpec)

/-- 'laws.FnExactBookOk', WHERE WHAT IT READS IS OF BULK AT MOST 1048576: true; the input reads as it did. -/
def fnExactBookOkUptoRow : OpenClaim := { program := "ytimjnliajnknbaa", sum := "7497eb26f558e66ce4a0e0d6fc6915bfa40c985dee2af6756983d51346f0cebe", func := "loop.example/g03307/laws.FnExactBookOk", spec := "fnExactBookOk", apart := false, narrowed := true }
def FnExactBookOkUptoSaid : Prop := fnExactBookOkUptoRow.holds Try.pinned (OpenSpec.upto fnExactBookOkSpec)

/-- 'laws.FnExactBestQueue', WHERE WHAT IT READS IS OF BULK AT MOST 1048576: true; the input reads as it did. -/
def fnExactBestQueueUptoRow : OpenClaim := { program := "ytimjnliajnknbaa", sum := "7497eb26f558e66ce4a0e0d6fc6915bfa40c985dee2af6756983d51346f0cebe", func := "loop.example/g03307/laws.FnExactBestQueue", spec := "fnExactBestQueue", unfollowed := true, recurses := true, apart := false, narrowed := true }
def FnExactBestQueueUptoSaid : Prop := fnExactBestQueueUptoRow.holds Try.pinned (OpenSpec.upto fnExactBestQueueSpec)

end Rows
end Go.Proofs.Ytimjnliajnknbaa
