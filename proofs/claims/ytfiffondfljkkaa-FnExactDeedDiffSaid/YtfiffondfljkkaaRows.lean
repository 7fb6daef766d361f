/-
  No cell of these rows narrows 'for every input' (looked for: loops, veiled, ifaces, maps, wideKeys, modest, calm, conditions, laid).
  DERIVED. THE GIVEN ROWS OF THIS SEAT. 12 by the template 'for every input the law returns true; each argument reads behind the call as it read before'; 0 by the template 'total and deterministic' (their statements: YtfiffondfljkkaaTotals.lean).
  GIVEN WITH THE SEED: the statements are not yours to turn. If you find one false, say at which input.
  Laid BY PROGRAM, IN A SANDBOX (cutbox-rows.mjs): the forced cells as the released guide's own fill.sh prints them over the translation 57552d6ec9f2878f… (all of the seat's roots in one cut). By AI agents, Wed Nov 11 2026. No macro, syntax, notation, axiom, sorry.
-/
import Derived.Test.YtfiffondfljkkaaChecked
import GoSem.Claim
import GoSem.ClaimJoined
import GoSem.ClaimMapViews
import Derived.JoinedTies
import Derived.KernelRfl
namespace Go.Proofs.Ytfiffondfljkkaa
/- THE CELL 'sum', in the pinned program and in every row, IS THE sha256 OF THE DUMP (.gsa) THAT YtfiffondfljkkaaProg.lean LOADS. Nothing in Lean hashes anything: it is a label: what it is worth is what the hold of that sum in a sandbox is worth. -/
noncomputable def Try.pinned : Pinned := { name := "ytfiffondfljkkaa", sum := "57552d6ec9f2878f1c996774e14caa9d285dcbd8be969ab93b0815ac855d8d5d", checked := Try.checked }
namespace Rows
def none {H : Type} : Left H := { results := [], args := [] }

/-- 'laws.FnExactSameRights': WHATEVER THE INPUT: true; the input reads as it did. -/
def fnExactSameRightsSpec : ChangeSpec := { name := "fnExactSameRights", fn := fun _ => fun
  | [d1, d2] => { results := [.lit (.bool true)], args := [d1, d2] }
  | _ => none }
def fnExactSameRightsRow : OpenClaim := { program := "ytfiffondfljkkaa", sum := "57552d6ec9f2878f1c996774e14caa9d285dcbd8be969ab93b0815ac855d8d5d", func := "loop.example/g03307/laws.FnExactSameRights", spec := "fnExactSameRights", apart := false }
def FnExactSameRightsSaid : Prop := fnExactSameRightsRow.holds Try.pinned (OpenSpec.ofChange fnExactSameRightsSpec)

/-- ITS FALSE NEIGHBOUR: 'it returns false'. Refute it at one input. -/
def fnExactSameRightsWrong : ChangeSpec := { name := "fnExactSameRights", fn := fun _ => fun
  | [d1, d2] => { results := [.lit (.bool false)], args := [d1, d2] }
  | _ => none }
def FnExactSameRightsWrongFalsely : Prop := fnExactSameRightsRow.holds Try.pinned (OpenSpec.ofChange fnExactSameRightsWrong)

/-- 'laws.FnExactDrunkBy': WHATEVER THE INPUT: true; the input reads as it did. -/
def fnExactDrunkBySpec : ChangeSpec := { name := "fnExactDrunkBy", fn := fun _ => fun
  | [d1, d2] => { results := [.lit (.bool true)], args := [d1, d2] }
  | _ => none }
def fnExactDrunkByRow : OpenClaim := { program := "ytfiffondfljkkaa", sum := "57552d6ec9f2878f1c996774e14caa9d285dcbd8be969ab93b0815ac855d8d5d", func := "loop.example/g03307/laws.FnExactDrunkBy", spec := "fnExactDrunkBy", apart := false }
def FnExactDrunkBySaid : Prop := fnExactDrunkByRow.holds Try.pinned (OpenSpec.ofChange fnExactDrunkBySpec)

/-- ITS FALSE NEIGHBOUR: 'it returns false'. Refute it at one input. -/
def fnExactDrunkByWrong : ChangeSpec := { name := "fnExactDrunkBy", fn := fun _ => fun
  | [d1, d2] => { results := [.lit (.bool false)], args := [d1, d2] }
  | _ => none }
def FnExactDrunkByWrongFalsely : Prop := fnExactDrunkByRow.holds Try.pinned (OpenSpec.ofChange fnExactDrunkByWrong)

/-- 'laws.FnExactStrike': WHATEVER THE INPUT: true; the input reads as it did. -/
def fnExactStrikeSpec : ChangeSpec := { name := "fnExactStrike", fn := fun _ => fun
  | [d] => { results := [.lit (.bool true)], args := [d] }
  | _ => none }
def fnExactStrikeRow : OpenClaim := { program := "ytfiffondfljkkaa", sum := "57552d6ec9f2878f1c996774e14caa9d285dcbd8be969ab93b0815ac855d8d5d", func := "loop.example/g03307/laws.FnExactStrike", spec := "fnExactStrike", apart := false }
def FnExactStrikeSaid : Prop := fnExactStrikeRow.holds Try.pinned (OpenSpec.ofChange fnExactStrikeSpec)

/-- ITS FALSE NEIGHBOUR: 'it returns false'. Refute it at one input. -/
def fnExactStrikeWrong : ChangeSpec := { name := "fnExactStrike", fn := fun _ => fun
  | [d] => { results := [.lit (.bool false)], args := [d] }
  | _ => none }
def FnExactStrikeWrongFalsely : Prop := fnExactStrikeRow.holds Try.pinned (OpenSpec.ofChange fnExactStrikeWrong)

/-- 'laws.FnExactEnter': WHATEVER THE INPUT: true; the input reads as it did. -/
def fnExactEnterSpec : ChangeSpec := { name := "fnExactEnter", fn := fun _ => fun
  | [d1, d2] => { results := [.lit (.bool true)], args := [d1, d2] }
  | _ => none }
def fnExactEnterRow : OpenClaim := { program := "ytfiffondfljkkaa", sum := "57552d6ec9f2878f1c996774e14caa9d285dcbd8be969ab93b0815ac855d8d5d", func := "loop.example/g03307/laws.FnExactEnter", spec := "fnExactEnter", apart := false }
def FnExactEnterSaid : Prop := fnExactEnterRow.holds Try.pinned (OpenSpec.ofChange fnExactEnterSpec)

/-- ITS FALSE NEIGHBOUR: 'it returns false'. Refute it at one input. -/
def fnExactEnterWrong : ChangeSpec := { name := "fnExactEnter", fn := fun _ => fun
  | [d1, d2] => { results := [.lit (.bool false)], args := [d1, d2] }
  | _ => none }
def FnExactEnterWrongFalsely : Prop := fnExactEnterRow.holds Try.pinned (OpenSpec.ofChange fnExactEnterWrong)

/-- 'laws.FnExactDeedDiff': WHATEVER THE INPUT: true; the input reads as it did. -/
def fnExactDeedDiffSpec : ChangeSpec := { name := "fnExactDeedDiff", fn := fun _ => fun
  | [d1, d2] => { results := [.lit (.bool true)], args := [d1, d2] }
  | _ => none }
def fnExactDeedDiffRow : OpenClaim := { program := "ytfiffondfljkkaa", sum := "57552d6ec9f2878f1c996774e14caa9d285dcbd8be969ab93b0815ac855d8d5d", func := "loop.example/g03307/laws.FnExactDeedDiff", spec := "fnExactDeedDiff", unfollowed := true, recurses := true, apart := false }
def FnExactDeedDiffSaid : Prop := fnExactDeedDiffRow.holds Try.pinned (OpenSpec.ofChange fnExactDeedDiffSpec)

/-- ITS FALSE NEIGHBOUR: 'it returns false'. Refute it at one input. -/
def fnExactDeedDiffWrong : ChangeSpec := { name := "fnExactDeedDiff", fn := fun _ => fun
  | [d1, d2] => { results := [.lit (.bool false)], args := [d1, d2] }
  | _ => none }
def FnExactDeedDiffWrongFalsely : Prop := fnExactDeedDiffRow.holds Try.pinned (OpenSpec.ofChange fnExactDeedDiffWrong)

/-- 'laws.FnExactVillageOk': WHATEVER THE INPUT: true; the input reads as it did. -/
def fnExactVillageOkSpec : ChangeSpec := { name := "fnExactVillageOk", fn := fun _ => fun
  | [d] => { results := [.lit (.bool true)], args := [d] }
  | _ => none }
def fnExactVillageOkRow : OpenClaim := { program := "ytfiffondfljkkaa", sum := "57552d6ec9f2878f1c996774e14caa9d285dcbd8be969ab93b0815ac855d8d5d", func := "loop.example/g03307/laws.FnExactVillageOk", spec := "fnExactVillageOk", apart := false }
def FnExactVillageOkSaid : Prop := fnExactVillageOkRow.holds Try.pinned (OpenSpec.ofChange fnExactVillageOkSpec)

/-- ITS FALSE NEIGHBOUR: 'it returns false'. Refute it at one input. -/
def fnExactVillageOkWrong : ChangeSpec := { name := "fnExactVillageOk", fn := fun _ => fun
  | [d] => { results := [.lit (.bool false)], args := [d] }
  | _ => none }
def FnExactVillageOkWrongFalsely : Prop := fnExactVillageOkRow.holds Try.pinned (OpenSpec.ofChange fnExactVillageOkWrong)

/-- 'laws.FnExactOpenVillage': WHATEVER THE INPUT: true; the input reads as it did. -/
def fnExactOpenVillageSpec : ChangeSpec := { name := "fnExactOpenVillage", fn := fun _ => fun
  | [d1, d2, d3] => { results := [.lit (.bool true)], args := [d1, d2, d3] }
  | _ => none }
def fnExactOpenVillageRow : OpenClaim := { program := "ytfiffondfljkkaa", sum := "57552d6ec9f2878f1c996774e14caa9d285dcbd8be969ab93b0815ac855d8d5d", func := "loop.example/g03307/laws.FnExactOpenVillage", spec := "fnExactOpenVillage", apart := false }
def FnExactOpenVillageSaid : Prop := fnExactOpenVillageRow.holds Try.pinned (OpenSpec.ofChange fnExactOpenVillageSpec)

/-- ITS FALSE NEIGHBOUR: 'it returns false'. Refute it at one input. -/
def fnExactOpenVillageWrong : ChangeSpec := { name := "fnExactOpenVillage", fn := fun _ => fun
  | [d1, d2, d3] => { results := [.lit (.bool false)], args := [d1, d2, d3] }
  | _ => none }
def FnExactOpenVillageWrongFalsely : Prop := fnExactOpenVillageRow.holds Try.pinned (OpenSpec.ofChange fnExactOpenVillageWrong)

/-- 'laws.FnExactSampleVillage': WHATEVER THE INPUT: true; the input reads as it did. -/
def fnExactSampleVillageSpec : ChangeSpec := { name := "fnExactSampleVillage", fn := fun _ => fun
  | [] => { results := [.lit (.bool true)], args := [] }
  | _ => none }
def fnExactSampleVillageRow : OpenClaim := { program := "ytfiffondfljkkaa", sum := "57552d6ec9f2878f1c996774e14caa9d285dcbd8be969ab93b0815ac855d8d5d", func := "loop.example/g03307/laws.FnExactSampleVillage", spec := "fnExactSampleVillage", apart := false }
def FnExactSampleVillageSaid : Prop := fnExactSampleVillageRow.holds Try.pinned (OpenSpec.ofChange fnExactSampleVillageSpec)

/-- ITS FALSE NEIGHBOUR: 'it returns false'. Refute it at one input. -/
def fnExactSampleVillageWrong : ChangeSpec := { name := "fnExactSampleVillage", fn := fun _ => fun
  | [] => { results := [.lit (.bool false)], args := [] }
  | _ => none }
def FnExactSampleVillageWrongFalsely : Prop := fnExactSampleVillageRow.holds Try.pinned (OpenSpec.ofChange fnExactSampleVillageWrong)

/-- 'laws.FnExactMayDrink': WHATEVER THE INPUT: true; the input reads as it did. -/
def fnExactMayDrinkSpec : ChangeSpec := { name := "fnExactMayDrink", fn := fun _ => fun
  | [d1, d2] => { results := [.lit (.bool true)], args := [d1, d2] }
  | _ => none }
def fnExactMayDrinkRow : OpenClaim := { program := "ytfiffondfljkkaa", sum := "57552d6ec9f2878f1c996774e14caa9d285dcbd8be969ab93b0815ac855d8d5d", func := "loop.example/g03307/laws.FnExactMayDrink", spec := "fnExactMayDrink", unfollowed := true, recurses := true, apart := false }
def FnExactMayDrinkSaid : Prop := fnExactMayDrinkRow.holds Try.pinned (OpenSpec.ofChange fnExactMayDrinkSpec)

/-- ITS FALSE NEIGHBOUR: 'it returns false'. Refute it at one input. -/
def fnExactMayDrinkWrong : ChangeSpec := { name := "fnExactMayDrink", fn := fun _ => fun
  | [d1, d2] => { results := [.lit (.bool false)], args := [d1, d2] }
  | _ => none }
def FnExactMayDrinkWrongFalsely : Prop := fnExactMayDrinkRow.holds Try.pinned (OpenSpec.ofChange fnExactMayDrinkWrong)

/-- 'laws.FnExactLeakOut': WHATEVER THE INPUT: true; the input reads as it did. -/
def fnExactLeakOutSpec : ChangeSpec := { name := "fnExactLeakOut", fn := fun _ => fun
  | [d1, d2] => { results := [.lit (.bool true)], args := [d1, d2] }
  | _ => none }
def fnExactLeakOutRow : OpenClaim := { program := "ytfiffondfljkkaa", sum := "57552d6ec9f2878f1c996774e14caa9d285dcbd8be969ab93b0815ac855d8d5d", func := "loop.example/g03307/laws.FnExactLeakOut", spec := "fnExactLeakOut", apart := false }
def FnExactLeakOutSaid : Prop := fnExactLeakOutRow.holds Try.pinned (OpenSpec.ofChange fnExactLeakOutSpec)

/-- ITS FALSE NEIGHBOUR: 'it returns false'. Refute it at one input. -/
def fnExactLeakOutWrong : ChangeSpec := { name := "fnExactLeakOut", fn := fun _ => fun
  | [d1, d2] => { results := [.lit (.bool false)], args := [d1, d2] }
  | _ => none }
def FnExactLeakOutWrongFalsely : Prop := fnExactLeakOutRow.holds Try.pinned (OpenSpec.ofChange fnExactLeakOutWrong)

/-- 'laws.FnExactRainFalls': WHATEVER THE INPUT: true; the input reads as it did. -/
def fnExactRainFallsSpec : ChangeSpec := { name := "fnExactRainFalls", fn := fun _ => fun
  | [d1, d2] => { results := [.lit (.bool true)], args := [d1, d2] }
  | _ => none }
def fnExactRainFallsRow : OpenClaim := { program := "ytfiffondfljkkaa", sum := "57552d6ec9f2878f1c996774e14caa9d285dcbd8be969ab93b0815ac855d8d5d", func := "loop.example/g03307/laws.FnExactRainFalls", spec := "fnExactRainFalls", apart := false }
def FnExactRainFallsSaid : Prop := fnExactRainFallsRow.holds Try.pinned (OpenSpec.ofChange fnExactRainFallsSpec)

/-- ITS FALSE NEIGHBOUR: 'it returns false'. Refute it at one input. -/
def fnExactRainFallsWrong : ChangeSpec := { name := "fnExactRainFalls", fn := fun _ => fun
  | [d1, d2] => { results := [.lit (.bool false)], args := [d1, d2] }
  | _ => none }
def FnExactRainFallsWrongFalsely : Prop := fnExactRainFallsRow.holds Try.pinned (OpenSpec.ofChange fnExactRainFallsWrong)

/-- 'laws.FnExactDrink': WHATEVER THE INPUT: true; the input reads as it did. -/
def fnExactDrinkSpec : ChangeSpec := { name := "fnExactDrink", fn := fun _ => fun
  | [d1, d2, d3] => { results := [.lit (.bool true)], args := [d1, d2, d3] }
  | _ => none }
def fnExactDrinkRow : OpenClaim := { program := "ytfiffondfljkkaa", sum := "57552d6ec9f2878f1c996774e14caa9d285dcbd8be969ab93b0815ac855d8d5d", func := "loop.example/g03307/laws.FnExactDrink", spec := "fnExactDrink", unfollowed := true, recurses := true, apart := false }
def FnExactDrinkSaid : Prop := fnExactDrinkRow.holds Try.pinned (OpenSpec.ofChange fnExactDrinkSpec)

/-- ITS FALSE NEIGHBOUR: 'it returns false'. Refute it at one input. -/
def fnExactDrinkWrong : ChangeSpec := { name := "fnExactDrink", fn := fun _ => fun
  | [d1, d2, d3] => { results := [.lit (.bool false)], args := [d1, d2, d3] }
  | _ => none }
def FnExactDrinkWrongFalsely : Prop := fnExactDrinkRow.holds Try.pinned (OpenSpec.ofChange fnExactDrinkWrong)

/- THE SECOND FORM. 'bulk': how many values and letters a reading holds, each counted each time it is reached (what is shared counts as often as it is met; a slice's spare places count too). A statement '..UptoSaid' is the law's where the arguments, and the package variables that the reading takes, are together of bulk at most 1048576: NARROWER than '..Said'. Prove '..Said' where nothing that the law and all that it calls make is longer than what came in: it says more and counts as full. Else prove '..UptoSaid'. A law counts once. -/
mutual
def uptoBulk {H : Type} : DataW H → Nat
  | .lit (.string bytes) => bytes.length + 1
  | .lit _ => 1
  | .nil => 1
  | .ptr d => uptoBulk d + 1
  | .slice elems spare => uptoBulkAll elems + uptoBulkAll spare + 1
  | .agg parts => uptoBulkAll parts + 1
  | .iface _ d => uptoBulk d + 1
  | .map entries => uptoBulkEntries entries + 1
  | .held _ => 1
def uptoBulkAll {H : Type} : List (DataW H) → Nat
  | [] => 0
  | d :: r => uptoBulk d + uptoBulkAll r
def uptoBulkEntries {H : Type} : List (Lit × DataW H) → Nat
  | [] => 0
  | x :: r => uptoBulkEntry x + uptoBulkEntries r
def uptoBulkEntry {H : Type} : Lit × DataW H → Nat
  | (.string bytes, d) => bytes.length + uptoBulk d + 1
  | (_, d) => uptoBulk d + 1
 end
def uptoSmall : (H : Type) → List (DataW H) → Bool := fun _ ds => decide (uptoBulkAll ds ≤ 1048576)
def OpenSpec.upto (s : _root_.Go.ChangeSpec) : _root_.Go.OpenSpec := { _root_.Go.OpenSpec.ofChange s with cond := some uptoSmall }

/-- 'laws.FnExactSameRights', WHERE WHAT IT READS IS OF BULK AT MOST 1048576: true; the input reads as it did. -/
def fnExactSameRightsUptoRow : OpenClaim := { program := "ytfiffondfljkkaa", sum := "57552d6ec9f2878f1c996774e14caa9d285dcbd8be969ab93b0815ac855d8d5d", func := "loop.example/g03307/laws.FnExactSameRights", spec := "fnExactSameRights", apart := false, narrowed := true }
def FnExactSameRightsUptoSaid : Prop := fnExactSameRightsUptoRow.holds Try.pinned (OpenSpec.upto fnExactSameRightsSpec)

/-- 'laws.FnExactDrunkBy', WHERE WHAT IT READS IS OF BULK AT MOST 1048576: true; the input reads as it did. -/
def fnExactDrunkByUptoRow : OpenClaim := { program := "ytfiffondfljkkaa", sum := "57552d6ec9f2878f1c996774e14caa9d285dcbd8be969ab93b0815ac855d8d5d", func := "loop.example/g03307/laws.FnExactDrunkBy", spec := "fnExactDrunkBy", apart := false, narrowed := true }
def FnExactDrunkByUptoSaid : Prop := fnExactDrunkByUptoRow.holds Try.pinned (OpenSpec.upto fnExactDrunkBySpec)

/-- 'laws.FnExactStrike', WHERE WHAT IT READS IS OF BULK AT MOST 1048576: true; the input reads as it did. -/
def fnExactStrikeUptoRow : OpenClaim := { program := "ytfiffondfljkkaa", sum := "57552d6ec9f2878f1c996774e14caa9d285dcbd8be969ab93b0815ac855d8d5d", func := "loop.example/g03307/laws.FnExactStrike", spec := "fnExactStrike", apart := false, narrowed := true }
def FnExactStrikeUptoSaid : Prop := fnExactStrikeUptoRow.holds Try.pinned (OpenSpec.upto fnExactStrikeSpec)

/-- 'laws.FnExactEnter', WHERE WHAT IT READS IS OF BULK AT MOST 1048576: true; the input reads as it did. -/
def fnExactEnterUptoRow : OpenClaim := { program := "ytfiffondfljkkaa", sum := "57552d6ec9f2878f1c996774e14caa9d285dcbd8be969ab93b0815ac855d8d5d", func := "loop.example/g03307/laws.FnExactEnter", spec := "fnExactEnter", apart := false, narrowed := true }
def FnExactEnterUptoSaid : Prop := fnExactEnterUptoRow.holds Try.pinned (OpenSpec.upto fnExactEnterSpec)

/-- 'laws.FnExactDeedDiff', WHERE WHAT IT READS IS OF BULK AT MOST 1048576: true; the input reads as it did. -/
def fnExactDeedDiffUptoRow : OpenClaim := { program := "ytfiffondfljkkaa", sum := "57552d6ec9f2878f1c996774e14caa9d285dcbd8be969ab93b0815ac855d8d5d", func := "loop.example/g03307/laws.FnExactDeedDiff", spec := "fnExactDeedDiff", unfollowed := true, recurses := true, apart := false, narrowed := true }
def FnExactDeedDiffUptoSaid : Prop := fnExactDeedDiffUptoRow.holds Try.pinned (OpenSpec.upto fnExactDeedDiffSpec)

/-- 'laws.FnExactVillageOk', WHERE WHAT IT READS IS OF BULK AT MOST 1048576: true; the input reads as it did. -/
def fnExactVillageOkUptoRow : OpenClaim := { program := "ytfiffondfljkkaa", sum := "57552d6ec9f2878f1c996774e14caa9d285dcbd8be969ab93b0815ac855d8d5d", func := "loop.example/g03307/laws.FnExactVillageOk", spec := "fnExactVillageOk", apart := false, narrowed := true }
def FnExactVillageOkUptoSaid : Prop := fnExactVillageOkUptoRow.holds Try.pinned (OpenSpec.upto fnExactVillageOkSpec)

/-- 'laws.FnExactOpenVillage', WHERE WHAT IT READS IS OF BULK AT MOST 1048576: true; the input reads as it did. -/
def fnExactOpenVillageUptoRow : OpenClaim := { program := "ytfiffondfljkkaa", sum := "57552d6ec9f2878f1c996774e14caa9d285dcbd8be969ab93b0815ac855d8d5d", func := "loop.example/g03307/laws.FnExactOpenVillage", spec := "fnExactOpenVillage", apart := false, narrowed := true }
def FnExactOpenVillageUptoSaid : Prop := fnExactOpenVillageUptoRow.holds Try.pinned (OpenSpec.upto fnExactOpenVillageSpec)

/-- 'laws.FnExactSampleVillage', WHERE WHAT IT READS IS OF BULK AT MOST 1048576: true; the input reads as it did. -/
def fnExactSampleVillageUptoRow : OpenClaim := { program := "ytfiffondfljkkaa", sum := "57552d6ec9f2878f1c996774e14caa9d285dcbd8be969ab93b0815ac855d8d5d", func := "loop.example/g03307/laws.FnExactSampleVillage", spec := "fnExactSampleVillage", apart := false, narrowed := true }
def FnExactSampleVillageUptoSaid : Prop := fnExactSampleVillageUptoRow.holds Try.pinned (OpenSpec.upto fnExactSampleVillageSpec)

/-- 'laws.FnExactMayDrink', WHERE WHAT IT READS IS OF BULK AT MOST 1048576: true; the input reads as it did. -/
def fnExactMayDrinkUptoRow : OpenClaim := { program := "ytfiffondfljkkaa", sum := "57552d6ec9f2878f1c996774e14caa9d285dcbd8be969ab93b0815ac855d8d5d", func := "loop.example/g03307/laws.FnExactMayDrink", spec := "fnExactMayDrink", unfollowed := true, recurses := true, apart := false, narrowed := true }
def FnExactMayDrinkUptoSaid : Prop := fnExactMayDrinkUptoRow.holds Try.pinned (OpenSpec.upto fnExactMayDrinkSpec)

/-- 'laws.FnExactLeakOut', WHERE WHAT IT READS IS OF BULK AT MOST 1048576: true; the input reads as it did. -/
def fnExactLeakOutUptoRow : OpenClaim := { program := "ytfiffondfljkkaa", sum := "57552d6ec9f2878f1c996774e14caa9d285dcbd8be969ab93b0815ac855d8d5d", func := "loop.example/g03307/laws.FnExactLeakOut", spec := "fnExactLeakOut", apart := false, narrowed := true }
def FnExactLeakOutUptoSaid : Prop := fnExactLeakOutUptoRow.holds Try.pinned (OpenSpec.upto fnExactLeakOutSpec)

/-- 'laws.FnExactRainFalls', WHERE WHAT IT READS IS OF BULK AT MOST 1048576: true; the input reads as it did. -/
def fnExactRainFallsUptoRow : OpenClaim := { program := "ytfiffondfljkkaa", sum := "57552d6ec9f2878f1c996774e14caa9d285dcbd8be969ab93b0815ac855d8d5d", func := "loop.example/g03307/laws.FnExactRainFalls", spec := "fnExactRainFalls", apart := false, narrowed := true }
def FnExactRainFallsUptoSaid : Prop := fnExactRainFallsUptoRow.holds Try.pinned (OpenSpec.upto fnExactRainFallsSpec)

/-- 'laws.FnExactDrink', WHERE WHAT IT READS IS OF BULK AT MOST 1048576: true; the input reads as it did. -/
def fnExactDrinkUptoRow : OpenClaim := { program := "ytfiffondfljkkaa", sum := "57552d6ec9f2878f1c996774e14caa9d285dcbd8be969ab93b0815ac855d8d5d", func := "loop.example/g03307/laws.FnExactDrink", spec := "fnExactDrink", unfollowed := true, recurses := true, apart := false, narrowed := true }
def FnExactDrinkUptoSaid : Prop := fnExactDrinkUptoRow.holds Try.pinned (OpenSpec.upto fnExactDrinkSpec)

end Rows
end Go.Proofs.Ytfiffondfljkkaa
