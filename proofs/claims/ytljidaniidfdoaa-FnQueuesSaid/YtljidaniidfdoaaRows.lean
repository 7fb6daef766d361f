/-
  No cell of these rows narrows 'for every input' (looked for: loops, veiled, ifaces, maps, wideKeys, modest, calm, conditions, laid).
  DERIVED. THE GIVEN ROWS OF THIS SEAT. 5 by the template 'for every input the law returns true; each argument reads behind the call as it read before'; 0 by the template 'total and deterministic' (their statements: YtljidaniidfdoaaTotals.lean).
  GIVEN WITH THE SEED: the statements are not yours to turn. If you find one false, say at which input.
  Laid BY PROGRAM, IN A SANDBOX (cutbox-rows.mjs): the forced cells as the released guide's own fill.sh prints them over the translation 1889d9c457fc11ac… (all of the seat's roots in one cut). By AI agents, Wed Nov 11 2026. No macro, syntax, notation, axiom, sorry.
-/
import Derived.Test.YtljidaniidfdoaaChecked
import GoSem.Claim
import GoSem.ClaimJoined
import GoSem.ClaimMapViews
import Derived.JoinedTies
import Derived.KernelRfl
namespace Go.Proofs.Ytljidaniidfdoaa
/- THE CELL 'sum', in the pinned program and in every row, IS THE sha256 OF THE DUMP (.gsa) THAT YtljidaniidfdoaaProg.lean LOADS. Nothing in Lean hashes anything: it is a label: what it is worth is what the hold of that sum in a sandbox is worth. -/
noncomputable def Try.pinned : Pinned := { name := "ytljidaniidfdoaa", sum := "1889d9c457fc11ac501433b1f1caa882f5e427105f8de70bd9314f010087c82f", checked := Try.checked }
namespace Rows
def none {H : Type} : Left H := { results := [], args := [] }

/-- 'laws.FnQueues': WHATEVER THE INPUT: true; the input reads as it did. -/
def fnQueuesSpec : ChangeSpec := { name := "fnQueues", fn := fun _ => fun
  | [d] => { results := [.lit (.bool true)], args := [d] }
  | _ => none }
def fnQueuesRow : OpenClaim := { program := "ytljidaniidfdoaa", sum := "1889d9c457fc11ac501433b1f1caa882f5e427105f8de70bd9314f010087c82f", func := "loop.example/g03307/laws.FnQueues", spec := "fnQueues", unfollowed := true, recurses := true, apart := false }
def FnQueuesSaid : Prop := fnQueuesRow.holds Try.pinned (OpenSpec.ofChange fnQueuesSpec)

/-- ITS FALSE NEIGHBOUR: 'it returns false'. Refute it at one input. -/
def fnQueuesWrong : ChangeSpec := { name := "fnQueues", fn := fun _ => fun
  | [d] => { results := [.lit (.bool false)], args := [d] }
  | _ => none }
def FnQueuesWrongFalsely : Prop := fnQueuesRow.holds Try.pinned (OpenSpec.ofChange fnQueuesWrong)

/-- 'laws.FnExactSell': WHATEVER THE INPUT: true; the input reads as it did. -/
def fnExactSellSpec : ChangeSpec := { name := "fnExactSell", fn := fun _ => fun
  | [d1, d2, d3, d4] => { results := [.lit (.bool true)], args := [d1, d2, d3, d4] }
  | _ => none }
def fnExactSellRow : OpenClaim := { program := "ytljidaniidfdoaa", sum := "1889d9c457fc11ac501433b1f1caa882f5e427105f8de70bd9314f010087c82f", func := "loop.example/g03307/laws.FnExactSell", spec := "fnExactSell", inPlace := ["slices.overlaps[loop.example/g03307/impl.Right]"], unfollowed := true, recurses := true, apart := false }
def FnExactSellSaid : Prop := fnExactSellRow.holds Try.pinned (OpenSpec.ofChange fnExactSellSpec)

/-- ITS FALSE NEIGHBOUR: 'it returns false'. Refute it at one input. -/
def fnExactSellWrong : ChangeSpec := { name := "fnExactSell", fn := fun _ => fun
  | [d1, d2, d3, d4] => { results := [.lit (.bool false)], args := [d1, d2, d3, d4] }
  | _ => none }
def FnExactSellWrongFalsely : Prop := fnExactSellRow.holds Try.pinned (OpenSpec.ofChange fnExactSellWrong)

/-- 'laws.FnExactPassOn': WHATEVER THE INPUT: true; the input reads as it did. -/
def fnExactPassOnSpec : ChangeSpec := { name := "fnExactPassOn", fn := fun _ => fun
  | [d1, d2, d3] => { results := [.lit (.bool true)], args := [d1, d2, d3] }
  | _ => none }
def fnExactPassOnRow : OpenClaim := { program := "ytljidaniidfdoaa", sum := "1889d9c457fc11ac501433b1f1caa882f5e427105f8de70bd9314f010087c82f", func := "loop.example/g03307/laws.FnExactPassOn", spec := "fnExactPassOn", inPlace := ["slices.overlaps[loop.example/g03307/impl.Right]"], unfollowed := true, recurses := true, apart := false }
def FnExactPassOnSaid : Prop := fnExactPassOnRow.holds Try.pinned (OpenSpec.ofChange fnExactPassOnSpec)

/-- ITS FALSE NEIGHBOUR: 'it returns false'. Refute it at one input. -/
def fnExactPassOnWrong : ChangeSpec := { name := "fnExactPassOn", fn := fun _ => fun
  | [d1, d2, d3] => { results := [.lit (.bool false)], args := [d1, d2, d3] }
  | _ => none }
def FnExactPassOnWrongFalsely : Prop := fnExactPassOnRow.holds Try.pinned (OpenSpec.ofChange fnExactPassOnWrong)

/-- 'laws.FnVillages': WHATEVER THE INPUT: true; the input reads as it did. -/
def fnVillagesSpec : ChangeSpec := { name := "fnVillages", fn := fun _ => fun
  | [d] => { results := [.lit (.bool true)], args := [d] }
  | _ => none }
def fnVillagesRow : OpenClaim := { program := "ytljidaniidfdoaa", sum := "1889d9c457fc11ac501433b1f1caa882f5e427105f8de70bd9314f010087c82f", func := "loop.example/g03307/laws.FnVillages", spec := "fnVillages", inPlace := ["slices.overlaps[loop.example/g03307/impl.Right]"], unfollowed := true, recurses := true, apart := false }
def FnVillagesSaid : Prop := fnVillagesRow.holds Try.pinned (OpenSpec.ofChange fnVillagesSpec)

/-- ITS FALSE NEIGHBOUR: 'it returns false'. Refute it at one input. -/
def fnVillagesWrong : ChangeSpec := { name := "fnVillages", fn := fun _ => fun
  | [d] => { results := [.lit (.bool false)], args := [d] }
  | _ => none }
def FnVillagesWrongFalsely : Prop := fnVillagesRow.holds Try.pinned (OpenSpec.ofChange fnVillagesWrong)

/-- 'laws.FnScenarios': WHATEVER THE INPUT: true; the input reads as it did. -/
def fnScenariosSpec : ChangeSpec := { name := "fnScenarios", fn := fun _ => fun
  | [d] => { results := [.lit (.bool true)], args := [d] }
  | _ => none }
def fnScenariosRow : OpenClaim := { program := "ytljidaniidfdoaa", sum := "1889d9c457fc11ac501433b1f1caa882f5e427105f8de70bd9314f010087c82f", func := "loop.example/g03307/laws.FnScenarios", spec := "fnScenarios", inPlace := ["slices.overlaps[loop.example/g03307/impl.Right]"], unfollowed := true, recurses := true, apart := false }
def FnScenariosSaid : Prop := fnScenariosRow.holds Try.pinned (OpenSpec.ofChange fnScenariosSpec)

/-- ITS FALSE NEIGHBOUR: 'it returns false'. Refute it at one input. -/
def fnScenariosWrong : ChangeSpec := { name := "fnScenarios", fn := fun _ => fun
  | [d] => { results := [.lit (.bool false)], args := [d] }
  | _ => none }
def FnScenariosWrongFalsely : Prop := fnScenariosRow.holds Try.pinned (OpenSpec.ofChange fnScenariosWrong)

/- THE SECOND FORM. 'bulk': how many values and letters a reading holds, each counted each time it is reached (what is shared counts as often as it is met; a slice's spare places count too). A statement '..UptoSaid' is the law's where the arguments, and the package variables that the reading takes, are together of bulk at most 1048576: NARROWER than '..Said'. Prove '..Said' where nothing that the law and all that it calls make is longer than what came in: it says more and counts as full. Else prove '..UptoSaid'. A law counts once. -/
mutual
def uptoBulk {H : Type} : DataW H → Nat
  | .lit (.string bytes) => bytes.length + 1
  | .lit _ => 1
  | .nil => 1
  | .ptr d => uptoBulk d + 1
  | .slice elems spare => uptoBulkAll elems + uptoBulkAll spare + 1
  | .agg parts => uptoBulkAll parts + 1
  | .iface _ d => uptoBulk d + 1
  | .map entries => uptoBulkEntries entries + 1
  | .held _ => 1
def uptoBulkAll {H : Type} : List (DataW H) → Nat
  | [] => 0
  | d :: r => uptoBulk d + uptoBulkAll r
def uptoBulkEntries {H : Type} : List (Lit × DataW H) → Nat
  | [] => 0
  | x :: r => uptoBulkEntry x + uptoBulkEntries r
def uptoBulkEntry {H : Type} : Lit × DataW H → Nat
  | (.string bytes, d) => bytes.length + uptoBulk d + 1
  | (_, d) => uptoBulk d + 1
 end
def uptoSmall : (H : Type) → List (DataW H) → Bool := fun _ ds => decide (uptoBulkAll ds ≤ 1048576)
def OpenSpec.upto (s : _root_.Go.ChangeSpec) : _root_.Go.OpenSpec := { _root_.Go.OpenSpec.ofChange s with cond := some uptoSmall }

/-- 'laws.FnQueues', WHERE WHAT IT READS IS OF BULK AT MOST 1048576: true; the input reads as it did. -/
def fnQueuesUptoRow : OpenClaim := { program := "ytljidaniidfdoaa", sum := "1889d9c457fc11ac501433b1f1caa882f5e427105f8de70bd9314f010087c82f", func := "loop.example/g03307/laws.FnQueues", spec := "fnQueues", unfollowed := true, recurses := true, apart := false, narrowed := true }
def FnQueuesUptoSaid : Prop := fnQueuesUptoRow.holds Try.pinned (OpenSpec.upto fnQueuesSpec)

/-- 'laws.FnExactSell', WHERE WHAT IT READS IS OF BULK AT MOST 1048576: true; the input reads as it did. -/
def fnExactSellUptoRow : OpenClaim := { program := "ytljidaniidfdoaa", sum := "1889d9c457fc11ac501433b1f1caa882f5e427105f8de70bd9314f010087c82f", func := "loop.example/g03307/laws.FnExactSell", spec := "fnExactSell", inPlace := ["slices.overlaps[loop.example/g03307/impl.Right]"], unfollowed := true, recurses := true, apart := false, narrowed := true }
def FnExactSellUptoSaid : Prop := fnExactSellUptoRow.holds Try.pinned (OpenSpec.upto fnExactSellSpec)

/-- 'laws.FnExactPassOn', WHERE WHAT IT READS IS OF BULK AT MOST 1048576: true; the input reads as it did. -/
def fnExactPassOnUptoRow : OpenClaim := { program := "ytljidaniidfdoaa", sum := "1889d9c457fc11ac501433b1f1caa882f5e427105f8de70bd9314f010087c82f", func := "loop.example/g03307/laws.FnExactPassOn", spec := "fnExactPassOn", inPlace := ["slices.overlaps[loop.example/g03307/impl.Right]"], unfollowed := true, recurses := true, apart := false, narrowed := true }
def FnExactPassOnUptoSaid : Prop := fnExactPassOnUptoRow.holds Try.pinned (OpenSpec.upto fnExactPassOnSpec)

/-- 'laws.FnVillages', WHERE WHAT IT READS IS OF BULK AT MOST 1048576: true; the input reads as it did. -/
def fnVillagesUptoRow : OpenClaim := { program := "ytljidaniidfdoaa", sum := "1889d9c457fc11ac501433b1f1caa882f5e427105f8de70bd9314f010087c82f", func := "loop.example/g03307/laws.FnVillages", spec := "fnVillages", inPlace := ["slices.overlaps[loop.example/g03307/impl.Right]"], unfollowed := true, recurses := true, apart := false, narrowed := true }
def FnVillagesUptoSaid : Prop := fnVillagesUptoRow.holds Try.pinned (OpenSpec.upto fnVillagesSpec)

/-- 'laws.FnScenarios', WHERE WHAT IT READS IS OF BULK AT MOST 1048576: true; the input reads as it did. -/
def fnScenariosUptoRow : OpenClaim := { program := "ytljidaniidfdoaa", sum := "1889d9c457fc11ac501433b1f1caa882f5e427105f8de70bd9314f010087c82f", func := "loop.example/g03307/laws.FnScenarios", spec := "fnScenarios", inPlace := ["slices.overlaps[loop.example/g03307/impl.Right]"], unfollowed := true, recurses := true, apart := false, narrowed := true }
def FnScenariosUptoSaid : Prop := fnScenariosUptoRow.holds Try.pinned (OpenSpec.upto fnScenariosSpec)

end Rows
end Go.Proofs.Ytljidaniidfdoaa
