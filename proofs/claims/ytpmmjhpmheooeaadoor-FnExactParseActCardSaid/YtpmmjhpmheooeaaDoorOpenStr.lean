/- The argument that is a string, opened. -/
import Derived.Test.YtpmmjhpmheooeaaDoorOpen
import Derived.Test.YtpmmjhpmheooeaaDoorText
import Derived.ChangeMaps5
namespace Go.Proofs.YtpmmjhpmheooeaaDoor
set_option linter.unusedSimpArgs false
set_option linter.unusedVariables false
open Go.ChangeShapes Go.WideShapes Go.ChangeAt Go.RowKit
set_option maxRecDepth 20000
section
variable {H : Type} {enc : TypeId × Value → H} {W : World} {base : Nat} {r : Reach}
theorem arg_string {v : Value} {d : DataW H} {p : List MemPlace} (hv : Value.okWide Tryd.prog W r base 9 v) (h : DataW.Trod enc Tryd.prog W 0 (fun _ => true) true 9 v d p) :
    ∃ s : List UInt8, v = sv s ∧ s.length ≤ 9223372036854775807 := by
  obtain ⟨s, rfl, _, _, hs⟩ := Go.ChangeMaps.open_string Tryd.underlying9 hv h
  refine ⟨s.data.toList, by simp, ?_⟩
  have e : s.data.toList.length = s.size := Array.length_toList
  unfold maxLen at hs
  omega
end
end Go.Proofs.YtpmmjhpmheooeaaDoor
