/- ReadRight: the reference's side. -/
import Derived.Test.YtpmmjhpmheooeaaDoorReadRight
namespace Go.Proofs.YtpmmjhpmheooeaaDoor
set_option linter.unusedSimpArgs false
set_option linter.unusedVariables false
open Go.RowKit
set_option maxRecDepth 20000
theorem spl_len (c : UInt8) : ∀ (s cur : List UInt8), ∀ x ∈ spl c cur s, x.length ≤ cur.length + s.length
  | [], cur, x, h => by rw [spl_nil, List.mem_singleton] at h; rw [h]; simp
  | b :: s, cur, x, h => by
    rw [spl] at h
    split at h
    · rcases List.mem_cons.1 h with rfl | h
      · simp
      · have := spl_len c s [] x h
        simp at this ⊢
        omega
    · have := spl_len c s _ x h
      rw [List.length_append, List.length_singleton] at this
      rw [List.length_cons]
      omega
theorem rsX_no {t : List UInt8} (h : rsI t = false) : rsX t = ⟨0, 0, 0⟩ ∧ rsI t = false := ⟨by unfold rsX; rw [h]; rfl, h⟩
end Go.Proofs.YtpmmjhpmheooeaaDoor
