/- The reference's split of a text at a byte. -/
import Derived.Test.YtpmmjhpmheooeaaDoorRRPure
import Derived.Test.YtpmmjhpmheooeaaDoorStrs
import Derived.Test.YtpmmjhpmheooeaaDoorKa
namespace Go.Proofs.YtpmmjhpmheooeaaDoor
set_option linter.unusedSimpArgs false
set_option linter.unusedVariables false
open Go.RowKit
set_option maxRecDepth 20000
theorem ext_b (t : List UInt8) (b k : Nat) : (⟨t.toArray⟩ : ByteArray).extract b k = ⟨((t.take k).drop b).toArray⟩ := by
  apply ByteArray.ext
  rw [ByteArray.data_extract]
  simp [List.drop_take]
end Go.Proofs.YtpmmjhpmheooeaaDoor
