/- The size of a right, where the law side has no helper on rights. -/
import Derived.Test.YtpmmjhpmheooeaaDoorKb
namespace Go.Proofs.YtpmmjhpmheooeaaDoor
set_option linter.unusedSimpArgs false
set_option linter.unusedVariables false
theorem infoRight : (Tryd.prog.info? 51).map (fun i => (i.zero, i.size, i.bytes)) = some (some (.agg #[.int .i64 0, .int .i64 0, .int .i64 0]), 3, 24) := by kernel_rfl
end Go.Proofs.YtpmmjhpmheooeaaDoor
