/- The size of a right, where the law side has no helper on rights. -/
import Derived.Test.YtdmgdkeichlccaaKb
namespace Go.Proofs.Ytdmgdkeichlccaa
set_option linter.unusedSimpArgs false
set_option linter.unusedVariables false
theorem infoRight : (Try.prog.info? 51).map (fun i => (i.zero, i.size, i.bytes)) = some (some (.agg #[.int .i64 0, .int .i64 0, .int .i64 0]), 3, 24) := by kernel_rfl
end Go.Proofs.Ytdmgdkeichlccaa
