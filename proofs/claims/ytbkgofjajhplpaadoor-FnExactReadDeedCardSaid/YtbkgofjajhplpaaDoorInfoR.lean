/- The size of a right, where the law side has no helper on rights. -/
import Derived.Test.YtbkgofjajhplpaaDoorTo3R
namespace Go.Proofs.YtbkgofjajhplpaaDoor
set_option linter.unusedSimpArgs false
set_option linter.unusedVariables false
end Go.Proofs.YtbkgofjajhplpaaDoor
