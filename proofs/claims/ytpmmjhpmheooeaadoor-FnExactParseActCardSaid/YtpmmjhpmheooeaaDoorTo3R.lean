/- The law side's own helpers on rights and slices of rights: copy, compare, mark, look. -/
import Derived.Test.YtpmmjhpmheooeaaDoorMark3
import Derived.Test.YtpmmjhpmheooeaaDoorNew
namespace Go.Proofs.YtpmmjhpmheooeaaDoor
set_option linter.unusedSimpArgs false
set_option linter.unusedVariables false
open Go.RowKit
set_option maxRecDepth 20000
end Go.Proofs.YtpmmjhpmheooeaaDoor
