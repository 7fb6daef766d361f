/- Inherit, the reference's side. -/
import Derived.Test.YtigfdnejbhmceaaSellS
import Derived.Test.YtigfdnejbhmceaaInherit
import Derived.BigQuiet
namespace Go.Proofs.Ytigfdnejbhmceaa
set_option linter.unusedSimpArgs false
set_option linter.unusedVariables false
open Go.RowKit
set_option maxRecDepth 20000
end Go.Proofs.Ytigfdnejbhmceaa
