/- RunActs of spec. -/
import Derived.Test.YtigfdnejbhmceaaDoActS
import Derived.Test.YtigfdnejbhmceaaRunPure
import Derived.Test.YtigfdnejbhmceaaKa
namespace Go.Proofs.Ytigfdnejbhmceaa
set_option linter.unusedSimpArgs false
set_option linter.unusedVariables false
open Go.RowKit
set_option maxRecDepth 20000
end Go.Proofs.Ytigfdnejbhmceaa
