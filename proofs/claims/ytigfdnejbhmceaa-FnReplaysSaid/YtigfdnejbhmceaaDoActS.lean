/- DoAct of spec. -/
import Derived.Test.YtigfdnejbhmceaaDoAct
namespace Go.Proofs.Ytigfdnejbhmceaa
set_option linter.unusedSimpArgs false
set_option linter.unusedVariables false
open Go.RowKit
set_option maxRecDepth 20000
end Go.Proofs.Ytigfdnejbhmceaa
