/- BestQueue of the reference. -/
import Derived.Test.YtljidaniidfdoaaBest
namespace Go.Proofs.Ytljidaniidfdoaa
open Go.RowKit
set_option maxRecDepth 20000
end Go.Proofs.Ytljidaniidfdoaa
