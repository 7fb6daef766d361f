/- The law side's own helpers on slices of stores: copy, compare, mark, look. -/
import Derived.Test.YtljidaniidfdoaaTo3R
import Derived.Test.YtljidaniidfdoaaStore
namespace Go.Proofs.Ytljidaniidfdoaa
open Go.RowKit
set_option maxRecDepth 20000
end Go.Proofs.Ytljidaniidfdoaa
