/- The law side's own helpers on rights and slices of rights: copy, compare, mark, look. -/
import Derived.Test.YtnedbdpcimhfgabMark3
import Derived.Test.YtnedbdpcimhfgabNew
namespace Go.Proofs.Ytnedbdpcimhfgab
open Go.RowKit
set_option maxRecDepth 20000
end Go.Proofs.Ytnedbdpcimhfgab
