/- The law side's own helpers on slices of stores: copy, compare, mark, look. -/
import Derived.Test.YtminkdapfamdeaaTo3R
import Derived.Test.YtminkdapfamdeaaStore
namespace Go.Proofs.Ytminkdapfamdeaa
open Go.RowKit
set_option maxRecDepth 20000
end Go.Proofs.Ytminkdapfamdeaa
