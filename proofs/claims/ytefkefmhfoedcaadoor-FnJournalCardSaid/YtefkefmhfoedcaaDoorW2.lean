/- Walks: the laws' own helpers on lists of numbers. -/
import Derived.Test.YtefkefmhfoedcaaDoorW1
namespace Go.Proofs.YtefkefmhfoedcaaDoor
set_option maxRecDepth 100000
open Go.RowKit

end Go.Proofs.YtefkefmhfoedcaaDoor
