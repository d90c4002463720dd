/- Walks: which chains are valid, in the reference. -/
import Derived.Test.YtefkefmhfoedcaaDoorChV
import Derived.Test.YtefkefmhfoedcaaDoorMix2
namespace Go.Proofs.YtefkefmhfoedcaaDoor
set_option maxRecDepth 100000
open Go.RowKit

end Go.Proofs.YtefkefmhfoedcaaDoor
