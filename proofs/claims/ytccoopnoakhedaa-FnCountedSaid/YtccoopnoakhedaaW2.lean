/- Walks: the laws' own helpers on lists of numbers. -/
import Derived.Test.YtccoopnoakhedaaW1
namespace Go.Proofs.Ytccoopnoakhedaa
set_option maxRecDepth 100000
open Go.RowKit

end Go.Proofs.Ytccoopnoakhedaa
