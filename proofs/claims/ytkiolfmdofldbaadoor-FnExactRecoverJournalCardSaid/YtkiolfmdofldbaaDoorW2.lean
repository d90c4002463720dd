/- Walks: the laws' own helpers on lists of numbers. -/
import Derived.Test.YtkiolfmdofldbaaDoorW1
namespace Go.Proofs.YtkiolfmdofldbaaDoor
set_option maxRecDepth 100000
open Go.RowKit

end Go.Proofs.YtkiolfmdofldbaaDoor
