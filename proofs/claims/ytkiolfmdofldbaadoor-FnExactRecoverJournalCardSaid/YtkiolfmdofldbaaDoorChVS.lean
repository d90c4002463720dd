/- Walks: which chains are valid, in the reference. -/
import Derived.Test.YtkiolfmdofldbaaDoorChV
import Derived.Test.YtkiolfmdofldbaaDoorMix2
namespace Go.Proofs.YtkiolfmdofldbaaDoor
set_option maxRecDepth 100000
open Go.RowKit

end Go.Proofs.YtkiolfmdofldbaaDoor
