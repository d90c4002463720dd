/- Walks: which chains are valid, in the reference. -/
import Derived.Test.YtnmkckghfckgbaaChV
import Derived.Test.YtnmkckghfckgbaaMix2
namespace Go.Proofs.Ytnmkckghfckgbaa
set_option maxRecDepth 100000
open Go.RowKit

end Go.Proofs.Ytnmkckghfckgbaa
