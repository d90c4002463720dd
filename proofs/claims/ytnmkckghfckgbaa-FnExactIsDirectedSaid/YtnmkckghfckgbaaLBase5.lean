/- What the law on directed barcodes wants. -/
import Derived.Test.YtnmkckghfckgbaaLBase
import Derived.Test.YtnmkckghfckgbaaDir
namespace Go.Proofs.Ytnmkckghfckgbaa
set_option maxRecDepth 100000
end Go.Proofs.Ytnmkckghfckgbaa
