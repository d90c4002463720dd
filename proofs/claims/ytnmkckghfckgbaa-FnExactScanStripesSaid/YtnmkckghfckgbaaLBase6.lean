/- What the law on scans wants. -/
import Derived.Test.YtnmkckghfckgbaaLBase
import Derived.Test.YtnmkckghfckgbaaScan3
namespace Go.Proofs.Ytnmkckghfckgbaa
set_option maxRecDepth 100000
end Go.Proofs.Ytnmkckghfckgbaa
