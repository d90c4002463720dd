/- What the laws on barcodes and widths share. -/
import Derived.Test.YtnmkckghfckgbaaLBase
import Derived.Test.YtnmkckghfckgbaaMeas3
namespace Go.Proofs.Ytnmkckghfckgbaa
set_option maxRecDepth 100000
end Go.Proofs.Ytnmkckghfckgbaa
