/- What the laws on barcodes and stripes that are read share. -/
import Derived.Test.YtnmkckghfckgbaaLBase
import Derived.Test.YtnmkckghfckgbaaRead3
namespace Go.Proofs.Ytnmkckghfckgbaa
set_option maxRecDepth 100000
end Go.Proofs.Ytnmkckghfckgbaa
