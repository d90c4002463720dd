/- What the laws on barcodes share whose results are lists of numbers. -/
import Derived.Test.YtnmkckghfckgbaaLBase
import Derived.Test.YtnmkckghfckgbaaMarkS
import Derived.Test.YtnmkckghfckgbaaStr4
namespace Go.Proofs.Ytnmkckghfckgbaa
set_option maxRecDepth 100000
end Go.Proofs.Ytnmkckghfckgbaa
