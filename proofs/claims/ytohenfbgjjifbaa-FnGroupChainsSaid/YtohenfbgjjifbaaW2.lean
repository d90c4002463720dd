/- Walks: the laws' own helpers on lists of numbers. -/
import Derived.Test.YtohenfbgjjifbaaW1
namespace Go.Proofs.Ytohenfbgjjifbaa
set_option maxRecDepth 100000
open Go.RowKit

end Go.Proofs.Ytohenfbgjjifbaa
