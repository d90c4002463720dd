/- Walks: how many words a chain checks; the word of a rank, in the program, of a valid chain. -/
import Derived.Test.YtbcfbkhbangeoaaMixC
import Derived.Test.YtbcfbkhbangeoaaDigA
namespace Go.Proofs.Ytbcfbkhbangeoaa
set_option maxRecDepth 100000
open Go.RowKit

/-- the word of a rank, none behind the last -/
def watB (D : Ch) (r : Int) : Bool := decide (0 ≤ r ∧ r < (wordsA D).length)
def watT (D : Ch) (r : Int) : ByteArray := if watB D r then wordR D (r.toNat + 1) else .empty
end Go.Proofs.Ytbcfbkhbangeoaa
