/- Walks: the laws' own helpers on lists of numbers. -/
import Derived.Test.YtgnlabdikmbbgaaGreatDoorW1
namespace Go.Proofs.YtgnlabdikmbbgaaGreatDoor
set_option maxRecDepth 100000
open Go.RowKit

end Go.Proofs.YtgnlabdikmbbgaaGreatDoor
