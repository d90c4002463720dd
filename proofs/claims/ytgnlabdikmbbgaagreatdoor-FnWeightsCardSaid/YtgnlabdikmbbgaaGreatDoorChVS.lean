/- Walks: which chains are valid, in the reference. -/
import Derived.Test.YtgnlabdikmbbgaaGreatDoorChV
import Derived.Test.YtgnlabdikmbbgaaGreatDoorMix2
namespace Go.Proofs.YtgnlabdikmbbgaaGreatDoor
set_option maxRecDepth 100000
open Go.RowKit

end Go.Proofs.YtgnlabdikmbbgaaGreatDoor
