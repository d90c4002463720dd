/- Walks: registries: words that are far apart. -/
import Derived.Test.YtkiolfmdofldbaaDoorRgM
import Derived.Test.YtkiolfmdofldbaaDoorEdit
import Derived.Test.YtkiolfmdofldbaaDoorEditS
import Derived.Test.YtkiolfmdofldbaaDoorStrFn
namespace Go.Proofs.YtkiolfmdofldbaaDoor
set_option maxRecDepth 100000
open Go.RowKit

theorem any_not_allS (l : List ByteArray) (p : ByteArray → Bool) : (!(l.any fun x => p x)) = l.all fun x => !p x := by
  simp [List.all_eq_not_any_not]
end Go.Proofs.YtkiolfmdofldbaaDoor
