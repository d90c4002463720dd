/- Walks: the laws write marks into texts. -/
import Derived.Test.YtaiieodllhoelaaMark
import Derived.Laws.BytesArg
namespace Go.Proofs.Ytaiieodllhoelaa
set_option maxRecDepth 100000
open Go.RowKit

theorem und_strings' : Try.prog.underlying 66 = some (.slice 9) := Try.underlying66
theorem cell_string' : Try.prog.cellsOf 9 = 1 := by kernel_rfl
def SomeText (w : World) (e : Ending) (w' : World) : Prop := ∃ s, e = .returned (.string s) ∧ Ext w w'


end Go.Proofs.Ytaiieodllhoelaa
