/- Walks: the laws' copies of tables and chains: each row between bounds of its own. -/
import Derived.Test.YtkiolfmdofldbaaDoorChg
import Derived.Test.YtkiolfmdofldbaaDoorChL
namespace Go.Proofs.YtkiolfmdofldbaaDoor
set_option maxRecDepth 100000
open Go.RowKit

def RetMatR (ll : List (List Int)) (w : World) (e : Ending) (w' : World) : Prop := ∃ a c, e = .returned (.slice a ll.length c) ∧ MatR w' w.heap.size w'.heap.size 79 2 a ll.length c ll ∧ Ext w w'
section
variable {w w' : World} {lo hi : Nat} {D : Ch} {a : Option Addr} {n c : Nat} {b : Option Addr} {m d : Nat}
end
end Go.Proofs.YtkiolfmdofldbaaDoor
