/- Walks: slices.Index, IndexFunc, ContainsFunc, Contains over texts and numbers. -/
import Derived.Test.YtccoopnoakhedaaStrs
import Derived.Test.YtccoopnoakhedaaVar
namespace Go.Proofs.Ytccoopnoakhedaa
set_option maxRecDepth 100000
open Go.RowKit

theorem NoneIn.stepT {p : ByteArray → Bool} {l : List ByteArray} {k : Nat} (hk : k < l.length) (h : p (gs l k) = false) (hp : NoneIn p (l.take k)) : NoneIn p (l.take (k + 1)) := NoneIn.step (d := .empty) hk rfl h hp
theorem idx_hitT {p : ByteArray → Bool} {l : List ByteArray} {k : Nat} (hk : k < l.length) (hp : NoneIn p (l.take k)) (h : p (gs l k) = true) : idx p l = k := idx_hit (d := .empty) hk rfl h hp
end Go.Proofs.Ytccoopnoakhedaa
