/- Words: two rows that lie apart. Conditions: none. -/
import Derived.Test.YtaiieodllhoelaaSAt
import Derived.Test.YtaiieodllhoelaaCube
namespace Go.Proofs.Ytaiieodllhoelaa
set_option maxRecDepth 100000
open Go.RowKit

/-- two rows lie apart -/
def Apa (a b : Option Addr) : Prop := ∀ g g', a = some g → b = some g' → g.block ≠ g'.block
theorem Apa.symm {a b : Option Addr} (h : Apa a b) : Apa b a := fun g g' h1 h2 => (h g' g h2 h1).symm
theorem apa_put {w : World} {B : Nat} {E : TypeId} {a a' b : Option Addr} {n c : Nat} {us : List Value} (h : Apa a b) (hb : Own w B E b n c us) (hk : ∀ g, a' = some g → (∃ g', a = some g' ∧ g'.block = g.block) ∨ w.heap.size ≤ g.block) : Apa a' b := fun g g' h1 h2 => by
  rcases hk g h1 with ⟨x, hx, he⟩ | hl
  · rw [← he]; exact h x g' hx h2
  · have := (hb.blk g' h2).2; omega
theorem own_apa {w w' : World} {B : Nat} {E : TypeId} {a b : Option Addr} {n c m d : Nat} {us : List Value} (h : Apa a b) (hb : Own w B E b m d us) (hg : w.grownBy w' (Value.slice a n c).ownBlock) : Own w' B E b m d us :=
  hb.grown hg fun g' h2 => row_ne fun g h1 => h g g' h1 h2
theorem mat_apa {w w' : World} {B B' : Nat} {E1 E0 : TypeId} {a b : Option Addr} {n c m d : Nat} {vs : List Value} {ll : List (List Int)} (h : Apa a b) (ha : Own w B' E1 a n c vs) (hb : OwnMat w B E1 E0 b m d ll) (hg : w.grownBy w' (Value.slice a n c).ownBlock) (hE : E0 ≠ E1) : OwnMat w' B E1 E0 b m d ll := by
  obtain ⟨us, hu, hr⟩ := hb.rows
  refine ⟨hb.len, us, own_apa h hu hg, fun k hk => ?_⟩
  obtain ⟨a', n', c', h1, h2⟩ := hr k hk
  exact ⟨a', n', c', h1, h2.grownT ha hg hE⟩
end Go.Proofs.Ytaiieodllhoelaa
