/- Walks: the chain that a law chooses. -/
import Derived.Test.YtbcfbkhbangeoaaDrawD
import Derived.Test.YtbcfbkhbangeoaaDigA
namespace Go.Proofs.Ytbcfbkhbangeoaa
set_option maxRecDepth 100000
open Go.RowKit

/-- a valid chain with few words -/
def RetR8Ch (w : World) (e : Ending) (w' : World) : Prop :=
  ∃ (D : Ch) (ad : Option Addr) (x cc : Nat) (pd : Option Addr) (p pc : Nat), e = .returned (.agg #[.int .i64 D.base, .int .i64 D.states, .int .i64 D.start, .int .i64 D.fin, .slice ad x cc, .slice pd p pc]) ∧ DrawnCh D ∧ D.base ^ D.places.length ≤ 256 ∧ D.places.length = p ∧ x ≤ 3 ∧ ChIn w' D ad x cc pd p pc ∧ Ext w w'
theorem pow_few {b : Int} {p : Nat} (h : 2 ≤ b ∧ b ≤ 4 ∧ p ≤ 4 ∨ b = 10 ∧ p ≤ 2) : b ^ p ≤ 256 := by
  have h1 : (b = 2 ∨ b = 3 ∨ b = 4 ∨ b = 10) := by omega
  have h2 : p = 0 ∨ p = 1 ∨ p = 2 ∨ p = 3 ∨ p = 4 := by omega
  rcases h1 with rfl | rfl | rfl | rfl <;> rcases h2 with rfl | rfl | rfl | rfl | rfl <;> first | decide | omega
theorem few_words {D : Ch} (hok : OkCh D) (h : D.base ^ D.places.length ≤ 256) : (wordsA D).length ≤ 256 := by
  have h1 := wordsA_ends D
  have h2 := (ends_bd hok.b2 D.places.length 0 D.start).2
  omega
end Go.Proofs.Ytbcfbkhbangeoaa
