/- Plain: the sizes of a new registry. -/
import Derived.Test.YtdekplfjnkbidaaLMk
namespace Go.Proofs.Ytdekplfjnkbidaa
set_option maxRecDepth 100000
theorem szresNewRegistry {D : Ch} {x : Int} (hs : SmallCh D) (h : chSize D ≤ 1048576) : szRg2 (newRes D x) ≤ 5000000 ∧ SmallCh (newRes D x).ch := by
  unfold newRes
  split
  · have := szCh2_le h
    refine ⟨?_, hs⟩
    show szCh2 D + 0 + 0 ≤ 5000000
    omega
  · exact ⟨by show (0 : Nat) ≤ _; omega, fun t h => by cases h⟩
end Go.Proofs.Ytdekplfjnkbidaa
