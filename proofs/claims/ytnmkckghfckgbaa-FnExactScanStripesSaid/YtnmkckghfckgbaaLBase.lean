/- What the laws on barcodes share. -/
import Derived.Test.YtnmkckghfckgbaaOpenBc
import Derived.Test.YtnmkckghfckgbaaHas
namespace Go.Proofs.Ytnmkckghfckgbaa
set_option maxRecDepth 100000
open Go.RowKit

theorem leftOf_no {n : Nat} (h : ¬ n ≤ 1048576) : leftOf 1048576 n = -1 := by unfold leftOf; rw [if_pos (by omega)]
theorem leftOf_yes {n : Nat} (h : n ≤ 1048576) : leftOf 1048576 n = 1048576 - n := by unfold leftOf; rw [if_neg (by omega)]
theorem bcSize_bd {D : Bc} (h : bcSize D ≤ 1048576) : D.pats.length ≤ 1048576 ∧ D.start.size ≤ 1048576 ∧ D.stop.size ≤ 1048576 ∧ ∀ p ∈ D.pats, p.size ≤ 1048576 := by
  unfold bcSize at h
  exact ⟨by omega, by omega, by omega, fun p hp => by have := sizeS_mem hp; omega⟩
end Go.Proofs.Ytnmkckghfckgbaa
