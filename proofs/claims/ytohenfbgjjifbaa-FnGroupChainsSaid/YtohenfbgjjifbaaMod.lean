/- Walks: the remainder that is not negative, in the reference. -/
import Derived.Test.YtohenfbgjjifbaaW1
namespace Go.Proofs.Ytohenfbgjjifbaa
set_option maxRecDepth 100000
open Go.RowKit

set_option maxHeartbeats 400000 in
theorem spec_mod (x m : Int) (w : World) (h0 : 1 ≤ m) (h1 : m ≤ 1000000000000000) (hx : -9223372036854775807 ≤ x) (hx2 : x ≤ 9223372036854775807) : Calls Try.prog 61 #[.int .i64 x, .int .i64 m] w (Same (.int .i64 (x % m)) w) := by
  have h2 := Int.emod_nonneg x (show m ≠ 0 by omega)
  have h3 := Int.emod_lt_of_pos x (show 0 < m by omega)
  have ht : x.tmod m = x % m ∨ (x.tmod m = x % m - m) := by
    rcases Int.le_total 0 x with h | h
    · exact .inl (Int.tmod_eq_emod_of_nonneg h)
    · rw [Int.tmod_eq_emod]
      split
      · left; omega
      · right; rw [Int.natAbs_of_nonneg (show 0 ≤ m by omega)]
  by_cases hn : 0 ≤ x
  · go_enter Try.func61, Try.ntmps61
    go_wp2
    go_ret
    exact ⟨rfl, rfl⟩
  · have hz : x.tmod m ≤ 0 := by
      have := Int.neg_tmod (-x) m
      rw [Int.neg_neg] at this
      have h := Int.tmod_nonneg m (show 0 ≤ -x by omega)
      omega
    have hr : x % m = (if x.tmod m < 0 then x.tmod m + m else x.tmod m) := by
      split <;> omega
    have hm1 : -m < x.tmod m := Int.lt_tmod_of_pos x (by omega)
    have HR := Lib.hid hr
    clear hr ht h2 h3
    by_cases hl : x.tmod m < 0
    · have HR2 := Lib.hid (HR.out.trans (if_pos hl))
      clear HR
      go_enter Try.func61, Try.ntmps61
      go_wp2
      go_ret
      exact ⟨ri HR2.out.symm, rfl⟩
    · have HR2 := Lib.hid (HR.out.trans (if_neg hl))
      clear HR
      go_enter Try.func61, Try.ntmps61
      go_wp2
      go_ret
      exact ⟨ri HR2.out.symm, rfl⟩
end Go.Proofs.Ytohenfbgjjifbaa
