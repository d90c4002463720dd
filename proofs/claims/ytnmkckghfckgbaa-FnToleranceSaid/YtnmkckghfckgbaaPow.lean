/- Walks: powers that are small enough. -/
import Derived.Test.YtnmkckghfckgbaaWords
namespace Go.Proofs.Ytnmkckghfckgbaa
set_option maxRecDepth 100000
open Go.RowKit

theorem pow_no {b : Int} {k n : Nat} {m p : Int} (hb : 2 ≤ b) (hp : p = b ^ k) (hk : k < n) (h : m / b < p) : ¬ b ^ n ≤ m := by
  have h1 : m < b ^ (k + 1) := by
    rw [Int.pow_succ, ← hp]
    have := Int.lt_mul_of_ediv_lt (c := b) (a := m) (b := p) (by omega) h
    exact this
  have h2 : b ^ (k + 1) ≤ b ^ n := by
    have : ∀ j, b ^ (k + 1) ≤ b ^ (k + 1 + j) := by
      intro j
      induction j with
      | zero => exact Int.le_refl _
      | succ j ih =>
        have h0 : 0 < b ^ (k + 1 + j) := Int.pow_pos (by omega)
        have e : b ^ (k + 1 + (j + 1)) = b ^ (k + 1 + j) * b := Int.pow_succ b (k + 1 + j)
        have : b ^ (k + 1 + j) * 1 ≤ b ^ (k + 1 + j) * b := Int.mul_le_mul_of_nonneg_left (by omega) (by omega)
        omega
    have := this (n - (k + 1))
    rwa [show k + 1 + (n - (k + 1)) = n from by omega] at this
  omega
theorem pow_step {b : Int} {m p : Int} (hb : 2 ≤ b) (h1 : 1 ≤ p) (h : p ≤ m / b) : 1 ≤ p * b ∧ p * b ≤ m := by
  refine ⟨?_, Int.mul_le_of_le_ediv (by omega) h⟩
  have : p * 1 ≤ p * b := Int.mul_le_mul_of_nonneg_left (by omega) (by omega)
  omega


def manyB (b n : Int) : Bool := baseB b && (inB n 1 20 && decide (b ^ n.toNat ≤ 1000000000000000))
theorem manyB_base {b n : Int} (h : baseB b = false) : manyB b n = false := by simp [manyB, h]
theorem manyB_out {b n : Int} (h : inB n 1 20 = false) : manyB b n = false := by simp [manyB, h]
theorem manyB_in {b : Int} {n : Nat} (hb : baseB b = true) (h : inB n 1 20 = true) : manyB b n = decide (b ^ n ≤ 1000000000000000) := by simp [manyB, h, hb]

end Go.Proofs.Ytnmkckghfckgbaa
