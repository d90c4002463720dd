/- Walks: powers that are small enough. -/
import Derived.Test.YtccoopnoakhedaaWords
namespace Go.Proofs.Ytccoopnoakhedaa
set_option maxRecDepth 100000
open Go.RowKit

theorem pow_no {b : Int} {k n : Nat} {m p : Int} (hb : 2 ≤ b) (hp : p = b ^ k) (hk : k < n) (h : m / b < p) : ¬ b ^ n ≤ m := by
  have h1 : m < b ^ (k + 1) := by
    rw [Int.pow_succ, ← hp]
    have := Int.lt_mul_of_ediv_lt (c := b) (a := m) (b := p) (by omega) h
    exact this
  have h2 : b ^ (k + 1) ≤ b ^ n := by
    have : ∀ j, b ^ (k + 1) ≤ b ^ (k + 1 + j) := by
      intro j
      induction j with
      | zero => exact Int.le_refl _
      | succ j ih =>
        have h0 : 0 < b ^ (k + 1 + j) := Int.pow_pos (by omega)
        have e : b ^ (k + 1 + (j + 1)) = b ^ (k + 1 + j) * b := Int.pow_succ b (k + 1 + j)
        have : b ^ (k + 1 + j) * 1 ≤ b ^ (k + 1 + j) * b := Int.mul_le_mul_of_nonneg_left (by omega) (by omega)
        omega
    have := this (n - (k + 1))
    rwa [show k + 1 + (n - (k + 1)) = n from by omega] at this
  omega
theorem pow_step {b : Int} {m p : Int} (hb : 2 ≤ b) (h1 : 1 ≤ p) (h : p ≤ m / b) : 1 ≤ p * b ∧ p * b ≤ m := by
  refine ⟨?_, Int.mul_le_of_le_ediv (by omega) h⟩
  have : p * 1 ≤ p * b := Int.mul_le_mul_of_nonneg_left (by omega) (by omega)
  omega

set_option maxHeartbeats 1000000 in
theorem impl_power (b m : Int) (n : Nat) (w : World) (hb : 2 ≤ b) (hb2 : b ≤ 1048576) (hm : 1 ≤ m) (hm2 : m ≤ 1000000000000000000) (hn : n ≤ 4611686018427387904) :
    Calls Try.prog 37 #[.int .i64 b, .int .i64 n, .int .i64 m] w (Same (.bool (decide (b ^ n ≤ m))) w) := by
  go_enter Try.func37, Try.ntmps37
  go_wp2
  go_loop [7, 9] (fun o i => ∃ (k : Nat) (p : Int), k ≤ n ∧ i = .int .i64 k ∧ o = .int .i64 p ∧ 1 ≤ p ∧ p ≤ m ∧ Hid (p = b ^ k)) (fun _ i => n - (intOf i).toNat)
  case atStart => exact ⟨0, 1, Nat.zero_le _, rfl, rfl, by omega, by omega, Lib.hid (Int.pow_zero b).symm⟩
  case round =>
    obtain ⟨k, p, hk, rfl, rfl, hp1, hp2, HP⟩ := hrel
    by_cases hlt : k < n
    · by_cases hq : p ≤ m / b
      · obtain ⟨h1, h2⟩ := pow_step hb hp1 hq
        have HN := Lib.hid (show p * b = b ^ (k + 1) by rw [Int.pow_succ, ← HP.out])
        go_wp2
        exact ⟨⟨k + 1, p * b, by omega, by go_num, rfl, h1, h2, HN⟩, by simp [intOf]; omega⟩
      · have HN := Lib.hid (pow_no (m := m) hb HP.out hlt (by omega))
        have hq' : m / b < p := by omega
        clear hq
        go_wp2
        go_ret
        exact ⟨rb (by have := HN.out; simp; omega), rfl⟩
    · go_wp2
      go_ret
      have : k = n := by omega
      subst this
      exact ⟨rb (by rw [← HP.out]; simp [hp2]), rfl⟩

def manyB (b n : Int) : Bool := baseB b && (inB n 1 20 && decide (b ^ n.toNat ≤ 1000000000000000))
theorem manyB_base {b n : Int} (h : baseB b = false) : manyB b n = false := by simp [manyB, h]
theorem manyB_out {b n : Int} (h : inB n 1 20 = false) : manyB b n = false := by simp [manyB, h]
theorem manyB_in {b : Int} {n : Nat} (hb : baseB b = true) (h : inB n 1 20 = true) : manyB b n = decide (b ^ n ≤ 1000000000000000) := by simp [manyB, h, hb]

end Go.Proofs.Ytccoopnoakhedaa
