/- Walks: powers that are small enough. -/
import Derived.Test.YtefkefmhfoedcaaDoorWords
namespace Go.Proofs.YtefkefmhfoedcaaDoor
set_option maxRecDepth 100000
open Go.RowKit

theorem pow_no {b : Int} {k n : Nat} {m p : Int} (hb : 2 ≤ b) (hp : p = b ^ k) (hk : k < n) (h : m / b < p) : ¬ b ^ n ≤ m := by
  have h1 : m < b ^ (k + 1) := by
    rw [Int.pow_succ, ← hp]
    have := Int.lt_mul_of_ediv_lt (c := b) (a := m) (b := p) (by omega) h
    exact this
  have h2 : b ^ (k + 1) ≤ b ^ n := by
    have : ∀ j, b ^ (k + 1) ≤ b ^ (k + 1 + j) := by
      intro j
      induction j with
      | zero => exact Int.le_refl _
      | succ j ih =>
        have h0 : 0 < b ^ (k + 1 + j) := Int.pow_pos (by omega)
        have e : b ^ (k + 1 + (j + 1)) = b ^ (k + 1 + j) * b := Int.pow_succ b (k + 1 + j)
        have : b ^ (k + 1 + j) * 1 ≤ b ^ (k + 1 + j) * b := Int.mul_le_mul_of_nonneg_left (by omega) (by omega)
        omega
    have := this (n - (k + 1))
    rwa [show k + 1 + (n - (k + 1)) = n from by omega] at this
  omega
theorem pow_step {b : Int} {m p : Int} (hb : 2 ≤ b) (h1 : 1 ≤ p) (h : p ≤ m / b) : 1 ≤ p * b ∧ p * b ≤ m := by
  refine ⟨?_, Int.mul_le_of_le_ediv (by omega) h⟩
  have : p * 1 ≤ p * b := Int.mul_le_mul_of_nonneg_left (by omega) (by omega)
  omega


def manyB (b n : Int) : Bool := baseB b && (inB n 1 20 && decide (b ^ n.toNat ≤ 1000000000000000))
theorem manyB_base {b n : Int} (h : baseB b = false) : manyB b n = false := by simp [manyB, h]
theorem manyB_out {b n : Int} (h : inB n 1 20 = false) : manyB b n = false := by simp [manyB, h]
theorem manyB_in {b : Int} {n : Nat} (hb : baseB b = true) (h : inB n 1 20 = true) : manyB b n = decide (b ^ n ≤ 1000000000000000) := by simp [manyB, h, hb]

set_option maxHeartbeats 1000000 in
theorem spec_many (b n : Int) (w : World) : Calls Tryd.prog 39 #[.int .i64 b, .int .i64 n] w (Same (.bool (manyB b n)) w) := by
  have HB := Lib.hid (spec_base b w)
  cases hb : baseB b
  · rw [hb] at HB
    have HM := Lib.hid (manyB_base (n := n) hb)
    clear hb
    go_enter Tryd.func39, Tryd.ntmps39
    go_wp2_with (refine HB.out.mono ?_; rintro e w' ⟨rfl, rfl⟩)
    go_ret
    exact ⟨rb HM.out.symm, rfl⟩
  · rw [hb] at HB
    obtain ⟨h2, h36⟩ := baseB_t hb
    cases hi : inB n 1 20
    · have HM := Lib.hid (manyB_out (b := b) hi)
      rw [inB_f] at hi
      clear hb
      rcases hi with hi | hi
      · go_enter Tryd.func39, Tryd.ntmps39
        go_wp2_with (refine HB.out.mono ?_; rintro e w' ⟨rfl, rfl⟩)
        go_ret
        exact ⟨rb HM.out.symm, rfl⟩
      · go_enter Tryd.func39, Tryd.ntmps39
        go_wp2_with (refine HB.out.mono ?_; rintro e w' ⟨rfl, rfl⟩)
        go_ret
        exact ⟨rb HM.out.symm, rfl⟩
    · obtain ⟨n1, n2⟩ := inB_t.1 hi
      obtain ⟨n, rfl⟩ := Int.eq_ofNat_of_zero_le (show 0 ≤ n by omega)
      have HM := Lib.hid (manyB_in hb hi)
      clear hb hi
      go_enter Tryd.func39, Tryd.ntmps39
      go_wp2_with (refine HB.out.mono ?_; rintro e w' ⟨rfl, rfl⟩)
      go_loop [5, 6] (fun o i => ∃ (k : Nat) (p : Int), k ≤ n ∧ i = .int .i64 k ∧ o = .int .i64 p ∧ 1 ≤ p ∧ p ≤ 1000000000000000 ∧ Hid (p = b ^ k)) (fun _ i => n - (intOf i).toNat)
      case atStart => exact ⟨0, 1, Nat.zero_le _, rfl, rfl, by omega, by omega, Lib.hid (Int.pow_zero b).symm⟩
      case round =>
        obtain ⟨k, p, hk, rfl, rfl, hp1, hp2, HP⟩ := hrel
        by_cases hlt : k < n
        · by_cases hq : p ≤ 1000000000000000 / b
          · obtain ⟨h1, h2⟩ := pow_step h2 hp1 hq
            have HN := Lib.hid (show p * b = b ^ (k + 1) by rw [Int.pow_succ, ← HP.out])
            go_wp2
            exact ⟨⟨k + 1, p * b, by omega, by go_num, rfl, h1, h2, HN⟩, by simp [intOf]; omega⟩
          · have HN := Lib.hid (pow_no (m := 1000000000000000) h2 HP.out hlt (by omega))
            have hq' : 1000000000000000 / b < p := by omega
            clear hq
            go_wp2
            go_ret
            exact ⟨rb (by have := HN.out; rw [HM.out]; simp; omega), rfl⟩
        · go_wp2
          go_ret
          have : k = n := by omega
          subst this
          exact ⟨rb (by rw [HM.out, ← HP.out]; simp [hp2]), rfl⟩
end Go.Proofs.YtefkefmhfoedcaaDoor
