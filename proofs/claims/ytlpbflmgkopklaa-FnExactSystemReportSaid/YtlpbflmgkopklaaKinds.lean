/- Walks: kinds of errors, in the program and in the reference; remainders. -/
import Derived.Test.YtlpbflmgkopklaaWSum
import Derived.Test.YtlpbflmgkopklaaK
namespace Go.Proofs.Ytlpbflmgkopklaa
set_option maxRecDepth 100000
open Go.RowKit

/-- how many symbols an error of a kind has -/
def elen (k : Int) : Nat := if k = 0 then 1 else if k = 2 ∨ k = 4 then 3 else 2
def kindB (k base : Int) : Bool := inB k 0 5 && (decide (k ≠ 5) || decide (10 ≤ base))
theorem elen_bd (k : Int) : 1 ≤ elen k ∧ elen k ≤ 3 := by unfold elen; split <;> (try split) <;> omega

set_option maxHeartbeats 400000 in
theorem impl_elen (k : Int) (w : World) : Calls Try.prog 92 #[.int .i64 k] w (Same (.int .i64 (elen k)) w) := by
  by_cases h0 : k = 0
  · subst h0
    go_enter Try.func92, Try.ntmps92
    go_wp2
    go_ret
    exact ⟨rfl, rfl⟩
  by_cases h2 : k = 2
  · subst h2
    go_enter Try.func92, Try.ntmps92
    go_wp2
    go_ret
    exact ⟨rfl, rfl⟩
  by_cases h4 : k = 4
  · subst h4
    go_enter Try.func92, Try.ntmps92
    go_wp2
    go_ret
    exact ⟨rfl, rfl⟩
  have b0 : (k == 0) = false := by simp [h0]
  have b2 : (k == 2) = false := by simp [h2]
  have b4 : (k == 4) = false := by simp [h4]
  have HE := Lib.hid (show elen k = 2 by simp [elen, h0, h2, h4])
  clear h0 h2 h4
  go_enter Try.func92, Try.ntmps92
  go_wp2
  go_ret
  exact ⟨ri (by rw [HE.out]; rfl), rfl⟩

set_option maxHeartbeats 400000 in
theorem impl_last (n k : Int) (w : World) (h0 : 0 ≤ n) (h1 : n ≤ 4611686018427387904) : Calls Try.prog 80 #[.int .i64 n, .int .i64 k] w (Same (.int .i64 (n - elen k)) w) := by
  have hb := elen_bd k
  have HE := Lib.hid (impl_elen k)
  generalize elen k = e at *
  go_enter Try.func80, Try.ntmps80
  go_wp2_with (go_at_call 92; refine (HE.out _).mono ?_; rintro e w' ⟨rfl, rfl⟩)
  go_ret
  exact ⟨rfl, rfl⟩

set_option maxHeartbeats 400000 in
theorem impl_kind (k base : Int) (w : World) : Calls Try.prog 59 #[.int .i64 k, .int .i64 base] w (Same (.bool (kindB k base)) w) := by
  have HI := Lib.hid (impl_in k 0 5)
  cases hi : inB k 0 5
  · rw [hi] at HI
    have HK := Lib.hid (show kindB k base = false by simp [kindB, hi])
    clear hi
    go_enter Try.func59, Try.ntmps59
    go_wp2_with (refine (HI.out _).mono ?_; rintro e w' ⟨rfl, rfl⟩)
    go_ret
    exact ⟨rb HK.out.symm, rfl⟩
  · rw [hi] at HI
    by_cases h5 : k = 5
    · subst h5
      have HK := Lib.hid (show kindB 5 base = decide (10 ≤ base) by simp [kindB, inB])
      clear hi
      go_enter Try.func59, Try.ntmps59
      go_wp2_with (refine (HI.out _).mono ?_; rintro e w' ⟨rfl, rfl⟩)
      go_ret
      exact ⟨rb HK.out.symm, rfl⟩
    · have HK := Lib.hid (show kindB k base = true by simp [kindB, hi, h5])
      have b5 : (k != 5) = true := by simp [h5]
      clear hi h5
      go_enter Try.func59, Try.ntmps59
      go_wp2_with (refine (HI.out _).mono ?_; rintro e w' ⟨rfl, rfl⟩)
      go_ret
      exact ⟨rb HK.out.symm, rfl⟩

/-- v is a multiple of m -/
def hit (v m : Int) : Bool := v % m == 0
theorem hit_tmod (v m : Int) : (v.tmod m == 0) = hit v m := by
  unfold hit
  rw [Bool.eq_iff_iff]
  simp only [beq_iff_eq]
  exact Int.dvd_iff_tmod_eq_zero.symm.trans Int.dvd_iff_emod_eq_zero

set_option maxHeartbeats 400000 in
theorem spec_mod (x m : Int) (w : World) (h0 : 1 ≤ m) (h1 : m ≤ 1000000000000000) (hx : -9223372036854775807 ≤ x) (hx2 : x ≤ 9223372036854775807) : Calls Try.prog 94 #[.int .i64 x, .int .i64 m] w (Same (.int .i64 (x % m)) w) := by
  have h2 := Int.emod_nonneg x (show m ≠ 0 by omega)
  have h3 := Int.emod_lt_of_pos x (show 0 < m by omega)
  have ht : x.tmod m = x % m ∨ (x.tmod m = x % m - m) := by
    rcases Int.le_total 0 x with h | h
    · exact .inl (Int.tmod_eq_emod_of_nonneg h)
    · rw [Int.tmod_eq_emod]
      split
      · left; omega
      · right; rw [Int.natAbs_of_nonneg (show 0 ≤ m by omega)]
  by_cases hn : 0 ≤ x
  · go_enter Try.func94, Try.ntmps94
    go_wp2
    go_ret
    exact ⟨rfl, rfl⟩
  · have hz : x.tmod m ≤ 0 := by
      have := Int.neg_tmod (-x) m
      rw [Int.neg_neg] at this
      have h := Int.tmod_nonneg m (show 0 ≤ -x by omega)
      omega
    have hr : x % m = (if x.tmod m < 0 then x.tmod m + m else x.tmod m) := by
      split <;> omega
    have hm1 : -m < x.tmod m := Int.lt_tmod_of_pos x (by omega)
    have HR := Lib.hid hr
    clear hr ht h2 h3
    by_cases hl : x.tmod m < 0
    · have HR2 := Lib.hid (HR.out.trans (if_pos hl))
      clear HR
      go_enter Try.func94, Try.ntmps94
      go_wp2
      go_ret
      exact ⟨ri HR2.out.symm, rfl⟩
    · have HR2 := Lib.hid (HR.out.trans (if_neg hl))
      clear HR
      go_enter Try.func94, Try.ntmps94
      go_wp2
      go_ret
      exact ⟨ri HR2.out.symm, rfl⟩


/-- at how many places an error of a kind is possible; -1: the base has not this kind -/
def placesF (k base : Int) (n : Nat) : Int := if kindB k base = true then max 0 ((n : Int) - elen k + 1) else -1

set_option maxHeartbeats 1000000 in
theorem spec_places (b : Nat) (W : Wt) (a : Option Addr) (n c : Nat) (k : Int) (w : World) (h : IsWt w b W a n c) (hn : n ≤ 4611686018427387904) :
    Calls Try.prog 82 #[.pointer (some ⟨b, 0, none⟩), .int .i64 k] w (Same (.int .i64 (placesF k W.base n)) w) := by
  obtain ⟨base, modulus, target, l⟩ := W
  obtain ⟨c0, c1, c2, c3, hw⟩ := h
  simp only at c0 c1 c2 c3 hw ⊢
  clear hw
  have HI := Lib.hid (spec_in k 0 5)
  cases hi : inB k 0 5
  · rw [hi] at HI
    have HK := Lib.hid (show placesF k base n = -1 by simp [placesF, kindB, hi])
    clear hi
    go_enter Try.func82, Try.ntmps82
    go_wp2_with (refine (HI.out _).mono ?_; rintro e w' ⟨rfl, rfl⟩)
    go_ret
    exact ⟨ri HK.out.symm, rfl⟩
  · rw [hi] at HI
    have hk := inB_t.1 hi
    clear hi
    have hcases : k = 0 ∨ k = 1 ∨ k = 2 ∨ k = 3 ∨ k = 4 ∨ k = 5 := by omega
    rcases hcases with rfl | rfl | rfl | rfl | rfl | rfl
    case inr.inr.inr.inr.inr =>
      by_cases hb : base < 10
      · have HK := Lib.hid (show placesF 5 base n = -1 by simp [placesF, kindB, inB, elen]; omega)
        go_enter Try.func82, Try.ntmps82
        go_wp2_with (refine (HI.out _).mono ?_; rintro e w' ⟨rfl, rfl⟩)
        go_ret
        exact ⟨ri HK.out.symm, rfl⟩
      · have HK := Lib.hid (show placesF 5 base n = max 0 ((n : Int) - 2 + 1) by rw [placesF, if_pos (by simp [kindB, inB]; omega)]; simp [elen])
        go_enter Try.func82, Try.ntmps82
        go_wp2_with (first | ((with_reducible refine (HI.out _).mono ?_); rintro e w' ⟨rfl, rfl⟩) | (go_at_call 93; refine (spec_max _ _ _).mono ?_; rintro e w' ⟨rfl, rfl⟩))
        go_ret
        exact ⟨ri HK.out.symm, rfl⟩
    all_goals
      have HK := Lib.hid (show ∀ k, kindB k base = true → placesF k base n = max 0 ((n : Int) - elen k + 1) from fun k h => if_pos h)
      go_enter Try.func82, Try.ntmps82
      go_wp2_with (first | ((with_reducible refine (HI.out _).mono ?_); rintro e w' ⟨rfl, rfl⟩) | (go_at_call 93; refine (spec_max _ _ _).mono ?_; rintro e w' ⟨rfl, rfl⟩))
      go_ret
      exact ⟨ri (by rw [HK.out _ (by simp [kindB, inB])]; simp [elen]), rfl⟩
end Go.Proofs.Ytlpbflmgkopklaa
