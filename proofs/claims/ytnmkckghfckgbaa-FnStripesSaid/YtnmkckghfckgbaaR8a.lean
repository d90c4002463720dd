/- Walks: what the laws choose out of bytes. -/
import Derived.Test.YtnmkckghfckgbaaDraw
namespace Go.Proofs.Ytnmkckghfckgbaa
set_option maxRecDepth 100000
open Go.RowKit

/-- the number that a law chooses -/
def r8 (l : List UInt8) (i n : Int) : Int := if n ≤ 1 ∨ (l.length : Int) ≤ i then 0 else ((l.getD i.toNat 0).toNat : Int) % n
theorem r8_bd (l : List UInt8) (i n : Int) (hn : 1 ≤ n) : 0 ≤ r8 l i n ∧ r8 l i n < n := by
  unfold r8
  split
  · omega
  · exact ⟨Int.emod_nonneg _ (by omega), Int.emod_lt_of_pos _ (by omega)⟩
set_option maxHeartbeats 400000 in
theorem laws_r8 (a : Option Addr) (len c : Nat) (l : List UInt8) (i n : Int) (w : World) (hv : Bytes w a len c l) (_hl : len ≤ 4611686018427387904) (hi : 0 ≤ i) (hi2 : i ≤ 1000000) :
    Calls Try.prog 21 #[.slice a len c, .int .i64 i, .int .i64 n] w (Same (.int .i64 (r8 l i n)) w) := by
  obtain ⟨k, rfl⟩ := Int.eq_ofNat_of_zero_le hi
  by_cases h1 : n ≤ 1
  · have HB := Lib.hid (show r8 l k n = 0 by simp [r8, h1])
    clear hv
    go_enter Try.func21, Try.ntmps21
    go_wp2
    go_ret
    exact ⟨ri HB.out.symm, rfl⟩
  · by_cases h2 : k < len
    · obtain ⟨b, off, hia, x, hx, hxe, hc⟩ := hv.at 32 5 und_bytes cell_uint8 k h2 .i64
      have HB := Lib.hid (show r8 l k n = (x : Int) % n by rw [r8, if_neg (by rw [hv.len]; omega), hxe, Int.toNat_natCast])
      clear hv hxe
      go_enter Try.func21, Try.ntmps21
      go_wp2
      go_ret
      exact ⟨ri HB.out.symm, rfl⟩
    · have HB := Lib.hid (show r8 l k n = 0 by rw [r8, if_pos (by rw [hv.len]; omega)])
      clear hv
      go_enter Try.func21, Try.ntmps21
      go_wp2
      go_ret
      exact ⟨ri HB.out.symm, rfl⟩
set_option maxHeartbeats 400000 in
theorem laws_r8Long (a a' : Option Addr) (n c n' c' : Nat) (w : World) (hn : n ≤ 9223372036854775807) (hn' : n' ≤ 9223372036854775807) :
    Calls Try.prog 19 #[.slice a n c, .slice a' n' c'] w (Same (.bool (decide (48 < n ∨ 48 < n'))) w) := by
  by_cases h : 48 < n
  · go_enter Try.func19, Try.ntmps19
    go_wp2
    go_ret
    exact ⟨rb (by simp), rfl⟩
  · go_enter Try.func19, Try.ntmps19
    go_wp2
    go_ret
    exact ⟨rb (Bool.eq_iff_iff.2 (by simp; omega)), rfl⟩
end Go.Proofs.Ytnmkckghfckgbaa
