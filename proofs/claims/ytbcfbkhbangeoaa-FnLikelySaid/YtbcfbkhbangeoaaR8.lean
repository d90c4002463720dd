/- Walks: what the laws choose out of bytes. -/
import Derived.Test.YtbcfbkhbangeoaaDraw
import Derived.Test.YtbcfbkhbangeoaaRankM
import Derived.Test.YtbcfbkhbangeoaaStrs
namespace Go.Proofs.Ytbcfbkhbangeoaa
set_option maxRecDepth 100000
open Go.RowKit

/-- the number that a law chooses -/
def r8 (l : List UInt8) (i n : Int) : Int := if n ≤ 1 ∨ (l.length : Int) ≤ i then 0 else ((l.getD i.toNat 0).toNat : Int) % n
theorem r8_bd (l : List UInt8) (i n : Int) (hn : 1 ≤ n) : 0 ≤ r8 l i n ∧ r8 l i n < n := by
  unfold r8
  split
  · omega
  · exact ⟨Int.emod_nonneg _ (by omega), Int.emod_lt_of_pos _ (by omega)⟩
set_option maxHeartbeats 400000 in
theorem laws_r8 (a : Option Addr) (len c : Nat) (l : List UInt8) (i n : Int) (w : World) (hv : Bytes w a len c l) (_hl : len ≤ 4611686018427387904) (hi : 0 ≤ i) (hi2 : i ≤ 1000000) :
    Calls Try.prog 16 #[.slice a len c, .int .i64 i, .int .i64 n] w (Same (.int .i64 (r8 l i n)) w) := by
  obtain ⟨k, rfl⟩ := Int.eq_ofNat_of_zero_le hi
  by_cases h1 : n ≤ 1
  · have HB := Lib.hid (show r8 l k n = 0 by simp [r8, h1])
    clear hv
    go_enter Try.func16, Try.ntmps16
    go_wp2
    go_ret
    exact ⟨ri HB.out.symm, rfl⟩
  · by_cases h2 : k < len
    · obtain ⟨b, off, hia, x, hx, hxe, hc⟩ := hv.at 37 5 und_bytes cell_uint8 k h2 .i64
      have HB := Lib.hid (show r8 l k n = (x : Int) % n by rw [r8, if_neg (by rw [hv.len]; omega), hxe, Int.toNat_natCast])
      clear hv hxe
      go_enter Try.func16, Try.ntmps16
      go_wp2
      go_ret
      exact ⟨ri HB.out.symm, rfl⟩
    · have HB := Lib.hid (show r8 l k n = 0 by rw [r8, if_pos (by rw [hv.len]; omega)])
      clear hv
      go_enter Try.func16, Try.ntmps16
      go_wp2
      go_ret
      exact ⟨ri HB.out.symm, rfl⟩
set_option maxHeartbeats 400000 in
theorem laws_r8Long (a a' : Option Addr) (n c n' c' : Nat) (w : World) (hn : n ≤ 9223372036854775807) (hn' : n' ≤ 9223372036854775807) :
    Calls Try.prog 14 #[.slice a n c, .slice a' n' c'] w (Same (.bool (decide (48 < n ∨ 48 < n'))) w) := by
  by_cases h : 48 < n
  · go_enter Try.func14, Try.ntmps14
    go_wp2
    go_ret
    exact ⟨rb (by simp), rfl⟩
  · go_enter Try.func14, Try.ntmps14
    go_wp2
    go_ret
    exact ⟨rb (Bool.eq_iff_iff.2 (by simp; omega)), rfl⟩
end Go.Proofs.Ytbcfbkhbangeoaa

/- Walks: what the laws choose and how they name symbols. -/
namespace Go.Proofs.Ytbcfbkhbangeoaa
set_option maxRecDepth 100000
open Go.RowKit

theorem sym_all : ∀ m : Fin 36, ((⟨#[48, 49, 50, 51, 52, 53, 54, 55, 56, 57, 65, 66, 67, 68, 69, 70, 71, 72, 73, 74, 75, 76, 77, 78, 79, 80, 81, 82, 83, 84, 85, 86, 87, 88, 89, 90]⟩ : ByteArray).extract m.val (m.val + 1)) = textOf [(m.val : Int)] := by decide +kernel
theorem sym_at (d : Nat) (h : d ≤ 35) : ((⟨#[48, 49, 50, 51, 52, 53, 54, 55, 56, 57, 65, 66, 67, 68, 69, 70, 71, 72, 73, 74, 75, 76, 77, 78, 79, 80, 81, 82, 83, 84, 85, 86, 87, 88, 89, 90]⟩ : ByteArray).extract d (d + 1)) = textOf [(d : Int)] := sym_all ⟨d, by omega⟩
theorem rs {a b : ByteArray} (h : a = b) : Ending.returned (.string a) = .returned (.string b) := by rw [h]
set_option maxHeartbeats 400000 in
theorem laws_r8Symbol (d : Int) (w : World) (h0 : 0 ≤ d) (h1 : d ≤ 35) : Calls Try.prog 17 #[.int .i64 d] w (Same (.string (textOf [d])) w) := by
  obtain ⟨k, rfl⟩ := Int.eq_ofNat_of_zero_le h0
  have HA := Lib.hid (sym_at k (by omega))
  go_enter Try.func17, Try.ntmps17
  go_wp2
  go_ret
  exact ⟨rs (by first | exact HA.out | (rw [← HA.out]; congr 1)), rfl⟩
end Go.Proofs.Ytbcfbkhbangeoaa
