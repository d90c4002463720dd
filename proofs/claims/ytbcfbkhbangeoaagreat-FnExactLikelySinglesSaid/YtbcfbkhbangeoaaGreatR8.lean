/- Walks: what the laws choose out of bytes. -/
import Derived.Test.YtbcfbkhbangeoaaGreatDraw
import Derived.Test.YtbcfbkhbangeoaaGreatRankM
import Derived.Test.YtbcfbkhbangeoaaGreatStrs
namespace Go.Proofs.YtbcfbkhbangeoaaGreat
set_option maxRecDepth 100000
open Go.RowKit

/-- the number that a law chooses -/
def r8 (l : List UInt8) (i n : Int) : Int := if n ≤ 1 ∨ (l.length : Int) ≤ i then 0 else ((l.getD i.toNat 0).toNat : Int) % n
theorem r8_bd (l : List UInt8) (i n : Int) (hn : 1 ≤ n) : 0 ≤ r8 l i n ∧ r8 l i n < n := by
  unfold r8
  split
  · omega
  · exact ⟨Int.emod_nonneg _ (by omega), Int.emod_lt_of_pos _ (by omega)⟩
set_option maxHeartbeats 400000 in
theorem laws_r8 (a : Option Addr) (len c : Nat) (l : List UInt8) (i n : Int) (w : World) (hv : Bytes w a len c l) (_hl : len ≤ 4611686018427387904) (hi : 0 ≤ i) (hi2 : i ≤ 1000000) :
    Calls Tryz.prog 10 #[.slice a len c, .int .i64 i, .int .i64 n] w (Same (.int .i64 (r8 l i n)) w) := by
  obtain ⟨k, rfl⟩ := Int.eq_ofNat_of_zero_le hi
  by_cases h1 : n ≤ 1
  · have HB := Lib.hid (show r8 l k n = 0 by simp [r8, h1])
    clear hv
    go_enter Tryz.func10, Tryz.ntmps10
    go_wp2
    go_ret
    exact ⟨ri HB.out.symm, rfl⟩
  · by_cases h2 : k < len
    · obtain ⟨b, off, hia, x, hx, hxe, hc⟩ := hv.at 22 5 und_bytes cell_uint8 k h2 .i64
      have HB := Lib.hid (show r8 l k n = (x : Int) % n by rw [r8, if_neg (by rw [hv.len]; omega), hxe, Int.toNat_natCast])
      clear hv hxe
      go_enter Tryz.func10, Tryz.ntmps10
      go_wp2
      go_ret
      exact ⟨ri HB.out.symm, rfl⟩
    · have HB := Lib.hid (show r8 l k n = 0 by rw [r8, if_pos (by rw [hv.len]; omega)])
      clear hv
      go_enter Tryz.func10, Tryz.ntmps10
      go_wp2
      go_ret
      exact ⟨ri HB.out.symm, rfl⟩
set_option maxHeartbeats 400000 in
theorem laws_r8Long (a a' : Option Addr) (n c n' c' : Nat) (w : World) (hn : n ≤ 9223372036854775807) (hn' : n' ≤ 9223372036854775807) :
    Calls Tryz.prog 5 #[.slice a n c, .slice a' n' c'] w (Same (.bool (decide (48 < n ∨ 48 < n'))) w) := by
  by_cases h : 48 < n
  · go_enter Tryz.func5, Tryz.ntmps5
    go_wp2
    go_ret
    exact ⟨rb (by simp), rfl⟩
  · go_enter Tryz.func5, Tryz.ntmps5
    go_wp2
    go_ret
    exact ⟨rb (Bool.eq_iff_iff.2 (by simp; omega)), rfl⟩
end Go.Proofs.YtbcfbkhbangeoaaGreat

/- Walks: what the laws choose and how they name symbols. -/
namespace Go.Proofs.YtbcfbkhbangeoaaGreat
set_option maxRecDepth 100000
open Go.RowKit

theorem sym_all : ∀ m : Fin 36, ((⟨#[48, 49, 50, 51, 52, 53, 54, 55, 56, 57, 65, 66, 67, 68, 69, 70, 71, 72, 73, 74, 75, 76, 77, 78, 79, 80, 81, 82, 83, 84, 85, 86, 87, 88, 89, 90]⟩ : ByteArray).extract m.val (m.val + 1)) = textOf [(m.val : Int)] := by decide +kernel
theorem sym_at (d : Nat) (h : d ≤ 35) : ((⟨#[48, 49, 50, 51, 52, 53, 54, 55, 56, 57, 65, 66, 67, 68, 69, 70, 71, 72, 73, 74, 75, 76, 77, 78, 79, 80, 81, 82, 83, 84, 85, 86, 87, 88, 89, 90]⟩ : ByteArray).extract d (d + 1)) = textOf [(d : Int)] := sym_all ⟨d, by omega⟩
theorem rs {a b : ByteArray} (h : a = b) : Ending.returned (.string a) = .returned (.string b) := by rw [h]
end Go.Proofs.YtbcfbkhbangeoaaGreat
