/- Walks: the greatest common divisor and the text of a symbol, in the laws and the reference. -/
import Derived.Test.YtgnlabdikmbbgaaGreatDoorText
import Derived.Test.YtgnlabdikmbbgaaGreatDoorCube
namespace Go.Proofs.YtgnlabdikmbbgaaGreatDoor
set_option maxRecDepth 100000
open Go.RowKit

set_option maxHeartbeats 1000000 in
theorem laws_gcd (a b : Nat) (w : World) (ha : a ≤ 1000000) (hb : b ≤ 1000000) : Calls Tryz.prog 16 #[.int .i64 a, .int .i64 b] w (Same (.int .i64 (Nat.gcd a b)) w) := by
  go_enter Tryz.func16, Tryz.ntmps16
  go_wp2_with fail
  go_loopw [0, 1] (fun v0 v1 wr => ∃ (x y : Nat), v0 = .int .i64 x ∧ v1 = .int .i64 y ∧ Nat.gcd x y = Nat.gcd a b ∧ x ≤ 1000000 ∧ y ≤ 1000000 ∧ wr = w) (fun _ v1 _ => (intOf v1).toNat)
  case atStart => exact ⟨a, b, rfl, rfl, rfl, ha, hb, rfl⟩
  case round =>
    obtain ⟨x, y, rfl, rfl, hg, hx, hy, rfl⟩ := hrel
    by_cases hlt : 0 < y
    · have hm : ((x : Nat) : Int).tmod (y : Int) = ((x % y : Nat) : Int) := by rw [Int.tmod_eq_emod_of_nonneg (by omega)]; exact (Int.natCast_emod x y).symm
      have hml : x % y < y := Nat.mod_lt _ hlt
      have HG := Lib.hid hg
      have HM := Lib.hid hm
      clear hg
      go_wp2_with fail
      have hm := HM.out
      have he : ((x : Int) % (y : Int)) = ((x % y : Nat) : Int) := (Int.natCast_emod x y).symm
      rw [he]
      exact ⟨⟨y, x % y, rfl, rfl, by rw [← HG.out, Nat.gcd_comm x y, Nat.gcd_rec y x, Nat.gcd_comm], hy, by omega, trivial⟩, by simp only [intOf]; omega⟩
    · obtain rfl : y = 0 := by omega
      have HG := Lib.hid hg
      clear hg
      go_wp2_with fail
      go_ret
      exact ⟨ri (by rw [← HG.out, Nat.gcd_zero_right]), rfl⟩
end Go.Proofs.YtgnlabdikmbbgaaGreatDoor
