/- Walks: the greatest common divisor and the text of a symbol, in the laws and the reference. -/
import Derived.Test.YtaiieodllhoelaaText
import Derived.Test.YtaiieodllhoelaaCube
namespace Go.Proofs.Ytaiieodllhoelaa
set_option maxRecDepth 100000
open Go.RowKit

set_option maxHeartbeats 1000000 in
theorem laws_gcd (a b : Nat) (w : World) (ha : a ≤ 1000000) (hb : b ≤ 1000000) : Calls Try.prog 59 #[.int .i64 a, .int .i64 b] w (Same (.int .i64 (Nat.gcd a b)) w) := by
  go_enter Try.func59, Try.ntmps59
  go_wp2_with fail
  go_loopw [0, 1] (fun v0 v1 wr => ∃ (x y : Nat), v0 = .int .i64 x ∧ v1 = .int .i64 y ∧ Nat.gcd x y = Nat.gcd a b ∧ x ≤ 1000000 ∧ y ≤ 1000000 ∧ wr = w) (fun _ v1 _ => (intOf v1).toNat)
  case atStart => exact ⟨a, b, rfl, rfl, rfl, ha, hb, rfl⟩
  case round =>
    obtain ⟨x, y, rfl, rfl, hg, hx, hy, rfl⟩ := hrel
    by_cases hlt : 0 < y
    · have hm : ((x : Nat) : Int).tmod (y : Int) = ((x % y : Nat) : Int) := by rw [Int.tmod_eq_emod_of_nonneg (by omega)]; exact (Int.natCast_emod x y).symm
      have hml : x % y < y := Nat.mod_lt _ hlt
      have HG := Lib.hid hg
      have HM := Lib.hid hm
      clear hg
      go_wp2_with fail
      have hm := HM.out
      have he : ((x : Int) % (y : Int)) = ((x % y : Nat) : Int) := (Int.natCast_emod x y).symm
      rw [he]
      exact ⟨⟨y, x % y, rfl, rfl, by rw [← HG.out, Nat.gcd_comm x y, Nat.gcd_rec y x, Nat.gcd_comm], hy, by omega, trivial⟩, by simp only [intOf]; omega⟩
    · obtain rfl : y = 0 := by omega
      have HG := Lib.hid hg
      clear hg
      go_wp2_with fail
      go_ret
      exact ⟨ri (by rw [← HG.out, Nat.gcd_zero_right]), rfl⟩
set_option maxHeartbeats 1000000 in
theorem spec_SymbolOf (d : Int) (w : World) (h0 : 0 ≤ d) (h1 : d ≤ 35) : Calls Try.prog 49 #[.int .i64 d] w (Ret2 (.string (textOf [d])) (.bool true) w) := by
  have HI := Lib.hid (fun W => spec_in d 0 35 W)
  rw [show inB d 0 35 = true from inB_t.2 (by omega)] at HI
  have HS := Lib.hid (fun W => spec_symbol d W h0 h1)
  have hr := run_bytes_text (w.alloc (.cells #[.int .u8 (sym d)] 5)) _ (some ⟨w.heap.size, 0, none⟩) 1 1 [sym d] (own_lit1 w 5 (.int .u8 (sym d)))
  go_enter Try.func49, Try.ntmps49
  go_wp2_with (first | ((with_reducible refine (HI.out _).mono ?_); rintro e w1 ⟨rfl, rfl⟩) | ((with_reducible refine (HS.out _).mono ?_); rintro e w1 ⟨rfl, rfl⟩))
  go_ret2
  exact ⟨rfl, (Ext.refl _).alloc _⟩
end Go.Proofs.Ytaiieodllhoelaa
