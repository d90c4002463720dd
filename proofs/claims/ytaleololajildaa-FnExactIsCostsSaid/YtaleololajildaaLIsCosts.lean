/- The law on IsCosts: the program's answer is the reference's, for every list; what came in is left as it was. Conditions: none. -/
import Derived.Test.YtaleololajildaaCosts
namespace Go.Proofs.Ytaleololajildaa
open Go.RowKit

set_option maxHeartbeats 400000 in
theorem lawIsCosts (a : Option Addr) (len c : Nat) (l : List Int) (w : World) (hv : Ints w a len l) :
    Calls Try.prog 3 #[.slice a len c] w (Ret (.bool true) w) := by
  have HL := Lib.hid hv.len
  have HV := Lib.hid hv
  clear hv
  by_cases h : len ≤ 1048576
  · go_enter Try.func3, Try.ntmps3
    go_wp2_with fail
    refine (toInts a len c l w HV.out (by omega)).mono ?_
    rintro e w1 ⟨a1, c1, rfl, ho1, hx1⟩
    rw [I_len, HL.out] at ho1 ⊢
    have HO1 := Lib.hid ho1
    clear ho1
    go_wp2_with fail
    refine (specIsCosts a1 len c1 l w1 HO1.out.ints).mono ?_
    rintro e w' ⟨rfl, rfl⟩
    go_wp2_with fail
    refine (toInts a len c l w1 (HV.out.ext hx1) (by omega)).mono ?_
    rintro e w2 ⟨a2, c2, rfl, ho2, hx2⟩
    rw [I_len, HL.out] at ho2 ⊢
    have HO2 := Lib.hid ho2
    clear ho2
    go_wp2_with fail
    refine (implIsCosts a2 len c2 l w2 HO2.out.ints).mono ?_
    rintro e w3 ⟨rfl, hx3⟩
    go_wp2_with fail
    refine (toInts a len c l w3 (HV.out.ext (hx1.trans (hx2.trans hx3))) (by omega)).mono ?_
    rintro e w4 ⟨a4, c4, rfl, ho4, hx4⟩
    rw [I_len, HL.out] at ho4 ⊢
    have HO4 := Lib.hid ho4
    clear ho4
    go_wp2_with fail
    refine (eqInts a2 a4 len len c2 c4 l l w4 (HO2.out.ints.ext (hx3.trans hx4)) HO4.out.ints (by omega) (by omega)).mono ?_
    rintro e w5 ⟨rfl, hx5⟩
    go_wp2
    go_ret
    exact ⟨rfl, hx1.trans (hx2.trans (hx3.trans (hx4.trans hx5)))⟩
  · go_enter Try.func3, Try.ntmps3
    go_wp2_with fail
    go_ret
    exact ⟨rfl, Ext.refl _⟩
end Go.Proofs.Ytaleololajildaa
