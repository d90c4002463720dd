/- Walks: slices.Clone of numbers; the search of best weights: what can be searched. -/
import Derived.Test.YtlpbflmgkopklaaPow
import Derived.Test.YtlpbflmgkopklaaTuples
import Derived.Test.YtlpbflmgkopklaaVar
namespace Go.Proofs.Ytlpbflmgkopklaa
set_option maxRecDepth 100000
open Go.RowKit


def searchB (base modulus places : Int) : Bool := inB places 1 20 && inB modulus 2 36 && baseB base && decide (base ^ places.toNat ≤ 1000000000000000) && decide (modulus ^ places.toNat ≤ 20000)

set_option maxHeartbeats 1000000 in
theorem impl_searchOk (base modulus places : Int) (w : World) : Calls Try.prog 51 #[.int .i64 base, .int .i64 modulus, .int .i64 places] w (Same (.bool (searchB base modulus places)) w) := by
  have HP := Lib.hid (impl_in places 1 20)
  have HM := Lib.hid (impl_in modulus 2 36)
  have HB := Lib.hid (impl_base base)
  cases hp : inB places 1 20
  · rw [hp] at HP
    have HV := Lib.hid (show searchB base modulus places = false by simp [searchB, hp])
    clear hp
    go_enter Try.func51, Try.ntmps51
    go_wp2_with ((with_reducible refine (HP.out _).mono ?_); rintro e w' ⟨rfl, rfl⟩)
    go_ret
    exact ⟨rb HV.out.symm, rfl⟩
  rw [hp] at HP
  cases hm : inB modulus 2 36
  · rw [hm] at HM
    have HV := Lib.hid (show searchB base modulus places = false by simp [searchB, hm])
    clear hp hm
    go_enter Try.func51, Try.ntmps51
    go_wp2_with (first | ((with_reducible refine (HP.out _).mono ?_); rintro e w' ⟨rfl, rfl⟩) | ((with_reducible refine (HM.out _).mono ?_); rintro e w' ⟨rfl, rfl⟩))
    go_ret
    exact ⟨rb HV.out.symm, rfl⟩
  rw [hm] at HM
  cases hb : baseB base
  · rw [hb] at HB
    have HV := Lib.hid (show searchB base modulus places = false by simp [searchB, hb])
    clear hp hm hb
    go_enter Try.func51, Try.ntmps51
    go_wp2_with (first | ((with_reducible refine (HP.out _).mono ?_); rintro e w' ⟨rfl, rfl⟩) | ((with_reducible refine (HM.out _).mono ?_); rintro e w' ⟨rfl, rfl⟩) | (go_at_call 49; refine (HB.out _).mono ?_; rintro e w' ⟨rfl, rfl⟩))
    go_ret
    exact ⟨rb HV.out.symm, rfl⟩
  rw [hb] at HB
  obtain ⟨p1, p2⟩ := inB_t.1 hp
  obtain ⟨m1, m2⟩ := inB_t.1 hm
  obtain ⟨b1, b2⟩ := baseB_t hb
  obtain ⟨n, rfl⟩ := Int.eq_ofNat_of_zero_le (show 0 ≤ places by omega)
  have HA := Lib.hid (impl_power base 1000000000000000 n w b1 (by omega) (by omega) (by omega) (by omega))
  have HC := Lib.hid (impl_power modulus 20000 n w m1 (by omega) (by omega) (by omega) (by omega))
  cases ha : decide (base ^ n ≤ 1000000000000000)
  · rw [ha] at HA
    have HV := Lib.hid (show searchB base modulus n = false by simp only [searchB, Int.toNat_natCast]; rw [ha]; simp)
    clear hp hm hb ha HC
    go_enter Try.func51, Try.ntmps51
    go_wp2_with (first | ((with_reducible refine (HP.out _).mono ?_); rintro e w' ⟨rfl, rfl⟩) | ((with_reducible refine (HM.out _).mono ?_); rintro e w' ⟨rfl, rfl⟩) | (go_at_call 49; refine (HB.out _).mono ?_; rintro e w' ⟨rfl, rfl⟩) | ((with_reducible refine HA.out.mono ?_); rintro e w' ⟨rfl, rfl⟩))
    go_ret
    exact ⟨rb HV.out.symm, rfl⟩
  · rw [ha] at HA
    have HV := Lib.hid (show searchB base modulus n = decide (modulus ^ n ≤ 20000) by simp only [searchB, Int.toNat_natCast]; rw [ha, hp, hm, hb]; simp)
    clear hp hm hb ha
    go_enter Try.func51, Try.ntmps51
    go_wp2_with (first | ((with_reducible refine (HP.out _).mono ?_); rintro e w' ⟨rfl, rfl⟩) | ((with_reducible refine (HM.out _).mono ?_); rintro e w' ⟨rfl, rfl⟩) | (go_at_call 49; refine (HB.out _).mono ?_; rintro e w' ⟨rfl, rfl⟩) | ((with_reducible refine HA.out.mono ?_); rintro e w' ⟨rfl, rfl⟩) | ((with_reducible refine HC.out.mono ?_); rintro e w' ⟨rfl, rfl⟩))
    go_ret
    exact ⟨rb HV.out.symm, rfl⟩
end Go.Proofs.Ytlpbflmgkopklaa
