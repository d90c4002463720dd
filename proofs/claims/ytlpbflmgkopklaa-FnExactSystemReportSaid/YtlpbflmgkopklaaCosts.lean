/- Walks: costs. -/
import Derived.Test.YtlpbflmgkopklaaW2
namespace Go.Proofs.Ytlpbflmgkopklaa
set_option maxRecDepth 100000
open Go.RowKit

def costsB (l : List Int) : Bool := decide (l.length = 6) && belowB l 1001
theorem costsB_no {l : List Int} (h : l.length ≠ 6) : costsB l = false := by simp [costsB, h]
theorem costsB_six {l : List Int} (h : l.length = 6) : costsB l = belowB l 1001 := by simp [costsB, h]

set_option maxHeartbeats 400000 in
theorem l09Costs (a : Option Addr) (len c : Nat) (l : List Int) (w : World) (hv : Ints w a len c l) :
    Calls Try.prog 62 #[.slice a len c] w (Same (.bool (costsB l)) w) := by
  have HL := Lib.hid hv.len
  by_cases h6 : len = 6
  · subst h6
    have HB := Lib.hid (spec_below a 6 c l 1001 w hv (by omega) (by omega) (by omega))
    have HC := Lib.hid (costsB_six HL.out)
    clear hv
    go_enter Try.func62, Try.ntmps62
    go_wp2_with (refine HB.out.mono ?_; rintro e w' ⟨rfl, rfl⟩)
    go_ret
    exact ⟨rb HC.out.symm, rfl⟩
  · have HC := Lib.hid (costsB_no (l := l) (by rw [HL.out]; exact h6))
    have hb : ((len : Int) == 6) = false := by simp; omega
    clear hv h6
    go_enter Try.func62, Try.ntmps62
    go_wp2_with fail
    go_ret
    exact ⟨rb HC.out.symm, rfl⟩

theorem costs1 (x : Int) (w : World) : Calls Try.prog 97 #[.int .i64 x] w (Ret (.bool (!inB x 0 1000)) w) := by
  go_enter Try.func97, Try.ntmps97
  go_wp2_with (go_at_call 43; refine (impl_in _ _ _ _).mono ?_; rintro e w' ⟨rfl, rfl⟩)
  go_ret
  exact ⟨rfl, Ext.refl _⟩


theorem any_not_below (l : List Int) : (!(l.any fun x => !inB x 0 1000)) = belowB l 1001 := by
  simp [belowB, List.all_eq_not_any_not]


set_option maxHeartbeats 400000 in
theorem implIsCosts (a : Option Addr) (len c : Nat) (l : List Int) (w : World) (hv : Ints w a len c l) :
    Calls Try.prog 87 #[.slice a len c] w (Ret (.bool (costsB l)) w) := by
  have HL := Lib.hid hv.len
  by_cases h6 : len = 6
  · subst h6
    have HB := Lib.hid (containsFunc_ints a 6 c l 97 #[] (fun x => !inB x 0 1000) (ofI fun x => !inB x 0 1000) w hv (by omega) (fun x => rfl)
      ⟨fun _ _ => rfl, fun v hvl w' _ => by obtain ⟨x, _, rfl⟩ := mem_I hvl; exact costs1 x w'⟩)
    have HC := Lib.hid (costsB_six HL.out)
    have HD := Lib.hid (any_not_below l)
    clear hv
    go_enter Try.func87, Try.ntmps87
    go_wp2_with (refine HB.out.mono ?_; rintro e w' ⟨rfl, hx⟩)
    go_ret
    exact ⟨rb (by rw [HC.out, HD.out]), hx⟩
  · have HC := Lib.hid (costsB_no (l := l) (by rw [HL.out]; exact h6))
    have hb : ((len : Int) == 6) = false := by simp; omega
    clear hv h6
    go_enter Try.func87, Try.ntmps87
    go_wp2_with fail
    go_ret
    exact ⟨rb HC.out.symm, Ext.refl _⟩

end Go.Proofs.Ytlpbflmgkopklaa
