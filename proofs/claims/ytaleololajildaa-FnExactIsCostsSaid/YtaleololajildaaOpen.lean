/- What an argument of a law reads as, out of the form's own readings. Conditions: none. -/
import Derived.Test.YtaleololajildaaBase
import Derived.ProofKit
import Derived.OpenShut
import Derived.ShutString
import Derived.ChangeOld
import Derived.Below
namespace Go.Proofs.Ytaleololajildaa
open Go.ChangeShapes Go.WideShapes Go.ChangeAt Go.RowKit
open Go.ChangeMaps (open_string shut_string)

theorem own : ownKnob Try.prog.godebug = none := by kernel_rfl
theorem laidOut : laidOutB Try.prog = true := by kernel_rfl

/-- each number fits -/
def Fits (l : List Int) : Prop := ∀ n ∈ l, (Lit.int .i64 n).wf = true

/-- a slice of numbers that came in -/
theorem open_Ints {H : Type} {enc : TypeId × Value → H} {W : World} {base : Nat} {spare : Nat → Bool} {held : Bool} {fuel : Nat} {cs : List Value} {x : DataW H × List MemPlace}
    (h : DataW.trod enc Try.prog W base spare held fuel 22 cs = some x) : ∃ a len c l, cs = [.slice a len c] ∧ Ints W a len l ∧ Fits l ∧ len ≤ maxLen := by
  rcases open_ints und_int64s und_int64 cell_int64 h with ⟨hcs, _⟩ | ⟨ad, l, c, zs, hcs, _, hl, hm, hz, _, hcell, hwz⟩
  · exact ⟨none, 0, 0, [], hcs, ⟨rfl, fun h => by omega⟩, fun _ h => (by cases h), Nat.zero_le _⟩
  · have hlz : l ≤ zs.length := by rw [hz]; split <;> omega
    refine ⟨some ad, l, c, zs.take l, hcs, ⟨by simp [I_len]; omega, fun h0 => ?_⟩, fun n hn => hwz n (List.mem_of_mem_take hn), by omega⟩
    have h1 := hcell 0 (by omega)
    have hs : ad.spot = none := by
      rw [Addr.add_zero'] at h1
      unfold World.cell? at h1
      split at h1
      · cases hsp : ad.spot with
        | none => rfl
        | some s => rw [hsp] at h1; simp at h1
      · cases h1
    obtain ⟨b, off, sp⟩ := ad
    simp only at hs
    subst hs
    refine ⟨b, off, rfl, fun k hk => ?_⟩
    rw [I_getD _ _ (by simp; omega)]
    have := hcell k (by omega)
    rw [Addr.add_lit] at this
    rw [this]
    simp [List.getD_eq_getElem?_getD, List.getElem?_take, hk]
end Go.Proofs.Ytaleololajildaa
