/- What an argument of a law reads as, out of the form's own readings. Conditions: none. -/
import Derived.Test.YtccoopnoakhedaaBase
import Derived.ProofKit
import Derived.OpenShut
import Derived.ShutString
import Derived.ChangeOld
import Derived.Below
import Derived.Lib.SmallJoins
import Derived.Test.YtccoopnoakhedaaChg
import Derived.Test.YtccoopnoakhedaaW2
namespace Go.Proofs.Ytccoopnoakhedaa
set_option maxRecDepth 100000
open Go.ChangeShapes Go.WideShapes Go.ChangeAt Go.RowKit
open Go.ChangeMaps (open_string shut_string)
open Go.Joins

theorem own : ownKnob Try.prog.godebug = none := by kernel_rfl
theorem laidOut : laidOutB Try.prog = true := by kernel_rfl

/-- each number fits -/
def Fits (l : List Int) : Prop := ∀ n ∈ l, (Lit.int .i64 n).wf = true

/-- a slice of numbers that came in -/
theorem open_Ints {H : Type} {enc : TypeId × Value → H} {W : World} {base : Nat} {spare : Nat → Bool} {held : Bool} {fuel : Nat} {cs : List Value} {x : DataW H × List MemPlace}
    (h : DataW.trod enc Try.prog W base spare held fuel 25 cs = some x) : ∃ a len c l, cs = [.slice a len c] ∧ Ints W a len c l ∧ Fits l ∧ len ≤ maxLen := by
  rcases open_ints und_int64s und_int64 cell_int64 h with ⟨hcs, _⟩ | ⟨ad, l, c, zs, hcs, _, hl, hm, hz, _, hcell, hwz⟩
  · exact ⟨none, 0, 0, [], hcs, ⟨rfl, Nat.le_refl _, fun h => by omega⟩, fun _ h => (by cases h), Nat.zero_le _⟩
  · have hlz : l ≤ zs.length := by rw [hz]; split <;> omega
    refine ⟨some ad, l, c, zs.take l, hcs, ⟨by simp [I_len]; omega, hl, fun h0 => ?_⟩, fun n hn => hwz n (List.mem_of_mem_take hn), by omega⟩
    have h1 := hcell 0 (by omega)
    have hs : ad.spot = none := by
      rw [Addr.add_zero'] at h1
      unfold World.cell? at h1
      split at h1
      · cases hsp : ad.spot with
        | none => rfl
        | some s => rw [hsp] at h1; simp at h1
      · cases h1
    obtain ⟨b, off, sp⟩ := ad
    simp only at hs
    subst hs
    refine ⟨b, off, rfl, fun k hk => ?_⟩
    rw [I_getD _ _ (by simp; omega)]
    have := hcell k (by omega)
    rw [Addr.add_lit] at this
    rw [this]
    simp [List.getD_eq_getElem?_getD, hk]

theorem maxLen_eq : maxLen = 9223372036854775807 := rfl
/-- an int64 -/
def In64 (x : Int) : Prop := -9223372036854775808 ≤ x ∧ x ≤ 9223372036854775807
theorem Fits.at {l : List Int} (h : Fits l) {x : Int} (hx : x ∈ l) : In64 x := bounds_i64 (h x hx)

section
variable {H : Type} {enc : TypeId × Value → H} {W : World} {base : Nat} {spare : Nat → Bool} {held : Bool}
theorem opn_ints {r : Reach} {b0 : Nat} {v : Value} {d : DataW H} {p : List MemPlace} (hv : Value.okWide Try.prog W r b0 25 v) (h : DataW.Trod enc Try.prog W base spare held 25 v d p) :
    ∃ a n c l, v = .slice a n c ∧ Ints W a n c l ∧ Fits l ∧ n ≤ 9223372036854775807 := by
  obtain ⟨a0, n0, c0, rfl⟩ := okWide_slice und_int64s hv
  obtain ⟨fuel, hf⟩ := h
  obtain ⟨_, _, _, l, hcs, hi, hfit, hm⟩ := open_Ints hf
  simp [Value.cells] at hcs
  obtain ⟨rfl, rfl, rfl⟩ := hcs
  exact ⟨a0, n0, c0, l, rfl, hi, hfit, hm⟩
theorem opn_str {r : Reach} {b0 : Nat} {v : Value} {d : DataW H} {p : List MemPlace} (hv : Value.okWide Try.prog W r b0 9 v) (h : DataW.Trod enc Try.prog W base spare held 9 v d p) :
    ∃ s, v = .string s ∧ s.size ≤ 9223372036854775807 := by
  obtain ⟨s, rfl, _, _, hs⟩ := open_string Try.underlying9 hv h
  exact ⟨s, rfl, hs⟩
theorem opn_int {r : Reach} {b0 : Nat} {v : Value} {d : DataW H} {p : List MemPlace} (hv : Value.okWide Try.prog W r b0 2 v) (h : DataW.Trod enc Try.prog W base spare held 2 v d p) :
    ∃ x, v = .int .i64 x ∧ In64 x := by
  obtain ⟨x, rfl, _, _, hs⟩ := open_int und_int64 hv h
  exact ⟨x, rfl, bounds_i64 hs⟩
end
end Go.Proofs.Ytccoopnoakhedaa

/- Walks: the laws' helpers on lists of numbers: alike lists; marks behind others. -/
namespace Go.Proofs.Ytccoopnoakhedaa
set_option maxRecDepth 100000
open Go.RowKit

end Go.Proofs.Ytccoopnoakhedaa
