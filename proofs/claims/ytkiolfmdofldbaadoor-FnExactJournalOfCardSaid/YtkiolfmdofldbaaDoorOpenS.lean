/- What a list of texts of a law reads as. Conditions: none. -/
import Derived.Test.YtkiolfmdofldbaaDoorOpen
import Derived.Test.YtkiolfmdofldbaaDoorStrs
import Derived.SliceStrings
namespace Go.Proofs.YtkiolfmdofldbaaDoor
set_option maxRecDepth 100000
open Go.ChangeShapes Go.WideShapes Go.ChangeAt Go.RowKit
open Go.Joins

theorem und_str : Tryd.prog.underlying 9 = some .string := Tryd.underlying9
/-- a slice of texts that came in -/
theorem open_StrsS {H : Type} {enc : TypeId × Value → H} {W : World} {base : Nat} {spare : Nat → Bool} {held : Bool} {fuel : Nat} {cs : List Value} {x : DataW H × List MemPlace}
    (h : DataW.trod enc Tryd.prog W base spare held fuel 22 cs = some x) : ∃ a len c l, cs = [.slice a len c] ∧ Strs W a len c l ∧ (∀ s ∈ l, s.size ≤ maxLen) ∧ len ≤ maxLen := by
  rcases open_strings und_strs und_str cell_str h with ⟨hcs, _⟩ | ⟨ad, l, c, zs, hcs, _, hl, hm, hz, _, hcell, hwz⟩
  · exact ⟨none, 0, 0, [], hcs, ⟨rfl, Nat.le_refl _, fun h => by omega⟩, fun _ h => (by cases h), Nat.zero_le _⟩
  · have hlz : l ≤ zs.length := by rw [hz]; split <;> omega
    refine ⟨some ad, l, c, zs.take l, hcs, ⟨by simp [St_len]; omega, hl, fun h0 => ?_⟩, fun n hn => hwz n (List.mem_of_mem_take hn), by omega⟩
    have h1 := hcell 0 (by omega)
    have hs : ad.spot = none := by
      rw [Addr.add_zero'] at h1
      unfold World.cell? at h1
      split at h1
      · cases hsp : ad.spot with
        | none => rfl
        | some s => rw [hsp] at h1; simp at h1
      · cases h1
    obtain ⟨b, off, sp⟩ := ad
    simp only at hs
    subst hs
    refine ⟨b, off, rfl, fun k hk => ?_⟩
    have h2 := hcell k (by omega)
    rw [Addr.add_lit] at h2
    rw [h2]
    have hk' : k < zs.length := by omega
    simp [St, List.getD_eq_getElem?_getD, hk, hk']

section
variable {H : Type} {enc : TypeId × Value → H} {W : World} {base : Nat} {spare : Nat → Bool} {held : Bool}
theorem opn_strsS {r : Reach} {b0 : Nat} {v : Value} {d : DataW H} {p : List MemPlace} (hv : Value.okWide Tryd.prog W r b0 22 v) (h : DataW.Trod enc Tryd.prog W base spare held 22 v d p) :
    ∃ a n c l, v = .slice a n c ∧ Strs W a n c l ∧ n ≤ 9223372036854775807 ∧ (∀ s ∈ l, s.size ≤ 9223372036854775807) := by
  obtain ⟨a0, n0, c0, rfl⟩ := okWide_slice und_strs hv
  obtain ⟨fuel, hf⟩ := h
  obtain ⟨_, _, _, l, hcs, hi, hs, hm⟩ := open_StrsS hf
  simp [Value.cells] at hcs
  obtain ⟨rfl, rfl, rfl⟩ := hcs
  exact ⟨a0, n0, c0, l, rfl, hi, hm, hs⟩