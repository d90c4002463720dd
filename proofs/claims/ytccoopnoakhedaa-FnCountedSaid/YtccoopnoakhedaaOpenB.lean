/- What a slice of bytes of a law reads as. Conditions: none. -/
import Derived.Test.YtccoopnoakhedaaLInts
import Derived.Test.YtccoopnoakhedaaDraw
namespace Go.Proofs.Ytccoopnoakhedaa
set_option maxRecDepth 100000
open Go.ChangeShapes Go.WideShapes Go.ChangeAt Go.RowKit
open Go.Joins

theorem und_uint8 : Try.prog.underlying 5 = some (.int .u8) := Try.underlying5

/-- the bytes of numbers that fit -/
theorem u8_got {n : Int} (h : (Lit.int .u8 n).wf = true) : Value.int .u8 ((UInt8.ofNat n.toNat).toNat : Int) = .int .u8 n := by
  have h1 : 0 ≤ n ∧ n ≤ 255 := bounds_u8 h
  rw [UInt8.toNat_ofNat', Nat.mod_eq_of_lt (by omega), Int.toNat_of_nonneg h1.1]

/-- a slice of bytes that came in -/
theorem open_Bytes {H : Type} {enc : TypeId × Value → H} {W : World} {base : Nat} {spare : Nat → Bool} {held : Bool} {fuel : Nat} {cs : List Value} {x : DataW H × List MemPlace}
    (h : DataW.trod enc Try.prog W base spare held fuel 22 cs = some x) : ∃ a len c l, cs = [.slice a len c] ∧ Bytes W a len c l ∧ len ≤ maxLen := by
  rcases open_ints und_bytes und_uint8 cell_uint8 h with ⟨hcs, _⟩ | ⟨ad, l, c, zs, hcs, _, hl, hm, hz, _, hcell, hwz⟩
  · exact ⟨none, 0, 0, [], hcs, ⟨rfl, Nat.le_refl _, fun h => by omega⟩, Nat.zero_le _⟩
  · have hlz : l ≤ zs.length := by rw [hz]; split <;> omega
    refine ⟨some ad, l, c, (zs.take l).map fun n => UInt8.ofNat n.toNat, hcs, ⟨by simp [U8]; omega, hl, fun h0 => ?_⟩, by omega⟩
    have h1 := hcell 0 (by omega)
    have hs : ad.spot = none := by
      rw [Addr.add_zero'] at h1
      unfold World.cell? at h1
      split at h1
      · cases hsp : ad.spot with
        | none => rfl
        | some s => rw [hsp] at h1; simp at h1
      · cases h1
    obtain ⟨b, off, sp⟩ := ad
    simp only at hs
    subst hs
    refine ⟨b, off, rfl, fun k hk => ?_⟩
    have h2 := hcell k (by omega)
    rw [Addr.add_lit] at h2
    rw [h2]
    have hk' : k < zs.length := by omega
    have h3 := u8_got (hwz zs[k] (List.getElem_mem hk'))
    simp [U8, List.getD_eq_getElem?_getD, hk, hk'] at h3 ⊢
    exact h3.symm

section
variable {H : Type} {enc : TypeId × Value → H} {W : World} {base : Nat} {spare : Nat → Bool} {held : Bool}
theorem opn_bytes {r : Reach} {b0 : Nat} {v : Value} {d : DataW H} {p : List MemPlace} (hv : Value.okWide Try.prog W r b0 22 v) (h : DataW.Trod enc Try.prog W base spare held 22 v d p) :
    ∃ a n c l, v = .slice a n c ∧ Bytes W a n c l ∧ n ≤ 9223372036854775807 := by
  obtain ⟨a0, n0, c0, rfl⟩ := okWide_slice und_bytes hv
  obtain ⟨fuel, hf⟩ := h
  obtain ⟨_, _, _, l, hcs, hi, hm⟩ := open_Bytes hf
  simp [Value.cells] at hcs
  obtain ⟨rfl, rfl, rfl⟩ := hcs
  exact ⟨a0, n0, c0, l, rfl, hi, hm⟩
end
end Go.Proofs.Ytccoopnoakhedaa
