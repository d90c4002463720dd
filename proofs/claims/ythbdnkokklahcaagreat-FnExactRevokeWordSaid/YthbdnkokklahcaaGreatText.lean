/- Walks: the word of digits, in the program and in the reference. -/
import Derived.Test.YthbdnkokklahcaaGreatVar
import Derived.Laws.BytesArg
namespace Go.Proofs.YthbdnkokklahcaaGreat
set_option maxRecDepth 100000
open Go.RowKit

theorem und_u8s : Tryz.prog.underlying 97 = some (.slice 5) := Tryz.underlying97
theorem info_u8 : (Tryz.prog.info? 5).map (fun i => (i.zero, i.size, i.bytes)) = some (some (.int .u8 0), 1, 1) := by kernel_rfl
theorem ru {a b : Int} (h : a = b) : Ending.returned (.int .u8 a) = .returned (.int .u8 b) := by rw [h]
def sym (d : Int) : Int := if d < 10 then 48 + d else 55 + d
def U (l : List Int) : List Value := l.map (.int .u8)
def textOf (ds : List Int) : ByteArray := strOfNums (ds.map sym)
theorem textOf_size (ds : List Int) : (textOf ds).size = ds.length := by rw [textOf, strOfNums_size, List.length_map]
def Dig36 (ds : List Int) : Prop := ∀ d ∈ ds, 0 ≤ d ∧ d ≤ 35
theorem Dig36.gi {ds : List Int} (h : Dig36 ds) {k : Nat} (hk : k < ds.length) : 0 ≤ gi ds k ∧ gi ds k ≤ 35 := h _ (by unfold Go.Proofs.YthbdnkokklahcaaGreat.gi; exact getD_mem ds 0 k hk)


theorem run_bytes_text (w : World) (B : Nat) (a : Option Addr) (n c : Nat) (xs : List Int) (ho : Own w B 5 a n c (U xs)) :
    (convert 97 9 (.slice a n c)).run Tryz.prog w = .ok (.string (strOfNums xs)) w := by
  have hl : xs.length = n := by have := ho.len; rwa [U, List.length_map] at this
  have hs := ho.sl
  rcases ho.2 with ⟨hv, h0⟩ | ⟨g, cap, cur, hv, _⟩
  · simp only [Value.slice.injEq] at hv
    obtain ⟨rfl, rfl, rfl⟩ := hv
    obtain rfl := List.eq_nil_of_length_eq_zero hl
    exact run_convert_bytes_nil _ 97 5 (by kernel_rfl) (by kernel_rfl) 0 0 9 (by kernel_rfl)
  · simp only [Value.slice.injEq, true_and] at hv
    obtain ⟨rfl, rfl⟩ := hv
    refine run_convert_bytes_arg _ 97 5 (by kernel_rfl) (by kernel_rfl) _ _ n c xs hl (fun i hi => ?_) 9 (by kernel_rfl)
    obtain ⟨b', off', ha, hc⟩ := hs.cells (by omega)
    simp only [Option.some.injEq, Addr.mk.injEq, and_true] at ha
    obtain ⟨rfl, rfl⟩ := ha
    rw [hc i hi]
    simp [U, List.getD_eq_getElem?_getD, show i < xs.length by omega]

theorem alpha_all : ∀ m : Fin 36, ((((⟨#[48, 49, 50, 51, 52, 53, 54, 55, 56, 57, 65, 66, 67, 68, 69, 70, 71, 72, 73, 74, 75, 76, 77, 78, 79, 80, 81, 82, 83, 84, 85, 86, 87, 88, 89, 90]⟩ : ByteArray)[m.val]'(by show m.val < 36; exact m.isLt)).toNat : Nat) : Int) = sym (m.val : Int) := by decide +kernel
theorem alpha_at (d : Int) (h0 : 0 ≤ d) (h1 : d ≤ 35) (h : d.toNat < (⟨#[48, 49, 50, 51, 52, 53, 54, 55, 56, 57, 65, 66, 67, 68, 69, 70, 71, 72, 73, 74, 75, 76, 77, 78, 79, 80, 81, 82, 83, 84, 85, 86, 87, 88, 89, 90]⟩ : ByteArray).size) : ((((⟨#[48, 49, 50, 51, 52, 53, 54, 55, 56, 57, 65, 66, 67, 68, 69, 70, 71, 72, 73, 74, 75, 76, 77, 78, 79, 80, 81, 82, 83, 84, 85, 86, 87, 88, 89, 90]⟩ : ByteArray)[d.toNat]'h).toNat : Nat) : Int) = sym d := by
  have := alpha_all ⟨d.toNat, by omega⟩
  simp only [Int.toNat_of_nonneg h0] at this
  exact this

end Go.Proofs.YthbdnkokklahcaaGreat
