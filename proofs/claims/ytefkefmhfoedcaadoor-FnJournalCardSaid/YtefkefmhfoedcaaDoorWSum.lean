/- Walks: WeightSum in the program and in the reference; the laws' helpers on weightings. -/
import Derived.Test.YtefkefmhfoedcaaDoorSum
namespace Go.Proofs.YtefkefmhfoedcaaDoor
set_option maxRecDepth 100000
open Go.RowKit

theorem isWt_box (w : World) (base modulus target : Int) (l : List Int) (a : Option Addr) (n c : Nat) (T : TypeId) (h : Ints w a n c l) :
    IsWt (w.alloc (.cells #[.int .i64 base, .int .i64 modulus, .int .i64 target, .slice a n c] T)) w.heap.size ⟨base, modulus, target, l⟩ a n c :=
  ⟨by go_simp, by go_simp, by go_simp, by go_simp, h.ext ((Ext.refl w).alloc _)⟩

theorem validB_base {W : Wt} (h : validB W = true) : 2 ≤ W.base ∧ W.base ≤ 36 := by
  unfold validB manyB at h
  simp only [Bool.and_eq_true] at h
  exact baseB_t h.1.1
theorem validB_mod {W : Wt} (h : validB W = true) : 2 ≤ W.modulus ∧ W.modulus ≤ 36 := by
  unfold validB at h
  simp only [Bool.and_eq_true] at h
  exact inB_t.1 h.2.1
theorem validB_target {W : Wt} (h : validB W = true) : 0 ≤ W.target ∧ W.target ≤ W.modulus - 1 := by
  unfold validB at h
  simp only [Bool.and_eq_true] at h
  exact inB_t.1 h.2.2.1
theorem validB_small {W : Wt} (h : validB W = true) : Small W.weights := by
  have h1 := validB_mod h
  unfold validB at h
  simp only [Bool.and_eq_true] at h
  exact belowB_small h.2.2.2 (by omega)
theorem validB_len {W : Wt} (h : validB W = true) : 1 ≤ W.weights.length ∧ W.weights.length ≤ 20 := by
  unfold validB manyB at h
  simp only [Bool.and_eq_true] at h
  have := inB_t.1 h.1.2.1
  omega

def sumRes (W : Wt) (s : List UInt8) : Int := if validB W && okWord W s then dot W.weights (digs s) % W.modulus else 0
def sumOk (W : Wt) (s : List UInt8) : Bool := validB W && okWord W s

theorem ret2_int {x y : Int} {a b : Bool} {w w' : World} (h1 : x = y) (h2 : a = b) (hx : Ext w w') : Ret2 (.int .i64 x) (.bool a) w (.returned (.tuple #[.int .i64 y, .bool b])) w' := by
  subst h1; subst h2; exact ⟨rfl, hx⟩




/-- a weighting of the call's own -/
def RetWt (W : Wt) (w : World) (e : Ending) (w' : World) : Prop :=
  ∃ a c, e = .returned (.agg #[.int .i64 W.base, .int .i64 W.modulus, .int .i64 W.target, .slice a W.weights.length c]) ∧ Own w' w.heap.size 2 a W.weights.length c (I W.weights) ∧ Ext w w'



end Go.Proofs.YtefkefmhfoedcaaDoor
