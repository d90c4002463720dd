/- Walks: WeightSum in the program and in the reference; the laws' helpers on weightings. -/
import Derived.Test.YtlpbflmgkopklaaSum
namespace Go.Proofs.Ytlpbflmgkopklaa
set_option maxRecDepth 100000
open Go.RowKit

theorem isWt_box (w : World) (base modulus target : Int) (l : List Int) (a : Option Addr) (n c : Nat) (T : TypeId) (h : Ints w a n c l) :
    IsWt (w.alloc (.cells #[.int .i64 base, .int .i64 modulus, .int .i64 target, .slice a n c] T)) w.heap.size ⟨base, modulus, target, l⟩ a n c :=
  ⟨by go_simp, by go_simp, by go_simp, by go_simp, h.ext ((Ext.refl w).alloc _)⟩

theorem validB_base {W : Wt} (h : validB W = true) : 2 ≤ W.base ∧ W.base ≤ 36 := by
  unfold validB manyB at h
  simp only [Bool.and_eq_true] at h
  exact baseB_t h.1.1
theorem validB_mod {W : Wt} (h : validB W = true) : 2 ≤ W.modulus ∧ W.modulus ≤ 36 := by
  unfold validB at h
  simp only [Bool.and_eq_true] at h
  exact inB_t.1 h.2.1
theorem validB_target {W : Wt} (h : validB W = true) : 0 ≤ W.target ∧ W.target ≤ W.modulus - 1 := by
  unfold validB at h
  simp only [Bool.and_eq_true] at h
  exact inB_t.1 h.2.2.1
theorem validB_small {W : Wt} (h : validB W = true) : Small W.weights := by
  have h1 := validB_mod h
  unfold validB at h
  simp only [Bool.and_eq_true] at h
  exact belowB_small h.2.2.2 (by omega)
theorem validB_len {W : Wt} (h : validB W = true) : 1 ≤ W.weights.length ∧ W.weights.length ≤ 20 := by
  unfold validB manyB at h
  simp only [Bool.and_eq_true] at h
  have := inB_t.1 h.1.2.1
  omega

def sumRes (W : Wt) (s : List UInt8) : Int := if validB W && okWord W s then dot W.weights (digs s) % W.modulus else 0
def sumOk (W : Wt) (s : List UInt8) : Bool := validB W && okWord W s

theorem ret2_int {x y : Int} {a b : Bool} {w w' : World} (h1 : x = y) (h2 : a = b) (hx : Ext w w') : Ret2 (.int .i64 x) (.bool a) w (.returned (.tuple #[.int .i64 y, .bool b])) w' := by
  subst h1; subst h2; exact ⟨rfl, hx⟩



set_option maxHeartbeats 400000 in
theorem szWt (v0 v1 v2 : Value) (_h0 : v0.oneCell' = true) (_h1 : v1.oneCell' = true) (_h2 : v2.oneCell' = true) (a : Option Addr) (n c : Nat) (left : Int) (w : World) (hn : n ≤ 9223372036854775807) (hl0 : 0 ≤ left) (hl1 : left ≤ 4611686018427387904) :
    Calls Try.prog 32 #[.agg #[v0, v1, v2, .slice a n c], .int .i64 left] w (Ret (.int .i64 (if left < n then -1 else left - n)) w) := by
  have HS := Lib.hid (szInts a n c left)
  by_cases h : left < n
  · go_enter Try.func32, Try.ntmps32
    go_wp2_with (refine (HS.out _ hn hl0 hl1).mono ?_; rintro e w' ⟨rfl, rfl⟩)
    go_ret
    exact ⟨rfl, (Ext.refl _).alloc _⟩
  · go_enter Try.func32, Try.ntmps32
    go_wp2_with (refine (HS.out _ hn hl0 hl1).mono ?_; rintro e w' ⟨rfl, rfl⟩)
    go_ret
    exact ⟨rfl, (Ext.refl _).alloc _⟩

/-- a weighting of the call's own -/
def RetWt (W : Wt) (w : World) (e : Ending) (w' : World) : Prop :=
  ∃ a c, e = .returned (.agg #[.int .i64 W.base, .int .i64 W.modulus, .int .i64 W.target, .slice a W.weights.length c]) ∧ Own w' w.heap.size 2 a W.weights.length c (I W.weights) ∧ Ext w w'

set_option maxHeartbeats 400000 in
theorem toWt (W : Wt) (a : Option Addr) (n c : Nat) (w : World) (hw : Ints w a n c W.weights) (hn : n ≤ 4194304) :
    Calls Try.prog 34 #[.agg #[.int .i64 W.base, .int .i64 W.modulus, .int .i64 W.target, .slice a n c]] w (RetWt W w) := by
  obtain ⟨base, modulus, target, l⟩ := W
  simp only at hw ⊢
  have HL := Lib.hid hw.len
  have HW := Lib.hid hw
  clear hw
  go_enter Try.func34, Try.ntmps34
  go_wp2_with fail
  refine (toInts a n c l _ (HW.out.ext (by repeat (first | (with_reducible exact Ext.refl _) | (with_reducible refine Ext.drewN ?_ _) | (with_reducible refine Ext.drew ?_) | (with_reducible refine Ext.alloc ?_ _) | ((with_reducible refine Ext.setCell ?_ ?_ _); rotate_left; focus (first | (simp; done) | (simp; omega) | omega))))) hn).mono ?_
  rintro e w1 ⟨a1, c1, rfl, ho1, hx1⟩
  rw [I_len, HL.out] at ho1 ⊢
  obtain ⟨hc, hf⟩ := bcell hx1
  have HO1 := Lib.hid (ho1.mono (B' := w.heap.size + 3) (by simp))
  have HX1 := Lib.hid hx1
  clear ho1 hx1
  go_wp2
  refine bodyPost_ret (v := .agg #[.int .i64 base, .int .i64 modulus, .int .i64 target, .slice a1 n c1]) ?_ rfl ?_
  · simp [results, Try.results34, go_sem, hc]
  · refine ⟨a1, c1, ?_, ?_, (by repeat (first | (with_reducible exact Ext.refl _) | (with_reducible refine Ext.drewN ?_ _) | (with_reducible refine Ext.drew ?_) | (with_reducible refine Ext.alloc ?_ _) | ((with_reducible refine Ext.setCell ?_ ?_ _); rotate_left; focus (first | (simp; done) | (simp; omega) | omega)) | (with_reducible refine Ext.trans ?_ HX1.out)))⟩
    · simp only; rw [HL.out]
    · simp only
      rw [HL.out]
      refine Own.mono (B := w.heap.size + 3) (by repeat (first | (with_reducible exact HO1.out) | ((with_reducible refine Own.setBelow ?_ ?_ _); rotate_left; focus (first | (simp; done) | (simp; omega) | omega)))) (by omega)

set_option maxHeartbeats 400000 in
theorem eqWt (W : Wt) (a a' : Option Addr) (n c c' : Nat) (w : World) (hw : Ints w a n c W.weights) (hw' : Ints w a' n c' W.weights) (hn : n ≤ 4194304) :
    Calls Try.prog 36 #[.agg #[.int .i64 W.base, .int .i64 W.modulus, .int .i64 W.target, .slice a n c], .agg #[.int .i64 W.base, .int .i64 W.modulus, .int .i64 W.target, .slice a' n c']] w (Ret (.bool true) w) := by
  obtain ⟨base, modulus, target, l⟩ := W
  simp only at hw hw' ⊢
  have HW := Lib.hid hw
  have HW' := Lib.hid hw'
  clear hw hw'
  go_enter Try.func36, Try.ntmps36
  go_wp2_with fail
  refine (eqInts a a' n n c c' l l _ (HW.out.ext (by repeat (first | (with_reducible exact Ext.refl _) | (with_reducible refine Ext.drewN ?_ _) | (with_reducible refine Ext.drew ?_) | (with_reducible refine Ext.alloc ?_ _) | ((with_reducible refine Ext.setCell ?_ ?_ _); rotate_left; focus (first | (simp; done) | (simp; omega) | omega))))) (HW'.out.ext (by repeat (first | (with_reducible exact Ext.refl _) | (with_reducible refine Ext.drewN ?_ _) | (with_reducible refine Ext.drew ?_) | (with_reducible refine Ext.alloc ?_ _) | ((with_reducible refine Ext.setCell ?_ ?_ _); rotate_left; focus (first | (simp; done) | (simp; omega) | omega))))) (by omega) (by omega)).mono ?_
  rintro e w1 ⟨rfl, m, rfl⟩
  go_wp2
  go_ret
  exact ⟨rfl, (by repeat (first | (with_reducible exact Ext.refl _) | (with_reducible refine Ext.drewN ?_ _) | (with_reducible refine Ext.drew ?_) | (with_reducible refine Ext.alloc ?_ _) | ((with_reducible refine Ext.setCell ?_ ?_ _); rotate_left; focus (first | (simp; done) | (simp; omega) | omega))))⟩

end Go.Proofs.Ytlpbflmgkopklaa
