/- Walks: WeightSum in the program and in the reference; the laws' helpers on weightings. -/
import Derived.Test.YtgnlabdikmbbgaaGreatDoorSum
namespace Go.Proofs.YtgnlabdikmbbgaaGreatDoor
set_option maxRecDepth 100000
open Go.RowKit

theorem isWt_box (w : World) (base modulus target : Int) (l : List Int) (a : Option Addr) (n c : Nat) (T : TypeId) (h : Ints w a n c l) :
    IsWt (w.alloc (.cells #[.int .i64 base, .int .i64 modulus, .int .i64 target, .slice a n c] T)) w.heap.size ⟨base, modulus, target, l⟩ a n c :=
  ⟨by go_simp, by go_simp, by go_simp, by go_simp, h.ext ((Ext.refl w).alloc _)⟩

theorem validB_base {W : Wt} (h : validB W = true) : 2 ≤ W.base ∧ W.base ≤ 36 := by
  unfold validB manyB at h
  simp only [Bool.and_eq_true] at h
  exact baseB_t h.1.1
theorem validB_mod {W : Wt} (h : validB W = true) : 2 ≤ W.modulus ∧ W.modulus ≤ 36 := by
  unfold validB at h
  simp only [Bool.and_eq_true] at h
  exact inB_t.1 h.2.1
theorem validB_target {W : Wt} (h : validB W = true) : 0 ≤ W.target ∧ W.target ≤ W.modulus - 1 := by
  unfold validB at h
  simp only [Bool.and_eq_true] at h
  exact inB_t.1 h.2.2.1
theorem validB_small {W : Wt} (h : validB W = true) : Small W.weights := by
  have h1 := validB_mod h
  unfold validB at h
  simp only [Bool.and_eq_true] at h
  exact belowB_small h.2.2.2 (by omega)
theorem validB_len {W : Wt} (h : validB W = true) : 1 ≤ W.weights.length ∧ W.weights.length ≤ 20 := by
  unfold validB manyB at h
  simp only [Bool.and_eq_true] at h
  have := inB_t.1 h.1.2.1
  omega

def sumRes (W : Wt) (s : List UInt8) : Int := if validB W && okWord W s then dot W.weights (digs s) % W.modulus else 0
def sumOk (W : Wt) (s : List UInt8) : Bool := validB W && okWord W s

theorem ret2_int {x y : Int} {a b : Bool} {w w' : World} (h1 : x = y) (h2 : a = b) (hx : Ext w w') : Ret2 (.int .i64 x) (.bool a) w (.returned (.tuple #[.int .i64 y, .bool b])) w' := by
  subst h1; subst h2; exact ⟨rfl, hx⟩


set_option maxHeartbeats 1000000 in
theorem impl_WeightSum (W : Wt) (a : Option Addr) (n c : Nat) (s : ByteArray) (w : World) (hw : Ints w a n c W.weights) (hs : s.size ≤ 1048576) :
    Calls Tryz.prog 10 #[.agg #[.int .i64 W.base, .int .i64 W.modulus, .int .i64 W.target, .slice a n c], .string s] w (Ret2 (.int .i64 (sumRes W s.data.toList)) (.bool (sumOk W s.data.toList)) w) := by
  obtain ⟨base, modulus, target, l⟩ := W
  simp only at hw ⊢
  have HL := Lib.hid hw.len
  have HB := Lib.hid (isWt_box w base modulus target l a n c 26 hw)
  have HI := Lib.hid (impl_valid ⟨base, modulus, target, l⟩ a n c _ HB.out.ws)
  simp only at HI
  have HW := Lib.hid hw
  clear hw
  cases hv : validB ⟨base, modulus, target, l⟩
  · rw [hv] at HI
    have HR := Lib.hid (show sumRes ⟨base, modulus, target, l⟩ s.data.toList = 0 by simp [sumRes, hv])
    have HO := Lib.hid (show sumOk ⟨base, modulus, target, l⟩ s.data.toList = false by simp [sumOk, hv])
    clear hv
    go_enter Tryz.func10, Tryz.ntmps10
    go_wp2_with (refine HI.out.mono ?_; rintro e w' ⟨rfl, hx⟩)
    go_ret2
    exact ret2_int HR.out HO.out (((Ext.refl _).alloc _).trans hx)
  rw [hv] at HI
  have HWd := Lib.hid (impl_wword w.heap.size ⟨base, modulus, target, l⟩ a n c s)
  cases hd : okWord ⟨base, modulus, target, l⟩ s.data.toList
  · have HR := Lib.hid (show sumRes ⟨base, modulus, target, l⟩ s.data.toList = 0 by simp [sumRes, hd])
    have HO := Lib.hid (show sumOk ⟨base, modulus, target, l⟩ s.data.toList = false by simp [sumOk, hd])
    rw [hd] at HWd
    clear hd hv
    go_enter Tryz.func10, Tryz.ntmps10
    go_wp2_with ((with_reducible refine HI.out.mono ?_); rintro e w' ⟨rfl, hx⟩)
    refine (HWd.out _ (HB.out.ext hx) (by omega)).mono ?_
    rintro e w2 ⟨a2, n2, c2, rfl, hx2, _⟩
    go_wp2
    go_ret2
    exact ret2_int HR.out HO.out (((Ext.refl _).alloc _).trans (hx.trans hx2))
  · have hok : sumOk ⟨base, modulus, target, l⟩ s.data.toList = true := by simp [sumOk, hv, hd]
    have HR := Lib.hid (show sumRes ⟨base, modulus, target, l⟩ s.data.toList = dot l (digs s.data.toList) % modulus by
      have := hok; unfold sumOk at this; simp [sumRes, this])
    have HO := Lib.hid hok
    rw [hd] at HWd
    have hd1 : wordB s.data.toList base 20 = true ∧ s.size = n := by
      unfold okWord at hd; simp [HL.out] at hd; exact ⟨hd.1, by omega⟩
    have HSm := Lib.hid (validB_small hv)
    have HSd := Lib.hid (wordB_small hd1.1)
    have hm := (validB_mod hv).1
    simp only at hm
    have h20 := (validB_len hv).2
    simp only [HL.out] at h20
    have hn := hd1.2
    subst hn
    clear hd hv hok hd1
    go_enter Tryz.func10, Tryz.ntmps10
    go_wp2_with ((with_reducible refine HI.out.mono ?_); rintro e w' ⟨rfl, hx⟩)
    refine (HWd.out _ (HB.out.ext hx) (by omega)).mono ?_
    rintro e w2 ⟨a2, n2, c2, rfl, hx2, ho2⟩
    have ho2' := ho2 rfl
    have hl2 : s.size = n2 := by have := ho2'.len; rwa [I_len, digs_len, size_eq] at this
    subst hl2
    have HO2 := Lib.hid ho2'
    clear ho2 ho2'
    go_wp2_with fail
    refine (impl_sum w.heap.size ⟨base, modulus, target, l⟩ a a2 s.size c c2 (digs s.data.toList) w2 (HB.out.ext (hx.trans hx2)) HO2.out.ints h20 HSm.out HSd.out hm).mono ?_
    rintro e w3 ⟨rfl, rfl⟩
    go_wp2
    go_ret2
    exact ret2_int HR.out HO.out (((Ext.refl _).alloc _).trans (hx.trans hx2))


/-- a weighting of the call's own -/
def RetWt (W : Wt) (w : World) (e : Ending) (w' : World) : Prop :=
  ∃ a c, e = .returned (.agg #[.int .i64 W.base, .int .i64 W.modulus, .int .i64 W.target, .slice a W.weights.length c]) ∧ Own w' w.heap.size 2 a W.weights.length c (I W.weights) ∧ Ext w w'



end Go.Proofs.YtgnlabdikmbbgaaGreatDoor
