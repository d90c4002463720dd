/- Walks: WeightSum in the program and in the reference; the laws' helpers on weightings. -/
import Derived.Test.YtaleololajildaaSum
namespace Go.Proofs.Ytaleololajildaa
open Go.RowKit

theorem isWt_box (w : World) (base modulus target : Int) (l : List Int) (a : Option Addr) (n c : Nat) (T : TypeId) (h : Ints w a n c l) :
    IsWt (w.alloc (.cells #[.int .i64 base, .int .i64 modulus, .int .i64 target, .slice a n c] T)) w.heap.size ⟨base, modulus, target, l⟩ a n c :=
  ⟨by go_simp, by go_simp, by go_simp, by go_simp, h.ext ((Ext.refl w).alloc _)⟩

theorem validB_base {W : Wt} (h : validB W = true) : 2 ≤ W.base ∧ W.base ≤ 36 := by
  unfold validB manyB at h
  simp only [Bool.and_eq_true] at h
  exact baseB_t h.1.1
theorem validB_mod {W : Wt} (h : validB W = true) : 2 ≤ W.modulus ∧ W.modulus ≤ 36 := by
  unfold validB at h
  simp only [Bool.and_eq_true] at h
  exact inB_t.1 h.2.1
theorem validB_target {W : Wt} (h : validB W = true) : 0 ≤ W.target ∧ W.target ≤ W.modulus - 1 := by
  unfold validB at h
  simp only [Bool.and_eq_true] at h
  exact inB_t.1 h.2.2.1
theorem validB_small {W : Wt} (h : validB W = true) : Small W.weights := by
  have h1 := validB_mod h
  unfold validB at h
  simp only [Bool.and_eq_true] at h
  exact belowB_small h.2.2.2 (by omega)
theorem validB_len {W : Wt} (h : validB W = true) : 1 ≤ W.weights.length ∧ W.weights.length ≤ 20 := by
  unfold validB manyB at h
  simp only [Bool.and_eq_true] at h
  have := inB_t.1 h.1.2.1
  omega

def sumRes (W : Wt) (s : List UInt8) : Int := if validB W && okWord W s then dot W.weights (digs s) % W.modulus else 0
def sumOk (W : Wt) (s : List UInt8) : Bool := validB W && okWord W s

theorem ret2_int {x y : Int} {a b : Bool} {w w' : World} (h1 : x = y) (h2 : a = b) (hx : Ext w w') : Ret2 (.int .i64 x) (.bool a) w (.returned (.tuple #[.int .i64 y, .bool b])) w' := by
  subst h1; subst h2; exact ⟨rfl, hx⟩

set_option maxHeartbeats 1000000 in
theorem spec_WeightSum (W : Wt) (a : Option Addr) (n c : Nat) (s : ByteArray) (w : World) (hw : Ints w a n c W.weights) (hs : s.size ≤ 1048576) :
    Calls Try.prog 13 #[.agg #[.int .i64 W.base, .int .i64 W.modulus, .int .i64 W.target, .slice a n c], .string s] w (Ret2 (.int .i64 (sumRes W s.data.toList)) (.bool (sumOk W s.data.toList)) w) := by
  obtain ⟨base, modulus, target, l⟩ := W
  simp only at hw ⊢
  have HL := Lib.hid hw.len
  have HB := Lib.hid (isWt_box w base modulus target l a n c 31 hw)
  have HI := Lib.hid (spec_is _ _ _ _ _ _ HB.out)
  have HW := Lib.hid hw
  clear hw
  cases hv : validB ⟨base, modulus, target, l⟩
  · rw [hv] at HI
    have HR := Lib.hid (show sumRes ⟨base, modulus, target, l⟩ s.data.toList = 0 by simp [sumRes, hv])
    have HO := Lib.hid (show sumOk ⟨base, modulus, target, l⟩ s.data.toList = false by simp [sumOk, hv])
    clear hv
    go_enter Try.func13, Try.ntmps13
    go_wp2_with (refine HI.out.mono ?_; rintro e w' ⟨rfl, m, rfl⟩)
    go_ret2
    exact ret2_int HR.out HO.out (((Ext.refl _).alloc _).drewN _)
  rw [hv] at HI
  obtain ⟨b2, b36⟩ := validB_base hv
  simp only at b2 b36
  cases hd : wordB s.data.toList base 20
  · have HR := Lib.hid (show sumRes ⟨base, modulus, target, l⟩ s.data.toList = 0 by simp [sumRes, okWord, hd])
    have HO := Lib.hid (show sumOk ⟨base, modulus, target, l⟩ s.data.toList = false by simp [sumOk, okWord, hd])
    have HWd := Lib.hid (fun w => spec_word s base w (by omega) (by omega) (by omega))
    rw [hd] at HWd
    clear hd hv
    go_enter Try.func13, Try.ntmps13
    go_wp2_with (first | ((with_reducible refine HI.out.mono ?_); rintro e w' ⟨rfl, m, rfl⟩) | (go_at_call 33; refine (HWd.out _).mono ?_; rintro e w' ⟨rfl, rfl⟩))
    go_ret2
    exact ret2_int HR.out HO.out (((Ext.refl _).alloc _).drewN _)
  have HWd := Lib.hid (fun w => spec_word s base w (by omega) (by omega) (by omega))
  rw [hd] at HWd
  by_cases hn : s.size = n
  · have hok : sumOk ⟨base, modulus, target, l⟩ s.data.toList = true := by
      simp only [sumOk, hv, okWord, hd, HL.out]; simp [hn]
    have HR := Lib.hid (show sumRes ⟨base, modulus, target, l⟩ s.data.toList = dot l (digs s.data.toList) % modulus by
      have := hok; unfold sumOk at this; simp [sumRes, this])
    have HO := Lib.hid hok
    have HSm := Lib.hid (validB_small hv)
    have HSd := Lib.hid (wordB_small hd)
    have hm := (validB_mod hv).1
    simp only at hm
    have h20 := (validB_len hv).2
    simp only [HL.out] at h20
    subst hn
    clear hd hv hok
    go_enter Try.func13, Try.ntmps13
    go_wp2_with (first | ((with_reducible refine HI.out.mono ?_); rintro e w' ⟨rfl, m, rfl⟩) | (go_at_call 33; refine (HWd.out _).mono ?_; rintro e w' ⟨rfl, rfl⟩))
    refine (spec_digits s _ (by omega)).mono ?_
    rintro e w1 ⟨a1, c1, rfl, ho1, hx1⟩
    rw [I_len, digs_len, size_eq] at ho1 ⊢
    have HO1 := Lib.hid ho1
    clear ho1
    go_wp2_with fail
    refine (spec_sum w.heap.size ⟨base, modulus, target, l⟩ a a1 s.size c c1 (digs s.data.toList) w1 (HB.out.ext (((Ext.refl _).drewN _).trans hx1)) HO1.out.ints h20 HSm.out HSd.out hm).mono ?_
    rintro e w2 ⟨rfl, m2, rfl⟩
    go_wp2
    go_ret2
    exact ret2_int HR.out HO.out ((((Ext.refl _).alloc _).drewN _).trans (hx1.drewN _))
  · have hb : ((s.size : Int) != (n : Int)) = true := by simp; omega
    have HR := Lib.hid (show sumRes ⟨base, modulus, target, l⟩ s.data.toList = 0 by simp [sumRes, okWord, HL.out]; intros; omega)
    have HO := Lib.hid (show sumOk ⟨base, modulus, target, l⟩ s.data.toList = false by simp [sumOk, okWord, HL.out]; intros; omega)
    clear hd hv
    go_enter Try.func13, Try.ntmps13
    go_wp2_with (first | ((with_reducible refine HI.out.mono ?_); rintro e w' ⟨rfl, m, rfl⟩) | (go_at_call 33; refine (HWd.out _).mono ?_; rintro e w' ⟨rfl, rfl⟩))
    go_ret2
    exact ret2_int HR.out HO.out (((Ext.refl _).alloc _).drewN _)

set_option maxHeartbeats 1000000 in
theorem impl_WeightSum (W : Wt) (a : Option Addr) (n c : Nat) (s : ByteArray) (w : World) (hw : Ints w a n c W.weights) (hs : s.size ≤ 1048576) :
    Calls Try.prog 15 #[.agg #[.int .i64 W.base, .int .i64 W.modulus, .int .i64 W.target, .slice a n c], .string s] w (Ret2 (.int .i64 (sumRes W s.data.toList)) (.bool (sumOk W s.data.toList)) w) := by
  obtain ⟨base, modulus, target, l⟩ := W
  simp only at hw ⊢
  have HL := Lib.hid hw.len
  have HB := Lib.hid (isWt_box w base modulus target l a n c 31 hw)
  have HI := Lib.hid (impl_valid ⟨base, modulus, target, l⟩ a n c _ HB.out.ws)
  simp only at HI
  have HW := Lib.hid hw
  clear hw
  cases hv : validB ⟨base, modulus, target, l⟩
  · rw [hv] at HI
    have HR := Lib.hid (show sumRes ⟨base, modulus, target, l⟩ s.data.toList = 0 by simp [sumRes, hv])
    have HO := Lib.hid (show sumOk ⟨base, modulus, target, l⟩ s.data.toList = false by simp [sumOk, hv])
    clear hv
    go_enter Try.func15, Try.ntmps15
    go_wp2_with (refine HI.out.mono ?_; rintro e w' ⟨rfl, hx⟩)
    go_ret2
    exact ret2_int HR.out HO.out (((Ext.refl _).alloc _).trans hx)
  rw [hv] at HI
  have HWd := Lib.hid (impl_wword w.heap.size ⟨base, modulus, target, l⟩ a n c s)
  cases hd : okWord ⟨base, modulus, target, l⟩ s.data.toList
  · have HR := Lib.hid (show sumRes ⟨base, modulus, target, l⟩ s.data.toList = 0 by simp [sumRes, hd])
    have HO := Lib.hid (show sumOk ⟨base, modulus, target, l⟩ s.data.toList = false by simp [sumOk, hd])
    rw [hd] at HWd
    clear hd hv
    go_enter Try.func15, Try.ntmps15
    go_wp2_with ((with_reducible refine HI.out.mono ?_); rintro e w' ⟨rfl, hx⟩)
    refine (HWd.out _ (HB.out.ext hx) (by omega)).mono ?_
    rintro e w2 ⟨a2, n2, c2, rfl, hx2, _⟩
    go_wp2
    go_ret2
    exact ret2_int HR.out HO.out (((Ext.refl _).alloc _).trans (hx.trans hx2))
  · have hok : sumOk ⟨base, modulus, target, l⟩ s.data.toList = true := by simp [sumOk, hv, hd]
    have HR := Lib.hid (show sumRes ⟨base, modulus, target, l⟩ s.data.toList = dot l (digs s.data.toList) % modulus by
      have := hok; unfold sumOk at this; simp [sumRes, this])
    have HO := Lib.hid hok
    rw [hd] at HWd
    have hd1 : wordB s.data.toList base 20 = true ∧ s.size = n := by
      unfold okWord at hd; simp [HL.out] at hd; exact ⟨hd.1, by omega⟩
    have HSm := Lib.hid (validB_small hv)
    have HSd := Lib.hid (wordB_small hd1.1)
    have hm := (validB_mod hv).1
    simp only at hm
    have h20 := (validB_len hv).2
    simp only [HL.out] at h20
    have hn := hd1.2
    subst hn
    clear hd hv hok hd1
    go_enter Try.func15, Try.ntmps15
    go_wp2_with ((with_reducible refine HI.out.mono ?_); rintro e w' ⟨rfl, hx⟩)
    refine (HWd.out _ (HB.out.ext hx) (by omega)).mono ?_
    rintro e w2 ⟨a2, n2, c2, rfl, hx2, ho2⟩
    have ho2' := ho2 rfl
    have hl2 : s.size = n2 := by have := ho2'.len; rwa [I_len, digs_len, size_eq] at this
    subst hl2
    have HO2 := Lib.hid ho2'
    clear ho2 ho2'
    go_wp2_with fail
    refine (impl_sum w.heap.size ⟨base, modulus, target, l⟩ a a2 s.size c c2 (digs s.data.toList) w2 (HB.out.ext (hx.trans hx2)) HO2.out.ints h20 HSm.out HSd.out hm).mono ?_
    rintro e w3 ⟨rfl, rfl⟩
    go_wp2
    go_ret2
    exact ret2_int HR.out HO.out (((Ext.refl _).alloc _).trans (hx.trans hx2))

set_option maxHeartbeats 400000 in
theorem szWt (v0 v1 v2 : Value) (_h0 : v0.oneCell' = true) (_h1 : v1.oneCell' = true) (_h2 : v2.oneCell' = true) (a : Option Addr) (n c : Nat) (left : Int) (w : World) (hn : n ≤ 9223372036854775807) (hl0 : 0 ≤ left) (hl1 : left ≤ 4611686018427387904) :
    Calls Try.prog 12 #[.agg #[v0, v1, v2, .slice a n c], .int .i64 left] w (Ret (.int .i64 (if left < n then -1 else left - n)) w) := by
  have HS := Lib.hid (szInts a n c left)
  by_cases h : left < n
  · go_enter Try.func12, Try.ntmps12
    go_wp2_with (refine (HS.out _ hn hl0 hl1).mono ?_; rintro e w' ⟨rfl, rfl⟩)
    go_ret
    exact ⟨rfl, (Ext.refl _).alloc _⟩
  · go_enter Try.func12, Try.ntmps12
    go_wp2_with (refine (HS.out _ hn hl0 hl1).mono ?_; rintro e w' ⟨rfl, rfl⟩)
    go_ret
    exact ⟨rfl, (Ext.refl _).alloc _⟩

/-- a weighting of the call's own -/
def RetWt (W : Wt) (w : World) (e : Ending) (w' : World) : Prop :=
  ∃ a c, e = .returned (.agg #[.int .i64 W.base, .int .i64 W.modulus, .int .i64 W.target, .slice a W.weights.length c]) ∧ Own w' w.heap.size 2 a W.weights.length c (I W.weights) ∧ Ext w w'

set_option maxHeartbeats 400000 in
theorem toWt (W : Wt) (a : Option Addr) (n c : Nat) (w : World) (hw : Ints w a n c W.weights) (hn : n ≤ 4194304) :
    Calls Try.prog 14 #[.agg #[.int .i64 W.base, .int .i64 W.modulus, .int .i64 W.target, .slice a n c]] w (RetWt W w) := by
  obtain ⟨base, modulus, target, l⟩ := W
  simp only at hw ⊢
  have HL := Lib.hid hw.len
  have HW := Lib.hid hw
  clear hw
  go_enter Try.func14, Try.ntmps14
  go_wp2_with fail
  refine (toInts a n c l _ (HW.out.ext (by repeat (first | (with_reducible exact Ext.refl _) | (with_reducible refine Ext.drewN ?_ _) | (with_reducible refine Ext.drew ?_) | (with_reducible refine Ext.alloc ?_ _) | ((with_reducible refine Ext.setCell ?_ ?_ _); rotate_left; focus (first | (simp; done) | (simp; omega) | omega))))) hn).mono ?_
  rintro e w1 ⟨a1, c1, rfl, ho1, hx1⟩
  rw [I_len, HL.out] at ho1 ⊢
  obtain ⟨hc, hf⟩ := bcell hx1
  have HO1 := Lib.hid (ho1.mono (B' := w.heap.size + 3) (by simp))
  have HX1 := Lib.hid hx1
  clear ho1 hx1
  go_wp2
  refine bodyPost_ret (v := .agg #[.int .i64 base, .int .i64 modulus, .int .i64 target, .slice a1 n c1]) ?_ rfl ?_
  · simp [results, Try.results14, go_sem, hc]
  · refine ⟨a1, c1, ?_, ?_, (by repeat (first | (with_reducible exact Ext.refl _) | (with_reducible refine Ext.drewN ?_ _) | (with_reducible refine Ext.drew ?_) | (with_reducible refine Ext.alloc ?_ _) | ((with_reducible refine Ext.setCell ?_ ?_ _); rotate_left; focus (first | (simp; done) | (simp; omega) | omega)) | (with_reducible refine Ext.trans ?_ HX1.out)))⟩
    · simp only; rw [HL.out]
    · simp only
      rw [HL.out]
      refine Own.mono (B := w.heap.size + 3) (by repeat (first | (with_reducible exact HO1.out) | ((with_reducible refine Own.setBelow ?_ ?_ _); rotate_left; focus (first | (simp; done) | (simp; omega) | omega)))) (by omega)

set_option maxHeartbeats 400000 in
theorem eqWt (W : Wt) (a a' : Option Addr) (n c c' : Nat) (w : World) (hw : Ints w a n c W.weights) (hw' : Ints w a' n c' W.weights) (hn : n ≤ 4194304) :
    Calls Try.prog 16 #[.agg #[.int .i64 W.base, .int .i64 W.modulus, .int .i64 W.target, .slice a n c], .agg #[.int .i64 W.base, .int .i64 W.modulus, .int .i64 W.target, .slice a' n c']] w (Ret (.bool true) w) := by
  obtain ⟨base, modulus, target, l⟩ := W
  simp only at hw hw' ⊢
  have HW := Lib.hid hw
  have HW' := Lib.hid hw'
  clear hw hw'
  go_enter Try.func16, Try.ntmps16
  go_wp2_with fail
  refine (eqInts a a' n n c c' l l _ (HW.out.ext (by repeat (first | (with_reducible exact Ext.refl _) | (with_reducible refine Ext.drewN ?_ _) | (with_reducible refine Ext.drew ?_) | (with_reducible refine Ext.alloc ?_ _) | ((with_reducible refine Ext.setCell ?_ ?_ _); rotate_left; focus (first | (simp; done) | (simp; omega) | omega))))) (HW'.out.ext (by repeat (first | (with_reducible exact Ext.refl _) | (with_reducible refine Ext.drewN ?_ _) | (with_reducible refine Ext.drew ?_) | (with_reducible refine Ext.alloc ?_ _) | ((with_reducible refine Ext.setCell ?_ ?_ _); rotate_left; focus (first | (simp; done) | (simp; omega) | omega))))) (by omega) (by omega)).mono ?_
  rintro e w1 ⟨rfl, m, rfl⟩
  go_wp2
  go_ret
  exact ⟨rfl, (by repeat (first | (with_reducible exact Ext.refl _) | (with_reducible refine Ext.drewN ?_ _) | (with_reducible refine Ext.drew ?_) | (with_reducible refine Ext.alloc ?_ _) | ((with_reducible refine Ext.setCell ?_ ?_ _); rotate_left; focus (first | (simp; done) | (simp; omega) | omega))))⟩

end Go.Proofs.Ytaleololajildaa
