/- The law on LeastModulus: walked. -/
import Derived.Test.YtlpbflmgkopklaaLm3
import Derived.Test.YtlpbflmgkopklaaLInts
import Derived.Test.YtlpbflmgkopklaaOpen
namespace Go.Proofs.Ytlpbflmgkopklaa
set_option maxRecDepth 100000
open Go.RowKit

set_option maxHeartbeats 4000000 in
theorem lawLeastModulus (x0 : Int) (x1 : Int) (b2 : Option Addr) (m2 d2 : Nat) (l2 : List Int) (w : World) (_hx0 : In64 x0) (_hx1 : In64 x1) (hw2 : Ints w b2 m2 d2 l2) (_hf2 : Fits l2) (hm2 : m2 ≤ 9223372036854775807) :
    Calls Try.prog 5 #[.int .i64 x0, .int .i64 x1, .slice b2 m2 d2] w (Ret (.bool true) w) := by
  have HL2 := Lib.hid hw2.len
  have HW2 := Lib.hid hw2
  clear hw2
  by_cases hs2 : m2 ≤ 1048576
  rotate_left
  · go_enter Try.func5, Try.ntmps5
    go_wp2_with fail
    go_ret
    exact ⟨rfl, (by repeat (first | (with_reducible exact Ext.refl _) | (with_reducible refine Ext.drewN ?_ _) | (with_reducible refine Ext.drew ?_) | (with_reducible refine Ext.alloc ?_ _) | ((with_reducible refine Ext.setCell ?_ ?_ _); rotate_left; focus (first | (simp; done) | (simp; omega) | omega)) | assumption | (with_reducible refine Ext.trans ?_ (by assumption))))⟩
  obtain ⟨R0, hR0⟩ : ∃ R, R = lmZ x0 x1 l2 := ⟨_, rfl⟩
  obtain ⟨R1, hR1⟩ : ∃ R, R = lmL x0 x1 l2 := ⟨_, rfl⟩
  obtain ⟨R2, hR2⟩ : ∃ R, R = lmB x0 x1 l2 := ⟨_, rfl⟩
  have HSp := Lib.hid (fun (W : World) (b2x : Option Addr) (d2x : Nat) (h2x : Ints W b2x m2 d2x l2) => spec_LM x0 x1 b2x m2 d2x l2 W h2x hs2)
  have HIm := Lib.hid (fun (W : World) (b2x : Option Addr) (d2x : Nat) (h2x : Ints W b2x m2 d2x l2) => impl_LM x0 x1 b2x m2 d2x l2 W h2x hs2)
  rw [← hR0, ← hR1, ← hR2] at HSp HIm
  have hb1 : R1.length ≤ 1048576 := by rw [hR1]; exact (lmL_len x0 x1 l2)
  clear hR0 hR1 hR2
  go_enter Try.func5, Try.ntmps5
  go_wp2_with fail
  refine (toInts b2 m2 d2 l2 _ (HW2.out.ext (by repeat (first | (with_reducible exact Ext.refl _) | (with_reducible assumption) | (with_reducible refine Ext.drewN ?_ _) | (with_reducible refine Ext.drew ?_) | (with_reducible refine Ext.alloc ?_ _) | ((with_reducible refine Ext.setCell ?_ ?_ _); rotate_left; focus (first | (simp; done) | (simp; omega) | omega)) | (with_reducible refine Ext.trans ?_ (by with_reducible assumption))))) (by omega)).mono ?_
  rintro e w2_2 ⟨b2_2, y2_2, rfl, hq, hy⟩
  rw [I_len, HL2.out] at hq ⊢
  have HQ2_2 := Lib.hid hq
  have hx2_2 : Ext w w2_2 := Ext.trans (by repeat (first | (with_reducible exact Ext.refl _) | (with_reducible assumption) | (with_reducible refine Ext.drewN ?_ _) | (with_reducible refine Ext.drew ?_) | (with_reducible refine Ext.alloc ?_ _) | ((with_reducible refine Ext.setCell ?_ ?_ _); rotate_left; focus (first | (simp; done) | (simp; omega) | omega)) | (with_reducible refine Ext.trans ?_ (by with_reducible assumption)))) hy
  have hz2_2 := hy
  clear hq hy
  go_wp2_with fail
  refine (HSp.out _ b2_2 y2_2 (HQ2_2.out.ints.ext (by repeat (first | (with_reducible exact Ext.refl _) | (with_reducible assumption) | (with_reducible refine Ext.drewN ?_ _) | (with_reducible refine Ext.drew ?_) | (with_reducible refine Ext.alloc ?_ _) | ((with_reducible refine Ext.setCell ?_ ?_ _); rotate_left; focus (first | (simp; done) | (simp; omega) | omega)) | (with_reducible refine Ext.trans ?_ (by with_reducible assumption)))))).mono ?_
  rintro e w3 ⟨aS1, nS1, cS1, rfl, hy, ho1⟩
  have hxw3 : Ext w w3 := Ext.trans (by repeat (first | (with_reducible exact Ext.refl _) | (with_reducible assumption) | (with_reducible refine Ext.drewN ?_ _) | (with_reducible refine Ext.drew ?_) | (with_reducible refine Ext.alloc ?_ _) | ((with_reducible refine Ext.setCell ?_ ?_ _); rotate_left; focus (first | (simp; done) | (simp; omega) | omega)) | (with_reducible refine Ext.trans ?_ (by with_reducible assumption)))) hy
  have hzw3 := hy
  clear hy
  have hnS1 : nS1 ≤ 1048576 := by have := ho1.len; rw [I_len] at this; omega
  have HOS1 := Lib.hid ho1
  clear ho1
  go_wp2_with fail
  refine (toInts b2 m2 d2 l2 _ (HW2.out.ext (by repeat (first | (with_reducible exact Ext.refl _) | (with_reducible assumption) | (with_reducible refine Ext.drewN ?_ _) | (with_reducible refine Ext.drew ?_) | (with_reducible refine Ext.alloc ?_ _) | ((with_reducible refine Ext.setCell ?_ ?_ _); rotate_left; focus (first | (simp; done) | (simp; omega) | omega)) | (with_reducible refine Ext.trans ?_ (by with_reducible assumption))))) (by omega)).mono ?_
  rintro e w4_2 ⟨b4_2, y4_2, rfl, hq, hy⟩
  rw [I_len, HL2.out] at hq ⊢
  have HQ4_2 := Lib.hid hq
  have hx4_2 : Ext w w4_2 := Ext.trans (by repeat (first | (with_reducible exact Ext.refl _) | (with_reducible assumption) | (with_reducible refine Ext.drewN ?_ _) | (with_reducible refine Ext.drew ?_) | (with_reducible refine Ext.alloc ?_ _) | ((with_reducible refine Ext.setCell ?_ ?_ _); rotate_left; focus (first | (simp; done) | (simp; omega) | omega)) | (with_reducible refine Ext.trans ?_ (by with_reducible assumption)))) hy
  have hz4_2 := hy
  clear hq hy
  go_wp2_with fail
  refine (HIm.out _ b4_2 y4_2 (HQ4_2.out.ints.ext (by repeat (first | (with_reducible exact Ext.refl _) | (with_reducible assumption) | (with_reducible refine Ext.drewN ?_ _) | (with_reducible refine Ext.drew ?_) | (with_reducible refine Ext.alloc ?_ _) | ((with_reducible refine Ext.setCell ?_ ?_ _); rotate_left; focus (first | (simp; done) | (simp; omega) | omega)) | (with_reducible refine Ext.trans ?_ (by with_reducible assumption)))))).mono ?_
  rintro e w5 ⟨aG1, nG1, cG1, rfl, hy, ho1⟩
  have hxw5 : Ext w w5 := Ext.trans (by repeat (first | (with_reducible exact Ext.refl _) | (with_reducible assumption) | (with_reducible refine Ext.drewN ?_ _) | (with_reducible refine Ext.drew ?_) | (with_reducible refine Ext.alloc ?_ _) | ((with_reducible refine Ext.setCell ?_ ?_ _); rotate_left; focus (first | (simp; done) | (simp; omega) | omega)) | (with_reducible refine Ext.trans ?_ (by with_reducible assumption)))) hy
  have hzw5 := hy
  clear hy
  have hnG1 : nG1 ≤ 1048576 := by have := ho1.len; rw [I_len] at this; omega
  have HOG1 := Lib.hid ho1
  clear ho1
  obtain rfl : nG1 = nS1 := HOG1.out.ints.len.symm.trans HOS1.out.ints.len
  go_wp2_with (first | (go_at_call 12; (with_reducible refine (eqIntsT aG1 aS1 nG1 cG1 cS1 R1 _ (HOG1.out.ints.ext (by repeat (first | (with_reducible exact Ext.refl _) | (with_reducible assumption) | (with_reducible refine Ext.drewN ?_ _) | (with_reducible refine Ext.drew ?_) | (with_reducible refine Ext.alloc ?_ _) | ((with_reducible refine Ext.setCell ?_ ?_ _); rotate_left; focus (first | (simp; done) | (simp; omega) | omega)) | (with_reducible refine Ext.trans ?_ (by with_reducible assumption))))) (HOS1.out.ints.ext (by repeat (first | (with_reducible exact Ext.refl _) | (with_reducible assumption) | (with_reducible refine Ext.drewN ?_ _) | (with_reducible refine Ext.drew ?_) | (with_reducible refine Ext.alloc ?_ _) | ((with_reducible refine Ext.setCell ?_ ?_ _); rotate_left; focus (first | (simp; done) | (simp; omega) | omega)) | (with_reducible refine Ext.trans ?_ (by with_reducible assumption))))) (by omega)).mono ?_); rintro e wq ⟨rfl, q, rfl⟩) | (go_at_call 22; (with_reducible refine (toInts b2 m2 d2 l2 _ (HW2.out.ext (by repeat (first | (with_reducible exact Ext.refl _) | (with_reducible assumption) | (with_reducible refine Ext.drewN ?_ _) | (with_reducible refine Ext.drew ?_) | (with_reducible refine Ext.alloc ?_ _) | ((with_reducible refine Ext.setCell ?_ ?_ _); rotate_left; focus (first | (simp; done) | (simp; omega) | omega)) | (with_reducible refine Ext.trans ?_ (by with_reducible assumption))))) (by omega)).mono ?_); rintro e w6_2 ⟨b6_2, y6_2, rfl, hq, hy⟩; rw [I_len, HL2.out] at hq ⊢; have HQ6_2 := Lib.hid hq; have hx6_2 : Ext w w6_2 := Ext.trans (by repeat (first | (with_reducible exact Ext.refl _) | (with_reducible assumption) | (with_reducible refine Ext.drewN ?_ _) | (with_reducible refine Ext.drew ?_) | (with_reducible refine Ext.alloc ?_ _) | ((with_reducible refine Ext.setCell ?_ ?_ _); rotate_left; focus (first | (simp; done) | (simp; omega) | omega)) | (with_reducible refine Ext.trans ?_ (by with_reducible assumption)))) hy; have hz6_2 := hy; clear hq hy) | (go_at_call 12; (with_reducible refine (eqIntsT b4_2 b6_2 m2 y4_2 y6_2 l2 _ (HQ4_2.out.ints.ext (by repeat (first | (with_reducible exact Ext.refl _) | (with_reducible assumption) | (with_reducible refine Ext.drewN ?_ _) | (with_reducible refine Ext.drew ?_) | (with_reducible refine Ext.alloc ?_ _) | ((with_reducible refine Ext.setCell ?_ ?_ _); rotate_left; focus (first | (simp; done) | (simp; omega) | omega)) | (with_reducible refine Ext.trans ?_ (by with_reducible assumption))))) (HQ6_2.out.ints.ext (by repeat (first | (with_reducible exact Ext.refl _) | (with_reducible assumption) | (with_reducible refine Ext.drewN ?_ _) | (with_reducible refine Ext.drew ?_) | (with_reducible refine Ext.alloc ?_ _) | ((with_reducible refine Ext.setCell ?_ ?_ _); rotate_left; focus (first | (simp; done) | (simp; omega) | omega)) | (with_reducible refine Ext.trans ?_ (by with_reducible assumption))))) (by omega)).mono ?_); rintro e wq ⟨rfl, q, rfl⟩))
  have hlw : w.heap.size ≤ w3.heap.size := hxw3.le
  have hl4_2 : w3.heap.size ≤ w4_2.heap.size := Ext.le (by repeat (first | (with_reducible exact Ext.refl _) | (with_reducible assumption) | (with_reducible refine Ext.drewN ?_ _) | (with_reducible refine Ext.drew ?_) | (with_reducible refine Ext.alloc ?_ _) | ((with_reducible refine Ext.setCell ?_ ?_ _); rotate_left; focus (first | (simp; done) | (simp; omega) | omega)) | (with_reducible refine Ext.trans ?_ (by with_reducible assumption))))
  have hl5 : w4_2.heap.size ≤ w5.heap.size := Ext.le (by repeat (first | (with_reducible exact Ext.refl _) | (with_reducible assumption) | (with_reducible refine Ext.drewN ?_ _) | (with_reducible refine Ext.drew ?_) | (with_reducible refine Ext.alloc ?_ _) | ((with_reducible refine Ext.setCell ?_ ?_ _); rotate_left; focus (first | (simp; done) | (simp; omega) | omega)) | (with_reducible refine Ext.trans ?_ (by with_reducible assumption))))
  have HI2 := Lib.hid (show OwnIn w4_2 w3.heap.size w4_2.heap.size 2 b4_2 m2 y4_2 (I l2) from HQ4_2.out.in.mono (Ext.le (by repeat (first | (with_reducible exact Ext.refl _) | (with_reducible assumption) | (with_reducible refine Ext.drewN ?_ _) | (with_reducible refine Ext.drew ?_) | (with_reducible refine Ext.alloc ?_ _) | ((with_reducible refine Ext.setCell ?_ ?_ _); rotate_left; focus (first | (simp; done) | (simp; omega) | omega)) | (with_reducible refine Ext.trans ?_ (by with_reducible assumption))))) (Nat.le_refl _))
  refine (markIntsC b4_2 m2 y4_2 l2 0 w3.heap.size w4_2.heap.size _ (HI2.out.ext (by repeat (first | (with_reducible exact Ext.refl _) | (with_reducible assumption) | (with_reducible refine Ext.drewN ?_ _) | (with_reducible refine Ext.drew ?_) | (with_reducible refine Ext.alloc ?_ _) | ((with_reducible refine Ext.setCell ?_ ?_ _); rotate_left; focus (first | (simp; done) | (simp; omega) | omega)) | (with_reducible refine Ext.trans ?_ (by with_reducible assumption))))) (by omega)).mono ?_
  rintro e w8_2 ⟨rfl, hc2⟩
  have hc8 : Chg w3.heap.size w4_2.heap.size w5 w8_2 := ((Chg.ext (show Ext w5 _ from (by repeat (first | (with_reducible exact Ext.refl _) | (with_reducible assumption) | (with_reducible refine Ext.drewN ?_ _) | (with_reducible refine Ext.drew ?_) | (with_reducible refine Ext.alloc ?_ _) | ((with_reducible refine Ext.setCell ?_ ?_ _); rotate_left; focus (first | (simp; done) | (simp; omega) | omega)) | (with_reducible refine Ext.trans ?_ (by with_reducible assumption))))) _ _).trans hc2)
  have hx38 : Ext w3 w8_2 := hc8.to (show Ext w3 w5 from (by repeat (first | (with_reducible exact Ext.refl _) | (with_reducible assumption) | (with_reducible refine Ext.drewN ?_ _) | (with_reducible refine Ext.drew ?_) | (with_reducible refine Ext.alloc ?_ _) | ((with_reducible refine Ext.setCell ?_ ?_ _); rotate_left; focus (first | (simp; done) | (simp; omega) | omega)) | (with_reducible refine Ext.trans ?_ (by with_reducible assumption))))) (Nat.le_refl _)
  have hx8 : Ext w w8_2 := hxw3.trans hx38
  have HG8_1 := Lib.hid (((HOG1.out.mono (B' := w4_2.heap.size) (Ext.le (by repeat (first | (with_reducible exact Ext.refl _) | (with_reducible assumption) | (with_reducible refine Ext.drewN ?_ _) | (with_reducible refine Ext.drew ?_) | (with_reducible refine Ext.alloc ?_ _) | ((with_reducible refine Ext.setCell ?_ ?_ _); rotate_left; focus (first | (simp; done) | (simp; omega) | omega)) | (with_reducible refine Ext.trans ?_ (by with_reducible assumption)))))).in).chg hc8 (.inl (Nat.le_refl _))).1
  have hB8 : w3.heap.size ≤ w4_2.heap.size := by omega
  go_wp2_with (first | (go_at_call 12; (with_reducible refine (eqIntsT aG1 aS1 nG1 cG1 cS1 R1 _ (HG8_1.out.ints.ext (by repeat (first | (with_reducible exact Ext.refl _) | (with_reducible assumption) | (with_reducible refine Ext.drewN ?_ _) | (with_reducible refine Ext.drew ?_) | (with_reducible refine Ext.alloc ?_ _) | ((with_reducible refine Ext.setCell ?_ ?_ _); rotate_left; focus (first | (simp; done) | (simp; omega) | omega)) | (with_reducible refine Ext.trans ?_ (by with_reducible assumption))))) (HOS1.out.ints.ext (hx38.trans (by repeat (first | (with_reducible exact Ext.refl _) | (with_reducible assumption) | (with_reducible refine Ext.drewN ?_ _) | (with_reducible refine Ext.drew ?_) | (with_reducible refine Ext.alloc ?_ _) | ((with_reducible refine Ext.setCell ?_ ?_ _); rotate_left; focus (first | (simp; done) | (simp; omega) | omega)) | (with_reducible refine Ext.trans ?_ (by with_reducible assumption)))))) (by omega)).mono ?_); rintro e wq ⟨rfl, q, rfl⟩))
  refine (markInts1 aG1 nG1 cG1 R1 w4_2.heap.size _ (HG8_1.out.ext (by repeat (first | (with_reducible exact Ext.refl _) | (with_reducible assumption) | (with_reducible refine Ext.drewN ?_ _) | (with_reducible refine Ext.drew ?_) | (with_reducible refine Ext.alloc ?_ _) | ((with_reducible refine Ext.setCell ?_ ?_ _); rotate_left; focus (first | (simp; done) | (simp; omega) | omega)) | (with_reducible refine Ext.trans ?_ (by with_reducible assumption))))) (by omega)).mono ?_
  rintro e w9_1 ⟨rfl, hm1, hg1⟩
  have hx39_1 : Ext w3 w9_1 := hm1.to (hx38.trans (by repeat (first | (with_reducible exact Ext.refl _) | (with_reducible assumption) | (with_reducible refine Ext.drewN ?_ _) | (with_reducible refine Ext.drew ?_) | (with_reducible refine Ext.alloc ?_ _) | ((with_reducible refine Ext.setCell ?_ ?_ _); rotate_left; focus (first | (simp; done) | (simp; omega) | omega)) | (with_reducible refine Ext.trans ?_ (by with_reducible assumption))))) hB8
  have HK9_1 := Lib.hid hg1
  clear hm1 hg1
  have hx9 : Ext w w9_1 := hxw3.trans hx39_1
  go_wp2_with (first | (go_at_call 14; (with_reducible refine (heldInts1 aG1 nG1 cG1 _ (HK9_1.out.ints.ext (by repeat (first | (with_reducible exact Ext.refl _) | (with_reducible assumption) | (with_reducible refine Ext.drewN ?_ _) | (with_reducible refine Ext.drew ?_) | (with_reducible refine Ext.alloc ?_ _) | ((with_reducible refine Ext.setCell ?_ ?_ _); rotate_left; focus (first | (simp; done) | (simp; omega) | omega)) | (with_reducible refine Ext.trans ?_ (by with_reducible assumption))))) (by omega)).mono ?_); rintro e wh1 ⟨rfl, hyh1⟩; have hxh1 : Ext w wh1 := Ext.trans (by repeat (first | (with_reducible exact Ext.refl _) | (with_reducible assumption) | (with_reducible refine Ext.drewN ?_ _) | (with_reducible refine Ext.drew ?_) | (with_reducible refine Ext.alloc ?_ _) | ((with_reducible refine Ext.setCell ?_ ?_ _); rotate_left; focus (first | (simp; done) | (simp; omega) | omega)) | (with_reducible refine Ext.trans ?_ (by with_reducible assumption)))) hyh1; have hzh1 := hyh1; clear hyh1))
  refine (toInts b2 m2 d2 l2 _ (HW2.out.ext (by repeat (first | (with_reducible exact Ext.refl _) | (with_reducible assumption) | (with_reducible refine Ext.drewN ?_ _) | (with_reducible refine Ext.drew ?_) | (with_reducible refine Ext.alloc ?_ _) | ((with_reducible refine Ext.setCell ?_ ?_ _); rotate_left; focus (first | (simp; done) | (simp; omega) | omega)) | (with_reducible refine Ext.trans ?_ (by with_reducible assumption))))) (by omega)).mono ?_
  rintro e w11_2 ⟨b11_2, y11_2, rfl, hq, hy⟩
  rw [I_len, HL2.out] at hq ⊢
  have HQ11_2 := Lib.hid hq
  have hx11_2 : Ext w w11_2 := Ext.trans (by repeat (first | (with_reducible exact Ext.refl _) | (with_reducible assumption) | (with_reducible refine Ext.drewN ?_ _) | (with_reducible refine Ext.drew ?_) | (with_reducible refine Ext.alloc ?_ _) | ((with_reducible refine Ext.setCell ?_ ?_ _); rotate_left; focus (first | (simp; done) | (simp; omega) | omega)) | (with_reducible refine Ext.trans ?_ (by with_reducible assumption)))) hy
  have hz11_2 := hy
  clear hq hy
  go_wp2_with fail
  refine (HIm.out _ b11_2 y11_2 (HQ11_2.out.ints.ext (by repeat (first | (with_reducible exact Ext.refl _) | (with_reducible assumption) | (with_reducible refine Ext.drewN ?_ _) | (with_reducible refine Ext.drew ?_) | (with_reducible refine Ext.alloc ?_ _) | ((with_reducible refine Ext.setCell ?_ ?_ _); rotate_left; focus (first | (simp; done) | (simp; omega) | omega)) | (with_reducible refine Ext.trans ?_ (by with_reducible assumption)))))).mono ?_
  rintro e w12 ⟨aH1, nH1, cH1, rfl, hy, ho1⟩
  have hxw12 : Ext w w12 := Ext.trans (by repeat (first | (with_reducible exact Ext.refl _) | (with_reducible assumption) | (with_reducible refine Ext.drewN ?_ _) | (with_reducible refine Ext.drew ?_) | (with_reducible refine Ext.alloc ?_ _) | ((with_reducible refine Ext.setCell ?_ ?_ _); rotate_left; focus (first | (simp; done) | (simp; omega) | omega)) | (with_reducible refine Ext.trans ?_ (by with_reducible assumption)))) hy
  have hzw12 := hy
  clear hy
  have hnH1 : nH1 ≤ 1048576 := by have := ho1.len; rw [I_len] at this; omega
  have HOH1 := Lib.hid ho1
  clear ho1
  obtain rfl : nH1 = nG1 := HOH1.out.ints.len.symm.trans HOS1.out.ints.len
  go_wp2_with (first | (go_at_call 12; (with_reducible refine (eqIntsT aH1 aS1 nH1 cH1 cS1 R1 _ (HOH1.out.ints.ext (by repeat (first | (with_reducible exact Ext.refl _) | (with_reducible assumption) | (with_reducible refine Ext.drewN ?_ _) | (with_reducible refine Ext.drew ?_) | (with_reducible refine Ext.alloc ?_ _) | ((with_reducible refine Ext.setCell ?_ ?_ _); rotate_left; focus (first | (simp; done) | (simp; omega) | omega)) | (with_reducible refine Ext.trans ?_ (by with_reducible assumption))))) (HOS1.out.ints.ext (hx39_1.trans (by repeat (first | (with_reducible exact Ext.refl _) | (with_reducible assumption) | (with_reducible refine Ext.drewN ?_ _) | (with_reducible refine Ext.drew ?_) | (with_reducible refine Ext.alloc ?_ _) | ((with_reducible refine Ext.setCell ?_ ?_ _); rotate_left; focus (first | (simp; done) | (simp; omega) | omega)) | (with_reducible refine Ext.trans ?_ (by with_reducible assumption)))))) (by omega)).mono ?_); rintro e wq ⟨rfl, q, rfl⟩) | (go_at_call 14; (with_reducible refine (heldInts1 aG1 nH1 cG1 _ (HK9_1.out.ints.ext (by repeat (first | (with_reducible exact Ext.refl _) | (with_reducible assumption) | (with_reducible refine Ext.drewN ?_ _) | (with_reducible refine Ext.drew ?_) | (with_reducible refine Ext.alloc ?_ _) | ((with_reducible refine Ext.setCell ?_ ?_ _); rotate_left; focus (first | (simp; done) | (simp; omega) | omega)) | (with_reducible refine Ext.trans ?_ (by with_reducible assumption))))) (by omega)).mono ?_); rintro e wk1 ⟨rfl, hyk1⟩; have hxk1 : Ext w wk1 := Ext.trans (by repeat (first | (with_reducible exact Ext.refl _) | (with_reducible assumption) | (with_reducible refine Ext.drewN ?_ _) | (with_reducible refine Ext.drew ?_) | (with_reducible refine Ext.alloc ?_ _) | ((with_reducible refine Ext.setCell ?_ ?_ _); rotate_left; focus (first | (simp; done) | (simp; omega) | omega)) | (with_reducible refine Ext.trans ?_ (by with_reducible assumption)))) hyk1; have hzk1 := hyk1; clear hyk1))
  go_ret
  exact ⟨rfl, (by repeat (first | (with_reducible exact Ext.refl _) | (with_reducible assumption) | (with_reducible refine Ext.drewN ?_ _) | (with_reducible refine Ext.drew ?_) | (with_reducible refine Ext.alloc ?_ _) | ((with_reducible refine Ext.setCell ?_ ?_ _); rotate_left; focus (first | (simp; done) | (simp; omega) | omega)) | (with_reducible refine Ext.trans ?_ (by with_reducible assumption))))⟩
end Go.Proofs.Ytlpbflmgkopklaa
