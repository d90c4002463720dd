/- The law on BestPair: walked. -/
import Derived.Test.YtlpbflmgkopklaaPair5
import Derived.Test.YtlpbflmgkopklaaLInts
import Derived.Test.YtlpbflmgkopklaaOpen
namespace Go.Proofs.Ytlpbflmgkopklaa
set_option maxRecDepth 100000
open Go.RowKit

set_option maxHeartbeats 4000000 in
theorem lawBestPair (x0 : Int) (x1 : Int) (w : World) (_hx0 : In64 x0) (_hx1 : In64 x1) :
    Calls Try.prog 3 #[.int .i64 x0, .int .i64 x1] w (Ret (.bool true) w) := by
  obtain ⟨R0, hR0⟩ : ∃ R, R = bpL1 x0 x1 := ⟨_, rfl⟩
  obtain ⟨R1, hR1⟩ : ∃ R, R = bpL2 x0 x1 := ⟨_, rfl⟩
  obtain ⟨R2, hR2⟩ : ∃ R, R = bpZ x0 x1 := ⟨_, rfl⟩
  obtain ⟨R3, hR3⟩ : ∃ R, R = bpB x0 x1 := ⟨_, rfl⟩
  have HSp := Lib.hid (fun (W : World)   => spec_BP x0 x1 W )
  have HIm := Lib.hid (fun (W : World)   => impl_BP x0 x1 W )
  rw [← hR0, ← hR1, ← hR2, ← hR3] at HSp HIm
  have hb0 : R0.length ≤ 1048576 := by rw [hR0]; exact (bp_len1 x0 x1)
  have hb1 : R1.length ≤ 1048576 := by rw [hR1]; exact (bp_len2 x0 x1)
  clear hR0 hR1 hR2 hR3
  go_enter Try.func3, Try.ntmps3
  go_wp2_with fail
  refine (HSp.out _  ).mono ?_
  rintro e w3 ⟨aS0, nS0, cS0, aS1, nS1, cS1, rfl, hy, ho0, ho1, hneS⟩
  have hxw3 : Ext w w3 := Ext.trans (by repeat (first | (with_reducible exact Ext.refl _) | (with_reducible assumption) | (with_reducible refine Ext.drewN ?_ _) | (with_reducible refine Ext.drew ?_) | (with_reducible refine Ext.alloc ?_ _) | ((with_reducible refine Ext.setCell ?_ ?_ _); rotate_left; focus (first | (simp; done) | (simp; omega) | omega)) | (with_reducible refine Ext.trans ?_ (by with_reducible assumption)))) hy
  have hzw3 := hy
  clear hy
  have hnS0 : nS0 ≤ 1048576 := by have := ho0.len; rw [I_len] at this; omega
  have HOS0 := Lib.hid ho0
  clear ho0
  have hnS1 : nS1 ≤ 1048576 := by have := ho1.len; rw [I_len] at this; omega
  have HOS1 := Lib.hid ho1
  clear ho1
  go_wp2_with fail
  refine (HIm.out _  ).mono ?_
  rintro e w5 ⟨aG0, nG0, cG0, aG1, nG1, cG1, rfl, hy, ho0, ho1, hneG⟩
  have hxw5 : Ext w w5 := Ext.trans (by repeat (first | (with_reducible exact Ext.refl _) | (with_reducible assumption) | (with_reducible refine Ext.drewN ?_ _) | (with_reducible refine Ext.drew ?_) | (with_reducible refine Ext.alloc ?_ _) | ((with_reducible refine Ext.setCell ?_ ?_ _); rotate_left; focus (first | (simp; done) | (simp; omega) | omega)) | (with_reducible refine Ext.trans ?_ (by with_reducible assumption)))) hy
  have hzw5 := hy
  clear hy
  have hnG0 : nG0 ≤ 1048576 := by have := ho0.len; rw [I_len] at this; omega
  have HOG0 := Lib.hid ho0
  clear ho0
  have hnG1 : nG1 ≤ 1048576 := by have := ho1.len; rw [I_len] at this; omega
  have HOG1 := Lib.hid ho1
  clear ho1
  obtain rfl : nG0 = nS0 := HOG0.out.ints.len.symm.trans HOS0.out.ints.len
  obtain rfl : nG1 = nS1 := HOG1.out.ints.len.symm.trans HOS1.out.ints.len
  go_wp2_with (first | (go_at_call 12; (with_reducible refine (eqIntsT aG0 aS0 nG0 cG0 cS0 R0 _ (HOG0.out.ints.ext (by repeat (first | (with_reducible exact Ext.refl _) | (with_reducible assumption) | (with_reducible refine Ext.drewN ?_ _) | (with_reducible refine Ext.drew ?_) | (with_reducible refine Ext.alloc ?_ _) | ((with_reducible refine Ext.setCell ?_ ?_ _); rotate_left; focus (first | (simp; done) | (simp; omega) | omega)) | (with_reducible refine Ext.trans ?_ (by with_reducible assumption))))) (HOS0.out.ints.ext (by repeat (first | (with_reducible exact Ext.refl _) | (with_reducible assumption) | (with_reducible refine Ext.drewN ?_ _) | (with_reducible refine Ext.drew ?_) | (with_reducible refine Ext.alloc ?_ _) | ((with_reducible refine Ext.setCell ?_ ?_ _); rotate_left; focus (first | (simp; done) | (simp; omega) | omega)) | (with_reducible refine Ext.trans ?_ (by with_reducible assumption))))) (by omega)).mono ?_); rintro e wq ⟨rfl, q, rfl⟩) | (go_at_call 12; (with_reducible refine (eqIntsT aG1 aS1 nG1 cG1 cS1 R1 _ (HOG1.out.ints.ext (by repeat (first | (with_reducible exact Ext.refl _) | (with_reducible assumption) | (with_reducible refine Ext.drewN ?_ _) | (with_reducible refine Ext.drew ?_) | (with_reducible refine Ext.alloc ?_ _) | ((with_reducible refine Ext.setCell ?_ ?_ _); rotate_left; focus (first | (simp; done) | (simp; omega) | omega)) | (with_reducible refine Ext.trans ?_ (by with_reducible assumption))))) (HOS1.out.ints.ext (by repeat (first | (with_reducible exact Ext.refl _) | (with_reducible assumption) | (with_reducible refine Ext.drewN ?_ _) | (with_reducible refine Ext.drew ?_) | (with_reducible refine Ext.alloc ?_ _) | ((with_reducible refine Ext.setCell ?_ ?_ _); rotate_left; focus (first | (simp; done) | (simp; omega) | omega)) | (with_reducible refine Ext.trans ?_ (by with_reducible assumption))))) (by omega)).mono ?_); rintro e wq ⟨rfl, q, rfl⟩))
  have hx38 : Ext w3 w5 := (by repeat (first | (with_reducible exact Ext.refl _) | (with_reducible assumption) | (with_reducible refine Ext.drewN ?_ _) | (with_reducible refine Ext.drew ?_) | (with_reducible refine Ext.alloc ?_ _) | ((with_reducible refine Ext.setCell ?_ ?_ _); rotate_left; focus (first | (simp; done) | (simp; omega) | omega)) | (with_reducible refine Ext.trans ?_ (by with_reducible assumption))))
  have hx8 : Ext w w5 := hxw5
  have HG8_0 := Lib.hid (HOG0.out.mono (B' := w3.heap.size) (Ext.le (by repeat (first | (with_reducible exact Ext.refl _) | (with_reducible assumption) | (with_reducible refine Ext.drewN ?_ _) | (with_reducible refine Ext.drew ?_) | (with_reducible refine Ext.alloc ?_ _) | ((with_reducible refine Ext.setCell ?_ ?_ _); rotate_left; focus (first | (simp; done) | (simp; omega) | omega)) | (with_reducible refine Ext.trans ?_ (by with_reducible assumption))))))
  have HG8_1 := Lib.hid (HOG1.out.mono (B' := w3.heap.size) (Ext.le (by repeat (first | (with_reducible exact Ext.refl _) | (with_reducible assumption) | (with_reducible refine Ext.drewN ?_ _) | (with_reducible refine Ext.drew ?_) | (with_reducible refine Ext.alloc ?_ _) | ((with_reducible refine Ext.setCell ?_ ?_ _); rotate_left; focus (first | (simp; done) | (simp; omega) | omega)) | (with_reducible refine Ext.trans ?_ (by with_reducible assumption))))))
  have hB8 : w3.heap.size ≤ w3.heap.size := by omega
  refine (markInts1 aG0 nG0 cG0 R0 w3.heap.size _ (HG8_0.out.ext (by repeat (first | (with_reducible exact Ext.refl _) | (with_reducible assumption) | (with_reducible refine Ext.drewN ?_ _) | (with_reducible refine Ext.drew ?_) | (with_reducible refine Ext.alloc ?_ _) | ((with_reducible refine Ext.setCell ?_ ?_ _); rotate_left; focus (first | (simp; done) | (simp; omega) | omega)) | (with_reducible refine Ext.trans ?_ (by with_reducible assumption))))) (by omega)).mono ?_
  rintro e w9_0 ⟨rfl, hm0, hg0⟩
  have hx39_0 : Ext w3 w9_0 := hm0.to (hx38.trans (by repeat (first | (with_reducible exact Ext.refl _) | (with_reducible assumption) | (with_reducible refine Ext.drewN ?_ _) | (with_reducible refine Ext.drew ?_) | (with_reducible refine Ext.alloc ?_ _) | ((with_reducible refine Ext.setCell ?_ ?_ _); rotate_left; focus (first | (simp; done) | (simp; omega) | omega)) | (with_reducible refine Ext.trans ?_ (by with_reducible assumption))))) hB8
  have HG9_1 := Lib.hid (hm0.own (HG8_1.out.ext (by repeat (first | (with_reducible exact Ext.refl _) | (with_reducible assumption) | (with_reducible refine Ext.drewN ?_ _) | (with_reducible refine Ext.drew ?_) | (with_reducible refine Ext.alloc ?_ _) | ((with_reducible refine Ext.setCell ?_ ?_ _); rotate_left; focus (first | (simp; done) | (simp; omega) | omega)) | (with_reducible refine Ext.trans ?_ (by with_reducible assumption))))) hneG)
  have HK9_0 := Lib.hid hg0
  clear hm0 hg0
  go_wp2_with fail
  refine (markInts2 aG1 nG1 cG1 R1 (nG0) w3.heap.size _ HG9_1.out (by omega)).mono ?_
  rintro e w9_1 ⟨rfl, hm1, hg1⟩
  have hx39_1 : Ext w3 w9_1 := hm1.to hx39_0 hB8
  have HK10_0 := Lib.hid (hm1.own HK9_0.out (fun g g' h h' => (hneG g' g h' h).symm))
  have HK9_1 := Lib.hid hg1
  clear hm1 hg1
  have hx9 : Ext w w9_1 := hxw3.trans hx39_1
  go_wp2_with (first | (go_at_call 14; (with_reducible refine (heldInts1 aG0 nG0 cG0 _ (HK10_0.out.ints.ext (by repeat (first | (with_reducible exact Ext.refl _) | (with_reducible assumption) | (with_reducible refine Ext.drewN ?_ _) | (with_reducible refine Ext.drew ?_) | (with_reducible refine Ext.alloc ?_ _) | ((with_reducible refine Ext.setCell ?_ ?_ _); rotate_left; focus (first | (simp; done) | (simp; omega) | omega)) | (with_reducible refine Ext.trans ?_ (by with_reducible assumption))))) (by omega)).mono ?_); rintro e wh0 ⟨rfl, hyh0⟩; have hxh0 : Ext w wh0 := Ext.trans (by repeat (first | (with_reducible exact Ext.refl _) | (with_reducible assumption) | (with_reducible refine Ext.drewN ?_ _) | (with_reducible refine Ext.drew ?_) | (with_reducible refine Ext.alloc ?_ _) | ((with_reducible refine Ext.setCell ?_ ?_ _); rotate_left; focus (first | (simp; done) | (simp; omega) | omega)) | (with_reducible refine Ext.trans ?_ (by with_reducible assumption)))) hyh0; have hzh0 := hyh0; clear hyh0) | (go_at_call 14; (with_reducible refine (heldInts2 aG1 nG1 cG1 (nG0) _ (HK9_1.out.ints.ext (by repeat (first | (with_reducible exact Ext.refl _) | (with_reducible assumption) | (with_reducible refine Ext.drewN ?_ _) | (with_reducible refine Ext.drew ?_) | (with_reducible refine Ext.alloc ?_ _) | ((with_reducible refine Ext.setCell ?_ ?_ _); rotate_left; focus (first | (simp; done) | (simp; omega) | omega)) | (with_reducible refine Ext.trans ?_ (by with_reducible assumption))))) (by omega)).mono ?_); rintro e wh1 ⟨rfl, hyh1⟩; have hxh1 : Ext w wh1 := Ext.trans (by repeat (first | (with_reducible exact Ext.refl _) | (with_reducible assumption) | (with_reducible refine Ext.drewN ?_ _) | (with_reducible refine Ext.drew ?_) | (with_reducible refine Ext.alloc ?_ _) | ((with_reducible refine Ext.setCell ?_ ?_ _); rotate_left; focus (first | (simp; done) | (simp; omega) | omega)) | (with_reducible refine Ext.trans ?_ (by with_reducible assumption)))) hyh1; have hzh1 := hyh1; clear hyh1))
  refine (HIm.out _  ).mono ?_
  rintro e w12 ⟨aH0, nH0, cH0, aH1, nH1, cH1, rfl, hy, ho0, ho1, hneH⟩
  have hxw12 : Ext w w12 := Ext.trans (by repeat (first | (with_reducible exact Ext.refl _) | (with_reducible assumption) | (with_reducible refine Ext.drewN ?_ _) | (with_reducible refine Ext.drew ?_) | (with_reducible refine Ext.alloc ?_ _) | ((with_reducible refine Ext.setCell ?_ ?_ _); rotate_left; focus (first | (simp; done) | (simp; omega) | omega)) | (with_reducible refine Ext.trans ?_ (by with_reducible assumption)))) hy
  have hzw12 := hy
  clear hy
  have hnH0 : nH0 ≤ 1048576 := by have := ho0.len; rw [I_len] at this; omega
  have HOH0 := Lib.hid ho0
  clear ho0
  have hnH1 : nH1 ≤ 1048576 := by have := ho1.len; rw [I_len] at this; omega
  have HOH1 := Lib.hid ho1
  clear ho1
  obtain rfl : nH0 = nG0 := HOH0.out.ints.len.symm.trans HOS0.out.ints.len
  obtain rfl : nH1 = nG1 := HOH1.out.ints.len.symm.trans HOS1.out.ints.len
  go_wp2_with (first | (go_at_call 12; (with_reducible refine (eqIntsT aH0 aS0 nH0 cH0 cS0 R0 _ (HOH0.out.ints.ext (by repeat (first | (with_reducible exact Ext.refl _) | (with_reducible assumption) | (with_reducible refine Ext.drewN ?_ _) | (with_reducible refine Ext.drew ?_) | (with_reducible refine Ext.alloc ?_ _) | ((with_reducible refine Ext.setCell ?_ ?_ _); rotate_left; focus (first | (simp; done) | (simp; omega) | omega)) | (with_reducible refine Ext.trans ?_ (by with_reducible assumption))))) (HOS0.out.ints.ext (hx39_1.trans (by repeat (first | (with_reducible exact Ext.refl _) | (with_reducible assumption) | (with_reducible refine Ext.drewN ?_ _) | (with_reducible refine Ext.drew ?_) | (with_reducible refine Ext.alloc ?_ _) | ((with_reducible refine Ext.setCell ?_ ?_ _); rotate_left; focus (first | (simp; done) | (simp; omega) | omega)) | (with_reducible refine Ext.trans ?_ (by with_reducible assumption)))))) (by omega)).mono ?_); rintro e wq ⟨rfl, q, rfl⟩) | (go_at_call 12; (with_reducible refine (eqIntsT aH1 aS1 nH1 cH1 cS1 R1 _ (HOH1.out.ints.ext (by repeat (first | (with_reducible exact Ext.refl _) | (with_reducible assumption) | (with_reducible refine Ext.drewN ?_ _) | (with_reducible refine Ext.drew ?_) | (with_reducible refine Ext.alloc ?_ _) | ((with_reducible refine Ext.setCell ?_ ?_ _); rotate_left; focus (first | (simp; done) | (simp; omega) | omega)) | (with_reducible refine Ext.trans ?_ (by with_reducible assumption))))) (HOS1.out.ints.ext (hx39_1.trans (by repeat (first | (with_reducible exact Ext.refl _) | (with_reducible assumption) | (with_reducible refine Ext.drewN ?_ _) | (with_reducible refine Ext.drew ?_) | (with_reducible refine Ext.alloc ?_ _) | ((with_reducible refine Ext.setCell ?_ ?_ _); rotate_left; focus (first | (simp; done) | (simp; omega) | omega)) | (with_reducible refine Ext.trans ?_ (by with_reducible assumption)))))) (by omega)).mono ?_); rintro e wq ⟨rfl, q, rfl⟩) | (go_at_call 14; (with_reducible refine (heldInts1 aG0 nH0 cG0 _ (HK10_0.out.ints.ext (by repeat (first | (with_reducible exact Ext.refl _) | (with_reducible assumption) | (with_reducible refine Ext.drewN ?_ _) | (with_reducible refine Ext.drew ?_) | (with_reducible refine Ext.alloc ?_ _) | ((with_reducible refine Ext.setCell ?_ ?_ _); rotate_left; focus (first | (simp; done) | (simp; omega) | omega)) | (with_reducible refine Ext.trans ?_ (by with_reducible assumption))))) (by omega)).mono ?_); rintro e wk0 ⟨rfl, hyk0⟩; have hxk0 : Ext w wk0 := Ext.trans (by repeat (first | (with_reducible exact Ext.refl _) | (with_reducible assumption) | (with_reducible refine Ext.drewN ?_ _) | (with_reducible refine Ext.drew ?_) | (with_reducible refine Ext.alloc ?_ _) | ((with_reducible refine Ext.setCell ?_ ?_ _); rotate_left; focus (first | (simp; done) | (simp; omega) | omega)) | (with_reducible refine Ext.trans ?_ (by with_reducible assumption)))) hyk0; have hzk0 := hyk0; clear hyk0) | (go_at_call 14; (with_reducible refine (heldInts2 aG1 nH1 cG1 (nH0) _ (HK9_1.out.ints.ext (by repeat (first | (with_reducible exact Ext.refl _) | (with_reducible assumption) | (with_reducible refine Ext.drewN ?_ _) | (with_reducible refine Ext.drew ?_) | (with_reducible refine Ext.alloc ?_ _) | ((with_reducible refine Ext.setCell ?_ ?_ _); rotate_left; focus (first | (simp; done) | (simp; omega) | omega)) | (with_reducible refine Ext.trans ?_ (by with_reducible assumption))))) (by omega)).mono ?_); rintro e wk1 ⟨rfl, hyk1⟩; have hxk1 : Ext w wk1 := Ext.trans (by repeat (first | (with_reducible exact Ext.refl _) | (with_reducible assumption) | (with_reducible refine Ext.drewN ?_ _) | (with_reducible refine Ext.drew ?_) | (with_reducible refine Ext.alloc ?_ _) | ((with_reducible refine Ext.setCell ?_ ?_ _); rotate_left; focus (first | (simp; done) | (simp; omega) | omega)) | (with_reducible refine Ext.trans ?_ (by with_reducible assumption)))) hyk1; have hzk1 := hyk1; clear hyk1))
  go_ret
  exact ⟨rfl, (by repeat (first | (with_reducible exact Ext.refl _) | (with_reducible assumption) | (with_reducible refine Ext.drewN ?_ _) | (with_reducible refine Ext.drew ?_) | (with_reducible refine Ext.alloc ?_ _) | ((with_reducible refine Ext.setCell ?_ ?_ _); rotate_left; focus (first | (simp; done) | (simp; omega) | omega)) | (with_reducible refine Ext.trans ?_ (by with_reducible assumption))))⟩
end Go.Proofs.Ytlpbflmgkopklaa
