/- The law on BestWeights: walked. -/
import Derived.Test.YtlpbflmgkopklaaSBest2
import Derived.Test.YtlpbflmgkopklaaLInts
import Derived.Test.YtlpbflmgkopklaaOpen
namespace Go.Proofs.Ytlpbflmgkopklaa
set_option maxRecDepth 100000
open Go.RowKit

set_option maxHeartbeats 4000000 in
theorem lawBestWeights (x0 : Int) (x1 : Int) (x2 : Int) (b3 : Option Addr) (m3 d3 : Nat) (l3 : List Int) (w : World) (_hx0 : In64 x0) (_hx1 : In64 x1) (_hx2 : In64 x2) (hw3 : Ints w b3 m3 d3 l3) (_hf3 : Fits l3) (hm3 : m3 ≤ 9223372036854775807) :
    Calls Try.prog 7 #[.int .i64 x0, .int .i64 x1, .int .i64 x2, .slice b3 m3 d3] w (Ret (.bool true) w) := by
  have HL3 := Lib.hid hw3.len
  have HW3 := Lib.hid hw3
  clear hw3
  by_cases hs3 : m3 ≤ 1048576
  rotate_left
  · go_enter Try.func7, Try.ntmps7
    go_wp2_with fail
    go_ret
    exact ⟨rfl, (by repeat (first | (with_reducible exact Ext.refl _) | (with_reducible refine Ext.drewN ?_ _) | (with_reducible refine Ext.drew ?_) | (with_reducible refine Ext.alloc ?_ _) | ((with_reducible refine Ext.setCell ?_ ?_ _); rotate_left; focus (first | (simp; done) | (simp; omega) | omega)) | assumption | (with_reducible refine Ext.trans ?_ (by assumption))))⟩
  obtain ⟨R0, hR0⟩ : ∃ R, R = bwL x0 x1 x2 l3 := ⟨_, rfl⟩
  obtain ⟨R1, hR1⟩ : ∃ R, R = bwZ x0 x1 x2 l3 := ⟨_, rfl⟩
  obtain ⟨R2, hR2⟩ : ∃ R, R = bestOk x0 x1 x2 l3 := ⟨_, rfl⟩
  have HSp := Lib.hid (fun (W : World) (b3x : Option Addr) (d3x : Nat) (h3x : Ints W b3x m3 d3x l3) => spec_BW x0 x1 x2 b3x m3 d3x l3 W h3x)
  have HIm := Lib.hid (fun (W : World) (b3x : Option Addr) (d3x : Nat) (h3x : Ints W b3x m3 d3x l3) => impl_BW x0 x1 x2 b3x m3 d3x l3 W h3x)
  rw [← hR0, ← hR1, ← hR2] at HSp HIm
  have hb0 : R0.length ≤ 1048576 := by rw [hR0]; exact (bw_len x0 x1 x2 l3)
  clear hR0 hR1 hR2
  go_enter Try.func7, Try.ntmps7
  go_wp2_with fail
  refine (toInts b3 m3 d3 l3 _ (HW3.out.ext (by repeat (first | (with_reducible exact Ext.refl _) | (with_reducible assumption) | (with_reducible refine Ext.drewN ?_ _) | (with_reducible refine Ext.drew ?_) | (with_reducible refine Ext.alloc ?_ _) | ((with_reducible refine Ext.setCell ?_ ?_ _); rotate_left; focus (first | (simp; done) | (simp; omega) | omega)) | (with_reducible refine Ext.trans ?_ (by with_reducible assumption))))) (by omega)).mono ?_
  rintro e w2_3 ⟨b2_3, y2_3, rfl, hq, hy⟩
  rw [I_len, HL3.out] at hq ⊢
  have HQ2_3 := Lib.hid hq
  have hx2_3 : Ext w w2_3 := Ext.trans (by repeat (first | (with_reducible exact Ext.refl _) | (with_reducible assumption) | (with_reducible refine Ext.drewN ?_ _) | (with_reducible refine Ext.drew ?_) | (with_reducible refine Ext.alloc ?_ _) | ((with_reducible refine Ext.setCell ?_ ?_ _); rotate_left; focus (first | (simp; done) | (simp; omega) | omega)) | (with_reducible refine Ext.trans ?_ (by with_reducible assumption)))) hy
  have hz2_3 := hy
  clear hq hy
  go_wp2_with fail
  refine (HSp.out _ b2_3 y2_3 (HQ2_3.out.ints.ext (by repeat (first | (with_reducible exact Ext.refl _) | (with_reducible assumption) | (with_reducible refine Ext.drewN ?_ _) | (with_reducible refine Ext.drew ?_) | (with_reducible refine Ext.alloc ?_ _) | ((with_reducible refine Ext.setCell ?_ ?_ _); rotate_left; focus (first | (simp; done) | (simp; omega) | omega)) | (with_reducible refine Ext.trans ?_ (by with_reducible assumption)))))).mono ?_
  rintro e w3 ⟨aS0, nS0, cS0, rfl, hy, ho0⟩
  have hxw3 : Ext w w3 := Ext.trans (by repeat (first | (with_reducible exact Ext.refl _) | (with_reducible assumption) | (with_reducible refine Ext.drewN ?_ _) | (with_reducible refine Ext.drew ?_) | (with_reducible refine Ext.alloc ?_ _) | ((with_reducible refine Ext.setCell ?_ ?_ _); rotate_left; focus (first | (simp; done) | (simp; omega) | omega)) | (with_reducible refine Ext.trans ?_ (by with_reducible assumption)))) hy
  have hzw3 := hy
  clear hy
  have hnS0 : nS0 ≤ 1048576 := by have := ho0.len; rw [I_len] at this; omega
  have HOS0 := Lib.hid ho0
  clear ho0
  go_wp2_with fail
  refine (toInts b3 m3 d3 l3 _ (HW3.out.ext (by repeat (first | (with_reducible exact Ext.refl _) | (with_reducible assumption) | (with_reducible refine Ext.drewN ?_ _) | (with_reducible refine Ext.drew ?_) | (with_reducible refine Ext.alloc ?_ _) | ((with_reducible refine Ext.setCell ?_ ?_ _); rotate_left; focus (first | (simp; done) | (simp; omega) | omega)) | (with_reducible refine Ext.trans ?_ (by with_reducible assumption))))) (by omega)).mono ?_
  rintro e w4_3 ⟨b4_3, y4_3, rfl, hq, hy⟩
  rw [I_len, HL3.out] at hq ⊢
  have HQ4_3 := Lib.hid hq
  have hx4_3 : Ext w w4_3 := Ext.trans (by repeat (first | (with_reducible exact Ext.refl _) | (with_reducible assumption) | (with_reducible refine Ext.drewN ?_ _) | (with_reducible refine Ext.drew ?_) | (with_reducible refine Ext.alloc ?_ _) | ((with_reducible refine Ext.setCell ?_ ?_ _); rotate_left; focus (first | (simp; done) | (simp; omega) | omega)) | (with_reducible refine Ext.trans ?_ (by with_reducible assumption)))) hy
  have hz4_3 := hy
  clear hq hy
  go_wp2_with fail
  refine (HIm.out _ b4_3 y4_3 (HQ4_3.out.ints.ext (by repeat (first | (with_reducible exact Ext.refl _) | (with_reducible assumption) | (with_reducible refine Ext.drewN ?_ _) | (with_reducible refine Ext.drew ?_) | (with_reducible refine Ext.alloc ?_ _) | ((with_reducible refine Ext.setCell ?_ ?_ _); rotate_left; focus (first | (simp; done) | (simp; omega) | omega)) | (with_reducible refine Ext.trans ?_ (by with_reducible assumption)))))).mono ?_
  rintro e w5 ⟨aG0, nG0, cG0, rfl, hy, ho0⟩
  have hxw5 : Ext w w5 := Ext.trans (by repeat (first | (with_reducible exact Ext.refl _) | (with_reducible assumption) | (with_reducible refine Ext.drewN ?_ _) | (with_reducible refine Ext.drew ?_) | (with_reducible refine Ext.alloc ?_ _) | ((with_reducible refine Ext.setCell ?_ ?_ _); rotate_left; focus (first | (simp; done) | (simp; omega) | omega)) | (with_reducible refine Ext.trans ?_ (by with_reducible assumption)))) hy
  have hzw5 := hy
  clear hy
  have hnG0 : nG0 ≤ 1048576 := by have := ho0.len; rw [I_len] at this; omega
  have HOG0 := Lib.hid ho0
  clear ho0
  obtain rfl : nG0 = nS0 := HOG0.out.ints.len.symm.trans HOS0.out.ints.len
  go_wp2_with (first | (go_at_call 12; (with_reducible refine (eqIntsT aG0 aS0 nG0 cG0 cS0 R0 _ (HOG0.out.ints.ext (by repeat (first | (with_reducible exact Ext.refl _) | (with_reducible assumption) | (with_reducible refine Ext.drewN ?_ _) | (with_reducible refine Ext.drew ?_) | (with_reducible refine Ext.alloc ?_ _) | ((with_reducible refine Ext.setCell ?_ ?_ _); rotate_left; focus (first | (simp; done) | (simp; omega) | omega)) | (with_reducible refine Ext.trans ?_ (by with_reducible assumption))))) (HOS0.out.ints.ext (by repeat (first | (with_reducible exact Ext.refl _) | (with_reducible assumption) | (with_reducible refine Ext.drewN ?_ _) | (with_reducible refine Ext.drew ?_) | (with_reducible refine Ext.alloc ?_ _) | ((with_reducible refine Ext.setCell ?_ ?_ _); rotate_left; focus (first | (simp; done) | (simp; omega) | omega)) | (with_reducible refine Ext.trans ?_ (by with_reducible assumption))))) (by omega)).mono ?_); rintro e wq ⟨rfl, q, rfl⟩) | (go_at_call 22; (with_reducible refine (toInts b3 m3 d3 l3 _ (HW3.out.ext (by repeat (first | (with_reducible exact Ext.refl _) | (with_reducible assumption) | (with_reducible refine Ext.drewN ?_ _) | (with_reducible refine Ext.drew ?_) | (with_reducible refine Ext.alloc ?_ _) | ((with_reducible refine Ext.setCell ?_ ?_ _); rotate_left; focus (first | (simp; done) | (simp; omega) | omega)) | (with_reducible refine Ext.trans ?_ (by with_reducible assumption))))) (by omega)).mono ?_); rintro e w6_3 ⟨b6_3, y6_3, rfl, hq, hy⟩; rw [I_len, HL3.out] at hq ⊢; have HQ6_3 := Lib.hid hq; have hx6_3 : Ext w w6_3 := Ext.trans (by repeat (first | (with_reducible exact Ext.refl _) | (with_reducible assumption) | (with_reducible refine Ext.drewN ?_ _) | (with_reducible refine Ext.drew ?_) | (with_reducible refine Ext.alloc ?_ _) | ((with_reducible refine Ext.setCell ?_ ?_ _); rotate_left; focus (first | (simp; done) | (simp; omega) | omega)) | (with_reducible refine Ext.trans ?_ (by with_reducible assumption)))) hy; have hz6_3 := hy; clear hq hy) | (go_at_call 12; (with_reducible refine (eqIntsT b4_3 b6_3 m3 y4_3 y6_3 l3 _ (HQ4_3.out.ints.ext (by repeat (first | (with_reducible exact Ext.refl _) | (with_reducible assumption) | (with_reducible refine Ext.drewN ?_ _) | (with_reducible refine Ext.drew ?_) | (with_reducible refine Ext.alloc ?_ _) | ((with_reducible refine Ext.setCell ?_ ?_ _); rotate_left; focus (first | (simp; done) | (simp; omega) | omega)) | (with_reducible refine Ext.trans ?_ (by with_reducible assumption))))) (HQ6_3.out.ints.ext (by repeat (first | (with_reducible exact Ext.refl _) | (with_reducible assumption) | (with_reducible refine Ext.drewN ?_ _) | (with_reducible refine Ext.drew ?_) | (with_reducible refine Ext.alloc ?_ _) | ((with_reducible refine Ext.setCell ?_ ?_ _); rotate_left; focus (first | (simp; done) | (simp; omega) | omega)) | (with_reducible refine Ext.trans ?_ (by with_reducible assumption))))) (by omega)).mono ?_); rintro e wq ⟨rfl, q, rfl⟩))
  have hlw : w.heap.size ≤ w3.heap.size := hxw3.le
  have hl4_3 : w3.heap.size ≤ w4_3.heap.size := Ext.le (by repeat (first | (with_reducible exact Ext.refl _) | (with_reducible assumption) | (with_reducible refine Ext.drewN ?_ _) | (with_reducible refine Ext.drew ?_) | (with_reducible refine Ext.alloc ?_ _) | ((with_reducible refine Ext.setCell ?_ ?_ _); rotate_left; focus (first | (simp; done) | (simp; omega) | omega)) | (with_reducible refine Ext.trans ?_ (by with_reducible assumption))))
  have hl5 : w4_3.heap.size ≤ w5.heap.size := Ext.le (by repeat (first | (with_reducible exact Ext.refl _) | (with_reducible assumption) | (with_reducible refine Ext.drewN ?_ _) | (with_reducible refine Ext.drew ?_) | (with_reducible refine Ext.alloc ?_ _) | ((with_reducible refine Ext.setCell ?_ ?_ _); rotate_left; focus (first | (simp; done) | (simp; omega) | omega)) | (with_reducible refine Ext.trans ?_ (by with_reducible assumption))))
  have HI3 := Lib.hid (show OwnIn w4_3 w3.heap.size w4_3.heap.size 2 b4_3 m3 y4_3 (I l3) from HQ4_3.out.in.mono (Ext.le (by repeat (first | (with_reducible exact Ext.refl _) | (with_reducible assumption) | (with_reducible refine Ext.drewN ?_ _) | (with_reducible refine Ext.drew ?_) | (with_reducible refine Ext.alloc ?_ _) | ((with_reducible refine Ext.setCell ?_ ?_ _); rotate_left; focus (first | (simp; done) | (simp; omega) | omega)) | (with_reducible refine Ext.trans ?_ (by with_reducible assumption))))) (Nat.le_refl _))
  refine (markIntsC b4_3 m3 y4_3 l3 0 w3.heap.size w4_3.heap.size _ (HI3.out.ext (by repeat (first | (with_reducible exact Ext.refl _) | (with_reducible assumption) | (with_reducible refine Ext.drewN ?_ _) | (with_reducible refine Ext.drew ?_) | (with_reducible refine Ext.alloc ?_ _) | ((with_reducible refine Ext.setCell ?_ ?_ _); rotate_left; focus (first | (simp; done) | (simp; omega) | omega)) | (with_reducible refine Ext.trans ?_ (by with_reducible assumption))))) (by omega)).mono ?_
  rintro e w8_3 ⟨rfl, hc3⟩
  have hc8 : Chg w3.heap.size w4_3.heap.size w5 w8_3 := ((Chg.ext (show Ext w5 _ from (by repeat (first | (with_reducible exact Ext.refl _) | (with_reducible assumption) | (with_reducible refine Ext.drewN ?_ _) | (with_reducible refine Ext.drew ?_) | (with_reducible refine Ext.alloc ?_ _) | ((with_reducible refine Ext.setCell ?_ ?_ _); rotate_left; focus (first | (simp; done) | (simp; omega) | omega)) | (with_reducible refine Ext.trans ?_ (by with_reducible assumption))))) _ _).trans hc3)
  have hx38 : Ext w3 w8_3 := hc8.to (show Ext w3 w5 from (by repeat (first | (with_reducible exact Ext.refl _) | (with_reducible assumption) | (with_reducible refine Ext.drewN ?_ _) | (with_reducible refine Ext.drew ?_) | (with_reducible refine Ext.alloc ?_ _) | ((with_reducible refine Ext.setCell ?_ ?_ _); rotate_left; focus (first | (simp; done) | (simp; omega) | omega)) | (with_reducible refine Ext.trans ?_ (by with_reducible assumption))))) (Nat.le_refl _)
  have hx8 : Ext w w8_3 := hxw3.trans hx38
  have HG8_0 := Lib.hid (((HOG0.out.mono (B' := w4_3.heap.size) (Ext.le (by repeat (first | (with_reducible exact Ext.refl _) | (with_reducible assumption) | (with_reducible refine Ext.drewN ?_ _) | (with_reducible refine Ext.drew ?_) | (with_reducible refine Ext.alloc ?_ _) | ((with_reducible refine Ext.setCell ?_ ?_ _); rotate_left; focus (first | (simp; done) | (simp; omega) | omega)) | (with_reducible refine Ext.trans ?_ (by with_reducible assumption)))))).in).chg hc8 (.inl (Nat.le_refl _))).1
  have hB8 : w3.heap.size ≤ w4_3.heap.size := by omega
  go_wp2_with (first | (go_at_call 12; (with_reducible refine (eqIntsT aG0 aS0 nG0 cG0 cS0 R0 _ (HG8_0.out.ints.ext (by repeat (first | (with_reducible exact Ext.refl _) | (with_reducible assumption) | (with_reducible refine Ext.drewN ?_ _) | (with_reducible refine Ext.drew ?_) | (with_reducible refine Ext.alloc ?_ _) | ((with_reducible refine Ext.setCell ?_ ?_ _); rotate_left; focus (first | (simp; done) | (simp; omega) | omega)) | (with_reducible refine Ext.trans ?_ (by with_reducible assumption))))) (HOS0.out.ints.ext (hx38.trans (by repeat (first | (with_reducible exact Ext.refl _) | (with_reducible assumption) | (with_reducible refine Ext.drewN ?_ _) | (with_reducible refine Ext.drew ?_) | (with_reducible refine Ext.alloc ?_ _) | ((with_reducible refine Ext.setCell ?_ ?_ _); rotate_left; focus (first | (simp; done) | (simp; omega) | omega)) | (with_reducible refine Ext.trans ?_ (by with_reducible assumption)))))) (by omega)).mono ?_); rintro e wq ⟨rfl, q, rfl⟩))
  refine (markInts1 aG0 nG0 cG0 R0 w4_3.heap.size _ (HG8_0.out.ext (by repeat (first | (with_reducible exact Ext.refl _) | (with_reducible assumption) | (with_reducible refine Ext.drewN ?_ _) | (with_reducible refine Ext.drew ?_) | (with_reducible refine Ext.alloc ?_ _) | ((with_reducible refine Ext.setCell ?_ ?_ _); rotate_left; focus (first | (simp; done) | (simp; omega) | omega)) | (with_reducible refine Ext.trans ?_ (by with_reducible assumption))))) (by omega)).mono ?_
  rintro e w9_0 ⟨rfl, hm0, hg0⟩
  have hx39_0 : Ext w3 w9_0 := hm0.to (hx38.trans (by repeat (first | (with_reducible exact Ext.refl _) | (with_reducible assumption) | (with_reducible refine Ext.drewN ?_ _) | (with_reducible refine Ext.drew ?_) | (with_reducible refine Ext.alloc ?_ _) | ((with_reducible refine Ext.setCell ?_ ?_ _); rotate_left; focus (first | (simp; done) | (simp; omega) | omega)) | (with_reducible refine Ext.trans ?_ (by with_reducible assumption))))) hB8
  have HK9_0 := Lib.hid hg0
  clear hm0 hg0
  have hx9 : Ext w w9_0 := hxw3.trans hx39_0
  go_wp2_with (first | (go_at_call 14; (with_reducible refine (heldInts1 aG0 nG0 cG0 _ (HK9_0.out.ints.ext (by repeat (first | (with_reducible exact Ext.refl _) | (with_reducible assumption) | (with_reducible refine Ext.drewN ?_ _) | (with_reducible refine Ext.drew ?_) | (with_reducible refine Ext.alloc ?_ _) | ((with_reducible refine Ext.setCell ?_ ?_ _); rotate_left; focus (first | (simp; done) | (simp; omega) | omega)) | (with_reducible refine Ext.trans ?_ (by with_reducible assumption))))) (by omega)).mono ?_); rintro e wh0 ⟨rfl, hyh0⟩; have hxh0 : Ext w wh0 := Ext.trans (by repeat (first | (with_reducible exact Ext.refl _) | (with_reducible assumption) | (with_reducible refine Ext.drewN ?_ _) | (with_reducible refine Ext.drew ?_) | (with_reducible refine Ext.alloc ?_ _) | ((with_reducible refine Ext.setCell ?_ ?_ _); rotate_left; focus (first | (simp; done) | (simp; omega) | omega)) | (with_reducible refine Ext.trans ?_ (by with_reducible assumption)))) hyh0; have hzh0 := hyh0; clear hyh0))
  refine (toInts b3 m3 d3 l3 _ (HW3.out.ext (by repeat (first | (with_reducible exact Ext.refl _) | (with_reducible assumption) | (with_reducible refine Ext.drewN ?_ _) | (with_reducible refine Ext.drew ?_) | (with_reducible refine Ext.alloc ?_ _) | ((with_reducible refine Ext.setCell ?_ ?_ _); rotate_left; focus (first | (simp; done) | (simp; omega) | omega)) | (with_reducible refine Ext.trans ?_ (by with_reducible assumption))))) (by omega)).mono ?_
  rintro e w11_3 ⟨b11_3, y11_3, rfl, hq, hy⟩
  rw [I_len, HL3.out] at hq ⊢
  have HQ11_3 := Lib.hid hq
  have hx11_3 : Ext w w11_3 := Ext.trans (by repeat (first | (with_reducible exact Ext.refl _) | (with_reducible assumption) | (with_reducible refine Ext.drewN ?_ _) | (with_reducible refine Ext.drew ?_) | (with_reducible refine Ext.alloc ?_ _) | ((with_reducible refine Ext.setCell ?_ ?_ _); rotate_left; focus (first | (simp; done) | (simp; omega) | omega)) | (with_reducible refine Ext.trans ?_ (by with_reducible assumption)))) hy
  have hz11_3 := hy
  clear hq hy
  go_wp2_with fail
  refine (HIm.out _ b11_3 y11_3 (HQ11_3.out.ints.ext (by repeat (first | (with_reducible exact Ext.refl _) | (with_reducible assumption) | (with_reducible refine Ext.drewN ?_ _) | (with_reducible refine Ext.drew ?_) | (with_reducible refine Ext.alloc ?_ _) | ((with_reducible refine Ext.setCell ?_ ?_ _); rotate_left; focus (first | (simp; done) | (simp; omega) | omega)) | (with_reducible refine Ext.trans ?_ (by with_reducible assumption)))))).mono ?_
  rintro e w12 ⟨aH0, nH0, cH0, rfl, hy, ho0⟩
  have hxw12 : Ext w w12 := Ext.trans (by repeat (first | (with_reducible exact Ext.refl _) | (with_reducible assumption) | (with_reducible refine Ext.drewN ?_ _) | (with_reducible refine Ext.drew ?_) | (with_reducible refine Ext.alloc ?_ _) | ((with_reducible refine Ext.setCell ?_ ?_ _); rotate_left; focus (first | (simp; done) | (simp; omega) | omega)) | (with_reducible refine Ext.trans ?_ (by with_reducible assumption)))) hy
  have hzw12 := hy
  clear hy
  have hnH0 : nH0 ≤ 1048576 := by have := ho0.len; rw [I_len] at this; omega
  have HOH0 := Lib.hid ho0
  clear ho0
  obtain rfl : nH0 = nG0 := HOH0.out.ints.len.symm.trans HOS0.out.ints.len
  go_wp2_with (first | (go_at_call 12; (with_reducible refine (eqIntsT aH0 aS0 nH0 cH0 cS0 R0 _ (HOH0.out.ints.ext (by repeat (first | (with_reducible exact Ext.refl _) | (with_reducible assumption) | (with_reducible refine Ext.drewN ?_ _) | (with_reducible refine Ext.drew ?_) | (with_reducible refine Ext.alloc ?_ _) | ((with_reducible refine Ext.setCell ?_ ?_ _); rotate_left; focus (first | (simp; done) | (simp; omega) | omega)) | (with_reducible refine Ext.trans ?_ (by with_reducible assumption))))) (HOS0.out.ints.ext (hx39_0.trans (by repeat (first | (with_reducible exact Ext.refl _) | (with_reducible assumption) | (with_reducible refine Ext.drewN ?_ _) | (with_reducible refine Ext.drew ?_) | (with_reducible refine Ext.alloc ?_ _) | ((with_reducible refine Ext.setCell ?_ ?_ _); rotate_left; focus (first | (simp; done) | (simp; omega) | omega)) | (with_reducible refine Ext.trans ?_ (by with_reducible assumption)))))) (by omega)).mono ?_); rintro e wq ⟨rfl, q, rfl⟩) | (go_at_call 14; (with_reducible refine (heldInts1 aG0 nH0 cG0 _ (HK9_0.out.ints.ext (by repeat (first | (with_reducible exact Ext.refl _) | (with_reducible assumption) | (with_reducible refine Ext.drewN ?_ _) | (with_reducible refine Ext.drew ?_) | (with_reducible refine Ext.alloc ?_ _) | ((with_reducible refine Ext.setCell ?_ ?_ _); rotate_left; focus (first | (simp; done) | (simp; omega) | omega)) | (with_reducible refine Ext.trans ?_ (by with_reducible assumption))))) (by omega)).mono ?_); rintro e wk0 ⟨rfl, hyk0⟩; have hxk0 : Ext w wk0 := Ext.trans (by repeat (first | (with_reducible exact Ext.refl _) | (with_reducible assumption) | (with_reducible refine Ext.drewN ?_ _) | (with_reducible refine Ext.drew ?_) | (with_reducible refine Ext.alloc ?_ _) | ((with_reducible refine Ext.setCell ?_ ?_ _); rotate_left; focus (first | (simp; done) | (simp; omega) | omega)) | (with_reducible refine Ext.trans ?_ (by with_reducible assumption)))) hyk0; have hzk0 := hyk0; clear hyk0))
  go_ret
  exact ⟨rfl, (by repeat (first | (with_reducible exact Ext.refl _) | (with_reducible assumption) | (with_reducible refine Ext.drewN ?_ _) | (with_reducible refine Ext.drew ?_) | (with_reducible refine Ext.alloc ?_ _) | ((with_reducible refine Ext.setCell ?_ ?_ _); rotate_left; focus (first | (simp; done) | (simp; omega) | omega)) | (with_reducible refine Ext.trans ?_ (by with_reducible assumption))))⟩
end Go.Proofs.Ytlpbflmgkopklaa
