/- The law on CountBest: walked. -/
import Derived.Test.YtlpbflmgkopklaaSBest2
import Derived.Test.YtlpbflmgkopklaaLInts
import Derived.Test.YtlpbflmgkopklaaOpen
namespace Go.Proofs.Ytlpbflmgkopklaa
set_option maxRecDepth 100000
open Go.RowKit

set_option maxHeartbeats 4000000 in
theorem lawCountBest (x0 : Int) (x1 : Int) (x2 : Int) (b3 : Option Addr) (m3 d3 : Nat) (l3 : List Int) (w : World) (_hx0 : In64 x0) (_hx1 : In64 x1) (_hx2 : In64 x2) (hw3 : Ints w b3 m3 d3 l3) (_hf3 : Fits l3) (hm3 : m3 ≤ 9223372036854775807) :
    Calls Try.prog 6 #[.int .i64 x0, .int .i64 x1, .int .i64 x2, .slice b3 m3 d3] w (Ret (.bool true) w) := by
  have HL3 := Lib.hid hw3.len
  have HW3 := Lib.hid hw3
  clear hw3
  by_cases hs3 : m3 ≤ 1048576
  rotate_left
  · go_enter Try.func6, Try.ntmps6
    go_wp2_with fail
    go_ret
    exact ⟨rfl, (by repeat (first | (with_reducible exact Ext.refl _) | (with_reducible refine Ext.drewN ?_ _) | (with_reducible refine Ext.drew ?_) | (with_reducible refine Ext.alloc ?_ _) | ((with_reducible refine Ext.setCell ?_ ?_ _); rotate_left; focus (first | (simp; done) | (simp; omega) | omega)) | assumption | (with_reducible refine Ext.trans ?_ (by assumption))))⟩
  obtain ⟨R0, hR0⟩ : ∃ R, R = bwC x0 x1 x2 l3 := ⟨_, rfl⟩
  obtain ⟨R1, hR1⟩ : ∃ R, R = bestOk x0 x1 x2 l3 := ⟨_, rfl⟩
  have HSp := Lib.hid (fun (W : World) (b3x : Option Addr) (d3x : Nat) (h3x : Ints W b3x m3 d3x l3) => spec_CB x0 x1 x2 b3x m3 d3x l3 W h3x)
  have HIm := Lib.hid (fun (W : World) (b3x : Option Addr) (d3x : Nat) (h3x : Ints W b3x m3 d3x l3) => impl_CB x0 x1 x2 b3x m3 d3x l3 W h3x)
  rw [← hR0, ← hR1] at HSp HIm
  clear hR0 hR1
  go_enter Try.func6, Try.ntmps6
  go_wp2_with fail
  refine (toInts b3 m3 d3 l3 _ (HW3.out.ext (by repeat (first | (with_reducible exact Ext.refl _) | (with_reducible assumption) | (with_reducible refine Ext.drewN ?_ _) | (with_reducible refine Ext.drew ?_) | (with_reducible refine Ext.alloc ?_ _) | ((with_reducible refine Ext.setCell ?_ ?_ _); rotate_left; focus (first | (simp; done) | (simp; omega) | omega)) | (with_reducible refine Ext.trans ?_ (by with_reducible assumption))))) (by omega)).mono ?_
  rintro e w2_3 ⟨b2_3, y2_3, rfl, hq, hy⟩
  rw [I_len, HL3.out] at hq ⊢
  have HQ2_3 := Lib.hid hq
  have hx2_3 : Ext w w2_3 := Ext.trans (by repeat (first | (with_reducible exact Ext.refl _) | (with_reducible assumption) | (with_reducible refine Ext.drewN ?_ _) | (with_reducible refine Ext.drew ?_) | (with_reducible refine Ext.alloc ?_ _) | ((with_reducible refine Ext.setCell ?_ ?_ _); rotate_left; focus (first | (simp; done) | (simp; omega) | omega)) | (with_reducible refine Ext.trans ?_ (by with_reducible assumption)))) hy
  have hz2_3 := hy
  clear hq hy
  go_wp2_with fail
  refine (HSp.out _ b2_3 y2_3 (HQ2_3.out.ints.ext (by repeat (first | (with_reducible exact Ext.refl _) | (with_reducible assumption) | (with_reducible refine Ext.drewN ?_ _) | (with_reducible refine Ext.drew ?_) | (with_reducible refine Ext.alloc ?_ _) | ((with_reducible refine Ext.setCell ?_ ?_ _); rotate_left; focus (first | (simp; done) | (simp; omega) | omega)) | (with_reducible refine Ext.trans ?_ (by with_reducible assumption)))))).mono ?_
  rintro e w3 ⟨rfl, hy⟩
  have hxw3 : Ext w w3 := Ext.trans (by repeat (first | (with_reducible exact Ext.refl _) | (with_reducible assumption) | (with_reducible refine Ext.drewN ?_ _) | (with_reducible refine Ext.drew ?_) | (with_reducible refine Ext.alloc ?_ _) | ((with_reducible refine Ext.setCell ?_ ?_ _); rotate_left; focus (first | (simp; done) | (simp; omega) | omega)) | (with_reducible refine Ext.trans ?_ (by with_reducible assumption)))) hy
  have hzw3 := hy
  clear hy
  go_wp2_with fail
  refine (toInts b3 m3 d3 l3 _ (HW3.out.ext (by repeat (first | (with_reducible exact Ext.refl _) | (with_reducible assumption) | (with_reducible refine Ext.drewN ?_ _) | (with_reducible refine Ext.drew ?_) | (with_reducible refine Ext.alloc ?_ _) | ((with_reducible refine Ext.setCell ?_ ?_ _); rotate_left; focus (first | (simp; done) | (simp; omega) | omega)) | (with_reducible refine Ext.trans ?_ (by with_reducible assumption))))) (by omega)).mono ?_
  rintro e w4_3 ⟨b4_3, y4_3, rfl, hq, hy⟩
  rw [I_len, HL3.out] at hq ⊢
  have HQ4_3 := Lib.hid hq
  have hx4_3 : Ext w w4_3 := Ext.trans (by repeat (first | (with_reducible exact Ext.refl _) | (with_reducible assumption) | (with_reducible refine Ext.drewN ?_ _) | (with_reducible refine Ext.drew ?_) | (with_reducible refine Ext.alloc ?_ _) | ((with_reducible refine Ext.setCell ?_ ?_ _); rotate_left; focus (first | (simp; done) | (simp; omega) | omega)) | (with_reducible refine Ext.trans ?_ (by with_reducible assumption)))) hy
  have hz4_3 := hy
  clear hq hy
  go_wp2_with fail
  refine (HIm.out _ b4_3 y4_3 (HQ4_3.out.ints.ext (by repeat (first | (with_reducible exact Ext.refl _) | (with_reducible assumption) | (with_reducible refine Ext.drewN ?_ _) | (with_reducible refine Ext.drew ?_) | (with_reducible refine Ext.alloc ?_ _) | ((with_reducible refine Ext.setCell ?_ ?_ _); rotate_left; focus (first | (simp; done) | (simp; omega) | omega)) | (with_reducible refine Ext.trans ?_ (by with_reducible assumption)))))).mono ?_
  rintro e w5 ⟨rfl, hy⟩
  have hxw5 : Ext w w5 := Ext.trans (by repeat (first | (with_reducible exact Ext.refl _) | (with_reducible assumption) | (with_reducible refine Ext.drewN ?_ _) | (with_reducible refine Ext.drew ?_) | (with_reducible refine Ext.alloc ?_ _) | ((with_reducible refine Ext.setCell ?_ ?_ _); rotate_left; focus (first | (simp; done) | (simp; omega) | omega)) | (with_reducible refine Ext.trans ?_ (by with_reducible assumption)))) hy
  have hzw5 := hy
  clear hy
  go_wp2_with (first | (go_at_call 22; (with_reducible refine (toInts b3 m3 d3 l3 _ (HW3.out.ext (by repeat (first | (with_reducible exact Ext.refl _) | (with_reducible assumption) | (with_reducible refine Ext.drewN ?_ _) | (with_reducible refine Ext.drew ?_) | (with_reducible refine Ext.alloc ?_ _) | ((with_reducible refine Ext.setCell ?_ ?_ _); rotate_left; focus (first | (simp; done) | (simp; omega) | omega)) | (with_reducible refine Ext.trans ?_ (by with_reducible assumption))))) (by omega)).mono ?_); rintro e w6_3 ⟨b6_3, y6_3, rfl, hq, hy⟩; rw [I_len, HL3.out] at hq ⊢; have HQ6_3 := Lib.hid hq; have hx6_3 : Ext w w6_3 := Ext.trans (by repeat (first | (with_reducible exact Ext.refl _) | (with_reducible assumption) | (with_reducible refine Ext.drewN ?_ _) | (with_reducible refine Ext.drew ?_) | (with_reducible refine Ext.alloc ?_ _) | ((with_reducible refine Ext.setCell ?_ ?_ _); rotate_left; focus (first | (simp; done) | (simp; omega) | omega)) | (with_reducible refine Ext.trans ?_ (by with_reducible assumption)))) hy; have hz6_3 := hy; clear hq hy) | (go_at_call 12; (with_reducible refine (eqIntsT b4_3 b6_3 m3 y4_3 y6_3 l3 _ (HQ4_3.out.ints.ext (by repeat (first | (with_reducible exact Ext.refl _) | (with_reducible assumption) | (with_reducible refine Ext.drewN ?_ _) | (with_reducible refine Ext.drew ?_) | (with_reducible refine Ext.alloc ?_ _) | ((with_reducible refine Ext.setCell ?_ ?_ _); rotate_left; focus (first | (simp; done) | (simp; omega) | omega)) | (with_reducible refine Ext.trans ?_ (by with_reducible assumption))))) (HQ6_3.out.ints.ext (by repeat (first | (with_reducible exact Ext.refl _) | (with_reducible assumption) | (with_reducible refine Ext.drewN ?_ _) | (with_reducible refine Ext.drew ?_) | (with_reducible refine Ext.alloc ?_ _) | ((with_reducible refine Ext.setCell ?_ ?_ _); rotate_left; focus (first | (simp; done) | (simp; omega) | omega)) | (with_reducible refine Ext.trans ?_ (by with_reducible assumption))))) (by omega)).mono ?_); rintro e wq ⟨rfl, q, rfl⟩))
  go_ret
  exact ⟨rfl, (by repeat (first | (with_reducible exact Ext.refl _) | (with_reducible assumption) | (with_reducible refine Ext.drewN ?_ _) | (with_reducible refine Ext.drew ?_) | (with_reducible refine Ext.alloc ?_ _) | ((with_reducible refine Ext.setCell ?_ ?_ _); rotate_left; focus (first | (simp; done) | (simp; omega) | omega)) | (with_reducible refine Ext.trans ?_ (by with_reducible assumption))))⟩
end Go.Proofs.Ytlpbflmgkopklaa
