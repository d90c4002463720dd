/- The law on SystemReport: walked. -/
import Derived.Test.YtlpbflmgkopklaaSr
import Derived.Test.YtlpbflmgkopklaaOpen
import Derived.Deep.RegionWith
import Derived.Deep.RegionHeld3
namespace Go.Proofs.Ytlpbflmgkopklaa
set_option maxRecDepth 100000
open Go.RowKit

set_option maxHeartbeats 1000000 in
theorem lawSystemReport (W : Wt) (a : Option Addr) (n c : Nat) (w : World) (hw : Ints w a n c W.weights) (_ : Fits W.weights) (hn : n ≤ 9223372036854775807) (_ : In64 W.base) (_ : In64 W.modulus) (_ : In64 W.target) :
    Calls Try.prog 9 #[.agg #[.int .i64 W.base, .int .i64 W.modulus, .int .i64 W.target, .slice a n c]] w (Ret (.bool true) w) := by
  obtain ⟨base, modulus, target, l⟩ := W
  simp only at hw ⊢
  have HL := Lib.hid hw.len
  have HB := Lib.hid (isWt_box w base modulus target l a n c 56 hw)
  have HSp := Lib.hid (fun b x W' (h : Ints W' b n x l) => spec_SR ⟨base, modulus, target, l⟩ b n x W' h)
  have HIm := Lib.hid (fun b x W' (h : Ints W' b n x l) => impl_SR ⟨base, modulus, target, l⟩ b n x W' h)
  generalize srT ⟨base, modulus, target, l⟩ = tx at *
  generalize validB ⟨base, modulus, target, l⟩ = ok at *
  clear hw
  by_cases h : n ≤ 1048576
  · go_enter Try.func9, Try.ntmps9
    go_wp2_with fail
    refine (szWt _ _ _ rfl rfl rfl a n c _ _ hn (by omega) (by omega)).mono ?_
    rintro e w1 ⟨rfl, hx1⟩
    rw [if_neg (by omega)]
    have HB1 := Lib.hid (HB.out.ext hx1)
    obtain ⟨c0, c1, c2, c3, _⟩ := HB1.out
    go_wp2_with fail
    refine (toWt ⟨base, modulus, target, l⟩ a n c w1 HB1.out.ws (by omega)).mono ?_
    rintro e w2 ⟨a2, x2, rfl, ho2, hx2⟩
    simp only [HL.out] at ho2 ⊢
    have HB2 := Lib.hid (HB1.out.ext hx2)
    have HO2 := Lib.hid ho2
    clear c0 c1 c2 c3 ho2
    obtain ⟨c0, c1, c2, c3, _⟩ := HB2.out
    go_wp2_with fail
    refine (HSp.out a2 x2 w2 HO2.out.ints).mono ?_
    rintro e w3 ⟨rfl, hx3⟩
    have HB3 := Lib.hid (HB2.out.ext hx3)
    clear c0 c1 c2 c3
    obtain ⟨c0, c1, c2, c3, _⟩ := HB3.out
    go_wp2_with fail
    refine (toWt ⟨base, modulus, target, l⟩ a n c w3 HB3.out.ws (by omega)).mono ?_
    rintro e w4 ⟨a4, x4, rfl, ho4, hx4⟩
    simp only [HL.out] at ho4 ⊢
    have HB4 := Lib.hid (HB3.out.ext hx4)
    have HO4 := Lib.hid ho4
    clear c0 c1 c2 c3 ho4
    obtain ⟨c0, c1, c2, c3, _⟩ := HB4.out
    go_wp2_with fail
    refine (HIm.out a4 x4 _ (HO4.out.ints.ext (by repeat (first | (with_reducible exact Ext.refl _) | (with_reducible refine Ext.drewN ?_ _) | (with_reducible refine Ext.drew ?_) | (with_reducible refine Ext.alloc ?_ _) | ((with_reducible refine Ext.setCell ?_ ?_ _); rotate_left; focus (first | (simp; done) | (simp; omega) | omega)))))).mono ?_
    rintro e w5 ⟨rfl, hx5⟩
    have HX5 := Lib.hid ((isWt_box w4 base modulus target l a4 n x4 34 HO4.out.ints).ext hx5)
    have HB5 := Lib.hid ((HB4.out.ext ((Ext.refl w4).alloc (.cells #[.int .i64 base, .int .i64 modulus, .int .i64 target, .slice a4 n x4] 34))).ext hx5)
    have HE := Lib.hid (show Ext w w5 from ((Ext.refl w).alloc _).trans (hx1.trans (hx2.trans (hx3.trans (hx4.trans (((Ext.refl w4).alloc _).trans hx5))))))
    clear c0 c1 c2 c3
    obtain ⟨c0, c1, c2, c3, _⟩ := HB5.out
    obtain ⟨d0, d1, d2, d3, _⟩ := HX5.out
    go_wp2
    go_region_with (first | (go_at_call 34; refine (toWt ⟨base, modulus, target, l⟩ a n c _ (HB5.out.ws.ext (by repeat (first | (with_reducible exact Ext.refl _) | (with_reducible refine Ext.drewN ?_ _) | (with_reducible refine Ext.drew ?_) | (with_reducible refine Ext.alloc ?_ _) | ((with_reducible refine Ext.setCell ?_ ?_ _); rotate_left; focus (first | (simp; done) | (simp; omega) | omega))))) (by omega)).mono ?_; rintro e w6 ⟨a6, x6, rfl, ho6, hx6⟩; simp only [HL.out] at ho6 ⊢; have HO6 := Lib.hid ho6; have HX6 := Lib.hid (show Ext w5 w6 from Ext.trans (by repeat (first | (with_reducible exact Ext.refl _) | (with_reducible refine Ext.drewN ?_ _) | (with_reducible refine Ext.drew ?_) | (with_reducible refine Ext.alloc ?_ _) | ((with_reducible refine Ext.setCell ?_ ?_ _); rotate_left; focus (first | (simp; done) | (simp; omega) | omega)))) hx6); clear ho6 hx6; obtain ⟨e0, e1, e2, e3, _⟩ := HX5.out.ext HX6.out) | (go_at_call 36; refine (eqWt ⟨base, modulus, target, l⟩ a4 _ n x4 _ _ ((HX5.out.ext HX6.out).ws.ext (by repeat (first | (with_reducible exact Ext.refl _) | (with_reducible refine Ext.drewN ?_ _) | (with_reducible refine Ext.drew ?_) | (with_reducible refine Ext.alloc ?_ _) | ((with_reducible refine Ext.setCell ?_ ?_ _); rotate_left; focus (first | (simp; done) | (simp; omega) | omega))))) (HO6.out.ints.ext (by repeat (first | (with_reducible exact Ext.refl _) | (with_reducible refine Ext.drewN ?_ _) | (with_reducible refine Ext.drew ?_) | (with_reducible refine Ext.alloc ?_ _) | ((with_reducible refine Ext.setCell ?_ ?_ _); rotate_left; focus (first | (simp; done) | (simp; omega) | omega))))) (by omega)).mono ?_; rintro e w7 ⟨rfl, hx7⟩; have HX7 := Lib.hid hx7; clear hx7))
    all_goals (go_wp2; go_ret; exact ⟨rfl, (by repeat (first | (with_reducible exact Ext.refl _) | (with_reducible refine Ext.drewN ?_ _) | (with_reducible refine Ext.drew ?_) | (with_reducible refine Ext.alloc ?_ _) | ((with_reducible refine Ext.setCell ?_ ?_ _); rotate_left; focus (first | (simp; done) | (simp; omega) | omega)) | (with_reducible refine Ext.trans ?_ HX7.out) | (with_reducible refine Ext.trans ?_ HX6.out) | (with_reducible refine Ext.trans ?_ HE.out)))⟩)
  · go_enter Try.func9, Try.ntmps9
    go_wp2_with fail
    refine (szWt _ _ _ rfl rfl rfl a n c _ _ hn (by omega) (by omega)).mono ?_
    rintro e w1 ⟨rfl, hx1⟩
    rw [if_pos (by omega)]
    go_wp2
    go_ret
    exact ⟨rfl, (by repeat (first | (with_reducible exact Ext.refl _) | (with_reducible refine Ext.drewN ?_ _) | (with_reducible refine Ext.drew ?_) | (with_reducible refine Ext.alloc ?_ _) | ((with_reducible refine Ext.setCell ?_ ?_ _); rotate_left; focus (first | (simp; done) | (simp; omega) | omega)) | (with_reducible refine Ext.trans ?_ hx1)))⟩
end Go.Proofs.Ytlpbflmgkopklaa
