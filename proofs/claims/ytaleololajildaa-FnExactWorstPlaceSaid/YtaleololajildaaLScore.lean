/- The laws on ScoreOf and WorstPlace: walked. -/
import Derived.Test.YtaleololajildaaWorst
import Derived.Test.YtaleololajildaaOpen
import Derived.Deep.RegionWith
namespace Go.Proofs.Ytaleololajildaa
open Go.RowKit

set_option maxHeartbeats 2000000 in
theorem lawScoreOf (W : Wt) (a : Option Addr) (n c : Nat) (a' : Option Addr) (n' c' : Nat) (costs : List Int) (w : World) (hw : Ints w a n c W.weights) (_ : Fits W.weights) (hn : n ≤ 9223372036854775807) (_ : In64 W.base) (_ : In64 W.modulus) (_ : In64 W.target)
    (hc : Ints w a' n' c' costs) (_ : Fits costs) (hn' : n' ≤ 9223372036854775807) :
    Calls Try.prog 7 #[.agg #[.int .i64 W.base, .int .i64 W.modulus, .int .i64 W.target, .slice a n c], .slice a' n' c'] w (Ret (.bool true) w) := by
  obtain ⟨base, modulus, target, l⟩ := W
  simp only at hw ⊢
  have HL := Lib.hid hw.len
  have HL' := Lib.hid hc.len
  have HB := Lib.hid (isWt_box w base modulus target l a n c 27 hw)
  have HC := Lib.hid hc
  clear hw hc
  by_cases hs : n' ≤ 1048576
  · by_cases h : n ≤ 1048576
    · go_enter Try.func7, Try.ntmps7
      go_wp2_with fail
      refine (szWt _ _ _ rfl rfl rfl a n c _ _ hn (by omega) (by omega)).mono ?_
      rintro e w1 ⟨rfl, hx1⟩
      rw [if_neg (by omega)]
      have HB1 := Lib.hid (HB.out.ext hx1)
      have HE1 := Lib.hid (show Ext w w1 from ((Ext.refl w).alloc _).trans hx1)
      obtain ⟨c0, c1, c2, c3, _⟩ := HB1.out
      go_wp2_with fail
      refine (toWt ⟨base, modulus, target, l⟩ a n c w1 HB1.out.ws (by omega)).mono ?_
      rintro e w2 ⟨a2, x2, rfl, ho2, hx2⟩
      simp only [HL.out] at ho2 ⊢
      have HB2 := Lib.hid (HB1.out.ext hx2)
      have HE2 := Lib.hid (HE1.out.trans hx2)
      have HO2 := Lib.hid ho2.ints
      clear c0 c1 c2 c3 ho2
      go_wp2_with fail
      refine (toInts a' n' c' costs w2 (HC.out.ext HE2.out) (by omega)).mono ?_
      rintro e w3 ⟨a3, x3, rfl, ho3, hx3⟩
      rw [I_len, HL'.out] at ho3 ⊢
      have HB3 := Lib.hid (HB2.out.ext hx3)
      have HE3 := Lib.hid (HE2.out.trans hx3)
      have HO3 := Lib.hid ho3.ints
      clear ho3
      go_wp2_with fail
      refine (spec_ScoreOf ⟨base, modulus, target, l⟩ a2 a3 n x2 n' x3 costs w3 (HO2.out.ext hx3) HO3.out).mono ?_
      rintro e w4 ⟨rfl, hx4⟩
      have HB4 := Lib.hid (HB3.out.ext hx4)
      have HE4 := Lib.hid (HE3.out.trans hx4)
      clear HO2 HO3
      obtain ⟨c0, c1, c2, c3, _⟩ := HB4.out
      go_wp2_with fail
      refine (toWt ⟨base, modulus, target, l⟩ a n c w4 HB4.out.ws (by omega)).mono ?_
      rintro e w5 ⟨a5, x5, rfl, ho5, hx5⟩
      simp only [HL.out] at ho5 ⊢
      have HE5 := Lib.hid (HE4.out.trans hx5)
      have HB5 := Lib.hid (HB4.out.ext hx5)
      have HX5 := Lib.hid (isWt_box w5 base modulus target l a5 n x5 31 ho5.ints)
      clear ho5 c0 c1 c2 c3
      go_wp2_with fail
      refine (toInts a' n' c' costs _ (HC.out.ext (Ext.alloc HE5.out _)) (by omega)).mono ?_
      rintro e w6 ⟨a6, x6, rfl, ho6, hx6⟩
      rw [I_len, HL'.out] at ho6 ⊢
      have HO6 := Lib.hid ho6.ints
      have HX6 := Lib.hid (HX5.out.ext hx6)
      have HB6 := Lib.hid ((HB5.out.ext ((Ext.refl w5).alloc (.cells #[.int .i64 base, .int .i64 modulus, .int .i64 target, .slice a5 n x5] 31))).ext hx6)
      have HE6 := Lib.hid ((HE5.out.alloc (.cells #[.int .i64 base, .int .i64 modulus, .int .i64 target, .slice a5 n x5] 31)).trans hx6)
      clear ho6
      obtain ⟨c0, c1, c2, c3, _⟩ := HX6.out
      go_wp2_with fail
      refine (impl_ScoreOf ⟨base, modulus, target, l⟩ a5 a6 n x5 n' x6 costs _ HX6.out.ws HO6.out).mono ?_
      rintro e w7 ⟨rfl, hx7⟩
      have HX7 := Lib.hid (HX6.out.ext hx7)
      have HB7 := Lib.hid (HB6.out.ext hx7)
      have HE7 := Lib.hid (HE6.out.trans hx7)
      have HO7 := Lib.hid (HO6.out.ext hx7)
      clear c0 c1 c2 c3 HX5 HX6 HB HB1 HB2 HB3 HB4 HB5 HB6 HE1 HE2 HE3 HE4 HE5 HE6 HO6
      clear hx1 hx2 hx3 hx4 hx5 hx6 hx7
      obtain ⟨c0, c1, c2, c3, _⟩ := HB7.out
      obtain ⟨d0, d1, d2, d3, _⟩ := HX7.out
      go_wp2
      go_region_with (first | (go_at_call 14; refine (toWt ⟨base, modulus, target, l⟩ a n c _ (HB7.out.ws.ext (by repeat (first | (with_reducible exact Ext.refl _) | (with_reducible refine Ext.drewN ?_ _) | (with_reducible refine Ext.drew ?_) | (with_reducible refine Ext.alloc ?_ _) | ((with_reducible refine Ext.setCell ?_ ?_ _); rotate_left; focus (first | (simp; done) | (simp; omega) | omega))))) (by omega)).mono ?_; rintro e w8 ⟨a8, x8, rfl, ho8, hx8⟩; simp only [HL.out] at ho8 ⊢; have HO8 := Lib.hid ho8.ints; have HX8 := Lib.hid (show Ext w7 w8 from Ext.trans (by repeat (first | (with_reducible exact Ext.refl _) | (with_reducible refine Ext.drewN ?_ _) | (with_reducible refine Ext.drew ?_) | (with_reducible refine Ext.alloc ?_ _) | ((with_reducible refine Ext.setCell ?_ ?_ _); rotate_left; focus (first | (simp; done) | (simp; omega) | omega)))) hx8); clear ho8 hx8; obtain ⟨e0, e1, e2, e3, _⟩ := HX7.out.ext HX8.out) | (go_at_call 16; refine (eqWt ⟨base, modulus, target, l⟩ a5 _ n x5 _ _ ((HX7.out.ext HX8.out).ws.ext (by repeat (first | (with_reducible exact Ext.refl _) | (with_reducible refine Ext.drewN ?_ _) | (with_reducible refine Ext.drew ?_) | (with_reducible refine Ext.alloc ?_ _) | ((with_reducible refine Ext.setCell ?_ ?_ _); rotate_left; focus (first | (simp; done) | (simp; omega) | omega))))) (HO8.out.ext (by repeat (first | (with_reducible exact Ext.refl _) | (with_reducible refine Ext.drewN ?_ _) | (with_reducible refine Ext.drew ?_) | (with_reducible refine Ext.alloc ?_ _) | ((with_reducible refine Ext.setCell ?_ ?_ _); rotate_left; focus (first | (simp; done) | (simp; omega) | omega))))) (by omega)).mono ?_; rintro e w9 ⟨rfl, hx9⟩; have HX9 := Lib.hid (show Ext w7 w9 from Ext.trans (by repeat (first | (with_reducible exact Ext.refl _) | (with_reducible refine Ext.drewN ?_ _) | (with_reducible refine Ext.drew ?_) | (with_reducible refine Ext.alloc ?_ _) | ((with_reducible refine Ext.setCell ?_ ?_ _); rotate_left; focus (first | (simp; done) | (simp; omega) | omega)) | (with_reducible refine Ext.trans ?_ HX8.out))) hx9); clear hx9))
      all_goals
        clear c0 c1 c2 c3 d0 d1 d2 d3 e0 e1 e2 e3
        go_wp2_with fail
        refine (toInts a' n' c' costs _ (HC.out.ext (by repeat (first | (with_reducible exact Ext.refl _) | (with_reducible refine Ext.drewN ?_ _) | (with_reducible refine Ext.drew ?_) | (with_reducible refine Ext.alloc ?_ _) | ((with_reducible refine Ext.setCell ?_ ?_ _); rotate_left; focus (first | (simp; done) | (simp; omega) | omega)) | (with_reducible refine Ext.trans ?_ HX9.out) | (with_reducible refine Ext.trans ?_ HE7.out)))) (by omega)).mono ?_
        rintro e w10 ⟨a10, x10, rfl, ho10, hx10⟩
        rw [I_len, HL'.out] at ho10 ⊢
        have HO10 := Lib.hid ho10.ints
        have HX10 := Lib.hid hx10
        clear ho10 hx10
        go_wp2_with fail
        refine (eqInts a6 a10 n' n' x6 x10 costs costs _ (HO7.out.ext (by repeat (first | (with_reducible exact Ext.refl _) | (with_reducible refine Ext.drewN ?_ _) | (with_reducible refine Ext.drew ?_) | (with_reducible refine Ext.alloc ?_ _) | ((with_reducible refine Ext.setCell ?_ ?_ _); rotate_left; focus (first | (simp; done) | (simp; omega) | omega)) | (with_reducible refine Ext.trans ?_ HX10.out) | (with_reducible refine Ext.trans ?_ HX9.out)))) HO10.out (by omega) (by omega)).mono ?_
        rintro e w11 ⟨rfl, m, rfl⟩
        go_wp2
        go_ret
        exact ⟨rfl, (by repeat (first | (with_reducible exact Ext.refl _) | (with_reducible refine Ext.drewN ?_ _) | (with_reducible refine Ext.drew ?_) | (with_reducible refine Ext.alloc ?_ _) | ((with_reducible refine Ext.setCell ?_ ?_ _); rotate_left; focus (first | (simp; done) | (simp; omega) | omega)) | (with_reducible refine Ext.trans ?_ HX10.out) | (with_reducible refine Ext.trans ?_ HX9.out) | (with_reducible refine Ext.trans ?_ HE7.out)))⟩
    · go_enter Try.func7, Try.ntmps7
      go_wp2_with fail
      refine (szWt _ _ _ rfl rfl rfl a n c _ _ hn (by omega) (by omega)).mono ?_
      rintro e w1 ⟨rfl, hx1⟩
      rw [if_pos (by omega)]
      go_wp2
      go_ret
      exact ⟨rfl, (by repeat (first | (with_reducible exact Ext.refl _) | (with_reducible refine Ext.drewN ?_ _) | (with_reducible refine Ext.drew ?_) | (with_reducible refine Ext.alloc ?_ _) | ((with_reducible refine Ext.setCell ?_ ?_ _); rotate_left; focus (first | (simp; done) | (simp; omega) | omega)) | (with_reducible refine Ext.trans ?_ hx1)))⟩
  · go_enter Try.func7, Try.ntmps7
    go_wp2_with fail
    go_ret
    exact ⟨rfl, (by repeat (first | (with_reducible exact Ext.refl _) | (with_reducible refine Ext.drewN ?_ _) | (with_reducible refine Ext.drew ?_) | (with_reducible refine Ext.alloc ?_ _) | ((with_reducible refine Ext.setCell ?_ ?_ _); rotate_left; focus (first | (simp; done) | (simp; omega) | omega))))⟩
set_option maxHeartbeats 2000000 in
theorem lawWorstPlace (W : Wt) (a : Option Addr) (n c : Nat) (a' : Option Addr) (n' c' : Nat) (costs : List Int) (w : World) (hw : Ints w a n c W.weights) (_ : Fits W.weights) (hn : n ≤ 9223372036854775807) (_ : In64 W.base) (_ : In64 W.modulus) (_ : In64 W.target)
    (hc : Ints w a' n' c' costs) (_ : Fits costs) (hn' : n' ≤ 9223372036854775807) :
    Calls Try.prog 6 #[.agg #[.int .i64 W.base, .int .i64 W.modulus, .int .i64 W.target, .slice a n c], .slice a' n' c'] w (Ret (.bool true) w) := by
  obtain ⟨base, modulus, target, l⟩ := W
  simp only at hw ⊢
  have HL := Lib.hid hw.len
  have HL' := Lib.hid hc.len
  have HB := Lib.hid (isWt_box w base modulus target l a n c 27 hw)
  have HC := Lib.hid hc
  clear hw hc
  by_cases hs : n' ≤ 1048576
  · by_cases h : n ≤ 1048576
    · go_enter Try.func6, Try.ntmps6
      go_wp2_with fail
      refine (szWt _ _ _ rfl rfl rfl a n c _ _ hn (by omega) (by omega)).mono ?_
      rintro e w1 ⟨rfl, hx1⟩
      rw [if_neg (by omega)]
      have HB1 := Lib.hid (HB.out.ext hx1)
      have HE1 := Lib.hid (show Ext w w1 from ((Ext.refl w).alloc _).trans hx1)
      obtain ⟨c0, c1, c2, c3, _⟩ := HB1.out
      go_wp2_with fail
      refine (toWt ⟨base, modulus, target, l⟩ a n c w1 HB1.out.ws (by omega)).mono ?_
      rintro e w2 ⟨a2, x2, rfl, ho2, hx2⟩
      simp only [HL.out] at ho2 ⊢
      have HB2 := Lib.hid (HB1.out.ext hx2)
      have HE2 := Lib.hid (HE1.out.trans hx2)
      have HO2 := Lib.hid ho2.ints
      clear c0 c1 c2 c3 ho2
      go_wp2_with fail
      refine (toInts a' n' c' costs w2 (HC.out.ext HE2.out) (by omega)).mono ?_
      rintro e w3 ⟨a3, x3, rfl, ho3, hx3⟩
      rw [I_len, HL'.out] at ho3 ⊢
      have HB3 := Lib.hid (HB2.out.ext hx3)
      have HE3 := Lib.hid (HE2.out.trans hx3)
      have HO3 := Lib.hid ho3.ints
      clear ho3
      go_wp2_with fail
      refine (spec_WorstPlace ⟨base, modulus, target, l⟩ a2 a3 n x2 n' x3 costs w3 (HO2.out.ext hx3) HO3.out).mono ?_
      rintro e w4 ⟨rfl, hx4⟩
      have HB4 := Lib.hid (HB3.out.ext hx4)
      have HE4 := Lib.hid (HE3.out.trans hx4)
      clear HO2 HO3
      obtain ⟨c0, c1, c2, c3, _⟩ := HB4.out
      go_wp2_with fail
      refine (toWt ⟨base, modulus, target, l⟩ a n c w4 HB4.out.ws (by omega)).mono ?_
      rintro e w5 ⟨a5, x5, rfl, ho5, hx5⟩
      simp only [HL.out] at ho5 ⊢
      have HE5 := Lib.hid (HE4.out.trans hx5)
      have HB5 := Lib.hid (HB4.out.ext hx5)
      have HX5 := Lib.hid (isWt_box w5 base modulus target l a5 n x5 31 ho5.ints)
      clear ho5 c0 c1 c2 c3
      go_wp2_with fail
      refine (toInts a' n' c' costs _ (HC.out.ext (Ext.alloc HE5.out _)) (by omega)).mono ?_
      rintro e w6 ⟨a6, x6, rfl, ho6, hx6⟩
      rw [I_len, HL'.out] at ho6 ⊢
      have HO6 := Lib.hid ho6.ints
      have HX6 := Lib.hid (HX5.out.ext hx6)
      have HB6 := Lib.hid ((HB5.out.ext ((Ext.refl w5).alloc (.cells #[.int .i64 base, .int .i64 modulus, .int .i64 target, .slice a5 n x5] 31))).ext hx6)
      have HE6 := Lib.hid ((HE5.out.alloc (.cells #[.int .i64 base, .int .i64 modulus, .int .i64 target, .slice a5 n x5] 31)).trans hx6)
      clear ho6
      obtain ⟨c0, c1, c2, c3, _⟩ := HX6.out
      go_wp2_with fail
      refine (impl_WorstPlace ⟨base, modulus, target, l⟩ a5 a6 n x5 n' x6 costs _ HX6.out.ws HO6.out).mono ?_
      rintro e w7 ⟨rfl, hx7⟩
      have HX7 := Lib.hid (HX6.out.ext hx7)
      have HB7 := Lib.hid (HB6.out.ext hx7)
      have HE7 := Lib.hid (HE6.out.trans hx7)
      have HO7 := Lib.hid (HO6.out.ext hx7)
      clear c0 c1 c2 c3 HX5 HX6 HB HB1 HB2 HB3 HB4 HB5 HB6 HE1 HE2 HE3 HE4 HE5 HE6 HO6
      clear hx1 hx2 hx3 hx4 hx5 hx6 hx7
      obtain ⟨c0, c1, c2, c3, _⟩ := HB7.out
      obtain ⟨d0, d1, d2, d3, _⟩ := HX7.out
      go_wp2
      go_region_with (first | (go_at_call 14; refine (toWt ⟨base, modulus, target, l⟩ a n c _ (HB7.out.ws.ext (by repeat (first | (with_reducible exact Ext.refl _) | (with_reducible refine Ext.drewN ?_ _) | (with_reducible refine Ext.drew ?_) | (with_reducible refine Ext.alloc ?_ _) | ((with_reducible refine Ext.setCell ?_ ?_ _); rotate_left; focus (first | (simp; done) | (simp; omega) | omega))))) (by omega)).mono ?_; rintro e w8 ⟨a8, x8, rfl, ho8, hx8⟩; simp only [HL.out] at ho8 ⊢; have HO8 := Lib.hid ho8.ints; have HX8 := Lib.hid (show Ext w7 w8 from Ext.trans (by repeat (first | (with_reducible exact Ext.refl _) | (with_reducible refine Ext.drewN ?_ _) | (with_reducible refine Ext.drew ?_) | (with_reducible refine Ext.alloc ?_ _) | ((with_reducible refine Ext.setCell ?_ ?_ _); rotate_left; focus (first | (simp; done) | (simp; omega) | omega)))) hx8); clear ho8 hx8; obtain ⟨e0, e1, e2, e3, _⟩ := HX7.out.ext HX8.out) | (go_at_call 16; refine (eqWt ⟨base, modulus, target, l⟩ a5 _ n x5 _ _ ((HX7.out.ext HX8.out).ws.ext (by repeat (first | (with_reducible exact Ext.refl _) | (with_reducible refine Ext.drewN ?_ _) | (with_reducible refine Ext.drew ?_) | (with_reducible refine Ext.alloc ?_ _) | ((with_reducible refine Ext.setCell ?_ ?_ _); rotate_left; focus (first | (simp; done) | (simp; omega) | omega))))) (HO8.out.ext (by repeat (first | (with_reducible exact Ext.refl _) | (with_reducible refine Ext.drewN ?_ _) | (with_reducible refine Ext.drew ?_) | (with_reducible refine Ext.alloc ?_ _) | ((with_reducible refine Ext.setCell ?_ ?_ _); rotate_left; focus (first | (simp; done) | (simp; omega) | omega))))) (by omega)).mono ?_; rintro e w9 ⟨rfl, hx9⟩; have HX9 := Lib.hid (show Ext w7 w9 from Ext.trans (by repeat (first | (with_reducible exact Ext.refl _) | (with_reducible refine Ext.drewN ?_ _) | (with_reducible refine Ext.drew ?_) | (with_reducible refine Ext.alloc ?_ _) | ((with_reducible refine Ext.setCell ?_ ?_ _); rotate_left; focus (first | (simp; done) | (simp; omega) | omega)) | (with_reducible refine Ext.trans ?_ HX8.out))) hx9); clear hx9))
      all_goals
        clear c0 c1 c2 c3 d0 d1 d2 d3 e0 e1 e2 e3
        go_wp2_with fail
        refine (toInts a' n' c' costs _ (HC.out.ext (by repeat (first | (with_reducible exact Ext.refl _) | (with_reducible refine Ext.drewN ?_ _) | (with_reducible refine Ext.drew ?_) | (with_reducible refine Ext.alloc ?_ _) | ((with_reducible refine Ext.setCell ?_ ?_ _); rotate_left; focus (first | (simp; done) | (simp; omega) | omega)) | (with_reducible refine Ext.trans ?_ HX9.out) | (with_reducible refine Ext.trans ?_ HE7.out)))) (by omega)).mono ?_
        rintro e w10 ⟨a10, x10, rfl, ho10, hx10⟩
        rw [I_len, HL'.out] at ho10 ⊢
        have HO10 := Lib.hid ho10.ints
        have HX10 := Lib.hid hx10
        clear ho10 hx10
        go_wp2_with fail
        refine (eqInts a6 a10 n' n' x6 x10 costs costs _ (HO7.out.ext (by repeat (first | (with_reducible exact Ext.refl _) | (with_reducible refine Ext.drewN ?_ _) | (with_reducible refine Ext.drew ?_) | (with_reducible refine Ext.alloc ?_ _) | ((with_reducible refine Ext.setCell ?_ ?_ _); rotate_left; focus (first | (simp; done) | (simp; omega) | omega)) | (with_reducible refine Ext.trans ?_ HX10.out) | (with_reducible refine Ext.trans ?_ HX9.out)))) HO10.out (by omega) (by omega)).mono ?_
        rintro e w11 ⟨rfl, m, rfl⟩
        go_wp2
        go_ret
        exact ⟨rfl, (by repeat (first | (with_reducible exact Ext.refl _) | (with_reducible refine Ext.drewN ?_ _) | (with_reducible refine Ext.drew ?_) | (with_reducible refine Ext.alloc ?_ _) | ((with_reducible refine Ext.setCell ?_ ?_ _); rotate_left; focus (first | (simp; done) | (simp; omega) | omega)) | (with_reducible refine Ext.trans ?_ HX10.out) | (with_reducible refine Ext.trans ?_ HX9.out) | (with_reducible refine Ext.trans ?_ HE7.out)))⟩
    · go_enter Try.func6, Try.ntmps6
      go_wp2_with fail
      refine (szWt _ _ _ rfl rfl rfl a n c _ _ hn (by omega) (by omega)).mono ?_
      rintro e w1 ⟨rfl, hx1⟩
      rw [if_pos (by omega)]
      go_wp2
      go_ret
      exact ⟨rfl, (by repeat (first | (with_reducible exact Ext.refl _) | (with_reducible refine Ext.drewN ?_ _) | (with_reducible refine Ext.drew ?_) | (with_reducible refine Ext.alloc ?_ _) | ((with_reducible refine Ext.setCell ?_ ?_ _); rotate_left; focus (first | (simp; done) | (simp; omega) | omega)) | (with_reducible refine Ext.trans ?_ hx1)))⟩
  · go_enter Try.func6, Try.ntmps6
    go_wp2_with fail
    go_ret
    exact ⟨rfl, (by repeat (first | (with_reducible exact Ext.refl _) | (with_reducible refine Ext.drewN ?_ _) | (with_reducible refine Ext.drew ?_) | (with_reducible refine Ext.alloc ?_ _) | ((with_reducible refine Ext.setCell ?_ ?_ _); rotate_left; focus (first | (simp; done) | (simp; omega) | omega))))⟩
end Go.Proofs.Ytaleololajildaa
