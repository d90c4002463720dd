/- The law on StripesOf: walked. -/
import Derived.Test.YtnmkckghfckgbaaLBase3
namespace Go.Proofs.Ytnmkckghfckgbaa
set_option maxRecDepth 100000
open Go.RowKit

set_option maxHeartbeats 2000000 in
theorem lawStripesOf (D : Bc) (a : Option Addr) (n c : Nat) (s : ByteArray) (w : World) (hv : Strs w a n c D.pats) (hn : n ≤ 9223372036854775807) (hs : D.start.size ≤ 9223372036854775807) (ht : D.stop.size ≤ 9223372036854775807) (hp : ∀ p ∈ D.pats, p.size ≤ 9223372036854775807) (_ : In64 D.gap) (hz : s.size ≤ 9223372036854775807) :
    Calls Try.prog 8 #[.agg #[.string D.start, .string D.stop, .slice a n c, .int .i64 D.gap], .string s] w (Ret (.bool true) w) := by
  have HL := Lib.hid hv.len
  have HB := Lib.hid (bc_box w D a n c 24 hv)
  have HSz := Lib.hid (szBc D a n c 1048576 _ HB.out.ps hn hs ht hp (by omega) (by omega))
  clear hv hs ht hp
  by_cases hz1 : s.size ≤ 1048576
  rotate_left
  · go_enter Try.func8, Try.ntmps8
    go_wp2_with fail
    go_ret
    exact ⟨rfl, (by repeat (first | (with_reducible exact Ext.refl _) | (with_reducible refine Ext.drewN ?_ _) | (with_reducible refine Ext.drew ?_) | (with_reducible refine Ext.alloc ?_ _) | ((with_reducible refine Ext.setCell ?_ ?_ _); rotate_left; focus (first | (simp; done) | (simp; omega) | omega)) | assumption | (with_reducible refine Ext.trans ?_ (by assumption))))⟩
  by_cases hsz : bcSize D ≤ 1048576
  rotate_left
  · rw [leftOf_no hsz] at HSz
    go_enter Try.func8, Try.ntmps8
    go_wp2_with (refine HSz.out.mono ?_; rintro e w1 ⟨rfl, hy1⟩)
    go_ret
    exact ⟨rfl, (by repeat (first | (with_reducible exact Ext.refl _) | (with_reducible refine Ext.drewN ?_ _) | (with_reducible refine Ext.drew ?_) | (with_reducible refine Ext.alloc ?_ _) | ((with_reducible refine Ext.setCell ?_ ?_ _); rotate_left; focus (first | (simp; done) | (simp; omega) | omega)) | assumption | (with_reducible refine Ext.trans ?_ (by assumption))))⟩
  obtain ⟨b1, b2, b3, b4⟩ := bcSize_bd hsz
  rw [HL.out] at b1
  rw [leftOf_yes hsz] at HSz
  have Hb4 := Lib.hid b4; clear b4
  obtain ⟨R, hR⟩ : ∃ R : List Int, R = ((if stripesOkB D s then stripesL D (digs s.data.toList) else []) : List Int) := ⟨_, rfl⟩
  have hbd : R.length ≤ 1048576 := by rw [hR]; exact stripes_bd s
  have Hhbd := Lib.hid hbd; clear hbd; have HhR := Lib.hid hR; clear hR
  go_enter Try.func8, Try.ntmps8
  go_wp2_with fail
  obtain ⟨wb, hwb⟩ : ∃ wb, wb = w.alloc (.cells #[.string D.start, .string D.stop, .slice a n c, .int .i64 D.gap] 24) := ⟨_, rfl⟩
  rw [← hwb] at HB HSz ⊢
  have hxb : Ext w wb := by rw [hwb]; exact (by repeat (first | (with_reducible exact Ext.refl _) | (with_reducible refine Ext.drewN ?_ _) | (with_reducible refine Ext.drew ?_) | (with_reducible refine Ext.alloc ?_ _) | ((with_reducible refine Ext.setCell ?_ ?_ _); rotate_left; focus (first | (simp; done) | (simp; omega) | omega)) | assumption | (with_reducible refine Ext.trans ?_ (by assumption))))
  obtain ⟨c0, c1, c2, c3, hps⟩ := HB.out
  generalize w.heap.size = p at *
  have Hhps := Lib.hid hps; clear hps
  clear hwb
  refine HSz.out.mono ?_
  rintro e w1 ⟨rfl, hy1⟩
  have hxw1 : Ext wb w1 := (by repeat (first | (with_reducible exact Ext.refl _) | (with_reducible refine Ext.drewN ?_ _) | (with_reducible refine Ext.drew ?_) | (with_reducible refine Ext.alloc ?_ _) | ((with_reducible refine Ext.setCell ?_ ?_ _); rotate_left; focus (first | (simp; done) | (simp; omega) | omega)) | assumption | (with_reducible refine Ext.trans ?_ (by assumption))))
  go_wp2_with fail
  refine (toBc D a n c _ (Hhps.out.ext (by repeat (first | (with_reducible exact Ext.refl _) | (with_reducible refine Ext.drewN ?_ _) | (with_reducible refine Ext.drew ?_) | (with_reducible refine Ext.alloc ?_ _) | ((with_reducible refine Ext.setCell ?_ ?_ _); rotate_left; focus (first | (simp; done) | (simp; omega) | omega)) | assumption | (with_reducible refine Ext.trans ?_ (by assumption))))) (by omega)).mono ?_
  rintro e w2B ⟨a2, x2, rfl, ho2, hy2B⟩
  rw [HL.out] at ho2 ⊢
  have Hho2 := Lib.hid ho2; clear ho2
  have hx2B : Ext wb w2B := (by repeat (first | (with_reducible exact Ext.refl _) | (with_reducible refine Ext.drewN ?_ _) | (with_reducible refine Ext.drew ?_) | (with_reducible refine Ext.alloc ?_ _) | ((with_reducible refine Ext.setCell ?_ ?_ _); rotate_left; focus (first | (simp; done) | (simp; omega) | omega)) | assumption | (with_reducible refine Ext.trans ?_ (by assumption))))
  have hz2B := hy2B; clear hy2B
  go_wp2_with fail
  refine (spec_StripesOf D a2 n x2 s _ (Hho2.out.strs.ext (by repeat (first | (with_reducible exact Ext.refl _) | (with_reducible refine Ext.drewN ?_ _) | (with_reducible refine Ext.drew ?_) | (with_reducible refine Ext.alloc ?_ _) | ((with_reducible refine Ext.setCell ?_ ?_ _); rotate_left; focus (first | (simp; done) | (simp; omega) | omega)) | assumption | (with_reducible refine Ext.trans ?_ (by assumption))))) (by omega) (by omega) (by omega) Hb4.out (by omega)).mono ?_
  rintro e w3 hres
  obtain ⟨aS, nS, cS, rfl, hyw3, hoS⟩ := retI_opt hres
  clear hres
  rw [← HhR.out] at hoS
  have hnS : nS ≤ 1048576 := by have := hoS.len; rw [I_len] at this; have := Hhbd.out; omega
  have HhoS := Lib.hid hoS; clear hoS
  have hxw3 : Ext wb w3 := (by repeat (first | (with_reducible exact Ext.refl _) | (with_reducible refine Ext.drewN ?_ _) | (with_reducible refine Ext.drew ?_) | (with_reducible refine Ext.alloc ?_ _) | ((with_reducible refine Ext.setCell ?_ ?_ _); rotate_left; focus (first | (simp; done) | (simp; omega) | omega)) | assumption | (with_reducible refine Ext.trans ?_ (by assumption))))
  have hzw3 := hyw3; clear hyw3
  go_wp2_with fail
  refine (toBc D a n c _ (Hhps.out.ext (by repeat (first | (with_reducible exact Ext.refl _) | (with_reducible refine Ext.drewN ?_ _) | (with_reducible refine Ext.drew ?_) | (with_reducible refine Ext.alloc ?_ _) | ((with_reducible refine Ext.setCell ?_ ?_ _); rotate_left; focus (first | (simp; done) | (simp; omega) | omega)) | assumption | (with_reducible refine Ext.trans ?_ (by assumption))))) (by omega)).mono ?_
  rintro e w4B ⟨a4, x4, rfl, ho4, hy4B⟩
  rw [HL.out] at ho4 ⊢
  have Hho4 := Lib.hid ho4; clear ho4
  have hx4B : Ext wb w4B := (by repeat (first | (with_reducible exact Ext.refl _) | (with_reducible refine Ext.drewN ?_ _) | (with_reducible refine Ext.drew ?_) | (with_reducible refine Ext.alloc ?_ _) | ((with_reducible refine Ext.setCell ?_ ?_ _); rotate_left; focus (first | (simp; done) | (simp; omega) | omega)) | assumption | (with_reducible refine Ext.trans ?_ (by assumption))))
  have hz4B := hy4B; clear hy4B
  go_wp2_with fail
  have HX4 := Lib.hid (bc_box w4B D a4 n x4 28 Hho4.out.strs)
  refine (impl_StripesOf D a4 n x4 s _ (Hho4.out.strs.ext (by repeat (first | (with_reducible exact Ext.refl _) | (with_reducible refine Ext.drewN ?_ _) | (with_reducible refine Ext.drew ?_) | (with_reducible refine Ext.alloc ?_ _) | ((with_reducible refine Ext.setCell ?_ ?_ _); rotate_left; focus (first | (simp; done) | (simp; omega) | omega)) | assumption | (with_reducible refine Ext.trans ?_ (by assumption))))) (by omega) (by omega) (by omega) Hb4.out (by omega)).mono ?_
  rintro e w5 hres
  obtain ⟨aG, nG, cG, rfl, hyw5, hoG⟩ := retI_opt hres
  clear hres
  rw [← HhR.out] at hoG
  have hnG : nG ≤ 1048576 := by have := hoG.len; rw [I_len] at this; have := Hhbd.out; omega
  have HhoG := Lib.hid hoG; clear hoG
  have hxw5 : Ext wb w5 := (by repeat (first | (with_reducible exact Ext.refl _) | (with_reducible refine Ext.drewN ?_ _) | (with_reducible refine Ext.drew ?_) | (with_reducible refine Ext.alloc ?_ _) | ((with_reducible refine Ext.setCell ?_ ?_ _); rotate_left; focus (first | (simp; done) | (simp; omega) | omega)) | assumption | (with_reducible refine Ext.trans ?_ (by assumption))))
  have hzw5 := hyw5; clear hyw5
  obtain ⟨d0, d1, d2, d3, hqs⟩ := HX4.out.ext (show Ext _ w5 from (by repeat (first | (with_reducible exact Ext.refl _) | (with_reducible refine Ext.drewN ?_ _) | (with_reducible refine Ext.drew ?_) | (with_reducible refine Ext.alloc ?_ _) | ((with_reducible refine Ext.setCell ?_ ?_ _); rotate_left; focus (first | (simp; done) | (simp; omega) | omega)) | assumption | (with_reducible refine Ext.trans ?_ (by assumption)))))
  have Hhqs := Lib.hid hqs; clear hqs
  have hx45 : Ext w4B w5 := (by repeat (first | (with_reducible exact Ext.refl _) | (with_reducible refine Ext.drewN ?_ _) | (with_reducible refine Ext.drew ?_) | (with_reducible refine Ext.alloc ?_ _) | ((with_reducible refine Ext.setCell ?_ ?_ _); rotate_left; focus (first | (simp; done) | (simp; omega) | omega)) | assumption | (with_reducible refine Ext.trans ?_ (by assumption))))
  have hx34 : Ext w3 w4B := (by repeat (first | (with_reducible exact Ext.refl _) | (with_reducible refine Ext.drewN ?_ _) | (with_reducible refine Ext.drew ?_) | (with_reducible refine Ext.alloc ?_ _) | ((with_reducible refine Ext.setCell ?_ ?_ _); rotate_left; focus (first | (simp; done) | (simp; omega) | omega)) | assumption | (with_reducible refine Ext.trans ?_ (by assumption))))
  have hb34 := hx34.le
  have hxS5 : Ext w3 w5 := (by repeat (first | (with_reducible exact Ext.refl _) | (with_reducible refine Ext.drewN ?_ _) | (with_reducible refine Ext.drew ?_) | (with_reducible refine Ext.alloc ?_ _) | ((with_reducible refine Ext.setCell ?_ ?_ _); rotate_left; focus (first | (simp; done) | (simp; omega) | omega)) | assumption | (with_reducible refine Ext.trans ?_ (by assumption))))
  go_wp2_with fail
  refine (eqInts aG aS nG nS cG cS R R _ (HhoG.out.ints.ext (by repeat (first | (with_reducible exact Ext.refl _) | (with_reducible refine Ext.drewN ?_ _) | (with_reducible refine Ext.drew ?_) | (with_reducible refine Ext.alloc ?_ _) | ((with_reducible refine Ext.setCell ?_ ?_ _); rotate_left; focus (first | (simp; done) | (simp; omega) | omega)) | assumption | (with_reducible refine Ext.trans ?_ (by assumption))))) (HhoS.out.ints.ext (by repeat (first | (with_reducible exact Ext.refl _) | (with_reducible refine Ext.drewN ?_ _) | (with_reducible refine Ext.drew ?_) | (with_reducible refine Ext.alloc ?_ _) | ((with_reducible refine Ext.setCell ?_ ?_ _); rotate_left; focus (first | (simp; done) | (simp; omega) | omega)) | assumption | (with_reducible refine Ext.trans ?_ (by assumption))))) (by omega) (by omega)).mono ?_
  rintro e w' ⟨rfl, q1, rfl⟩
  go_wp2
  (refine wp_region_up (by kernel_rfl) (by kernel_rfl) (by kernel_rfl) ?_; (repeat (first | (refine mix_q rfl ?_; go_big_quiet_step (fail); refine wpQuiet_nil ?_; show wpMix _ _ _ _ _ _ _) | (refine mix_s rfl ?_; go_wp2_with (first | (go_at_call 16; refine (toBc D a n c _ (Hhps.out.ext (by repeat (first | (with_reducible exact Ext.refl _) | (with_reducible refine Ext.drewN ?_ _) | (with_reducible refine Ext.drew ?_) | (with_reducible refine Ext.alloc ?_ _) | ((with_reducible refine Ext.setCell ?_ ?_ _); rotate_left; focus (first | (simp; done) | (simp; omega) | omega)) | assumption | (with_reducible refine Ext.trans ?_ (by assumption))))) (by omega)).mono ?_; rintro e w6 ⟨a6, x6, rfl, ho6, hy6⟩; rw [HL.out] at ho6 ⊢; have Hho6 := Lib.hid ho6; clear ho6) | (go_at_call 18; refine (eqBc D a4 a6 n x4 x6 _ (Hhqs.out.ext (by repeat (first | (with_reducible exact Ext.refl _) | (with_reducible refine Ext.drewN ?_ _) | (with_reducible refine Ext.drew ?_) | (with_reducible refine Ext.alloc ?_ _) | ((with_reducible refine Ext.setCell ?_ ?_ _); rotate_left; focus (first | (simp; done) | (simp; omega) | omega)) | assumption | (with_reducible refine Ext.trans ?_ (by assumption))))) Hho6.out.strs (by omega)).mono ?_; rintro e w7 ⟨rfl, hy7⟩)); first | refine ⟨up_of (by repeat (first | (with_reducible exact Ext.refl _) | (with_reducible refine Ext.drewN ?_ _) | (with_reducible refine Ext.drew ?_) | (with_reducible refine Ext.alloc ?_ _) | ((with_reducible refine Ext.setCell ?_ ?_ _); rotate_left; focus (first | (simp; done) | (simp; omega) | omega)) | assumption | (with_reducible refine Ext.trans ?_ (by assumption)))), ?_⟩ | refine ⟨rfl, rfl, up_of (by repeat (first | (with_reducible exact Ext.refl _) | (with_reducible refine Ext.drewN ?_ _) | (with_reducible refine Ext.drew ?_) | (with_reducible refine Ext.alloc ?_ _) | ((with_reducible refine Ext.setCell ?_ ?_ _); rotate_left; focus (first | (simp; done) | (simp; omega) | omega)) | assumption | (with_reducible refine Ext.trans ?_ (by assumption)))), ?_⟩))); refine mix_nil ?_)
  have hx57 : Ext w5 w7 := (by repeat (first | (with_reducible exact Ext.refl _) | (with_reducible refine Ext.drewN ?_ _) | (with_reducible refine Ext.drew ?_) | (with_reducible refine Ext.alloc ?_ _) | ((with_reducible refine Ext.setCell ?_ ?_ _); rotate_left; focus (first | (simp; done) | (simp; omega) | omega)) | assumption | (with_reducible refine Ext.trans ?_ (by assumption))))
  have hx7 : Ext wb w7 := (by repeat (first | (with_reducible exact Ext.refl _) | (with_reducible refine Ext.drewN ?_ _) | (with_reducible refine Ext.drew ?_) | (with_reducible refine Ext.alloc ?_ _) | ((with_reducible refine Ext.setCell ?_ ?_ _); rotate_left; focus (first | (simp; done) | (simp; omega) | omega)) | assumption | (with_reducible refine Ext.trans ?_ (by assumption))))
  have hxS7 : Ext w3 w7 := hxS5.trans hx57
  clear hy7
  go_wp2_with fail
  refine (markBc1 _ _ _ a4 n x4 _ w3.heap.size _ (Hho4.out.ext (hx45.trans hx57)) hxS7.le (by omega)).mono ?_
  rintro e w8 ⟨rfl, hm8, _⟩
  have hxS8 : Ext w3 w8 := hm8.to hxS7 (Nat.le_refl _)
  have hx8 : Ext wb w8 := hxw3.trans hxS8
  have HG8 := Lib.hid (hm8.own (HhoG.out.ext hx57) (own_ne Hho4.out HhoG.out (by first | exact Nat.le_refl _ | (simp; done))))
  clear hm8
  go_wp2_with fail
  refine (eqInts aG aS nG nS cG cS R R _ HG8.out.ints (HhoS.out.ints.ext hxS8) (by omega) (by omega)).mono ?_
  rintro e w' ⟨rfl, q2, rfl⟩
  go_wp2_with fail
  refine (markInts1 aG nG cG R w3.heap.size (w8.drewN q2) (Own.mono (show Own (w8.drewN q2) _ _ aG nG cG (I R) from HG8.out) (by simp; omega)) (by omega)).mono ?_
  rintro e w9 ⟨rfl, hm9, hg9⟩
  have hxS9 : Ext w3 w9 := hm9.to (hxS8.drewN q2) (Nat.le_refl _)
  have hx9 : Ext wb w9 := hxw3.trans hxS9
  have HG9 := Lib.hid hg9
  clear hm9 hg9
  go_wp2_with fail
  refine (heldInts1 aG nG cG _ HG9.out.ints (by omega)).mono ?_
  rintro e w10 ⟨rfl, hy10⟩
  have hx10 : Ext wb w10 := hx9.trans hy10
  have hx910 : Ext w9 w10 := hy10
  clear hy10
  go_wp2_with fail
  refine (toBc D a n c _ (Hhps.out.ext (by repeat (first | (with_reducible exact Ext.refl _) | (with_reducible refine Ext.drewN ?_ _) | (with_reducible refine Ext.drew ?_) | (with_reducible refine Ext.alloc ?_ _) | ((with_reducible refine Ext.setCell ?_ ?_ _); rotate_left; focus (first | (simp; done) | (simp; omega) | omega)) | assumption | (with_reducible refine Ext.trans ?_ (by assumption))))) (by omega)).mono ?_
  rintro e w6B ⟨a6, x6, rfl, ho6, hy6B⟩
  rw [HL.out] at ho6 ⊢
  have Hho6 := Lib.hid ho6; clear ho6
  have hx6B : Ext wb w6B := (by repeat (first | (with_reducible exact Ext.refl _) | (with_reducible refine Ext.drewN ?_ _) | (with_reducible refine Ext.drew ?_) | (with_reducible refine Ext.alloc ?_ _) | ((with_reducible refine Ext.setCell ?_ ?_ _); rotate_left; focus (first | (simp; done) | (simp; omega) | omega)) | assumption | (with_reducible refine Ext.trans ?_ (by assumption))))
  have hz6B := hy6B; clear hy6B
  go_wp2_with fail
  refine (impl_StripesOf D a6 n x6 s _ (Hho6.out.strs.ext (by repeat (first | (with_reducible exact Ext.refl _) | (with_reducible refine Ext.drewN ?_ _) | (with_reducible refine Ext.drew ?_) | (with_reducible refine Ext.alloc ?_ _) | ((with_reducible refine Ext.setCell ?_ ?_ _); rotate_left; focus (first | (simp; done) | (simp; omega) | omega)) | assumption | (with_reducible refine Ext.trans ?_ (by assumption))))) (by omega) (by omega) (by omega) Hb4.out (by omega)).mono ?_
  rintro e w11 hres
  obtain ⟨aH, nH, cH, rfl, hyw11, hoH⟩ := retI_opt hres
  clear hres
  rw [← HhR.out] at hoH
  have hnH : nH ≤ 1048576 := by have := hoH.len; rw [I_len] at this; have := Hhbd.out; omega
  have HhoH := Lib.hid hoH; clear hoH
  have hxw11 : Ext wb w11 := (by repeat (first | (with_reducible exact Ext.refl _) | (with_reducible refine Ext.drewN ?_ _) | (with_reducible refine Ext.drew ?_) | (with_reducible refine Ext.alloc ?_ _) | ((with_reducible refine Ext.setCell ?_ ?_ _); rotate_left; focus (first | (simp; done) | (simp; omega) | omega)) | assumption | (with_reducible refine Ext.trans ?_ (by assumption))))
  have hzw11 := hyw11; clear hyw11
  have hx911 : Ext w9 w11 := hx910.trans (by repeat (first | (with_reducible exact Ext.refl _) | (with_reducible refine Ext.drewN ?_ _) | (with_reducible refine Ext.drew ?_) | (with_reducible refine Ext.alloc ?_ _) | ((with_reducible refine Ext.setCell ?_ ?_ _); rotate_left; focus (first | (simp; done) | (simp; omega) | omega)) | assumption | (with_reducible refine Ext.trans ?_ (by assumption))))
  have hxS11 : Ext w3 w11 := hxS9.trans hx911
  go_wp2_with fail
  refine (eqInts aH aS nH nS cH cS R R _ HhoH.out.ints (HhoS.out.ints.ext hxS11) (by omega) (by omega)).mono ?_
  rintro e w' ⟨rfl, q3, rfl⟩
  go_wp2_with fail
  refine (heldInts1 aG nG cG _ (HG9.out.ints.ext (hx911.drewN q3)) (by omega)).mono ?_
  rintro e w12 ⟨rfl, hy12⟩
  have hx12 : Ext wb w12 := Ext.trans (Ext.drewN (hx9.trans hx911) q3) hy12
  go_wp2
  go_ret
  exact ⟨rfl, hxb.trans hx12⟩
end Go.Proofs.Ytnmkckghfckgbaa
