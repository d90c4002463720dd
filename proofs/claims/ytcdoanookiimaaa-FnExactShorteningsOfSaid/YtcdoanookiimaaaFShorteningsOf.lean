/- The walk of the exact law of ShorteningsOf. -/
import Derived.Test.YtcdoanookiimaaaCmp
import Derived.Test.YtcdoanookiimaaaLTs
import Derived.Test.YtcdoanookiimaaaOpen
import Derived.Test.YtcdoanookiimaaaOpenCh
namespace Go.Proofs.Ytcdoanookiimaaa
set_option maxRecDepth 100000
open Go.RowKit

set_option maxHeartbeats 16000000 in
theorem lawShorteningsOf (D : Ch) (a : Option Addr) (n c : Nat) (b : Option Addr) (m d : Nat) (s : ByteArray) (w : World) (hv : RawCh w D a n c b m d) (hz : s.size ≤ 9223372036854775807) :
    Calls Try.prog 8 #[.agg #[.int .i64 D.base, .int .i64 D.states, .int .i64 D.start, .int .i64 D.fin, .slice a n c, .slice b m d], .string s] w (Ret (.bool true) w) := by
  have HRaw := Lib.hid hv
  have HSz := Lib.hid (szCh D a n c b m d 1048576 (w.alloc (.cells #[.int .i64 D.base, .int .i64 D.states, .int .i64 D.start, .int .i64 D.fin, .slice a n c, .slice b m d] 57)) (hv.ext ((Ext.refl w).alloc _)) (by omega) (by omega))
  clear hv
  by_cases hz1 : s.size ≤ 1048576
  rotate_left
  · go_enter Try.func8, Try.ntmps8
    go_wp2_with fail
    go_ret
    exact ⟨rfl, (by repeat (first | (with_reducible exact Ext.refl _) | (with_reducible refine Ext.drewN ?_ _) | (with_reducible refine Ext.drew ?_) | (with_reducible refine Ext.alloc ?_ _) | ((with_reducible refine Ext.setCell ?_ ?_ _); rotate_left; focus (first | (simp; done) | (simp; omega) | omega)) | assumption | (with_reducible refine Ext.trans ?_ (by assumption))))⟩
  by_cases hsz : chSize D ≤ 1048576
  rotate_left
  · rw [leftOf_no hsz] at HSz
    go_enter Try.func8, Try.ntmps8
    go_wp2_with (refine HSz.out.mono ?_; rintro e w1 ⟨rfl, hy1⟩)
    go_ret
    exact ⟨rfl, (by repeat (first | (with_reducible exact Ext.refl _) | (with_reducible refine Ext.drewN ?_ _) | (with_reducible refine Ext.drew ?_) | (with_reducible refine Ext.alloc ?_ _) | ((with_reducible refine Ext.setCell ?_ ?_ _); rotate_left; focus (first | (simp; done) | (simp; omega) | omega)) | assumption | (with_reducible refine Ext.trans ?_ (by assumption))))⟩
  have HI := Lib.hid (HRaw.out.inn hsz)
  rw [leftOf_yes hsz] at HSz
  have HSize := Lib.hid hsz
  have HSm := Lib.hid (show SmallCh D from HI.out.sm)
  have hn1 : n ≤ 1048576 := HI.out.hn
  have HSp := Lib.hid (fun W ax cx bx dx h => spec_Shortenings D ax n cx bx m dx s W h (by omega))
  have HIm := Lib.hid (fun W ax cx bx dx h => impl_Shortenings D ax n cx bx m dx s W h (by omega))
  obtain ⟨ts, hts⟩ : ∃ ts, ts = (shoL D s) := ⟨_, rfl⟩
  have htn : ts.length ≤ 1048576 := by rw [hts]; exact tslenShorteningsOf HSm.out hsz
  obtain ⟨ok, hok⟩ : ∃ ok, ok = (shoB D s) := ⟨_, rfl⟩
  rw [← hts, ← hok] at HSp HIm
  clear hts hok
  go_enter Try.func8, Try.ntmps8
  go_wp2_with fail
  obtain ⟨wb, hwb⟩ : ∃ wb, wb = w.alloc (.cells #[.int .i64 D.base, .int .i64 D.states, .int .i64 D.start, .int .i64 D.fin, .slice a n c, .slice b m d] 57) := ⟨_, rfl⟩
  have hxb : Ext w wb := by rw [hwb]; exact (by repeat (first | (with_reducible exact Ext.refl _) | (with_reducible refine Ext.drewN ?_ _) | (with_reducible refine Ext.drew ?_) | (with_reducible refine Ext.alloc ?_ _) | ((with_reducible refine Ext.setCell ?_ ?_ _); rotate_left; focus (first | (simp; done) | (simp; omega) | omega)) | assumption | (with_reducible refine Ext.trans ?_ (by assumption))))
  have HS0 := Lib.hid (show SAt wb w.heap.size 57 #[.int .i64 D.base, .int .i64 D.states, .int .i64 D.start, .int .i64 D.fin, .slice a n c, .slice b m d] by rw [hwb]; exact SAt.new' _ _ _ rfl)
  rw [← hwb] at HSz ⊢
  have hqb : w.heap.size < wb.heap.size := HS0.out.lt
  clear hwb
  have HIb := Lib.hid (HI.out.ext hxb)
  obtain ⟨p0, p1, p2, p3, p4, p5⟩ := SAt.r6 HS0.out
  refine HSz.out.mono ?_
  rintro e w1 ⟨rfl, hy1⟩
  have hx1 : Ext wb w1 := hy1
  go_wp2_with fail
  refine (toChr D a n c b m d _ (HIb.out.ext (by repeat (first | (with_reducible exact Ext.refl _) | (with_reducible assumption) | (with_reducible refine Ext.drewN ?_ _) | (with_reducible refine Ext.drew ?_) | (with_reducible refine Ext.alloc ?_ _) | ((with_reducible refine Ext.setCell ?_ ?_ _); rotate_left; focus (first | (simp; done) | (simp; omega) | omega)) | (with_reducible refine Ext.trans ?_ (by with_reducible assumption)))))).mono ?_
  rintro e w2 ⟨a2, c2, b2, d2, rfl, hr2, hy2⟩
  have hx2 : Ext wb w2 := Ext.trans (by repeat (first | (with_reducible exact Ext.refl _) | (with_reducible assumption) | (with_reducible refine Ext.drewN ?_ _) | (with_reducible refine Ext.drew ?_) | (with_reducible refine Ext.alloc ?_ _) | ((with_reducible refine Ext.setCell ?_ ?_ _); rotate_left; focus (first | (simp; done) | (simp; omega) | omega)) | (with_reducible refine Ext.trans ?_ (by with_reducible assumption)))) hy2
  have HI2 := Lib.hid (hr2.inn HIb.out.hn HIb.out.hn' HSm.out)
  clear hr2
  go_wp2_with fail
  refine (HSp.out _ a2 c2 b2 d2 HI2.out).mono ?_
  rintro e w3 ⟨a3, c3, rfl, hs3, hy3⟩
  have hx3 : Ext wb w3 := hx2.trans hy3
  have HL3 := Lib.hid hs3
  clear hs3
  go_wp2_with fail
  refine (toChr D a n c b m d _ (HIb.out.ext (by repeat (first | (with_reducible exact Ext.refl _) | (with_reducible assumption) | (with_reducible refine Ext.drewN ?_ _) | (with_reducible refine Ext.drew ?_) | (with_reducible refine Ext.alloc ?_ _) | ((with_reducible refine Ext.setCell ?_ ?_ _); rotate_left; focus (first | (simp; done) | (simp; omega) | omega)) | (with_reducible refine Ext.trans ?_ (by with_reducible assumption)))))).mono ?_
  rintro e w4 ⟨a4, c4, b4, d4, rfl, hr4, hy4⟩
  have hx4 : Ext wb w4 := Ext.trans (by repeat (first | (with_reducible exact Ext.refl _) | (with_reducible assumption) | (with_reducible refine Ext.drewN ?_ _) | (with_reducible refine Ext.drew ?_) | (with_reducible refine Ext.alloc ?_ _) | ((with_reducible refine Ext.setCell ?_ ?_ _); rotate_left; focus (first | (simp; done) | (simp; omega) | omega)) | (with_reducible refine Ext.trans ?_ (by with_reducible assumption)))) hy4
  have hl34 : w3.heap.size ≤ w4.heap.size := hy4.le
  have hxz4 : Ext w3 w4 := hy4
  have HR4 := Lib.hid hr4
  have HI4 := Lib.hid (hr4.inn HIb.out.hn HIb.out.hn' HSm.out)
  clear hr4
  go_wp2_with fail
  have HS8 := Lib.hid (SAt.new' w4 #[.int .i64 D.base, .int .i64 D.states, .int .i64 D.start, .int .i64 D.fin, .slice a4 n c4, .slice b4 m d4] 27 rfl)
  obtain ⟨w4a, hw4a⟩ : ∃ w4a, w4a = w4.alloc (.cells #[.int .i64 D.base, .int .i64 D.states, .int .i64 D.start, .int .i64 D.fin, .slice a4 n c4, .slice b4 m d4] 27) := ⟨_, rfl⟩
  have hx4a : Ext w4 w4a := by rw [hw4a]; exact (by repeat (first | (with_reducible exact Ext.refl _) | (with_reducible refine Ext.drewN ?_ _) | (with_reducible refine Ext.drew ?_) | (with_reducible refine Ext.alloc ?_ _) | ((with_reducible refine Ext.setCell ?_ ?_ _); rotate_left; focus (first | (simp; done) | (simp; omega) | omega)) | assumption | (with_reducible refine Ext.trans ?_ (by assumption))))
  have hl4 : w4.heap.size < w4a.heap.size := by rw [hw4a]; simp
  rw [← hw4a] at HS8 ⊢
  clear hw4a
  have hxb4 : Ext wb w4a := hx4.trans hx4a
  obtain ⟨x0, x1, x2, x3, x4, x5⟩ := SAt.r6 HS8.out
  try go_wp2_with fail
  refine (HIm.out _ a4 c4 b4 d4 (HI4.out.ext hx4a)).mono ?_
  rintro e w5 ⟨a5, c5, rfl, ho5, hy5⟩
  have hx5 : Ext w4a w5 := hy5
  have hxb5 : Ext wb w5 := hxb4.trans hx5
  have hl45 : w4a.heap.size ≤ w5.heap.size := hx5.le
  have hx35 : Ext w3 w5 := hxz4.trans (hx4a.trans hx5)
  have HO5 := Lib.hid (show OwnIn w5 w4a.heap.size w5.heap.size 9 a5 ts.length c5 (St ts) from ho5.in)
  have HLg5 := Lib.hid (show Strs w5 a5 ts.length c5 ts from ho5.sl)
  have HL5 := Lib.hid (Strs.ext HL3.out hx35)
  clear ho5
  go_wp2_with (go_at_call 38; (with_reducible refine (eqTsT a5 a3 ts.length c5 c3 ts _ ((show Strs w5 a5 ts.length c5 ts from HLg5.out).ext (by repeat (first | (with_reducible exact Ext.refl _) | (with_reducible assumption) | (with_reducible refine Ext.drewN ?_ _) | (with_reducible refine Ext.drew ?_) | (with_reducible refine Ext.alloc ?_ _) | ((with_reducible refine Ext.setCell ?_ ?_ _); rotate_left; focus (first | (simp; done) | (simp; omega) | omega)) | (with_reducible refine Ext.trans ?_ (by with_reducible assumption))))) ((show Strs w5 a3 ts.length c3 ts from HL5.out).ext (by repeat (first | (with_reducible exact Ext.refl _) | (with_reducible assumption) | (with_reducible refine Ext.drewN ?_ _) | (with_reducible refine Ext.drew ?_) | (with_reducible refine Ext.alloc ?_ _) | ((with_reducible refine Ext.setCell ?_ ?_ _); rotate_left; focus (first | (simp; done) | (simp; omega) | omega)) | (with_reducible refine Ext.trans ?_ (by with_reducible assumption))))) (by omega)).mono ?_); rintro e w6 ⟨rfl, hys⟩; have hx6 : Ext w5 w6 := Ext.trans (by repeat (first | (with_reducible exact Ext.refl _) | (with_reducible assumption) | (with_reducible refine Ext.drewN ?_ _) | (with_reducible refine Ext.drew ?_) | (with_reducible refine Ext.alloc ?_ _) | ((with_reducible refine Ext.setCell ?_ ?_ _); rotate_left; focus (first | (simp; done) | (simp; omega) | omega)) | (with_reducible refine Ext.trans ?_ (by with_reducible assumption)))) hys; clear hys)
  have hxb6 : Ext wb w6 := hxb5.trans hx6
  have hx4a6 : Ext w4a w6 := hx5.trans hx6
  have HX6 := Lib.hid ((HI4.out.ext hx4a).ext (hx5.trans hx6))
  have HIb6 := Lib.hid (HIb.out.ext hxb6)
  (refine wp_region_from w6 (by repeat (first | (with_reducible exact Ext.refl _) | (with_reducible refine Ext.drewN ?_ _) | (with_reducible refine Ext.drew ?_) | (with_reducible refine Ext.alloc ?_ _) | ((with_reducible refine Ext.setCell ?_ ?_ _); rotate_left; focus (first | (simp; done) | (simp; omega) | omega)) | assumption | (with_reducible refine Ext.trans ?_ (by assumption)))) (by kernel_rfl) (by kernel_rfl) (by kernel_rfl) ?_; (repeat (first | (refine mix_q rfl ?_; go_big_quiet_step (fail); refine wpQuiet_nil ?_; show wpMix _ _ _ _ _ _ _) | (refine mix_s rfl ?_; go_wp2_with (first | (go_at_call 37; (with_reducible refine (toChr D a n c b m d _ (HIb6.out.ext (by repeat (first | (with_reducible exact Ext.refl _) | (with_reducible assumption) | (with_reducible refine Ext.drewN ?_ _) | (with_reducible refine Ext.drew ?_) | (with_reducible refine Ext.alloc ?_ _) | ((with_reducible refine Ext.setCell ?_ ?_ _); rotate_left; focus (first | (simp; done) | (simp; omega) | omega)) | (with_reducible refine Ext.trans ?_ (by with_reducible assumption)))))).mono ?_); rintro e w7 ⟨a7, c7, b7, d7, rfl, hr7, hy7⟩; have hx7 : Ext w6 w7 := Ext.trans (by repeat (first | (with_reducible exact Ext.refl _) | (with_reducible assumption) | (with_reducible refine Ext.drewN ?_ _) | (with_reducible refine Ext.drew ?_) | (with_reducible refine Ext.alloc ?_ _) | ((with_reducible refine Ext.setCell ?_ ?_ _); rotate_left; focus (first | (simp; done) | (simp; omega) | omega)) | (with_reducible refine Ext.trans ?_ (by with_reducible assumption)))) hy7; have HI7 := Lib.hid (hr7.inn HIb.out.hn HIb.out.hn' HSm.out); clear hr7 hy7) | (go_at_call 39; (with_reducible refine (eqCh D a4 n c4 b4 m d4 a7 c7 b7 d7 _ (HX6.out.ext (by repeat (first | (with_reducible exact Ext.refl _) | (with_reducible assumption) | (with_reducible refine Ext.drewN ?_ _) | (with_reducible refine Ext.drew ?_) | (with_reducible refine Ext.alloc ?_ _) | ((with_reducible refine Ext.setCell ?_ ?_ _); rotate_left; focus (first | (simp; done) | (simp; omega) | omega)) | (with_reducible refine Ext.trans ?_ (by with_reducible assumption))))) HI7.out).mono ?_); rintro e w8 ⟨rfl, hy8⟩; have hx8 : Ext w6 w8 := Ext.trans (by repeat (first | (with_reducible exact Ext.refl _) | (with_reducible assumption) | (with_reducible refine Ext.drewN ?_ _) | (with_reducible refine Ext.drew ?_) | (with_reducible refine Ext.alloc ?_ _) | ((with_reducible refine Ext.setCell ?_ ?_ _); rotate_left; focus (first | (simp; done) | (simp; omega) | omega)) | (with_reducible refine Ext.trans ?_ (by with_reducible assumption)))) hy8; clear hy8)); first | refine ⟨up_of (by repeat (first | (with_reducible exact Ext.refl _) | (with_reducible refine Ext.drewN ?_ _) | (with_reducible refine Ext.drew ?_) | (with_reducible refine Ext.alloc ?_ _) | ((with_reducible refine Ext.setCell ?_ ?_ _); rotate_left; focus (first | (simp; done) | (simp; omega) | omega)) | assumption | (with_reducible refine Ext.trans ?_ (by assumption)))), ?_⟩ | refine ⟨rfl, rfl, up_of (by repeat (first | (with_reducible exact Ext.refl _) | (with_reducible refine Ext.drewN ?_ _) | (with_reducible refine Ext.drew ?_) | (with_reducible refine Ext.alloc ?_ _) | ((with_reducible refine Ext.setCell ?_ ?_ _); rotate_left; focus (first | (simp; done) | (simp; omega) | omega)) | assumption | (with_reducible refine Ext.trans ?_ (by assumption)))), ?_⟩))); refine mix_nil ?_)
  have hx58 : Ext w5 w8 := hx6.trans hx8
  have hxb8 : Ext wb w8 := hxb6.trans hx8
  have hx4a8 : Ext w4a w8 := hx5.trans hx58
  go_wp2_with fail
  have hl8 : w5.heap.size ≤ w8.heap.size := hx58.le
  have hl8b : w4.heap.size ≤ w8.heap.size := by omega
  refine (markChR D a4 n c4 b4 m d4 1 w3.heap.size w4.heap.size _ ((HR4.out.ext hx4a).ext (hx5.trans (hx58.trans (by repeat (first | (with_reducible exact Ext.refl _) | (with_reducible assumption) | (with_reducible refine Ext.drewN ?_ _) | (with_reducible refine Ext.drew ?_) | (with_reducible refine Ext.alloc ?_ _) | ((with_reducible refine Ext.setCell ?_ ?_ _); rotate_left; focus (first | (simp; done) | (simp; omega) | omega)) | (with_reducible refine Ext.trans ?_ (by with_reducible assumption))))))) (by first | exact hl8b | (simp; omega)) hn1 (by have := szCh2_le HSize.out; omega) (small_tabs HSm.out)).mono ?_
  rintro e w9 ⟨rfl, hc9, _⟩
  have hc9 : Chg w3.heap.size w4.heap.size w5 w9 := (Chg.ext (hx58.trans (by repeat (first | (with_reducible exact Ext.refl _) | (with_reducible assumption) | (with_reducible refine Ext.drewN ?_ _) | (with_reducible refine Ext.drew ?_) | (with_reducible refine Ext.alloc ?_ _) | ((with_reducible refine Ext.setCell ?_ ?_ _); rotate_left; focus (first | (simp; done) | (simp; omega) | omega)) | (with_reducible refine Ext.trans ?_ (by with_reducible assumption))))) _ _).trans hc9
  have hl9 : w5.heap.size ≤ w9.heap.size := hc9.size
  have hlb : wb.heap.size ≤ w3.heap.size := hx3.le
  have hx39 : Ext w3 w9 := hc9.to hx35 (Nat.le_refl _)
  have hxb9 : Ext wb w9 := hx3.trans hx39
  clear x0 x1 x2 x3 x4 x5
  have HO9 := Lib.hid (HO5.out.chg hc9 (.inl (by omega)))
  have HLg9 := Lib.hid (show Strs w9 a5 ts.length c5 ts from HO9.out.1.sl)
  have HL9 := Lib.hid (Strs.ext HL3.out hx39)
  obtain ⟨z9, hz9⟩ : ∃ z, z = szCh2 D := ⟨_, rfl⟩
  rw [← hz9]
  clear hz9 hc9
  go_wp2_with (go_at_call 38; (with_reducible refine (eqTsT a5 a3 ts.length c5 c3 ts _ ((show Strs w9 a5 ts.length c5 ts from HLg9.out).ext (by repeat (first | (with_reducible exact Ext.refl _) | (with_reducible assumption) | (with_reducible refine Ext.drewN ?_ _) | (with_reducible refine Ext.drew ?_) | (with_reducible refine Ext.alloc ?_ _) | ((with_reducible refine Ext.setCell ?_ ?_ _); rotate_left; focus (first | (simp; done) | (simp; omega) | omega)) | (with_reducible refine Ext.trans ?_ (by with_reducible assumption))))) ((show Strs w9 a3 ts.length c3 ts from HL9.out).ext (by repeat (first | (with_reducible exact Ext.refl _) | (with_reducible assumption) | (with_reducible refine Ext.drewN ?_ _) | (with_reducible refine Ext.drew ?_) | (with_reducible refine Ext.alloc ?_ _) | ((with_reducible refine Ext.setCell ?_ ?_ _); rotate_left; focus (first | (simp; done) | (simp; omega) | omega)) | (with_reducible refine Ext.trans ?_ (by with_reducible assumption))))) (by omega)).mono ?_); rintro e w10 ⟨rfl, hys⟩; have hx10 : Ext w9 w10 := Ext.trans (by repeat (first | (with_reducible exact Ext.refl _) | (with_reducible assumption) | (with_reducible refine Ext.drewN ?_ _) | (with_reducible refine Ext.drew ?_) | (with_reducible refine Ext.alloc ?_ _) | ((with_reducible refine Ext.setCell ?_ ?_ _); rotate_left; focus (first | (simp; done) | (simp; omega) | omega)) | (with_reducible refine Ext.trans ?_ (by with_reducible assumption)))) hys; clear hys)
  have hl10 : w9.heap.size ≤ w10.heap.size := hx10.le
  refine (markTs1 a5 ts.length c5 (St ts) w4a.heap.size w5.heap.size _ (HO9.out.ext (hx10.trans (by repeat (first | (with_reducible exact Ext.refl _) | (with_reducible assumption) | (with_reducible refine Ext.drewN ?_ _) | (with_reducible refine Ext.drew ?_) | (with_reducible refine Ext.alloc ?_ _) | ((with_reducible refine Ext.setCell ?_ ?_ _); rotate_left; focus (first | (simp; done) | (simp; omega) | omega)) | (with_reducible refine Ext.trans ?_ (by with_reducible assumption)))))) (by first | omega | (simp; omega)) (by omega)).mono ?_
  rintro e w11 ⟨rfl, hc11, ho11⟩
  have hc11 : Chg w4a.heap.size w5.heap.size w9 w11 := (Chg.ext (hx10.trans (by repeat (first | (with_reducible exact Ext.refl _) | (with_reducible assumption) | (with_reducible refine Ext.drewN ?_ _) | (with_reducible refine Ext.drew ?_) | (with_reducible refine Ext.alloc ?_ _) | ((with_reducible refine Ext.setCell ?_ ?_ _); rotate_left; focus (first | (simp; done) | (simp; omega) | omega)) | (with_reducible refine Ext.trans ?_ (by with_reducible assumption))))) _ _).trans hc11
  have hx311 : Ext w3 w11 := hc11.to hx39 (by omega)
  have hxb11 : Ext wb w11 := hx3.trans hx311
  have HIb11 := Lib.hid (HIb.out.ext hxb11)
  have HL11 := Lib.hid (Strs.ext HL3.out hx311)
  have HHd := Lib.hid (fun W (h : Ext w11 W) => heldTs1 a5 ts.length c5 W (Strs.ext (show Strs w11 a5 ts.length c5 (markTs 1 ts.length) from ho11.1.sl) h) (by omega))
  clear hc11 ho11
  go_wp2_with (go_at_call 42; (with_reducible refine (HHd.out _ (by repeat (first | (with_reducible exact Ext.refl _) | (with_reducible assumption) | (with_reducible refine Ext.drewN ?_ _) | (with_reducible refine Ext.drew ?_) | (with_reducible refine Ext.alloc ?_ _) | ((with_reducible refine Ext.setCell ?_ ?_ _); rotate_left; focus (first | (simp; done) | (simp; omega) | omega)) | (with_reducible refine Ext.trans ?_ (by with_reducible assumption))))).mono ?_); rintro e w12 ⟨rfl, hyh⟩; have hx12 : Ext w11 w12 := Ext.trans (by repeat (first | (with_reducible exact Ext.refl _) | (with_reducible assumption) | (with_reducible refine Ext.drewN ?_ _) | (with_reducible refine Ext.drew ?_) | (with_reducible refine Ext.alloc ?_ _) | ((with_reducible refine Ext.setCell ?_ ?_ _); rotate_left; focus (first | (simp; done) | (simp; omega) | omega)) | (with_reducible refine Ext.trans ?_ (by with_reducible assumption)))) hyh; clear hyh; have hxb12 : Ext wb w12 := hxb11.trans hx12)
  refine (toChr D a n c b m d _ (HIb11.out.ext (hx12.trans (by repeat (first | (with_reducible exact Ext.refl _) | (with_reducible assumption) | (with_reducible refine Ext.drewN ?_ _) | (with_reducible refine Ext.drew ?_) | (with_reducible refine Ext.alloc ?_ _) | ((with_reducible refine Ext.setCell ?_ ?_ _); rotate_left; focus (first | (simp; done) | (simp; omega) | omega)) | (with_reducible refine Ext.trans ?_ (by with_reducible assumption))))))).mono ?_
  rintro e w13 ⟨a13, c13, b13, d13, rfl, hr13, hy13⟩
  have hx13 : Ext w11 w13 := Ext.trans (hx12.trans (by repeat (first | (with_reducible exact Ext.refl _) | (with_reducible assumption) | (with_reducible refine Ext.drewN ?_ _) | (with_reducible refine Ext.drew ?_) | (with_reducible refine Ext.alloc ?_ _) | ((with_reducible refine Ext.setCell ?_ ?_ _); rotate_left; focus (first | (simp; done) | (simp; omega) | omega)) | (with_reducible refine Ext.trans ?_ (by with_reducible assumption))))) hy13
  have HI13 := Lib.hid (hr13.inn HIb.out.hn HIb.out.hn' HSm.out)
  clear hr13 hy13
  go_wp2_with fail
  refine (HIm.out _ a13 c13 b13 d13 HI13.out).mono ?_
  rintro e w14 ⟨a14, c14, rfl, ho14, hy14⟩
  have hx14 : Ext w11 w14 := hx13.trans hy14
  have HLg14 := Lib.hid (show Strs w14 a14 ts.length c14 ts from ho14.sl)
  have HL14 := Lib.hid (Strs.ext HL11.out hx14)
  clear ho14 hy14
  go_wp2_with (first | (go_at_call 38; (with_reducible refine (eqTsT a14 a3 ts.length c14 c3 ts _ ((show Strs w14 a14 ts.length c14 ts from HLg14.out).ext (by repeat (first | (with_reducible exact Ext.refl _) | (with_reducible assumption) | (with_reducible refine Ext.drewN ?_ _) | (with_reducible refine Ext.drew ?_) | (with_reducible refine Ext.alloc ?_ _) | ((with_reducible refine Ext.setCell ?_ ?_ _); rotate_left; focus (first | (simp; done) | (simp; omega) | omega)) | (with_reducible refine Ext.trans ?_ (by with_reducible assumption))))) ((show Strs w14 a3 ts.length c3 ts from HL14.out).ext (by repeat (first | (with_reducible exact Ext.refl _) | (with_reducible assumption) | (with_reducible refine Ext.drewN ?_ _) | (with_reducible refine Ext.drew ?_) | (with_reducible refine Ext.alloc ?_ _) | ((with_reducible refine Ext.setCell ?_ ?_ _); rotate_left; focus (first | (simp; done) | (simp; omega) | omega)) | (with_reducible refine Ext.trans ?_ (by with_reducible assumption))))) (by omega)).mono ?_); rintro e w15 ⟨rfl, hys⟩; have hx15 : Ext w14 w15 := Ext.trans (by repeat (first | (with_reducible exact Ext.refl _) | (with_reducible assumption) | (with_reducible refine Ext.drewN ?_ _) | (with_reducible refine Ext.drew ?_) | (with_reducible refine Ext.alloc ?_ _) | ((with_reducible refine Ext.setCell ?_ ?_ _); rotate_left; focus (first | (simp; done) | (simp; omega) | omega)) | (with_reducible refine Ext.trans ?_ (by with_reducible assumption)))) hys; have hxy15 : Ext w11 w15 := hx14.trans hx15; clear hys) | (go_at_call 42; (with_reducible refine (HHd.out _ (by repeat (first | (with_reducible exact Ext.refl _) | (with_reducible assumption) | (with_reducible refine Ext.drewN ?_ _) | (with_reducible refine Ext.drew ?_) | (with_reducible refine Ext.alloc ?_ _) | ((with_reducible refine Ext.setCell ?_ ?_ _); rotate_left; focus (first | (simp; done) | (simp; omega) | omega)) | (with_reducible refine Ext.trans ?_ (by with_reducible assumption))))).mono ?_); rintro e w16 ⟨rfl, hyh⟩; have hx16 : Ext w11 w16 := Ext.trans (by repeat (first | (with_reducible exact Ext.refl _) | (with_reducible assumption) | (with_reducible refine Ext.drewN ?_ _) | (with_reducible refine Ext.drew ?_) | (with_reducible refine Ext.alloc ?_ _) | ((with_reducible refine Ext.setCell ?_ ?_ _); rotate_left; focus (first | (simp; done) | (simp; omega) | omega)) | (with_reducible refine Ext.trans ?_ (by with_reducible assumption)))) hyh; clear hyh))
  go_ret
  exact ⟨rfl, hxb.trans (hxb11.trans (by repeat (first | (with_reducible exact Ext.refl _) | (with_reducible assumption) | (with_reducible refine Ext.drewN ?_ _) | (with_reducible refine Ext.drew ?_) | (with_reducible refine Ext.alloc ?_ _) | ((with_reducible refine Ext.setCell ?_ ?_ _); rotate_left; focus (first | (simp; done) | (simp; omega) | omega)) | (with_reducible refine Ext.trans ?_ (by with_reducible assumption)))))⟩
end Go.Proofs.Ytcdoanookiimaaa

/- The law on ShorteningsOf, framed. -/
namespace Go.Proofs.Ytcdoanookiimaaa.fnExactShorteningsOf
open Go.ChangeShapes Go.WideShapes Go.ChangeAt Go.RowKit
open Go.ChangeMaps (open_string shut_string)
set_option linter.unusedVariables false

set_option maxRecDepth 100000 in
theorem lifted (os : Os) (started : os.Started) (H : Type) (enc : TypeId × Value → H) :
    ReturnsInHanded {} Try.checked os 8 .any (Rows.fnExactShorteningsOfSpec.pre6 enc Try.prog Try.f8 Rows.fnExactShorteningsOfRow.domain false) (Rows.fnExactShorteningsOfSpec.post enc Try.prog Try.f8 false true false false) := by
  refine returnsInHanded_of_change (C := Try.checked) own started (by kernel_rfl) Try.func8
    (ChangeSpec.witness6 (enc := enc) (C := Try.checked) false ⟨#[], #[.agg #[.int .i64 0, .int .i64 0, .int .i64 0, .int .i64 0, .slice none 0 0, .slice none 0 0], .string .empty], []⟩ 8 (by kernel_rfl) (by kernel_rfl) (by kernel_rfl) (by kernel_rfl)) ?_
  intro W base args ds gs before hval0 hW hcnd _
  have hval : ∀ (j : Nat) t v, Try.f8.params[j]? = some t → args[j]? = some v → Value.okWide Try.prog W .any base t v := hval0
  have hW' := hW
  obtain ⟨p, q, hA0, hV, rfl, hfz, hnd⟩ := hW
  have hA : DataW.TrodAll enc Try.prog W 0 (fun _ => true) true Try.f8.params.toList args.toList ds p := hA0
  rw [Try.params8] at hA hval
  obtain ⟨v0, vs0, d0, ds0, p0, q0, hargs, rfl, rfl, h0, r0⟩ := trodAll_cons hA
  obtain ⟨v1, vs1, d1, ds1, p1, q1, rfl, rfl, rfl, h1, r1⟩ := trodAll_cons r0
  obtain ⟨rfl, rfl, rfl⟩ := trodAll_nil r1
  obtain rfl : args = #[v0, v1] := by cases args; simp_all
  obtain ⟨rfl, rfl⟩ := trodVars_none hV
  have k0 := h0
  have lt0 : ∀ x ∈ p0, x.block < W.heap.size := by obtain ⟨m, hm⟩ := k0; exact DataW.trod_lt m _ _ _ hm
  obtain ⟨D0, a0, n0, c0, b0, m0, g0, rfl, hD0⟩ := opn_ch (hval 0 57 v0 rfl rfl) h0
  have k1 := h1
  have lt1 : ∀ x ∈ p1, x.block < W.heap.size := by obtain ⟨m, hm⟩ := k1; exact DataW.trod_lt m _ _ _ hm
  obtain ⟨s1, rfl, hs1⟩ := opn_str (hval 1 9 v1 rfl rfl) h1
  clear hA0 hval0
  refine (lawShorteningsOf D0 a0 n0 c0 b0 m0 g0 s1 W hD0 hs1).mono fun e W' ⟨he, bel⟩ => ?_
  subst he
  exact ⟨_, rfl, _, _, _, [], _, [], hW', trodAll_mk1 (shut_bool Try.underlying4 _), (trodAll_cons_mk (Below.trod laidOut (by kernel_rfl) (of_decide_eq_true (by kernel_rfl)) k0 bel lt0) (trodAll_cons_mk (Below.trod laidOut (by kernel_rfl) (of_decide_eq_true (by kernel_rfl)) k1 bel lt1) trodAll_mk0)), rfl, bel.frame _, fun h => by cases h⟩

theorem proved : Rows.FnExactShorteningsOfSaid :=
  OpenClaim.holds_of_wide 8 Try.f8 rfl rfl rfl rfl rfl rfl rfl ⟨rfl, rfl, rfl, rfl, rfl⟩ rfl rfl rfl rfl rfl (by kernel_rfl) Try.func8 (by kernel_rfl)
    (of_decide_eq_true (by kernel_rfl)) (by unfold Func.isWrapper; first | (rw [if_pos (by decide +kernel)]; kernel_rfl) | (rw [if_neg (by decide +kernel)]; exact ⟨rfl, rfl⟩))
    (fun os started H enc _ => lifted os started H enc)
end Go.Proofs.Ytcdoanookiimaaa.fnExactShorteningsOf
