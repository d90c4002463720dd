/- The law on NearestWords: walked. -/
import Derived.Test.YtdekplfjnkbidaaGreatNear2
import Derived.Test.YtdekplfjnkbidaaGreatLTs
import Derived.Test.YtdekplfjnkbidaaGreatOpen
namespace Go.Proofs.YtdekplfjnkbidaaGreat
set_option maxRecDepth 100000
open Go.RowKit

set_option maxHeartbeats 16000000 in
theorem lawNearestWords (D : Rg) (a : Option Addr) (n c : Nat) (b : Option Addr) (m d : Nat) (ia : Option Addr) (im ic : Nat) (ra : Option Addr) (rm rc : Nat) (s : ByteArray) (w : World) (hv : RawRg w D a n c b m d ia im ic ra rm rc) (hz : s.size ≤ 9223372036854775807) :
    Calls Tryz.prog 4 #[.agg #[.int .i64 D.ch.base, .int .i64 D.ch.states, .int .i64 D.ch.start, .int .i64 D.ch.fin, .slice a n c, .slice b m d, .int .i64 D.apart, .slice ia im ic, .slice ra rm rc], .string s] w (Ret (.bool true) w) := by
  have HRaw := Lib.hid hv
  have HSz := Lib.hid (szRg D a n c b m d ia im ic ra rm rc 1048576 (w.alloc (.cells #[.int .i64 D.ch.base, .int .i64 D.ch.states, .int .i64 D.ch.start, .int .i64 D.ch.fin, .slice a n c, .slice b m d, .int .i64 D.apart, .slice ia im ic, .slice ra rm rc] 28)) (hv.ext ((Ext.refl w).alloc _)) (by omega) (by omega))
  clear hv
  by_cases hz1 : s.size ≤ 1048576
  rotate_left
  · go_enter Tryz.func4, Tryz.ntmps4
    go_wp2_with fail
    go_ret
    exact ⟨rfl, (by repeat (first | (with_reducible exact Ext.refl _) | (with_reducible refine Ext.drewN ?_ _) | (with_reducible refine Ext.drew ?_) | (with_reducible refine Ext.alloc ?_ _) | ((with_reducible refine Ext.setCell ?_ ?_ _); rotate_left; focus (first | (simp; done) | (simp; omega) | omega)) | assumption | (with_reducible refine Ext.trans ?_ (by assumption))))⟩
  by_cases hsz : rgSize D ≤ 1048576
  rotate_left
  · rw [leftOf_no hsz] at HSz
    go_enter Tryz.func4, Tryz.ntmps4
    go_wp2_with (refine HSz.out.mono ?_; rintro e w1 ⟨rfl, hy1⟩)
    go_ret
    exact ⟨rfl, (by repeat (first | (with_reducible exact Ext.refl _) | (with_reducible refine Ext.drewN ?_ _) | (with_reducible refine Ext.drew ?_) | (with_reducible refine Ext.alloc ?_ _) | ((with_reducible refine Ext.setCell ?_ ?_ _); rotate_left; focus (first | (simp; done) | (simp; omega) | omega)) | assumption | (with_reducible refine Ext.trans ?_ (by assumption))))⟩
  have HI := Lib.hid (HRaw.out.inn hsz)
  rw [leftOf_yes hsz] at HSz
  have HSize := Lib.hid hsz
  have HSm := Lib.hid (show SmallCh D.ch from HI.out.ch.sm)
  have hn1 : n ≤ 1048576 := HI.out.ch.hn
  have HSp := Lib.hid (fun W ax cx bx dx iax icx rax rcx h => spec_Nearest D ax n cx bx m dx iax im icx rax rm rcx s W h (by omega))
  have HIm := Lib.hid (fun W ax cx bx dx iax icx rax rcx h => impl_Nearest D ax n cx bx m dx iax im icx rax rm rcx s W h (by omega))
  obtain ⟨ts, hts⟩ : ∃ ts, ts = (nearL D s) := ⟨_, rfl⟩
  have htn : ts.length ≤ 1048576 := by rw [hts]; exact tslenNearestWords HI.out
  obtain ⟨nn, hnn⟩ : ∃ nn, nn = (nearN D s) := ⟨_, rfl⟩
  obtain ⟨ok, hok⟩ : ∃ ok, ok = (nearB D s) := ⟨_, rfl⟩
  rw [← hts, ← hok, ← hnn] at HSp HIm
  clear hts hok hnn
  go_enter Tryz.func4, Tryz.ntmps4
  go_wp2_with fail
  obtain ⟨wb, hwb⟩ : ∃ wb, wb = w.alloc (.cells #[.int .i64 D.ch.base, .int .i64 D.ch.states, .int .i64 D.ch.start, .int .i64 D.ch.fin, .slice a n c, .slice b m d, .int .i64 D.apart, .slice ia im ic, .slice ra rm rc] 28) := ⟨_, rfl⟩
  have hxb : Ext w wb := by rw [hwb]; exact (by repeat (first | (with_reducible exact Ext.refl _) | (with_reducible refine Ext.drewN ?_ _) | (with_reducible refine Ext.drew ?_) | (with_reducible refine Ext.alloc ?_ _) | ((with_reducible refine Ext.setCell ?_ ?_ _); rotate_left; focus (first | (simp; done) | (simp; omega) | omega)) | assumption | (with_reducible refine Ext.trans ?_ (by assumption))))
  have HS0 := Lib.hid (show SAt wb w.heap.size 28 #[.int .i64 D.ch.base, .int .i64 D.ch.states, .int .i64 D.ch.start, .int .i64 D.ch.fin, .slice a n c, .slice b m d, .int .i64 D.apart, .slice ia im ic, .slice ra rm rc] by rw [hwb]; exact SAt.new' _ _ _ rfl)
  rw [← hwb] at HSz ⊢
  have hqb : w.heap.size < wb.heap.size := HS0.out.lt
  clear hwb
  have HIb := Lib.hid (HI.out.ext hxb)
  obtain ⟨p0, p1, p2, p3, p4, p5, p6, p7, p8⟩ := SAt.r9 HS0.out
  refine HSz.out.mono ?_
  rintro e w1 ⟨rfl, hy1⟩
  have hx1 : Ext wb w1 := hy1
  go_wp2_with fail
  refine (toRgr D a n c b m d ia im ic ra rm rc _ (HIb.out.ext (by repeat (first | (with_reducible exact Ext.refl _) | (with_reducible assumption) | (with_reducible refine Ext.drewN ?_ _) | (with_reducible refine Ext.drew ?_) | (with_reducible refine Ext.alloc ?_ _) | ((with_reducible refine Ext.setCell ?_ ?_ _); rotate_left; focus (first | (simp; done) | (simp; omega) | omega)) | (with_reducible refine Ext.trans ?_ (by with_reducible assumption)))))).mono ?_
  rintro e w2 ⟨a2, c2, b2, d2, ia2, ic2, ra2, rc2, rfl, hr2, hy2⟩
  have hx2 : Ext wb w2 := Ext.trans (by repeat (first | (with_reducible exact Ext.refl _) | (with_reducible assumption) | (with_reducible refine Ext.drewN ?_ _) | (with_reducible refine Ext.drew ?_) | (with_reducible refine Ext.alloc ?_ _) | ((with_reducible refine Ext.setCell ?_ ?_ _); rotate_left; focus (first | (simp; done) | (simp; omega) | omega)) | (with_reducible refine Ext.trans ?_ (by with_reducible assumption)))) hy2
  have HI2 := Lib.hid (hr2.inn HIb.out.szs)
  clear hr2
  go_wp2_with fail
  refine (HSp.out _ a2 c2 b2 d2 ia2 ic2 ra2 rc2 HI2.out).mono ?_
  rintro e w3 ⟨a3, c3, rfl, hs3, hy3⟩
  have hx3 : Ext wb w3 := hx2.trans hy3
  have HL3 := Lib.hid hs3
  clear hs3
  go_wp2_with fail
  refine (toRgr D a n c b m d ia im ic ra rm rc _ (HIb.out.ext (by repeat (first | (with_reducible exact Ext.refl _) | (with_reducible assumption) | (with_reducible refine Ext.drewN ?_ _) | (with_reducible refine Ext.drew ?_) | (with_reducible refine Ext.alloc ?_ _) | ((with_reducible refine Ext.setCell ?_ ?_ _); rotate_left; focus (first | (simp; done) | (simp; omega) | omega)) | (with_reducible refine Ext.trans ?_ (by with_reducible assumption)))))).mono ?_
  rintro e w4 ⟨a4, c4, b4, d4, ia4, ic4, ra4, rc4, rfl, hr4, hy4⟩
  have hx4 : Ext wb w4 := Ext.trans (by repeat (first | (with_reducible exact Ext.refl _) | (with_reducible assumption) | (with_reducible refine Ext.drewN ?_ _) | (with_reducible refine Ext.drew ?_) | (with_reducible refine Ext.alloc ?_ _) | ((with_reducible refine Ext.setCell ?_ ?_ _); rotate_left; focus (first | (simp; done) | (simp; omega) | omega)) | (with_reducible refine Ext.trans ?_ (by with_reducible assumption)))) hy4
  have hl34 : w3.heap.size ≤ w4.heap.size := hy4.le
  have hxz4 : Ext w3 w4 := hy4
  have HR4 := Lib.hid hr4
  have HI4 := Lib.hid (hr4.inn HIb.out.szs)
  clear hr4
  go_wp2_with fail
  have HS8 := Lib.hid (SAt.new' w4 #[.int .i64 D.ch.base, .int .i64 D.ch.states, .int .i64 D.ch.start, .int .i64 D.ch.fin, .slice a4 n c4, .slice b4 m d4, .int .i64 D.apart, .slice ia4 im ic4, .slice ra4 rm rc4] 32 rfl)
  obtain ⟨w4a, hw4a⟩ : ∃ w4a, w4a = w4.alloc (.cells #[.int .i64 D.ch.base, .int .i64 D.ch.states, .int .i64 D.ch.start, .int .i64 D.ch.fin, .slice a4 n c4, .slice b4 m d4, .int .i64 D.apart, .slice ia4 im ic4, .slice ra4 rm rc4] 32) := ⟨_, rfl⟩
  have hx4a : Ext w4 w4a := by rw [hw4a]; exact (by repeat (first | (with_reducible exact Ext.refl _) | (with_reducible refine Ext.drewN ?_ _) | (with_reducible refine Ext.drew ?_) | (with_reducible refine Ext.alloc ?_ _) | ((with_reducible refine Ext.setCell ?_ ?_ _); rotate_left; focus (first | (simp; done) | (simp; omega) | omega)) | assumption | (with_reducible refine Ext.trans ?_ (by assumption))))
  have hl4 : w4.heap.size < w4a.heap.size := by rw [hw4a]; simp
  rw [← hw4a] at HS8 ⊢
  clear hw4a
  have hxb4 : Ext wb w4a := hx4.trans hx4a
  obtain ⟨x0, x1, x2, x3, x4, x5, x6, x7, x8⟩ := SAt.r9 HS8.out
  try go_wp2_with fail
  refine (HIm.out _ a4 c4 b4 d4 ia4 ic4 ra4 rc4 (HI4.out.ext hx4a)).mono ?_
  rintro e w5 ⟨a5, c5, rfl, ho5, hy5⟩
  have hx5 : Ext w4a w5 := hy5
  have hxb5 : Ext wb w5 := hxb4.trans hx5
  have hl45 : w4a.heap.size ≤ w5.heap.size := hx5.le
  have hx35 : Ext w3 w5 := hxz4.trans (hx4a.trans hx5)
  have HO5 := Lib.hid (show OwnIn w5 w4a.heap.size w5.heap.size 9 a5 ts.length c5 (St ts) from ho5.in)
  have HLg5 := Lib.hid (show Strs w5 a5 ts.length c5 ts from ho5.sl)
  have HL5 := Lib.hid (Strs.ext HL3.out hx35)
  clear ho5
  go_wp2_with (go_at_call 14; (with_reducible refine (eqTsT a5 a3 ts.length c5 c3 ts _ ((show Strs w5 a5 ts.length c5 ts from HLg5.out).ext (by repeat (first | (with_reducible exact Ext.refl _) | (with_reducible assumption) | (with_reducible refine Ext.drewN ?_ _) | (with_reducible refine Ext.drew ?_) | (with_reducible refine Ext.alloc ?_ _) | ((with_reducible refine Ext.setCell ?_ ?_ _); rotate_left; focus (first | (simp; done) | (simp; omega) | omega)) | (with_reducible refine Ext.trans ?_ (by with_reducible assumption))))) ((show Strs w5 a3 ts.length c3 ts from HL5.out).ext (by repeat (first | (with_reducible exact Ext.refl _) | (with_reducible assumption) | (with_reducible refine Ext.drewN ?_ _) | (with_reducible refine Ext.drew ?_) | (with_reducible refine Ext.alloc ?_ _) | ((with_reducible refine Ext.setCell ?_ ?_ _); rotate_left; focus (first | (simp; done) | (simp; omega) | omega)) | (with_reducible refine Ext.trans ?_ (by with_reducible assumption))))) (by omega)).mono ?_); rintro e w6 ⟨rfl, hys⟩; have hx6 : Ext w5 w6 := Ext.trans (by repeat (first | (with_reducible exact Ext.refl _) | (with_reducible assumption) | (with_reducible refine Ext.drewN ?_ _) | (with_reducible refine Ext.drew ?_) | (with_reducible refine Ext.alloc ?_ _) | ((with_reducible refine Ext.setCell ?_ ?_ _); rotate_left; focus (first | (simp; done) | (simp; omega) | omega)) | (with_reducible refine Ext.trans ?_ (by with_reducible assumption)))) hys; clear hys)
  have hxb6 : Ext wb w6 := hxb5.trans hx6
  have hx4a6 : Ext w4a w6 := hx5.trans hx6
  have HX6 := Lib.hid ((HI4.out.ext hx4a).ext (hx5.trans hx6))
  have HIb6 := Lib.hid (HIb.out.ext hxb6)
  (refine wp_region_from w6 (by repeat (first | (with_reducible exact Ext.refl _) | (with_reducible refine Ext.drewN ?_ _) | (with_reducible refine Ext.drew ?_) | (with_reducible refine Ext.alloc ?_ _) | ((with_reducible refine Ext.setCell ?_ ?_ _); rotate_left; focus (first | (simp; done) | (simp; omega) | omega)) | assumption | (with_reducible refine Ext.trans ?_ (by assumption)))) (by kernel_rfl) (by kernel_rfl) (by kernel_rfl) ?_; (repeat (first | (refine mix_q rfl ?_; go_big_quiet_step (fail); refine wpQuiet_nil ?_; show wpMix _ _ _ _ _ _ _) | (refine mix_s rfl ?_; go_wp2_with (first | (go_at_call 7; (with_reducible refine (toRgr D a n c b m d ia im ic ra rm rc _ (HIb6.out.ext (by repeat (first | (with_reducible exact Ext.refl _) | (with_reducible assumption) | (with_reducible refine Ext.drewN ?_ _) | (with_reducible refine Ext.drew ?_) | (with_reducible refine Ext.alloc ?_ _) | ((with_reducible refine Ext.setCell ?_ ?_ _); rotate_left; focus (first | (simp; done) | (simp; omega) | omega)) | (with_reducible refine Ext.trans ?_ (by with_reducible assumption)))))).mono ?_); rintro e w7 ⟨a7, c7, b7, d7, ia7, ic7, ra7, rc7, rfl, hr7, hy7⟩; have hx7 : Ext w6 w7 := Ext.trans (by repeat (first | (with_reducible exact Ext.refl _) | (with_reducible assumption) | (with_reducible refine Ext.drewN ?_ _) | (with_reducible refine Ext.drew ?_) | (with_reducible refine Ext.alloc ?_ _) | ((with_reducible refine Ext.setCell ?_ ?_ _); rotate_left; focus (first | (simp; done) | (simp; omega) | omega)) | (with_reducible refine Ext.trans ?_ (by with_reducible assumption)))) hy7; have HI7 := Lib.hid (hr7.inn HIb.out.szs); clear hr7 hy7) | (go_at_call 9; (with_reducible refine (eqRg D a4 n c4 b4 m d4 ia4 im ic4 ra4 rm rc4 a7 c7 b7 d7 ia7 ic7 ra7 rc7 _ (HX6.out.ext (by repeat (first | (with_reducible exact Ext.refl _) | (with_reducible assumption) | (with_reducible refine Ext.drewN ?_ _) | (with_reducible refine Ext.drew ?_) | (with_reducible refine Ext.alloc ?_ _) | ((with_reducible refine Ext.setCell ?_ ?_ _); rotate_left; focus (first | (simp; done) | (simp; omega) | omega)) | (with_reducible refine Ext.trans ?_ (by with_reducible assumption))))) HI7.out).mono ?_); rintro e w8 ⟨rfl, hy8⟩; have hx8 : Ext w6 w8 := Ext.trans (by repeat (first | (with_reducible exact Ext.refl _) | (with_reducible assumption) | (with_reducible refine Ext.drewN ?_ _) | (with_reducible refine Ext.drew ?_) | (with_reducible refine Ext.alloc ?_ _) | ((with_reducible refine Ext.setCell ?_ ?_ _); rotate_left; focus (first | (simp; done) | (simp; omega) | omega)) | (with_reducible refine Ext.trans ?_ (by with_reducible assumption)))) hy8; clear hy8)); first | refine ⟨up_of (by repeat (first | (with_reducible exact Ext.refl _) | (with_reducible refine Ext.drewN ?_ _) | (with_reducible refine Ext.drew ?_) | (with_reducible refine Ext.alloc ?_ _) | ((with_reducible refine Ext.setCell ?_ ?_ _); rotate_left; focus (first | (simp; done) | (simp; omega) | omega)) | assumption | (with_reducible refine Ext.trans ?_ (by assumption)))), ?_⟩ | refine ⟨rfl, rfl, up_of (by repeat (first | (with_reducible exact Ext.refl _) | (with_reducible refine Ext.drewN ?_ _) | (with_reducible refine Ext.drew ?_) | (with_reducible refine Ext.alloc ?_ _) | ((with_reducible refine Ext.setCell ?_ ?_ _); rotate_left; focus (first | (simp; done) | (simp; omega) | omega)) | assumption | (with_reducible refine Ext.trans ?_ (by assumption)))), ?_⟩))); refine mix_nil ?_)
  have hx58 : Ext w5 w8 := hx6.trans hx8
  have hxb8 : Ext wb w8 := hxb6.trans hx8
  have hx4a8 : Ext w4a w8 := hx5.trans hx58
  go_wp2_with fail
  have hl8 : w5.heap.size ≤ w8.heap.size := hx58.le
  have hl8b : w4.heap.size ≤ w8.heap.size := by omega
  refine (markRgR D a4 n c4 b4 m d4 ia4 im ic4 ra4 rm rc4 1 w3.heap.size w4.heap.size _ ((HR4.out.ext hx4a).ext (hx5.trans (hx58.trans (by repeat (first | (with_reducible exact Ext.refl _) | (with_reducible assumption) | (with_reducible refine Ext.drewN ?_ _) | (with_reducible refine Ext.drew ?_) | (with_reducible refine Ext.alloc ?_ _) | ((with_reducible refine Ext.setCell ?_ ?_ _); rotate_left; focus (first | (simp; done) | (simp; omega) | omega)) | (with_reducible refine Ext.trans ?_ (by with_reducible assumption))))))) (by first | exact hl8b | (simp; omega)) hn1 (by have := szRg2_le HSize.out; omega) (small_tabs HSm.out)).mono ?_
  rintro e w9 ⟨rfl, hc9, _⟩
  have hc9 : Chg w3.heap.size w4.heap.size w5 w9 := (Chg.ext (hx58.trans (by repeat (first | (with_reducible exact Ext.refl _) | (with_reducible assumption) | (with_reducible refine Ext.drewN ?_ _) | (with_reducible refine Ext.drew ?_) | (with_reducible refine Ext.alloc ?_ _) | ((with_reducible refine Ext.setCell ?_ ?_ _); rotate_left; focus (first | (simp; done) | (simp; omega) | omega)) | (with_reducible refine Ext.trans ?_ (by with_reducible assumption))))) _ _).trans hc9
  have hl9 : w5.heap.size ≤ w9.heap.size := hc9.size
  have hlb : wb.heap.size ≤ w3.heap.size := hx3.le
  have hx39 : Ext w3 w9 := hc9.to hx35 (Nat.le_refl _)
  have hxb9 : Ext wb w9 := hx3.trans hx39
  clear x0 x1 x2 x3 x4 x5 x6 x7 x8
  have HO9 := Lib.hid (HO5.out.chg hc9 (.inl (by omega)))
  have HLg9 := Lib.hid (show Strs w9 a5 ts.length c5 ts from HO9.out.1.sl)
  have HL9 := Lib.hid (Strs.ext HL3.out hx39)
  obtain ⟨z9, hz9⟩ : ∃ z, z = szRg2 D := ⟨_, rfl⟩
  rw [← hz9]
  clear hz9 hc9
  go_wp2_with (go_at_call 14; (with_reducible refine (eqTsT a5 a3 ts.length c5 c3 ts _ ((show Strs w9 a5 ts.length c5 ts from HLg9.out).ext (by repeat (first | (with_reducible exact Ext.refl _) | (with_reducible assumption) | (with_reducible refine Ext.drewN ?_ _) | (with_reducible refine Ext.drew ?_) | (with_reducible refine Ext.alloc ?_ _) | ((with_reducible refine Ext.setCell ?_ ?_ _); rotate_left; focus (first | (simp; done) | (simp; omega) | omega)) | (with_reducible refine Ext.trans ?_ (by with_reducible assumption))))) ((show Strs w9 a3 ts.length c3 ts from HL9.out).ext (by repeat (first | (with_reducible exact Ext.refl _) | (with_reducible assumption) | (with_reducible refine Ext.drewN ?_ _) | (with_reducible refine Ext.drew ?_) | (with_reducible refine Ext.alloc ?_ _) | ((with_reducible refine Ext.setCell ?_ ?_ _); rotate_left; focus (first | (simp; done) | (simp; omega) | omega)) | (with_reducible refine Ext.trans ?_ (by with_reducible assumption))))) (by omega)).mono ?_); rintro e w10 ⟨rfl, hys⟩; have hx10 : Ext w9 w10 := Ext.trans (by repeat (first | (with_reducible exact Ext.refl _) | (with_reducible assumption) | (with_reducible refine Ext.drewN ?_ _) | (with_reducible refine Ext.drew ?_) | (with_reducible refine Ext.alloc ?_ _) | ((with_reducible refine Ext.setCell ?_ ?_ _); rotate_left; focus (first | (simp; done) | (simp; omega) | omega)) | (with_reducible refine Ext.trans ?_ (by with_reducible assumption)))) hys; clear hys)
  have hl10 : w9.heap.size ≤ w10.heap.size := hx10.le
  refine (markTs1 a5 ts.length c5 (St ts) w4a.heap.size w5.heap.size _ (HO9.out.ext (hx10.trans (by repeat (first | (with_reducible exact Ext.refl _) | (with_reducible assumption) | (with_reducible refine Ext.drewN ?_ _) | (with_reducible refine Ext.drew ?_) | (with_reducible refine Ext.alloc ?_ _) | ((with_reducible refine Ext.setCell ?_ ?_ _); rotate_left; focus (first | (simp; done) | (simp; omega) | omega)) | (with_reducible refine Ext.trans ?_ (by with_reducible assumption)))))) (by first | omega | (simp; omega)) (by omega)).mono ?_
  rintro e w11 ⟨rfl, hc11, ho11⟩
  have hc11 : Chg w4a.heap.size w5.heap.size w9 w11 := (Chg.ext (hx10.trans (by repeat (first | (with_reducible exact Ext.refl _) | (with_reducible assumption) | (with_reducible refine Ext.drewN ?_ _) | (with_reducible refine Ext.drew ?_) | (with_reducible refine Ext.alloc ?_ _) | ((with_reducible refine Ext.setCell ?_ ?_ _); rotate_left; focus (first | (simp; done) | (simp; omega) | omega)) | (with_reducible refine Ext.trans ?_ (by with_reducible assumption))))) _ _).trans hc11
  have hx311 : Ext w3 w11 := hc11.to hx39 (by omega)
  have hxb11 : Ext wb w11 := hx3.trans hx311
  have HIb11 := Lib.hid (HIb.out.ext hxb11)
  have HL11 := Lib.hid (Strs.ext HL3.out hx311)
  have HHd := Lib.hid (fun W (h : Ext w11 W) => heldTs1 a5 ts.length c5 W (Strs.ext (show Strs w11 a5 ts.length c5 (markTs 1 ts.length) from ho11.1.sl) h) (by omega))
  clear hc11 ho11
  go_wp2_with (go_at_call 16; (with_reducible refine (HHd.out _ (by repeat (first | (with_reducible exact Ext.refl _) | (with_reducible assumption) | (with_reducible refine Ext.drewN ?_ _) | (with_reducible refine Ext.drew ?_) | (with_reducible refine Ext.alloc ?_ _) | ((with_reducible refine Ext.setCell ?_ ?_ _); rotate_left; focus (first | (simp; done) | (simp; omega) | omega)) | (with_reducible refine Ext.trans ?_ (by with_reducible assumption))))).mono ?_); rintro e w12 ⟨rfl, hyh⟩; have hx12 : Ext w11 w12 := Ext.trans (by repeat (first | (with_reducible exact Ext.refl _) | (with_reducible assumption) | (with_reducible refine Ext.drewN ?_ _) | (with_reducible refine Ext.drew ?_) | (with_reducible refine Ext.alloc ?_ _) | ((with_reducible refine Ext.setCell ?_ ?_ _); rotate_left; focus (first | (simp; done) | (simp; omega) | omega)) | (with_reducible refine Ext.trans ?_ (by with_reducible assumption)))) hyh; clear hyh; have hxb12 : Ext wb w12 := hxb11.trans hx12)
  refine (toRgr D a n c b m d ia im ic ra rm rc _ (HIb11.out.ext (hx12.trans (by repeat (first | (with_reducible exact Ext.refl _) | (with_reducible assumption) | (with_reducible refine Ext.drewN ?_ _) | (with_reducible refine Ext.drew ?_) | (with_reducible refine Ext.alloc ?_ _) | ((with_reducible refine Ext.setCell ?_ ?_ _); rotate_left; focus (first | (simp; done) | (simp; omega) | omega)) | (with_reducible refine Ext.trans ?_ (by with_reducible assumption))))))).mono ?_
  rintro e w13 ⟨a13, c13, b13, d13, ia13, ic13, ra13, rc13, rfl, hr13, hy13⟩
  have hx13 : Ext w11 w13 := Ext.trans (hx12.trans (by repeat (first | (with_reducible exact Ext.refl _) | (with_reducible assumption) | (with_reducible refine Ext.drewN ?_ _) | (with_reducible refine Ext.drew ?_) | (with_reducible refine Ext.alloc ?_ _) | ((with_reducible refine Ext.setCell ?_ ?_ _); rotate_left; focus (first | (simp; done) | (simp; omega) | omega)) | (with_reducible refine Ext.trans ?_ (by with_reducible assumption))))) hy13
  have HI13 := Lib.hid (hr13.inn HIb.out.szs)
  clear hr13 hy13
  go_wp2_with fail
  refine (HIm.out _ a13 c13 b13 d13 ia13 ic13 ra13 rc13 HI13.out).mono ?_
  rintro e w14 ⟨a14, c14, rfl, ho14, hy14⟩
  have hx14 : Ext w11 w14 := hx13.trans hy14
  have HLg14 := Lib.hid (show Strs w14 a14 ts.length c14 ts from ho14.sl)
  have HL14 := Lib.hid (Strs.ext HL11.out hx14)
  clear ho14 hy14
  go_wp2_with (first | (go_at_call 14; (with_reducible refine (eqTsT a14 a3 ts.length c14 c3 ts _ ((show Strs w14 a14 ts.length c14 ts from HLg14.out).ext (by repeat (first | (with_reducible exact Ext.refl _) | (with_reducible assumption) | (with_reducible refine Ext.drewN ?_ _) | (with_reducible refine Ext.drew ?_) | (with_reducible refine Ext.alloc ?_ _) | ((with_reducible refine Ext.setCell ?_ ?_ _); rotate_left; focus (first | (simp; done) | (simp; omega) | omega)) | (with_reducible refine Ext.trans ?_ (by with_reducible assumption))))) ((show Strs w14 a3 ts.length c3 ts from HL14.out).ext (by repeat (first | (with_reducible exact Ext.refl _) | (with_reducible assumption) | (with_reducible refine Ext.drewN ?_ _) | (with_reducible refine Ext.drew ?_) | (with_reducible refine Ext.alloc ?_ _) | ((with_reducible refine Ext.setCell ?_ ?_ _); rotate_left; focus (first | (simp; done) | (simp; omega) | omega)) | (with_reducible refine Ext.trans ?_ (by with_reducible assumption))))) (by omega)).mono ?_); rintro e w15 ⟨rfl, hys⟩; have hx15 : Ext w14 w15 := Ext.trans (by repeat (first | (with_reducible exact Ext.refl _) | (with_reducible assumption) | (with_reducible refine Ext.drewN ?_ _) | (with_reducible refine Ext.drew ?_) | (with_reducible refine Ext.alloc ?_ _) | ((with_reducible refine Ext.setCell ?_ ?_ _); rotate_left; focus (first | (simp; done) | (simp; omega) | omega)) | (with_reducible refine Ext.trans ?_ (by with_reducible assumption)))) hys; have hxy15 : Ext w11 w15 := hx14.trans hx15; clear hys) | (go_at_call 16; (with_reducible refine (HHd.out _ (by repeat (first | (with_reducible exact Ext.refl _) | (with_reducible assumption) | (with_reducible refine Ext.drewN ?_ _) | (with_reducible refine Ext.drew ?_) | (with_reducible refine Ext.alloc ?_ _) | ((with_reducible refine Ext.setCell ?_ ?_ _); rotate_left; focus (first | (simp; done) | (simp; omega) | omega)) | (with_reducible refine Ext.trans ?_ (by with_reducible assumption))))).mono ?_); rintro e w16 ⟨rfl, hyh⟩; have hx16 : Ext w11 w16 := Ext.trans (by repeat (first | (with_reducible exact Ext.refl _) | (with_reducible assumption) | (with_reducible refine Ext.drewN ?_ _) | (with_reducible refine Ext.drew ?_) | (with_reducible refine Ext.alloc ?_ _) | ((with_reducible refine Ext.setCell ?_ ?_ _); rotate_left; focus (first | (simp; done) | (simp; omega) | omega)) | (with_reducible refine Ext.trans ?_ (by with_reducible assumption)))) hyh; clear hyh))
  go_ret
  exact ⟨rfl, hxb.trans (hxb11.trans (by repeat (first | (with_reducible exact Ext.refl _) | (with_reducible assumption) | (with_reducible refine Ext.drewN ?_ _) | (with_reducible refine Ext.drew ?_) | (with_reducible refine Ext.alloc ?_ _) | ((with_reducible refine Ext.setCell ?_ ?_ _); rotate_left; focus (first | (simp; done) | (simp; omega) | omega)) | (with_reducible refine Ext.trans ?_ (by with_reducible assumption)))))⟩
end Go.Proofs.YtdekplfjnkbidaaGreat
