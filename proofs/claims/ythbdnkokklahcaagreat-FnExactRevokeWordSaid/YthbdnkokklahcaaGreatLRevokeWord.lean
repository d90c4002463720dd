/- Walk: the law on RevokeWord. -/
import Derived.Test.YthbdnkokklahcaaGreatRevS
import Derived.Test.YthbdnkokklahcaaGreatLMk
import Derived.Test.YthbdnkokklahcaaGreatOpen
namespace Go.Proofs.YthbdnkokklahcaaGreat
set_option maxRecDepth 100000
open Go.RowKit

set_option maxHeartbeats 16000000 in
theorem lawRevokeWord (D : Rg) (a : Option Addr) (n c : Nat) (b : Option Addr) (m d : Nat) (ia : Option Addr) (im ic : Nat) (ra : Option Addr) (rm rc : Nat) (s : ByteArray) (w : World) (hv : RawRg w D a n c b m d ia im ic ra rm rc) (hz : s.size ≤ 9223372036854775807) :
    Calls Tryz.prog 3 #[.agg #[.int .i64 D.ch.base, .int .i64 D.ch.states, .int .i64 D.ch.start, .int .i64 D.ch.fin, .slice a n c, .slice b m d, .int .i64 D.apart, .slice ia im ic, .slice ra rm rc], .string s] w (Ret (.bool true) w) := by
  have HRaw := Lib.hid hv
  have HSz := Lib.hid (szRg D a n c b m d ia im ic ra rm rc 1048576 (w.alloc (.cells #[.int .i64 D.ch.base, .int .i64 D.ch.states, .int .i64 D.ch.start, .int .i64 D.ch.fin, .slice a n c, .slice b m d, .int .i64 D.apart, .slice ia im ic, .slice ra rm rc] 28)) (hv.ext ((Ext.refl w).alloc _)) (by omega) (by omega))
  clear hv
  by_cases hz1 : s.size ≤ 1048576
  rotate_left
  · go_enter Tryz.func3, Tryz.ntmps3
    go_wp2_with fail
    go_ret
    exact ⟨rfl, (by repeat (first | (with_reducible exact Ext.refl _) | (with_reducible refine Ext.drewN ?_ _) | (with_reducible refine Ext.drew ?_) | (with_reducible refine Ext.alloc ?_ _) | ((with_reducible refine Ext.setCell ?_ ?_ _); rotate_left; focus (first | (simp; done) | (simp; omega) | omega)) | assumption | (with_reducible refine Ext.trans ?_ (by assumption))))⟩
  by_cases hsz : rgSize D ≤ 1048576
  rotate_left
  · rw [leftOf_no hsz] at HSz
    go_enter Tryz.func3, Tryz.ntmps3
    go_wp2_with (refine HSz.out.mono ?_; rintro e w1 ⟨rfl, hy1⟩)
    go_ret
    exact ⟨rfl, (by repeat (first | (with_reducible exact Ext.refl _) | (with_reducible refine Ext.drewN ?_ _) | (with_reducible refine Ext.drew ?_) | (with_reducible refine Ext.alloc ?_ _) | ((with_reducible refine Ext.setCell ?_ ?_ _); rotate_left; focus (first | (simp; done) | (simp; omega) | omega)) | assumption | (with_reducible refine Ext.trans ?_ (by assumption))))⟩
  have HI := Lib.hid (HRaw.out.inn hsz)
  rw [leftOf_yes hsz] at HSz
  have HSize := Lib.hid hsz
  have HSm := Lib.hid (show SmallCh D.ch from HI.out.ch.sm)
  have hn1 : n ≤ 1048576 := HI.out.ch.hn
  obtain ⟨R, hR⟩ : ∃ R, R = revRes D s := ⟨_, rfl⟩
  obtain ⟨ok, hok⟩ : ∃ ok, ok = revOk D s := ⟨_, rfl⟩
  have HSp := Lib.hid (fun W ax cx bx dx iax icx rax rcx h => spec_RevokeWord D ax n cx bx m dx iax im icx rax rm rcx s W h (by omega))
  have HIm := Lib.hid (fun W ax cx bx dx iax icx rax rcx h => impl_RevokeWord D ax n cx bx m dx iax im icx rax rm rcx s W h (by omega))
  rw [← hR, ← hok] at HSp HIm
  have HRes := Lib.hid (show szRg2 R ≤ 5000000 ∧ SmallCh R.ch by rw [hR]; exact szresRevokeWord HI.out hsz)
  clear hR hok
  go_enter Tryz.func3, Tryz.ntmps3
  go_wp2_with fail
  obtain ⟨wb, hwb⟩ : ∃ wb, wb = w.alloc (.cells #[.int .i64 D.ch.base, .int .i64 D.ch.states, .int .i64 D.ch.start, .int .i64 D.ch.fin, .slice a n c, .slice b m d, .int .i64 D.apart, .slice ia im ic, .slice ra rm rc] 28) := ⟨_, rfl⟩
  have hxb : Ext w wb := by rw [hwb]; exact (by repeat (first | (with_reducible exact Ext.refl _) | (with_reducible refine Ext.drewN ?_ _) | (with_reducible refine Ext.drew ?_) | (with_reducible refine Ext.alloc ?_ _) | ((with_reducible refine Ext.setCell ?_ ?_ _); rotate_left; focus (first | (simp; done) | (simp; omega) | omega)) | assumption | (with_reducible refine Ext.trans ?_ (by assumption))))
  have HS0 := Lib.hid (show SAt wb w.heap.size 28 #[.int .i64 D.ch.base, .int .i64 D.ch.states, .int .i64 D.ch.start, .int .i64 D.ch.fin, .slice a n c, .slice b m d, .int .i64 D.apart, .slice ia im ic, .slice ra rm rc] by rw [hwb]; exact SAt.new' _ _ _ rfl)
  rw [← hwb] at HSz ⊢
  have hqb : w.heap.size < wb.heap.size := HS0.out.lt
  clear hwb
  have HIb := Lib.hid (HI.out.ext hxb)
  obtain ⟨p0, p1, p2, p3, p4, p5, p6, p7, p8⟩ := SAt.r9 HS0.out
  refine HSz.out.mono ?_
  rintro e w1 ⟨rfl, hy1⟩
  have hx1 : Ext wb w1 := hy1
  go_wp2_with fail
  refine (toRgr D a n c b m d ia im ic ra rm rc _ (HIb.out.ext (by repeat (first | (with_reducible exact Ext.refl _) | (with_reducible assumption) | (with_reducible refine Ext.drewN ?_ _) | (with_reducible refine Ext.drew ?_) | (with_reducible refine Ext.alloc ?_ _) | ((with_reducible refine Ext.setCell ?_ ?_ _); rotate_left; focus (first | (simp; done) | (simp; omega) | omega)) | (with_reducible refine Ext.trans ?_ (by with_reducible assumption)))))).mono ?_
  rintro e w2 ⟨a2, c2, b2, d2, ia2, ic2, ra2, rc2, rfl, hr2, hy2⟩
  have hx2 : Ext wb w2 := Ext.trans (by repeat (first | (with_reducible exact Ext.refl _) | (with_reducible assumption) | (with_reducible refine Ext.drewN ?_ _) | (with_reducible refine Ext.drew ?_) | (with_reducible refine Ext.alloc ?_ _) | ((with_reducible refine Ext.setCell ?_ ?_ _); rotate_left; focus (first | (simp; done) | (simp; omega) | omega)) | (with_reducible refine Ext.trans ?_ (by with_reducible assumption)))) hy2
  have HI2 := Lib.hid (hr2.inn HIb.out.szs)
  clear hr2
  go_wp2_with fail
  refine (HSp.out _ a2 c2 b2 d2 ia2 ic2 ra2 rc2 HI2.out).mono ?_
  rintro e w3 ⟨a3, n3, c3, b3, m3, d3, ia3, im3, ic3, ra3, rm3, rc3, rfl, hk3, hy3⟩
  have hx3 : Ext wb w3 := hx2.trans hy3
  have HK3 := Lib.hid hk3
  clear hk3
  go_wp2_with fail
  have HS6 := Lib.hid (SAt.new' w3 #[.int .i64 R.ch.base, .int .i64 R.ch.states, .int .i64 R.ch.start, .int .i64 R.ch.fin, .slice a3 n3 c3, .slice b3 m3 d3, .int .i64 R.apart, .slice ia3 im3 ic3, .slice ra3 rm3 rc3] 32 rfl)
  obtain ⟨w3a, hw3a⟩ : ∃ w3a, w3a = w3.alloc (.cells #[.int .i64 R.ch.base, .int .i64 R.ch.states, .int .i64 R.ch.start, .int .i64 R.ch.fin, .slice a3 n3 c3, .slice b3 m3 d3, .int .i64 R.apart, .slice ia3 im3 ic3, .slice ra3 rm3 rc3] 32) := ⟨_, rfl⟩
  have hx3a : Ext w3 w3a := by rw [hw3a]; exact (by repeat (first | (with_reducible exact Ext.refl _) | (with_reducible refine Ext.drewN ?_ _) | (with_reducible refine Ext.drew ?_) | (with_reducible refine Ext.alloc ?_ _) | ((with_reducible refine Ext.setCell ?_ ?_ _); rotate_left; focus (first | (simp; done) | (simp; omega) | omega)) | assumption | (with_reducible refine Ext.trans ?_ (by assumption))))
  have hl3 : w3.heap.size < w3a.heap.size := by rw [hw3a]; simp
  rw [← hw3a] at HS6 ⊢
  clear hw3a
  have hxb3 : Ext wb w3a := hx3.trans hx3a
  obtain ⟨q0, q1, q2, q3, q4, q5, q6, q7, q8⟩ := SAt.r9 HS6.out
  refine (toRgr D a n c b m d ia im ic ra rm rc _ (HIb.out.ext (by repeat (first | (with_reducible exact Ext.refl _) | (with_reducible assumption) | (with_reducible refine Ext.drewN ?_ _) | (with_reducible refine Ext.drew ?_) | (with_reducible refine Ext.alloc ?_ _) | ((with_reducible refine Ext.setCell ?_ ?_ _); rotate_left; focus (first | (simp; done) | (simp; omega) | omega)) | (with_reducible refine Ext.trans ?_ (by with_reducible assumption)))))).mono ?_
  rintro e w4 ⟨a4, c4, b4, d4, ia4, ic4, ra4, rc4, rfl, hr4, hy4⟩
  have hx4 : Ext wb w4 := Ext.trans (by repeat (first | (with_reducible exact Ext.refl _) | (with_reducible assumption) | (with_reducible refine Ext.drewN ?_ _) | (with_reducible refine Ext.drew ?_) | (with_reducible refine Ext.alloc ?_ _) | ((with_reducible refine Ext.setCell ?_ ?_ _); rotate_left; focus (first | (simp; done) | (simp; omega) | omega)) | (with_reducible refine Ext.trans ?_ (by with_reducible assumption)))) hy4
  have HR4 := Lib.hid hr4
  have HI4 := Lib.hid (hr4.inn HIb.out.szs)
  clear hr4
  go_wp2_with fail
  have HS8 := Lib.hid (SAt.new' w4 #[.int .i64 D.ch.base, .int .i64 D.ch.states, .int .i64 D.ch.start, .int .i64 D.ch.fin, .slice a4 n c4, .slice b4 m d4, .int .i64 D.apart, .slice ia4 im ic4, .slice ra4 rm rc4] 32 rfl)
  obtain ⟨w4a, hw4a⟩ : ∃ w4a, w4a = w4.alloc (.cells #[.int .i64 D.ch.base, .int .i64 D.ch.states, .int .i64 D.ch.start, .int .i64 D.ch.fin, .slice a4 n c4, .slice b4 m d4, .int .i64 D.apart, .slice ia4 im ic4, .slice ra4 rm rc4] 32) := ⟨_, rfl⟩
  have hx4a : Ext w4 w4a := by rw [hw4a]; exact (by repeat (first | (with_reducible exact Ext.refl _) | (with_reducible refine Ext.drewN ?_ _) | (with_reducible refine Ext.drew ?_) | (with_reducible refine Ext.alloc ?_ _) | ((with_reducible refine Ext.setCell ?_ ?_ _); rotate_left; focus (first | (simp; done) | (simp; omega) | omega)) | assumption | (with_reducible refine Ext.trans ?_ (by assumption))))
  have hl4 : w4.heap.size < w4a.heap.size := by rw [hw4a]; simp
  rw [← hw4a] at HS8 ⊢
  clear hw4a
  have hl34 : w3a.heap.size ≤ w4.heap.size := hy4.le
  have hxb4 : Ext wb w4a := hx4.trans hx4a
  obtain ⟨x0, x1, x2, x3, x4, x5, x6, x7, x8⟩ := SAt.r9 HS8.out
  try go_wp2_with fail
  refine (HIm.out _ a4 c4 b4 d4 ia4 ic4 ra4 rc4 (HI4.out.ext hx4a)).mono ?_
  rintro e w5 ⟨a5, n5, c5, b5, m5, d5, ia5, im5, ic5, ra5, rm5, rc5, rfl, hr5, hz5, hy5⟩
  have hx5 : Ext w4a w5 := hy5
  have hx3a5 : Ext w3a w5 := hy4.trans (hx4a.trans hx5)
  have hxb5 : Ext wb w5 := hxb4.trans hx5
  have HR5 := Lib.hid hr5
  have HZ5 := Lib.hid hz5
  have hn5 := hz5.hn
  clear hr5 hz5
  go_wp2_with fail
  have HS9 := Lib.hid (SAt.new' w5 #[.int .i64 R.ch.base, .int .i64 R.ch.states, .int .i64 R.ch.start, .int .i64 R.ch.fin, .slice a5 n5 c5, .slice b5 m5 d5, .int .i64 R.apart, .slice ia5 im5 ic5, .slice ra5 rm5 rc5] 32 rfl)
  obtain ⟨w5a, hw5a⟩ : ∃ w5a, w5a = w5.alloc (.cells #[.int .i64 R.ch.base, .int .i64 R.ch.states, .int .i64 R.ch.start, .int .i64 R.ch.fin, .slice a5 n5 c5, .slice b5 m5 d5, .int .i64 R.apart, .slice ia5 im5 ic5, .slice ra5 rm5 rc5] 32) := ⟨_, rfl⟩
  have hx5a : Ext w5 w5a := by rw [hw5a]; exact (by repeat (first | (with_reducible exact Ext.refl _) | (with_reducible refine Ext.drewN ?_ _) | (with_reducible refine Ext.drew ?_) | (with_reducible refine Ext.alloc ?_ _) | ((with_reducible refine Ext.setCell ?_ ?_ _); rotate_left; focus (first | (simp; done) | (simp; omega) | omega)) | assumption | (with_reducible refine Ext.trans ?_ (by assumption))))
  have hl5 : w5.heap.size < w5a.heap.size := by rw [hw5a]; simp
  rw [← hw5a] at HS9 ⊢
  clear hw5a
  have hl45 : w4a.heap.size ≤ w5.heap.size := hx5.le
  have hx45 : Ext w4a w5a := hx5.trans hx5a
  have hx35 : Ext w3 w5a := hx3a.trans (hy4.trans (hx4a.trans hx45))
  have HW5 := Lib.hid (HK3.out w5a (KeepB.ext hx35 (Nat.le_refl _)))
  have HG5 := Lib.hid ((HR5.out.ext hx5a).inn HZ5.out)
  obtain ⟨rfl, rfl, rfl, rfl⟩ := HG5.out.same HW5.out
  have HS65 := Lib.hid (HS6.out.ext (show Ext w3a w5a from hx3a5.trans hx5a))
  have HS05 := Lib.hid (HS0.out.ext (hxb5.trans hx5a))
  refine (eqRg R a5 n5 c5 b5 m5 d5 ia5 im5 ic5 ra5 rm5 rc5 a3 c3 b3 d3 ia3 ic3 ra3 rc3 _ HG5.out HW5.out).mono ?_
  rintro e w6 ⟨rfl, hy6⟩
  have hx6 : Ext w5a w6 := hy6
  have hx4a6 : Ext w4a w6 := hx45.trans hx6
  have hxb6 : Ext wb w6 := hxb4.trans hx4a6
  have hx3a6 : Ext w3a w6 := hx3a5.trans (hx5a.trans hx6)
  clear hy6
  go_wp2
  have HX6 := Lib.hid ((HI4.out.ext hx4a).ext (hx45.trans hx6))
  have HIb6 := Lib.hid (HIb.out.ext hxb6)
  (refine wp_region_from w6 (by repeat (first | (with_reducible exact Ext.refl _) | (with_reducible refine Ext.drewN ?_ _) | (with_reducible refine Ext.drew ?_) | (with_reducible refine Ext.alloc ?_ _) | ((with_reducible refine Ext.setCell ?_ ?_ _); rotate_left; focus (first | (simp; done) | (simp; omega) | omega)) | assumption | (with_reducible refine Ext.trans ?_ (by assumption)))) (by kernel_rfl) (by kernel_rfl) (by kernel_rfl) ?_; (repeat (first | (refine mix_q rfl ?_; go_big_quiet_step (fail); refine wpQuiet_nil ?_; show wpMix _ _ _ _ _ _ _) | (refine mix_s rfl ?_; go_wp2_with (first | (go_at_call 6; (with_reducible refine (toRgr D a n c b m d ia im ic ra rm rc _ (HIb6.out.ext (by repeat (first | (with_reducible exact Ext.refl _) | (with_reducible assumption) | (with_reducible refine Ext.drewN ?_ _) | (with_reducible refine Ext.drew ?_) | (with_reducible refine Ext.alloc ?_ _) | ((with_reducible refine Ext.setCell ?_ ?_ _); rotate_left; focus (first | (simp; done) | (simp; omega) | omega)) | (with_reducible refine Ext.trans ?_ (by with_reducible assumption)))))).mono ?_); rintro e w7 ⟨a7, c7, b7, d7, ia7, ic7, ra7, rc7, rfl, hr7, hy7⟩; have hx7 : Ext w6 w7 := Ext.trans (by repeat (first | (with_reducible exact Ext.refl _) | (with_reducible assumption) | (with_reducible refine Ext.drewN ?_ _) | (with_reducible refine Ext.drew ?_) | (with_reducible refine Ext.alloc ?_ _) | ((with_reducible refine Ext.setCell ?_ ?_ _); rotate_left; focus (first | (simp; done) | (simp; omega) | omega)) | (with_reducible refine Ext.trans ?_ (by with_reducible assumption)))) hy7; have HI7 := Lib.hid (hr7.inn HIb.out.szs); clear hr7 hy7) | (go_at_call 8; (with_reducible refine (eqRg D a4 n c4 b4 m d4 ia4 im ic4 ra4 rm rc4 a7 c7 b7 d7 ia7 ic7 ra7 rc7 _ (HX6.out.ext (by repeat (first | (with_reducible exact Ext.refl _) | (with_reducible assumption) | (with_reducible refine Ext.drewN ?_ _) | (with_reducible refine Ext.drew ?_) | (with_reducible refine Ext.alloc ?_ _) | ((with_reducible refine Ext.setCell ?_ ?_ _); rotate_left; focus (first | (simp; done) | (simp; omega) | omega)) | (with_reducible refine Ext.trans ?_ (by with_reducible assumption))))) HI7.out).mono ?_); rintro e w8 ⟨rfl, hy8⟩; have hx8 : Ext w6 w8 := Ext.trans (by repeat (first | (with_reducible exact Ext.refl _) | (with_reducible assumption) | (with_reducible refine Ext.drewN ?_ _) | (with_reducible refine Ext.drew ?_) | (with_reducible refine Ext.alloc ?_ _) | ((with_reducible refine Ext.setCell ?_ ?_ _); rotate_left; focus (first | (simp; done) | (simp; omega) | omega)) | (with_reducible refine Ext.trans ?_ (by with_reducible assumption)))) hy8; clear hy8)); first | refine ⟨up_of (by repeat (first | (with_reducible exact Ext.refl _) | (with_reducible refine Ext.drewN ?_ _) | (with_reducible refine Ext.drew ?_) | (with_reducible refine Ext.alloc ?_ _) | ((with_reducible refine Ext.setCell ?_ ?_ _); rotate_left; focus (first | (simp; done) | (simp; omega) | omega)) | assumption | (with_reducible refine Ext.trans ?_ (by assumption)))), ?_⟩ | refine ⟨rfl, rfl, up_of (by repeat (first | (with_reducible exact Ext.refl _) | (with_reducible refine Ext.drewN ?_ _) | (with_reducible refine Ext.drew ?_) | (with_reducible refine Ext.alloc ?_ _) | ((with_reducible refine Ext.setCell ?_ ?_ _); rotate_left; focus (first | (simp; done) | (simp; omega) | omega)) | assumption | (with_reducible refine Ext.trans ?_ (by assumption)))), ?_⟩))); refine mix_nil ?_)
  have hx58 : Ext w5a w8 := hx6.trans hx8
  have hx4a8 : Ext w4a w8 := hx4a6.trans hx8
  have hxb8 : Ext wb w8 := hxb6.trans hx8
  have hx3a8 : Ext w3a w8 := hx3a6.trans hx8
  go_wp2_with fail
  have hl8 : w5a.heap.size ≤ w8.heap.size := hx58.le
  have hl8b : w4.heap.size ≤ w8.heap.size := by omega
  refine (markRgR D a4 n c4 b4 m d4 ia4 im ic4 ra4 rm rc4 1 w3a.heap.size w4.heap.size _ ((HR4.out.ext hx4a).ext (hx45.trans (hx58.trans (by repeat (first | (with_reducible exact Ext.refl _) | (with_reducible assumption) | (with_reducible refine Ext.drewN ?_ _) | (with_reducible refine Ext.drew ?_) | (with_reducible refine Ext.alloc ?_ _) | ((with_reducible refine Ext.setCell ?_ ?_ _); rotate_left; focus (first | (simp; done) | (simp; omega) | omega)) | (with_reducible refine Ext.trans ?_ (by with_reducible assumption))))))) (by first | exact hl8b | (simp; omega)) hn1 (by have := szRg2_le HSize.out; omega) (small_tabs HSm.out)).mono ?_
  rintro e w9 ⟨rfl, hc9, _⟩
  have hc9 : Chg w3a.heap.size w4.heap.size w5a w9 := (Chg.ext (hx58.trans (by repeat (first | (with_reducible exact Ext.refl _) | (with_reducible assumption) | (with_reducible refine Ext.drewN ?_ _) | (with_reducible refine Ext.drew ?_) | (with_reducible refine Ext.alloc ?_ _) | ((with_reducible refine Ext.setCell ?_ ?_ _); rotate_left; focus (first | (simp; done) | (simp; omega) | omega)) | (with_reducible refine Ext.trans ?_ (by with_reducible assumption))))) _ _).trans hc9
  have HC9 := Lib.hid hc9
  have hl9 : w5a.heap.size ≤ w9.heap.size := hc9.size
  have hlb : wb.heap.size ≤ w3a.heap.size := hxb3.le
  clear q0 q1 q2 q3 q4 q5 q6 q7 q8
  clear x0 x1 x2 x3 x4 x5 x6 x7 x8
  clear p0 p1 p2 p3 p4 p5 p6 p7 p8
  have HS69 := Lib.hid (HS65.out.chg hc9 (.inl hl3))
  have HS99 := Lib.hid (HS9.out.chg hc9 (.inr (by omega)))
  have HS09 := Lib.hid (HS05.out.chg hc9 (.inl (by omega)))
  obtain ⟨q0, q1, q2, q3, q4, q5, q6, q7, q8⟩ := SAt.r9 HS69.out
  obtain ⟨g0, g1, g2, g3, g4, g5, g6, g7, g8⟩ := SAt.r9 HS99.out
  obtain ⟨p0, p1, p2, p3, p4, p5, p6, p7, p8⟩ := SAt.r9 HS09.out
  have HK9 := Lib.hid (show KeepB w2.heap.size w3.heap.size w3 w9 from (KeepB.ext hx35 (Nat.le_refl _)).trans (KeepB.chg hc9 (by have := hx35.le; omega) (.inr (by omega))))
  have HG9 := Lib.hid ((HR5.out.ext hx5a).chg hc9 (.inl (by omega)))
  have HW9 := Lib.hid (HK3.out w9 HK9.out)
  have HGi9 := Lib.hid (HG9.out.inn HZ5.out)
  obtain ⟨z9, hz9⟩ : ∃ z, z = szRg2 D := ⟨_, rfl⟩
  rw [← hz9]
  clear hz9 hc9
  go_wp2_with (go_at_call 8; (with_reducible refine (eqRg R a5 n5 c5 b5 m5 d5 ia5 im5 ic5 ra5 rm5 rc5 a3 c3 b3 d3 ia3 ic3 ra3 rc3 _ HGi9.out HW9.out).mono ?_); rintro e w10 ⟨rfl, hy⟩; have hx10 : Ext w9 w10 := Ext.trans (by repeat (first | (with_reducible exact Ext.refl _) | (with_reducible assumption) | (with_reducible refine Ext.drewN ?_ _) | (with_reducible refine Ext.drew ?_) | (with_reducible refine Ext.alloc ?_ _) | ((with_reducible refine Ext.setCell ?_ ?_ _); rotate_left; focus (first | (simp; done) | (simp; omega) | omega)) | (with_reducible refine Ext.trans ?_ (by with_reducible assumption)))) hy; clear hy)
  have hl10 : w9.heap.size ≤ w10.heap.size := hx10.le
  refine (markRgR R a5 n5 c5 b5 m5 d5 ia5 im5 ic5 ra5 rm5 rc5 1 w4a.heap.size w5.heap.size _ (HG9.out.ext (hx10.trans (by repeat (first | (with_reducible exact Ext.refl _) | (with_reducible assumption) | (with_reducible refine Ext.drewN ?_ _) | (with_reducible refine Ext.drew ?_) | (with_reducible refine Ext.alloc ?_ _) | ((with_reducible refine Ext.setCell ?_ ?_ _); rotate_left; focus (first | (simp; done) | (simp; omega) | omega)) | (with_reducible refine Ext.trans ?_ (by with_reducible assumption)))))) (by first | omega | (simp; omega)) hn5 (by have := HRes.out.1; omega) (small_tabs HRes.out.2)).mono ?_
  rintro e w11 ⟨rfl, hc11, hr11⟩
  have hc11 : Chg w4a.heap.size w5.heap.size w9 w11 := (Chg.ext (hx10.trans (by repeat (first | (with_reducible exact Ext.refl _) | (with_reducible assumption) | (with_reducible refine Ext.drewN ?_ _) | (with_reducible refine Ext.drew ?_) | (with_reducible refine Ext.alloc ?_ _) | ((with_reducible refine Ext.setCell ?_ ?_ _); rotate_left; focus (first | (simp; done) | (simp; omega) | omega)) | (with_reducible refine Ext.trans ?_ (by with_reducible assumption))))) _ _).trans hc11
  have HR11 := Lib.hid hr11
  have hl11 : w9.heap.size ≤ w11.heap.size := hc11.size
  clear q0 q1 q2 q3 q4 q5 q6 q7 q8
  clear g0 g1 g2 g3 g4 g5 g6 g7 g8
  clear p0 p1 p2 p3 p4 p5 p6 p7 p8
  have HS611 := Lib.hid (HS69.out.chg hc11 (.inl (by omega)))
  have HS911 := Lib.hid (HS99.out.chg hc11 (.inr (by omega)))
  have HS011 := Lib.hid (HS09.out.chg hc11 (.inl (by omega)))
  obtain ⟨q0, q1, q2, q3, q4, q5, q6, q7, q8⟩ := SAt.r9 HS611.out
  obtain ⟨g0, g1, g2, g3, g4, g5, g6, g7, g8⟩ := SAt.r9 HS911.out
  obtain ⟨p0, p1, p2, p3, p4, p5, p6, p7, p8⟩ := SAt.r9 HS011.out
  have HK11 := Lib.hid (show KeepB w2.heap.size w3.heap.size w3 w11 from HK9.out.trans (KeepB.chg hc11 (by have := hx35.le; omega) (.inr (by omega))))
  have hxb11 : Ext wb w11 := hc11.to (HC9.out.to (hxb4.trans hx45) (by omega)) (by omega)
  have HIb11 := Lib.hid (HIb.out.ext hxb11)
  have HHd := Lib.hid (fun W (h : Ext w11 W) => heldRg1 R a5 n5 c5 b5 m5 d5 ia5 im5 ic5 ra5 rm5 rc5 w4a.heap.size w5.heap.size W (HR11.out.ext h) hn5 (by have := HRes.out.1; omega) (small_tabs HRes.out.2))
  obtain ⟨zR, hzR⟩ : ∃ z, z = szRg2 R := ⟨_, rfl⟩
  have hzb : zR ≤ 5000000 := by rw [hzR]; exact HRes.out.1
  rw [← hzR] at HHd ⊢
  clear hzR hc11 hr11
  rw [show (((1 + zR : Nat)) : Int) = 1 + (zR : Int) by omega]
  go_wp2_with ((with_reducible refine (HHd.out _ (by repeat (first | (with_reducible exact Ext.refl _) | (with_reducible assumption) | (with_reducible refine Ext.drewN ?_ _) | (with_reducible refine Ext.drew ?_) | (with_reducible refine Ext.alloc ?_ _) | ((with_reducible refine Ext.setCell ?_ ?_ _); rotate_left; focus (first | (simp; done) | (simp; omega) | omega)) | (with_reducible refine Ext.trans ?_ (by with_reducible assumption))))).mono ?_); rintro e w12 ⟨rfl, hy12⟩; have hx12 : Ext w11 w12 := Ext.trans (by repeat (first | (with_reducible exact Ext.refl _) | (with_reducible assumption) | (with_reducible refine Ext.drewN ?_ _) | (with_reducible refine Ext.drew ?_) | (with_reducible refine Ext.alloc ?_ _) | ((with_reducible refine Ext.setCell ?_ ?_ _); rotate_left; focus (first | (simp; done) | (simp; omega) | omega)) | (with_reducible refine Ext.trans ?_ (by with_reducible assumption)))) hy12; clear hy12)
  refine (toRgr D a n c b m d ia im ic ra rm rc _ (HIb11.out.ext (hx12.trans (by repeat (first | (with_reducible exact Ext.refl _) | (with_reducible assumption) | (with_reducible refine Ext.drewN ?_ _) | (with_reducible refine Ext.drew ?_) | (with_reducible refine Ext.alloc ?_ _) | ((with_reducible refine Ext.setCell ?_ ?_ _); rotate_left; focus (first | (simp; done) | (simp; omega) | omega)) | (with_reducible refine Ext.trans ?_ (by with_reducible assumption))))))).mono ?_
  rintro e w13 ⟨a13, c13, b13, d13, ia13, ic13, ra13, rc13, rfl, hr13, hy13⟩
  have hx13 : Ext w11 w13 := Ext.trans (hx12.trans (by repeat (first | (with_reducible exact Ext.refl _) | (with_reducible assumption) | (with_reducible refine Ext.drewN ?_ _) | (with_reducible refine Ext.drew ?_) | (with_reducible refine Ext.alloc ?_ _) | ((with_reducible refine Ext.setCell ?_ ?_ _); rotate_left; focus (first | (simp; done) | (simp; omega) | omega)) | (with_reducible refine Ext.trans ?_ (by with_reducible assumption))))) hy13
  have HI13 := Lib.hid (hr13.inn HIb.out.szs)
  clear hr13 hy13
  go_wp2_with fail
  refine (HIm.out _ a13 c13 b13 d13 ia13 ic13 ra13 rc13 HI13.out).mono ?_
  rintro e w14 ⟨a14, n14, c14, b14, m14, d14, ia14, im14, ic14, ra14, rm14, rc14, rfl, hr14, hz14, hy14⟩
  have hx14 : Ext w11 w14 := hx13.trans hy14
  have HG14 := Lib.hid (hr14.inn hz14)
  have HW14 := Lib.hid (HK3.out w14 (HK11.out.trans (KeepB.ext hx14 (by have := hx35.le; omega))))
  obtain ⟨rfl, rfl, rfl, rfl⟩ := HG14.out.same HW14.out
  clear hr14 hz14 hy14
  go_wp2_with (first | (go_at_call 8; (with_reducible refine (eqRg R a14 n14 c14 b14 m14 d14 ia14 im14 ic14 ra14 rm14 rc14 a3 c3 b3 d3 ia3 ic3 ra3 rc3 _ (HG14.out.ext (by repeat (first | (with_reducible exact Ext.refl _) | (with_reducible assumption) | (with_reducible refine Ext.drewN ?_ _) | (with_reducible refine Ext.drew ?_) | (with_reducible refine Ext.alloc ?_ _) | ((with_reducible refine Ext.setCell ?_ ?_ _); rotate_left; focus (first | (simp; done) | (simp; omega) | omega)) | (with_reducible refine Ext.trans ?_ (by with_reducible assumption))))) (HW14.out.ext (by repeat (first | (with_reducible exact Ext.refl _) | (with_reducible assumption) | (with_reducible refine Ext.drewN ?_ _) | (with_reducible refine Ext.drew ?_) | (with_reducible refine Ext.alloc ?_ _) | ((with_reducible refine Ext.setCell ?_ ?_ _); rotate_left; focus (first | (simp; done) | (simp; omega) | omega)) | (with_reducible refine Ext.trans ?_ (by with_reducible assumption)))))).mono ?_); rintro e w15 ⟨rfl, hy⟩; have hx15 : Ext w11 w15 := Ext.trans (by repeat (first | (with_reducible exact Ext.refl _) | (with_reducible assumption) | (with_reducible refine Ext.drewN ?_ _) | (with_reducible refine Ext.drew ?_) | (with_reducible refine Ext.alloc ?_ _) | ((with_reducible refine Ext.setCell ?_ ?_ _); rotate_left; focus (first | (simp; done) | (simp; omega) | omega)) | (with_reducible refine Ext.trans ?_ (by with_reducible assumption)))) hy; clear hy) | (go_at_call 10; (with_reducible refine (HHd.out _ (hx15.trans (by repeat (first | (with_reducible exact Ext.refl _) | (with_reducible assumption) | (with_reducible refine Ext.drewN ?_ _) | (with_reducible refine Ext.drew ?_) | (with_reducible refine Ext.alloc ?_ _) | ((with_reducible refine Ext.setCell ?_ ?_ _); rotate_left; focus (first | (simp; done) | (simp; omega) | omega)) | (with_reducible refine Ext.trans ?_ (by with_reducible assumption)))))).mono ?_); rintro e w16 ⟨rfl, hy16⟩))
  go_ret
  exact ⟨rfl, hxb.trans (hxb11.trans (hx15.trans (Ext.trans (by repeat (first | (with_reducible exact Ext.refl _) | (with_reducible assumption) | (with_reducible refine Ext.drewN ?_ _) | (with_reducible refine Ext.drew ?_) | (with_reducible refine Ext.alloc ?_ _) | ((with_reducible refine Ext.setCell ?_ ?_ _); rotate_left; focus (first | (simp; done) | (simp; omega) | omega)) | (with_reducible refine Ext.trans ?_ (by with_reducible assumption)))) hy16)))⟩
end Go.Proofs.YthbdnkokklahcaaGreat
