/- The law on FindWord: walked. -/
import Derived.Test.YtdekplfjnkbidaaFind
import Derived.Test.YtdekplfjnkbidaaRgL
import Derived.Test.YtdekplfjnkbidaaOpen
namespace Go.Proofs.Ytdekplfjnkbidaa
set_option maxRecDepth 100000
open Go.RowKit

set_option maxHeartbeats 1000000 in
theorem lawFindWord (D : Rg) (a : Option Addr) (n c : Nat) (b : Option Addr) (m d : Nat) (ia : Option Addr) (im ic : Nat) (ra : Option Addr) (rm rc : Nat) (s : ByteArray) (w : World) (hv : RawRg w D a n c b m d ia im ic ra rm rc) (hz : s.size ≤ 9223372036854775807) :
    Calls Try.prog 12 #[.agg #[.int .i64 D.ch.base, .int .i64 D.ch.states, .int .i64 D.ch.start, .int .i64 D.ch.fin, .slice a n c, .slice b m d, .int .i64 D.apart, .slice ia im ic, .slice ra rm rc], .string s] w (Ret (.bool true) w) := by
  have HRaw := Lib.hid hv
  have HSz := Lib.hid (szRg D a n c b m d ia im ic ra rm rc 1048576 (w.alloc (.cells #[.int .i64 D.ch.base, .int .i64 D.ch.states, .int .i64 D.ch.start, .int .i64 D.ch.fin, .slice a n c, .slice b m d, .int .i64 D.apart, .slice ia im ic, .slice ra rm rc] 28)) (hv.ext ((Ext.refl w).alloc _)) (by omega) (by omega))
  have k0 : ∀ w', Ext (w.alloc (.cells #[.int .i64 D.ch.base, .int .i64 D.ch.states, .int .i64 D.ch.start, .int .i64 D.ch.fin, .slice a n c, .slice b m d, .int .i64 D.apart, .slice ia im ic, .slice ra rm rc] 28)) w' → w'.cell? ⟨w.heap.size, 0, none⟩ = some (.int .i64 D.ch.base) := fun w' hx => hx.cell (by go_simp)
  have k1 : ∀ w', Ext (w.alloc (.cells #[.int .i64 D.ch.base, .int .i64 D.ch.states, .int .i64 D.ch.start, .int .i64 D.ch.fin, .slice a n c, .slice b m d, .int .i64 D.apart, .slice ia im ic, .slice ra rm rc] 28)) w' → w'.cell? ⟨w.heap.size, 1, none⟩ = some (.int .i64 D.ch.states) := fun w' hx => hx.cell (by go_simp)
  have k2 : ∀ w', Ext (w.alloc (.cells #[.int .i64 D.ch.base, .int .i64 D.ch.states, .int .i64 D.ch.start, .int .i64 D.ch.fin, .slice a n c, .slice b m d, .int .i64 D.apart, .slice ia im ic, .slice ra rm rc] 28)) w' → w'.cell? ⟨w.heap.size, 2, none⟩ = some (.int .i64 D.ch.start) := fun w' hx => hx.cell (by go_simp)
  have k3 : ∀ w', Ext (w.alloc (.cells #[.int .i64 D.ch.base, .int .i64 D.ch.states, .int .i64 D.ch.start, .int .i64 D.ch.fin, .slice a n c, .slice b m d, .int .i64 D.apart, .slice ia im ic, .slice ra rm rc] 28)) w' → w'.cell? ⟨w.heap.size, 3, none⟩ = some (.int .i64 D.ch.fin) := fun w' hx => hx.cell (by go_simp)
  have k4 : ∀ w', Ext (w.alloc (.cells #[.int .i64 D.ch.base, .int .i64 D.ch.states, .int .i64 D.ch.start, .int .i64 D.ch.fin, .slice a n c, .slice b m d, .int .i64 D.apart, .slice ia im ic, .slice ra rm rc] 28)) w' → w'.cell? ⟨w.heap.size, 4, none⟩ = some (.slice a n c) := fun w' hx => hx.cell (by go_simp)
  have k5 : ∀ w', Ext (w.alloc (.cells #[.int .i64 D.ch.base, .int .i64 D.ch.states, .int .i64 D.ch.start, .int .i64 D.ch.fin, .slice a n c, .slice b m d, .int .i64 D.apart, .slice ia im ic, .slice ra rm rc] 28)) w' → w'.cell? ⟨w.heap.size, 5, none⟩ = some (.slice b m d) := fun w' hx => hx.cell (by go_simp)
  have k6 : ∀ w', Ext (w.alloc (.cells #[.int .i64 D.ch.base, .int .i64 D.ch.states, .int .i64 D.ch.start, .int .i64 D.ch.fin, .slice a n c, .slice b m d, .int .i64 D.apart, .slice ia im ic, .slice ra rm rc] 28)) w' → w'.cell? ⟨w.heap.size, 6, none⟩ = some (.int .i64 D.apart) := fun w' hx => hx.cell (by go_simp)
  have k7 : ∀ w', Ext (w.alloc (.cells #[.int .i64 D.ch.base, .int .i64 D.ch.states, .int .i64 D.ch.start, .int .i64 D.ch.fin, .slice a n c, .slice b m d, .int .i64 D.apart, .slice ia im ic, .slice ra rm rc] 28)) w' → w'.cell? ⟨w.heap.size, 7, none⟩ = some (.slice ia im ic) := fun w' hx => hx.cell (by go_simp)
  have k8 : ∀ w', Ext (w.alloc (.cells #[.int .i64 D.ch.base, .int .i64 D.ch.states, .int .i64 D.ch.start, .int .i64 D.ch.fin, .slice a n c, .slice b m d, .int .i64 D.apart, .slice ia im ic, .slice ra rm rc] 28)) w' → w'.cell? ⟨w.heap.size, 8, none⟩ = some (.slice ra rm rc) := fun w' hx => hx.cell (by go_simp)
  clear hv
  by_cases hz1 : s.size ≤ 1048576
  rotate_left
  · go_enter Try.func12, Try.ntmps12
    go_wp2_with fail
    go_ret
    exact ⟨rfl, (by repeat (first | (with_reducible exact Ext.refl _) | (with_reducible refine Ext.drewN ?_ _) | (with_reducible refine Ext.drew ?_) | (with_reducible refine Ext.alloc ?_ _) | ((with_reducible refine Ext.setCell ?_ ?_ _); rotate_left; focus (first | (simp; done) | (simp; omega) | omega)) | assumption | (with_reducible refine Ext.trans ?_ (by assumption))))⟩
  by_cases hsz : rgSize D ≤ 1048576
  rotate_left
  · rw [leftOf_no hsz] at HSz
    go_enter Try.func12, Try.ntmps12
    go_wp2_with (refine HSz.out.mono ?_; rintro e w1 ⟨rfl, hy1⟩)
    go_ret
    exact ⟨rfl, (by repeat (first | (with_reducible exact Ext.refl _) | (with_reducible refine Ext.drewN ?_ _) | (with_reducible refine Ext.drew ?_) | (with_reducible refine Ext.alloc ?_ _) | ((with_reducible refine Ext.setCell ?_ ?_ _); rotate_left; focus (first | (simp; done) | (simp; omega) | omega)) | assumption | (with_reducible refine Ext.trans ?_ (by assumption))))⟩
  have HI := Lib.hid (HRaw.out.inn hsz)
  rw [leftOf_yes hsz] at HSz
  go_enter Try.func12, Try.ntmps12
  go_wp2_with fail
  obtain ⟨wb, hwb⟩ : ∃ wb, wb = w.alloc (.cells #[.int .i64 D.ch.base, .int .i64 D.ch.states, .int .i64 D.ch.start, .int .i64 D.ch.fin, .slice a n c, .slice b m d, .int .i64 D.apart, .slice ia im ic, .slice ra rm rc] 28) := ⟨_, rfl⟩
  rw [← hwb] at HSz k0 k1 k2 k3 k4 k5 k6 k7 k8 ⊢
  have hxb : Ext w wb := by rw [hwb]; exact (by repeat (first | (with_reducible exact Ext.refl _) | (with_reducible refine Ext.drewN ?_ _) | (with_reducible refine Ext.drew ?_) | (with_reducible refine Ext.alloc ?_ _) | ((with_reducible refine Ext.setCell ?_ ?_ _); rotate_left; focus (first | (simp; done) | (simp; omega) | omega)) | assumption | (with_reducible refine Ext.trans ?_ (by assumption))))
  generalize w.heap.size = q at *
  clear hwb
  have HIb := Lib.hid (HI.out.ext hxb)
  refine HSz.out.mono ?_
  rintro e w1 ⟨rfl, hy1⟩
  go_wp2_with fail
  refine (toRgI D a n c b m d ia im ic ra rm rc _ (HIb.out.ext (by repeat (first | (with_reducible exact Ext.refl _) | (with_reducible refine Ext.drewN ?_ _) | (with_reducible refine Ext.drew ?_) | (with_reducible refine Ext.alloc ?_ _) | ((with_reducible refine Ext.setCell ?_ ?_ _); rotate_left; focus (first | (simp; done) | (simp; omega) | omega)) | assumption | (with_reducible refine Ext.trans ?_ (by assumption)))))).mono ?_
  rintro e w2B ⟨a2, c2, b2, d2, ia2, ic2, ra2, rc2, rfl, ho2, hy2B⟩
  have Hho2 := Lib.hid ho2; clear ho2
  have hx2B : Ext wb w2B := (by repeat (first | (with_reducible exact Ext.refl _) | (with_reducible refine Ext.drewN ?_ _) | (with_reducible refine Ext.drew ?_) | (with_reducible refine Ext.alloc ?_ _) | ((with_reducible refine Ext.setCell ?_ ?_ _); rotate_left; focus (first | (simp; done) | (simp; omega) | omega)) | assumption | (with_reducible refine Ext.trans ?_ (by assumption))))
  have hz2B := hy2B; clear hy2B
  go_wp2_with fail
  refine (spec_FindWord D a2 n c2 b2 m d2 ia2 im ic2 ra2 rm rc2 s _ (Hho2.out.ext (by repeat (first | (with_reducible exact Ext.refl _) | (with_reducible refine Ext.drewN ?_ _) | (with_reducible refine Ext.drew ?_) | (with_reducible refine Ext.alloc ?_ _) | ((with_reducible refine Ext.setCell ?_ ?_ _); rotate_left; focus (first | (simp; done) | (simp; omega) | omega)) | assumption | (with_reducible refine Ext.trans ?_ (by assumption))))) (by omega)).mono ?_
  rintro e w3 ⟨rfl, hyw3⟩
  have hxw3 : Ext wb w3 := (by repeat (first | (with_reducible exact Ext.refl _) | (with_reducible refine Ext.drewN ?_ _) | (with_reducible refine Ext.drew ?_) | (with_reducible refine Ext.alloc ?_ _) | ((with_reducible refine Ext.setCell ?_ ?_ _); rotate_left; focus (first | (simp; done) | (simp; omega) | omega)) | assumption | (with_reducible refine Ext.trans ?_ (by assumption))))
  have hzw3 := hyw3; clear hyw3
  go_wp2_with fail
  refine (toRgI D a n c b m d ia im ic ra rm rc _ (HIb.out.ext (by repeat (first | (with_reducible exact Ext.refl _) | (with_reducible refine Ext.drewN ?_ _) | (with_reducible refine Ext.drew ?_) | (with_reducible refine Ext.alloc ?_ _) | ((with_reducible refine Ext.setCell ?_ ?_ _); rotate_left; focus (first | (simp; done) | (simp; omega) | omega)) | assumption | (with_reducible refine Ext.trans ?_ (by assumption)))))).mono ?_
  rintro e w4B ⟨a4, c4, b4, d4, ia4, ic4, ra4, rc4, rfl, ho4, hy4B⟩
  have Hho4 := Lib.hid ho4; clear ho4
  have hx4B : Ext wb w4B := (by repeat (first | (with_reducible exact Ext.refl _) | (with_reducible refine Ext.drewN ?_ _) | (with_reducible refine Ext.drew ?_) | (with_reducible refine Ext.alloc ?_ _) | ((with_reducible refine Ext.setCell ?_ ?_ _); rotate_left; focus (first | (simp; done) | (simp; omega) | omega)) | assumption | (with_reducible refine Ext.trans ?_ (by assumption))))
  have hz4B := hy4B; clear hy4B
  go_wp2_with fail
  have HX4 := Lib.hid (Hho4.out.box 33)
  refine (impl_FindWord D a4 n c4 b4 m d4 ia4 im ic4 ra4 rm rc4 s _ (Hho4.out.ext (by repeat (first | (with_reducible exact Ext.refl _) | (with_reducible refine Ext.drewN ?_ _) | (with_reducible refine Ext.drew ?_) | (with_reducible refine Ext.alloc ?_ _) | ((with_reducible refine Ext.setCell ?_ ?_ _); rotate_left; focus (first | (simp; done) | (simp; omega) | omega)) | assumption | (with_reducible refine Ext.trans ?_ (by assumption))))) (by omega)).mono ?_
  rintro e w5 ⟨rfl, hyw5⟩
  have hxw5 : Ext wb w5 := (by repeat (first | (with_reducible exact Ext.refl _) | (with_reducible refine Ext.drewN ?_ _) | (with_reducible refine Ext.drew ?_) | (with_reducible refine Ext.alloc ?_ _) | ((with_reducible refine Ext.setCell ?_ ?_ _); rotate_left; focus (first | (simp; done) | (simp; omega) | omega)) | assumption | (with_reducible refine Ext.trans ?_ (by assumption))))
  have hzw5 := hyw5; clear hyw5
  obtain ⟨⟨d0, d1, d2, d3, d4x, d5, hts5, hps5⟩, d6, d7, d8, his5, hrs5⟩ := HX4.out.ext (show Ext _ w5 from (by repeat (first | (with_reducible exact Ext.refl _) | (with_reducible refine Ext.drewN ?_ _) | (with_reducible refine Ext.drew ?_) | (with_reducible refine Ext.alloc ?_ _) | ((with_reducible refine Ext.setCell ?_ ?_ _); rotate_left; focus (first | (simp; done) | (simp; omega) | omega)) | assumption | (with_reducible refine Ext.trans ?_ (by assumption)))))
  have Hhts5 := Lib.hid hts5; clear hts5; have Hhps5 := Lib.hid hps5; clear hps5; have Hhis5 := Lib.hid his5; clear his5; have Hhrs5 := Lib.hid hrs5; clear hrs5
  have HI5 := Lib.hid (Hho4.out.ext (show Ext w4B w5 from (by repeat (first | (with_reducible exact Ext.refl _) | (with_reducible refine Ext.drewN ?_ _) | (with_reducible refine Ext.drew ?_) | (with_reducible refine Ext.alloc ?_ _) | ((with_reducible refine Ext.setCell ?_ ?_ _); rotate_left; focus (first | (simp; done) | (simp; omega) | omega)) | assumption | (with_reducible refine Ext.trans ?_ (by assumption))))))
  go_wp2
  (refine wp_region_up (by kernel_rfl) (by kernel_rfl) (by kernel_rfl) ?_; (repeat (first | (refine mix_q rfl ?_; go_big_quiet_step (fail); refine wpQuiet_nil ?_; show wpMix _ _ _ _ _ _ _) | (refine mix_s rfl ?_; go_wp2_with (first | (go_at_call 15; refine (toRgI D a n c b m d ia im ic ra rm rc _ (HIb.out.ext (by repeat (first | (with_reducible exact Ext.refl _) | (with_reducible refine Ext.drewN ?_ _) | (with_reducible refine Ext.drew ?_) | (with_reducible refine Ext.alloc ?_ _) | ((with_reducible refine Ext.setCell ?_ ?_ _); rotate_left; focus (first | (simp; done) | (simp; omega) | omega)) | assumption | (with_reducible refine Ext.trans ?_ (by assumption)))))).mono ?_; rintro e w6 ⟨a6, c6, b6, d6, ia6, ic6, ra6, rc6, rfl, ho6, hy6⟩; have Hho6 := Lib.hid ho6; clear ho6) | (go_at_call 17; refine (eqRg D a4 n c4 b4 m d4 ia4 im ic4 ra4 rm rc4 a6 c6 b6 d6 ia6 ic6 ra6 rc6 _ (HI5.out.ext (by repeat (first | (with_reducible exact Ext.refl _) | (with_reducible refine Ext.drewN ?_ _) | (with_reducible refine Ext.drew ?_) | (with_reducible refine Ext.alloc ?_ _) | ((with_reducible refine Ext.setCell ?_ ?_ _); rotate_left; focus (first | (simp; done) | (simp; omega) | omega)) | assumption | (with_reducible refine Ext.trans ?_ (by assumption))))) Hho6.out).mono ?_; rintro e w7 ⟨rfl, hy7⟩)); first | refine ⟨up_of (by repeat (first | (with_reducible exact Ext.refl _) | (with_reducible refine Ext.drewN ?_ _) | (with_reducible refine Ext.drew ?_) | (with_reducible refine Ext.alloc ?_ _) | ((with_reducible refine Ext.setCell ?_ ?_ _); rotate_left; focus (first | (simp; done) | (simp; omega) | omega)) | assumption | (with_reducible refine Ext.trans ?_ (by assumption)))), ?_⟩ | refine ⟨rfl, rfl, up_of (by repeat (first | (with_reducible exact Ext.refl _) | (with_reducible refine Ext.drewN ?_ _) | (with_reducible refine Ext.drew ?_) | (with_reducible refine Ext.alloc ?_ _) | ((with_reducible refine Ext.setCell ?_ ?_ _); rotate_left; focus (first | (simp; done) | (simp; omega) | omega)) | assumption | (with_reducible refine Ext.trans ?_ (by assumption)))), ?_⟩))); refine mix_nil ?_)
  have hx7 : Ext wb w7 := (by repeat (first | (with_reducible exact Ext.refl _) | (with_reducible refine Ext.drewN ?_ _) | (with_reducible refine Ext.drew ?_) | (with_reducible refine Ext.alloc ?_ _) | ((with_reducible refine Ext.setCell ?_ ?_ _); rotate_left; focus (first | (simp; done) | (simp; omega) | omega)) | assumption | (with_reducible refine Ext.trans ?_ (by assumption))))
  go_wp2
  go_ret
  exact ⟨rfl, hxb.trans hx7⟩
end Go.Proofs.Ytdekplfjnkbidaa
