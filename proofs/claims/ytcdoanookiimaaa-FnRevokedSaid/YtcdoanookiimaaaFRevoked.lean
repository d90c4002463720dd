/- A word that is revoked has been issued before, is revoked behind, is not revoked or issued anew, and no other word changes its status. Conditions: none. -/
import Derived.Test.YtcdoanookiimaaaR8R
import Derived.Test.YtcdoanookiimaaaR8
import Derived.Test.YtcdoanookiimaaaCount
import Derived.Test.YtcdoanookiimaaaRevP
import Derived.Test.YtcdoanookiimaaaOpen
import Derived.Test.YtcdoanookiimaaaOpenB
namespace Go.Proofs.Ytcdoanookiimaaa
set_option maxRecDepth 100000
open Go.RowKit

set_option maxHeartbeats 16000000 in
theorem lawRevoked (a : Option Addr) (n c : Nat) (l : List UInt8) (a' : Option Addr) (n' c' : Nat) (l' : List UInt8) (w : World) (hv : Bytes w a n c l) (hn : n ≤ 9223372036854775807) (hv' : Bytes w a' n' c' l') (hn' : n' ≤ 9223372036854775807) :
    Calls Try.prog 5 #[.slice a n c, .slice a' n' c'] w (Ret (.bool true) w) := by
  have HLong := Lib.hid (laws_r8Long a a' n c n' c' w hn hn')
  have HB := Lib.hid hv
  have HB' := Lib.hid hv'
  clear hv hv'
  by_cases hlong : 48 < n ∨ 48 < n'
  · rw [decide_eq_true hlong] at HLong
    clear hlong
    go_enter Try.func5, Try.ntmps5
    go_wp2_with (refine HLong.out.mono ?_; rintro e w1 ⟨rfl, rfl⟩)
    go_ret
    exact ⟨rfl, Ext.refl _⟩
  rw [decide_eq_false hlong] at HLong
  have hn48 : n ≤ 48 ∧ n' ≤ 48 := by omega
  clear hlong
  have hz0 := r8_bd l' 0 30 (by omega)
  have HR0 := Lib.hid (fun W (h : Ext w W) => laws_r8 a' n' c' l' 0 30 W (HB'.out.ext h) (by omega) (by omega) (by omega))
  generalize r8 l' 0 30 = r0 at *
  obtain ⟨r, rfl⟩ := Int.eq_ofNat_of_zero_le hz0.1
  clear hz0
  go_enter Try.func5, Try.ntmps5
  go_upto_region 4 with (first | (go_at_call 11; refine HLong.out.mono ?_; rintro e w1 ⟨rfl, rfl⟩) | (go_at_call 12; (with_reducible refine (spec_R8Rg a n c l w HB.out (by omega)).mono ?_); rintro e w1 ⟨D, a0, n0, c0, b0, m0, d0, ia0, im0, ic0, ra0, rm0, rc0, rfl, hval, hi5, ha1, ha3, hb2, hb4, hm1, hm5, hn3, hin, hx1⟩))
  have HOk := Lib.hid (validRg_ok hval)
  have HDl := Lib.hid (show D.issued.length = im0 from hin.is.len)
  obtain ⟨q5, hq5⟩ : ∃ q, q = w1.heap.size := ⟨_, rfl⟩
  obtain ⟨wq, hwq⟩ : ∃ W, W = w1.alloc (.cells #[.int .i64 D.ch.base, .int .i64 D.ch.states, .int .i64 D.ch.start, .int .i64 D.ch.fin, .slice a0 n0 c0, .slice b0 m0 d0, .int .i64 D.apart, .slice ia0 im0 ic0, .slice ra0 rm0 rc0] 30) := ⟨_, rfl⟩
  rw [← hwq, ← hq5]
  have hxq : Ext w1 wq := by rw [hwq]; exact (Ext.refl _).alloc _
  have HQ5 := Lib.hid (show SAt wq q5 30 #[.int .i64 D.ch.base, .int .i64 D.ch.states, .int .i64 D.ch.start, .int .i64 D.ch.fin, .slice a0 n0 c0, .slice b0 m0 d0, .int .i64 D.apart, .slice ia0 im0 ic0, .slice ra0 rm0 rc0] by rw [hwq]; exact SAt.new' _ _ _ hq5)
  have HInQ := Lib.hid (hin.ext hxq)
  have hxwq : Ext w wq := hx1.trans hxq
  have hxqq : Ext wq wq := Ext.refl _
  have HVal := Lib.hid hval
  clear hin hval hwq hq5 hxq hx1 HLong HB
  have v0 := fun w' (hx : Ext wq w') => (HQ5.out.ext hx).cell 0 (by simp)
  have v1 := fun w' (hx : Ext wq w') => (HQ5.out.ext hx).cell 1 (by simp)
  have v2 := fun w' (hx : Ext wq w') => (HQ5.out.ext hx).cell 2 (by simp)
  have v3 := fun w' (hx : Ext wq w') => (HQ5.out.ext hx).cell 3 (by simp)
  have v4 := fun w' (hx : Ext wq w') => (HQ5.out.ext hx).cell 4 (by simp)
  have v5 := fun w' (hx : Ext wq w') => (HQ5.out.ext hx).cell 5 (by simp)
  have v6 := fun w' (hx : Ext wq w') => (HQ5.out.ext hx).cell 6 (by simp)
  have v7 := fun w' (hx : Ext wq w') => (HQ5.out.ext hx).cell 7 (by simp)
  have v8 := fun w' (hx : Ext wq w') => (HQ5.out.ext hx).cell 8 (by simp)
  try simp only [List.getElem_toArray, List.getElem_cons_succ, List.getElem_cons_zero] at v0 v1 v2 v3 v4 v5 v6 v7 v8
  have HVc := Lib.hid HOk.out.vc
  have HWA := Lib.hid (fun W (h : Ext wq W) => impl_WordAt D.ch a0 n0 c0 b0 m0 d0 (r : Nat) W (HInQ.out.ch.ext h) HVc.out)
  cases hwt : watB D.ch (r : Nat) with
  | false =>
    have hNr : (wordsA D.ch).length ≤ r := by
      unfold watB at hwt
      rw [decide_eq_false_iff_not] at hwt
      omega
    have HCt := Lib.hid (fun W (h : Ext wq W) => impl_CountWords D.ch a0 n0 c0 b0 m0 d0 W (HInQ.out.ch.ext h) HVc.out)
    obtain ⟨N, hNe⟩ : ∃ N, N = (wordsA D.ch).length := ⟨_, rfl⟩
    rw [← hNe] at HCt hNr
    rw [hwt] at HWA
    clear hwt hNe
    have hd : decide ((N : Int) ≤ (r : Int)) = true := decide_eq_true (by omega)
    (refine wp_region_from wq (by repeat (first | (with_reducible exact Ext.refl _) | (with_reducible refine Ext.drewN ?_ _) | (with_reducible refine Ext.drew ?_) | (with_reducible refine Ext.alloc ?_ _) | ((with_reducible refine Ext.setCell ?_ ?_ _); rotate_left; focus (first | (simp; done) | (simp; omega) | omega)) | assumption | (with_reducible refine Ext.trans ?_ (by assumption)))) (by kernel_rfl) (by kernel_rfl) (by kernel_rfl) ?_; (repeat (first | (refine mix_q rfl ?_; go_big_quiet_step (fail); refine wpQuiet_nil ?_; show wpMix _ _ _ _ _ _ _) | (refine mix_s rfl ?_; go_wp2_with (first | (go_at_call 13; (with_reducible refine (HR0.out _ (hxwq.trans (by repeat (first | (with_reducible exact Ext.refl _) | (with_reducible assumption) | (with_reducible refine Ext.drewN ?_ _) | (with_reducible refine Ext.drew ?_) | (with_reducible refine Ext.alloc ?_ _) | ((with_reducible refine Ext.setCell ?_ ?_ _); rotate_left; focus (first | (simp; done) | (simp; omega) | omega)) | (with_reducible refine Ext.trans ?_ (by with_reducible assumption)))))).mono ?_); rintro e w2 ⟨rfl, rfl⟩) | (go_at_call 27; (with_reducible refine (HWA.out _ (by repeat (first | (with_reducible exact Ext.refl _) | (with_reducible assumption) | (with_reducible refine Ext.drewN ?_ _) | (with_reducible refine Ext.drew ?_) | (with_reducible refine Ext.alloc ?_ _) | ((with_reducible refine Ext.setCell ?_ ?_ _); rotate_left; focus (first | (simp; done) | (simp; omega) | omega)) | (with_reducible refine Ext.trans ?_ (by with_reducible assumption))))).mono ?_); rintro e w3 ⟨rfl, hy3⟩; have hx3 : Ext wq w3 := Ext.trans (by repeat (first | (with_reducible exact Ext.refl _) | (with_reducible assumption) | (with_reducible refine Ext.drewN ?_ _) | (with_reducible refine Ext.drew ?_) | (with_reducible refine Ext.alloc ?_ _) | ((with_reducible refine Ext.setCell ?_ ?_ _); rotate_left; focus (first | (simp; done) | (simp; omega) | omega)) | (with_reducible refine Ext.trans ?_ (by with_reducible assumption)))) hy3; clear hy3)); first | refine ⟨up_of (by repeat (first | (with_reducible exact Ext.refl _) | (with_reducible refine Ext.drewN ?_ _) | (with_reducible refine Ext.drew ?_) | (with_reducible refine Ext.alloc ?_ _) | ((with_reducible refine Ext.setCell ?_ ?_ _); rotate_left; focus (first | (simp; done) | (simp; omega) | omega)) | assumption | (with_reducible refine Ext.trans ?_ (by assumption)))), ?_⟩ | refine ⟨rfl, rfl, up_of (by repeat (first | (with_reducible exact Ext.refl _) | (with_reducible refine Ext.drewN ?_ _) | (with_reducible refine Ext.drew ?_) | (with_reducible refine Ext.alloc ?_ _) | ((with_reducible refine Ext.setCell ?_ ?_ _); rotate_left; focus (first | (simp; done) | (simp; omega) | omega)) | assumption | (with_reducible refine Ext.trans ?_ (by assumption)))), ?_⟩))); refine mix_nil ?_)
    go_wp2_with (first | (go_at_call 28; (with_reducible refine (HCt.out _ (by repeat (first | (with_reducible exact Ext.refl _) | (with_reducible assumption) | (with_reducible refine Ext.drewN ?_ _) | (with_reducible refine Ext.drew ?_) | (with_reducible refine Ext.alloc ?_ _) | ((with_reducible refine Ext.setCell ?_ ?_ _); rotate_left; focus (first | (simp; done) | (simp; omega) | omega)) | (with_reducible refine Ext.trans ?_ (by with_reducible assumption))))).mono ?_); rintro e w4 ⟨rfl, hy4⟩; have hx4 : Ext wq w4 := Ext.trans (by repeat (first | (with_reducible exact Ext.refl _) | (with_reducible assumption) | (with_reducible refine Ext.drewN ?_ _) | (with_reducible refine Ext.drew ?_) | (with_reducible refine Ext.alloc ?_ _) | ((with_reducible refine Ext.setCell ?_ ?_ _); rotate_left; focus (first | (simp; done) | (simp; omega) | omega)) | (with_reducible refine Ext.trans ?_ (by with_reducible assumption)))) hy4; clear hy4) | (go_at_call 13; (with_reducible refine (HR0.out _ (hxwq.trans (by repeat (first | (with_reducible exact Ext.refl _) | (with_reducible assumption) | (with_reducible refine Ext.drewN ?_ _) | (with_reducible refine Ext.drew ?_) | (with_reducible refine Ext.alloc ?_ _) | ((with_reducible refine Ext.setCell ?_ ?_ _); rotate_left; focus (first | (simp; done) | (simp; omega) | omega)) | (with_reducible refine Ext.trans ?_ (by with_reducible assumption)))))).mono ?_); rintro e w2 ⟨rfl, rfl⟩))
    go_ret
    exact ⟨rfl, hxwq.trans (by repeat (first | (with_reducible exact Ext.refl _) | (with_reducible assumption) | (with_reducible refine Ext.drewN ?_ _) | (with_reducible refine Ext.drew ?_) | (with_reducible refine Ext.alloc ?_ _) | ((with_reducible refine Ext.setCell ?_ ?_ _); rotate_left; focus (first | (simp; done) | (simp; omega) | omega)) | (with_reducible refine Ext.trans ?_ (by with_reducible assumption))))⟩
  | true =>
    have hrN : r < (wordsA D.ch).length := by
      unfold watB at hwt
      rw [decide_eq_true_eq] at hwt
      omega
    have hck : chkB D.ch (watT D.ch (r : Nat)) = true := by
      rw [watT, hwt, if_pos rfl, Int.toNat_natCast]
      exact wordR_chk HOk.out.ch HVc.out hrN
    rw [hwt] at HWA
    obtain ⟨s, hs⟩ : ∃ s, s = watT D.ch (r : Nat) := ⟨_, rfl⟩
    rw [← hs] at HWA hck
    have hs20 := (chk_size hck).2
    have hwc : wordCh D.ch s = true := by
      unfold chkB runOk at hck
      simp only [Bool.and_eq_true] at hck
      exact hck.1.2
    have hst := stat_rev1 HVal.out hwc
    clear hs hwt hrN hck hwc
    have HSt := Lib.hid (fun t W (ht : t.size ≤ 1048576) (h : Ext wq W) => impl_StatusOf D a0 n0 c0 b0 m0 d0 ia0 im0 ic0 ra0 rm0 rc0 t W (HInQ.out.ext h) ht)
    have HSs := Lib.hid (fun W (h : Ext wq W) => HSt.out s W (by omega) h)
    rw [hst.1] at HSs
    have HRv := Lib.hid (fun W (h : Ext wq W) => impl_Revoke D a0 n0 c0 b0 m0 d0 ia0 im0 ic0 ra0 rm0 rc0 s W (HInQ.out.ext h))
    have HVr := Lib.hid (show ∀ W, Ext wq W → Calls Try.prog 18 #[.agg #[.int .i64 D.ch.base, .int .i64 D.ch.states, .int .i64 D.ch.start, .int .i64 D.ch.fin, .slice a0 n0 c0, .slice b0 m0 d0, .int .i64 D.apart, .slice ia0 im0 ic0, .slice ra0 rm0 rc0]] W (Ret (.bool true) W) from fun W h => by have h9 := impl_ValidRegistry D a0 n0 c0 b0 m0 d0 ia0 im0 ic0 ra0 rm0 rc0 W (HInQ.out.ext h); rw [HVal.out] at h9; exact h9)
    cases hro : revOk D s with
    | false =>
      have hs1 : statOf D s ≠ 1 := fun h => by have h9 := hst.2; rw [h, hro] at h9; simp at h9
      rw [hro] at HRv
      generalize statOf D s = st at *
      have hsb : (st == 1) = false := by simpa using hs1
      clear hst hs1 hro
      (refine wp_region_from wq (by repeat (first | (with_reducible exact Ext.refl _) | (with_reducible refine Ext.drewN ?_ _) | (with_reducible refine Ext.drew ?_) | (with_reducible refine Ext.alloc ?_ _) | ((with_reducible refine Ext.setCell ?_ ?_ _); rotate_left; focus (first | (simp; done) | (simp; omega) | omega)) | assumption | (with_reducible refine Ext.trans ?_ (by assumption)))) (by kernel_rfl) (by kernel_rfl) (by kernel_rfl) ?_; (repeat (first | (refine mix_q rfl ?_; go_big_quiet_step (fail); refine wpQuiet_nil ?_; show wpMix _ _ _ _ _ _ _) | (refine mix_s rfl ?_; go_wp2_with (first | (go_at_call 13; (with_reducible refine (HR0.out _ (hxwq.trans (by repeat (first | (with_reducible exact Ext.refl _) | (with_reducible assumption) | (with_reducible refine Ext.drewN ?_ _) | (with_reducible refine Ext.drew ?_) | (with_reducible refine Ext.alloc ?_ _) | ((with_reducible refine Ext.setCell ?_ ?_ _); rotate_left; focus (first | (simp; done) | (simp; omega) | omega)) | (with_reducible refine Ext.trans ?_ (by with_reducible assumption)))))).mono ?_); rintro e w2 ⟨rfl, rfl⟩) | (go_at_call 27; (with_reducible refine (HWA.out _ (by repeat (first | (with_reducible exact Ext.refl _) | (with_reducible assumption) | (with_reducible refine Ext.drewN ?_ _) | (with_reducible refine Ext.drew ?_) | (with_reducible refine Ext.alloc ?_ _) | ((with_reducible refine Ext.setCell ?_ ?_ _); rotate_left; focus (first | (simp; done) | (simp; omega) | omega)) | (with_reducible refine Ext.trans ?_ (by with_reducible assumption))))).mono ?_); rintro e w3 ⟨rfl, hy3⟩; have hx3 : Ext wq w3 := Ext.trans (by repeat (first | (with_reducible exact Ext.refl _) | (with_reducible assumption) | (with_reducible refine Ext.drewN ?_ _) | (with_reducible refine Ext.drew ?_) | (with_reducible refine Ext.alloc ?_ _) | ((with_reducible refine Ext.setCell ?_ ?_ _); rotate_left; focus (first | (simp; done) | (simp; omega) | omega)) | (with_reducible refine Ext.trans ?_ (by with_reducible assumption)))) hy3; clear hy3)); first | refine ⟨up_of (by repeat (first | (with_reducible exact Ext.refl _) | (with_reducible refine Ext.drewN ?_ _) | (with_reducible refine Ext.drew ?_) | (with_reducible refine Ext.alloc ?_ _) | ((with_reducible refine Ext.setCell ?_ ?_ _); rotate_left; focus (first | (simp; done) | (simp; omega) | omega)) | assumption | (with_reducible refine Ext.trans ?_ (by assumption)))), ?_⟩ | refine ⟨rfl, rfl, up_of (by repeat (first | (with_reducible exact Ext.refl _) | (with_reducible refine Ext.drewN ?_ _) | (with_reducible refine Ext.drew ?_) | (with_reducible refine Ext.alloc ?_ _) | ((with_reducible refine Ext.setCell ?_ ?_ _); rotate_left; focus (first | (simp; done) | (simp; omega) | omega)) | assumption | (with_reducible refine Ext.trans ?_ (by assumption)))), ?_⟩))); refine mix_nil ?_)
      go_wp2_with (first | (go_at_call 23; (with_reducible refine (HSs.out _ (by repeat (first | (with_reducible exact Ext.refl _) | (with_reducible assumption) | (with_reducible refine Ext.drewN ?_ _) | (with_reducible refine Ext.drew ?_) | (with_reducible refine Ext.alloc ?_ _) | ((with_reducible refine Ext.setCell ?_ ?_ _); rotate_left; focus (first | (simp; done) | (simp; omega) | omega)) | (with_reducible refine Ext.trans ?_ (by with_reducible assumption))))).mono ?_); rintro e w4 ⟨rfl, hy4⟩; have hx4 : Ext wq w4 := Ext.trans (by repeat (first | (with_reducible exact Ext.refl _) | (with_reducible assumption) | (with_reducible refine Ext.drewN ?_ _) | (with_reducible refine Ext.drew ?_) | (with_reducible refine Ext.alloc ?_ _) | ((with_reducible refine Ext.setCell ?_ ?_ _); rotate_left; focus (first | (simp; done) | (simp; omega) | omega)) | (with_reducible refine Ext.trans ?_ (by with_reducible assumption)))) hy4; clear hy4) | (go_at_call 29; (with_reducible refine (HRv.out _ (by repeat (first | (with_reducible exact Ext.refl _) | (with_reducible assumption) | (with_reducible refine Ext.drewN ?_ _) | (with_reducible refine Ext.drew ?_) | (with_reducible refine Ext.alloc ?_ _) | ((with_reducible refine Ext.setCell ?_ ?_ _); rotate_left; focus (first | (simp; done) | (simp; omega) | omega)) | (with_reducible refine Ext.trans ?_ (by with_reducible assumption))))).mono ?_); rintro e w5 ⟨a4, n4, c4, b4, m4, d4, ia4, im4, ic4, ra4, rm4, rc4, rfl, hr5, hz5, hy5⟩; have hx5 : Ext wq w5 := Ext.trans (by repeat (first | (with_reducible exact Ext.refl _) | (with_reducible assumption) | (with_reducible refine Ext.drewN ?_ _) | (with_reducible refine Ext.drew ?_) | (with_reducible refine Ext.alloc ?_ _) | ((with_reducible refine Ext.setCell ?_ ?_ _); rotate_left; focus (first | (simp; done) | (simp; omega) | omega)) | (with_reducible refine Ext.trans ?_ (by with_reducible assumption)))) hy5; clear hy5 hr5 hz5) | (go_at_call 18; (with_reducible refine (HVr.out _ (by repeat (first | (with_reducible exact Ext.refl _) | (with_reducible assumption) | (with_reducible refine Ext.drewN ?_ _) | (with_reducible refine Ext.drew ?_) | (with_reducible refine Ext.alloc ?_ _) | ((with_reducible refine Ext.setCell ?_ ?_ _); rotate_left; focus (first | (simp; done) | (simp; omega) | omega)) | (with_reducible refine Ext.trans ?_ (by with_reducible assumption))))).mono ?_); rintro e w6 ⟨rfl, hy6⟩; have hx6 : Ext wq w6 := Ext.trans (by repeat (first | (with_reducible exact Ext.refl _) | (with_reducible assumption) | (with_reducible refine Ext.drewN ?_ _) | (with_reducible refine Ext.drew ?_) | (with_reducible refine Ext.alloc ?_ _) | ((with_reducible refine Ext.setCell ?_ ?_ _); rotate_left; focus (first | (simp; done) | (simp; omega) | omega)) | (with_reducible refine Ext.trans ?_ (by with_reducible assumption)))) hy6; clear hy6))
      go_ret
      exact ⟨rfl, hxwq.trans (by repeat (first | (with_reducible exact Ext.refl _) | (with_reducible assumption) | (with_reducible refine Ext.drewN ?_ _) | (with_reducible refine Ext.drew ?_) | (with_reducible refine Ext.alloc ?_ _) | ((with_reducible refine Ext.setCell ?_ ?_ _); rotate_left; focus (first | (simp; done) | (simp; omega) | omega)) | (with_reducible refine Ext.trans ?_ (by with_reducible assumption))))⟩
    | true =>
      have hlaw := rev_law hro
      have hs1 : statOf D s = 1 := by have h9 := hst.2; rw [hro] at h9; exact of_decide_eq_true h9
      rw [hs1] at HSs
      rw [hro, revRes_yes hro] at HRv
      clear hst hs1 hro
      have HL1 := Lib.hid hlaw.1
      have HL2 := Lib.hid hlaw.2.1
      have HL3 := Lib.hid hlaw.2.2.1
      have HL4 := Lib.hid hlaw.2.2.2
      clear hlaw
      (refine wp_region_from wq (by repeat (first | (with_reducible exact Ext.refl _) | (with_reducible refine Ext.drewN ?_ _) | (with_reducible refine Ext.drew ?_) | (with_reducible refine Ext.alloc ?_ _) | ((with_reducible refine Ext.setCell ?_ ?_ _); rotate_left; focus (first | (simp; done) | (simp; omega) | omega)) | assumption | (with_reducible refine Ext.trans ?_ (by assumption)))) (by kernel_rfl) (by kernel_rfl) (by kernel_rfl) ?_; (repeat (first | (refine mix_q rfl ?_; go_big_quiet_step (fail); refine wpQuiet_nil ?_; show wpMix _ _ _ _ _ _ _) | (refine mix_s rfl ?_; go_wp2_with (first | (go_at_call 13; (with_reducible refine (HR0.out _ (hxwq.trans (by repeat (first | (with_reducible exact Ext.refl _) | (with_reducible assumption) | (with_reducible refine Ext.drewN ?_ _) | (with_reducible refine Ext.drew ?_) | (with_reducible refine Ext.alloc ?_ _) | ((with_reducible refine Ext.setCell ?_ ?_ _); rotate_left; focus (first | (simp; done) | (simp; omega) | omega)) | (with_reducible refine Ext.trans ?_ (by with_reducible assumption)))))).mono ?_); rintro e w2 ⟨rfl, rfl⟩) | (go_at_call 27; (with_reducible refine (HWA.out _ (by repeat (first | (with_reducible exact Ext.refl _) | (with_reducible assumption) | (with_reducible refine Ext.drewN ?_ _) | (with_reducible refine Ext.drew ?_) | (with_reducible refine Ext.alloc ?_ _) | ((with_reducible refine Ext.setCell ?_ ?_ _); rotate_left; focus (first | (simp; done) | (simp; omega) | omega)) | (with_reducible refine Ext.trans ?_ (by with_reducible assumption))))).mono ?_); rintro e w3 ⟨rfl, hy3⟩; have hx3 : Ext wq w3 := Ext.trans (by repeat (first | (with_reducible exact Ext.refl _) | (with_reducible assumption) | (with_reducible refine Ext.drewN ?_ _) | (with_reducible refine Ext.drew ?_) | (with_reducible refine Ext.alloc ?_ _) | ((with_reducible refine Ext.setCell ?_ ?_ _); rotate_left; focus (first | (simp; done) | (simp; omega) | omega)) | (with_reducible refine Ext.trans ?_ (by with_reducible assumption)))) hy3; clear hy3)); first | refine ⟨up_of (by repeat (first | (with_reducible exact Ext.refl _) | (with_reducible refine Ext.drewN ?_ _) | (with_reducible refine Ext.drew ?_) | (with_reducible refine Ext.alloc ?_ _) | ((with_reducible refine Ext.setCell ?_ ?_ _); rotate_left; focus (first | (simp; done) | (simp; omega) | omega)) | assumption | (with_reducible refine Ext.trans ?_ (by assumption)))), ?_⟩ | refine ⟨rfl, rfl, up_of (by repeat (first | (with_reducible exact Ext.refl _) | (with_reducible refine Ext.drewN ?_ _) | (with_reducible refine Ext.drew ?_) | (with_reducible refine Ext.alloc ?_ _) | ((with_reducible refine Ext.setCell ?_ ?_ _); rotate_left; focus (first | (simp; done) | (simp; omega) | omega)) | assumption | (with_reducible refine Ext.trans ?_ (by assumption)))), ?_⟩))); refine mix_nil ?_)
      go_upto_region 10 with (first | (go_at_call 23; (with_reducible refine (HSs.out _ (by repeat (first | (with_reducible exact Ext.refl _) | (with_reducible assumption) | (with_reducible refine Ext.drewN ?_ _) | (with_reducible refine Ext.drew ?_) | (with_reducible refine Ext.alloc ?_ _) | ((with_reducible refine Ext.setCell ?_ ?_ _); rotate_left; focus (first | (simp; done) | (simp; omega) | omega)) | (with_reducible refine Ext.trans ?_ (by with_reducible assumption))))).mono ?_); rintro e w4 ⟨rfl, hy4⟩; have hx4 : Ext wq w4 := Ext.trans (by repeat (first | (with_reducible exact Ext.refl _) | (with_reducible assumption) | (with_reducible refine Ext.drewN ?_ _) | (with_reducible refine Ext.drew ?_) | (with_reducible refine Ext.alloc ?_ _) | ((with_reducible refine Ext.setCell ?_ ?_ _); rotate_left; focus (first | (simp; done) | (simp; omega) | omega)) | (with_reducible refine Ext.trans ?_ (by with_reducible assumption)))) hy4; clear hy4) | (go_at_call 29; (with_reducible refine (HRv.out _ (by repeat (first | (with_reducible exact Ext.refl _) | (with_reducible assumption) | (with_reducible refine Ext.drewN ?_ _) | (with_reducible refine Ext.drew ?_) | (with_reducible refine Ext.alloc ?_ _) | ((with_reducible refine Ext.setCell ?_ ?_ _); rotate_left; focus (first | (simp; done) | (simp; omega) | omega)) | (with_reducible refine Ext.trans ?_ (by with_reducible assumption))))).mono ?_); rintro e w5 ⟨a4, n4, c4, b4, m4, d4, ia4, im4, ic4, ra4, rm4, rc4, rfl, hr5, hz5, hy5⟩; have hx5 : Ext wq w5 := Ext.trans (by repeat (first | (with_reducible exact Ext.refl _) | (with_reducible assumption) | (with_reducible refine Ext.drewN ?_ _) | (with_reducible refine Ext.drew ?_) | (with_reducible refine Ext.alloc ?_ _) | ((with_reducible refine Ext.setCell ?_ ?_ _); rotate_left; focus (first | (simp; done) | (simp; omega) | omega)) | (with_reducible refine Ext.trans ?_ (by with_reducible assumption)))) hy5; have HI5 := Lib.hid (hr5.inn hz5); clear hy5 hr5 hz5))
      obtain rfl : im4 = im0 := by have h9 := HI5.out.is.len; have h8 := HDl.out; rw [show (putR D s).issued = D.issued from rfl] at h9; omega
      obtain ⟨q12, hq12⟩ : ∃ q, q = w5.heap.size := ⟨_, rfl⟩
      obtain ⟨P, hP⟩ : ∃ P, P = putR D s := ⟨_, rfl⟩
      have HPi := Lib.hid (show P.issued = D.issued by rw [hP]; rfl)
      rw [← hP] at HL1 HL2 HL3 HL4 HI5 ⊢
      clear hP
      obtain ⟨wB, hwB⟩ : ∃ W, W = w5.alloc (.cells #[.int .i64 P.ch.base, .int .i64 P.ch.states, .int .i64 P.ch.start, .int .i64 P.ch.fin, .slice a4 n4 c4, .slice b4 m4 d4, .int .i64 P.apart, .slice ia4 im4 ic4, .slice ra4 rm4 rc4] 30) := ⟨_, rfl⟩
      rw [← hwB, ← hq12]
      have hx5B : Ext w5 wB := by rw [hwB]; exact (Ext.refl _).alloc _
      have HQ12 := Lib.hid (show SAt wB q12 30 #[.int .i64 P.ch.base, .int .i64 P.ch.states, .int .i64 P.ch.start, .int .i64 P.ch.fin, .slice a4 n4 c4, .slice b4 m4 d4, .int .i64 P.apart, .slice ia4 im4 ic4, .slice ra4 rm4 rc4] by rw [hwB]; exact SAt.new' _ _ _ hq12)
      have HIB := Lib.hid (HI5.out.ext hx5B)
      have hxqB : Ext wq wB := hx5.trans hx5B
      have hxBB : Ext wB wB := Ext.refl _
      have HQB := Lib.hid (HQ5.out.ext hxqB)
      have HInB := Lib.hid (HInQ.out.ext hxqB)
      clear hwB hq12 hx5B HI5 hx5 hx4 hx3 v0 v1 v2 v3 v4 v5 v6 v7 v8
      have u0 := fun w' (hx : Ext wB w') => (HQB.out.ext hx).cell 0 (by simp)
      have u1 := fun w' (hx : Ext wB w') => (HQB.out.ext hx).cell 1 (by simp)
      have u2 := fun w' (hx : Ext wB w') => (HQB.out.ext hx).cell 2 (by simp)
      have u3 := fun w' (hx : Ext wB w') => (HQB.out.ext hx).cell 3 (by simp)
      have u4 := fun w' (hx : Ext wB w') => (HQB.out.ext hx).cell 4 (by simp)
      have u5 := fun w' (hx : Ext wB w') => (HQB.out.ext hx).cell 5 (by simp)
      have u6 := fun w' (hx : Ext wB w') => (HQB.out.ext hx).cell 6 (by simp)
      have u7 := fun w' (hx : Ext wB w') => (HQB.out.ext hx).cell 7 (by simp)
      have u8 := fun w' (hx : Ext wB w') => (HQB.out.ext hx).cell 8 (by simp)
      try simp only [List.getElem_toArray, List.getElem_cons_succ, List.getElem_cons_zero] at u0 u1 u2 u3 u4 u5 u6 u7 u8
      have p0 := fun w' (hx : Ext wB w') => (HQ12.out.ext hx).cell 0 (by simp)
      have p1 := fun w' (hx : Ext wB w') => (HQ12.out.ext hx).cell 1 (by simp)
      have p2 := fun w' (hx : Ext wB w') => (HQ12.out.ext hx).cell 2 (by simp)
      have p3 := fun w' (hx : Ext wB w') => (HQ12.out.ext hx).cell 3 (by simp)
      have p4 := fun w' (hx : Ext wB w') => (HQ12.out.ext hx).cell 4 (by simp)
      have p5 := fun w' (hx : Ext wB w') => (HQ12.out.ext hx).cell 5 (by simp)
      have p6 := fun w' (hx : Ext wB w') => (HQ12.out.ext hx).cell 6 (by simp)
      have p7 := fun w' (hx : Ext wB w') => (HQ12.out.ext hx).cell 7 (by simp)
      have p8 := fun w' (hx : Ext wB w') => (HQ12.out.ext hx).cell 8 (by simp)
      try simp only [List.getElem_toArray, List.getElem_cons_succ, List.getElem_cons_zero] at p0 p1 p2 p3 p4 p5 p6 p7 p8
      have HRv2 := Lib.hid (show ∀ W, Ext wB W → Calls Try.prog 29 #[.agg #[.int .i64 P.ch.base, .int .i64 P.ch.states, .int .i64 P.ch.start, .int .i64 P.ch.fin, .slice a4 n4 c4, .slice b4 m4 d4, .int .i64 P.apart, .slice ia4 im4 ic4, .slice ra4 rm4 rc4], .string s] W (RetRgO (revRes P s) false W) from fun W h => by have h9 := impl_Revoke P a4 n4 c4 b4 m4 d4 ia4 im4 ic4 ra4 rm4 rc4 s W (HIB.out.ext h); rw [HL2.out] at h9; exact h9)
      have HIG := Lib.hid (show ∀ W, Ext wB W → Calls Try.prog 16 #[.agg #[.int .i64 P.ch.base, .int .i64 P.ch.states, .int .i64 P.ch.start, .int .i64 P.ch.fin, .slice a4 n4 c4, .slice b4 m4 d4, .int .i64 P.apart, .slice ia4 im4 ic4, .slice ra4 rm4 rc4], .string s] W (RetRgO (issRes P s) false W) from fun W h => by have h9 := impl_IssueGiven P a4 n4 c4 b4 m4 d4 ia4 im4 ic4 ra4 rm4 rc4 s W (HIB.out.ext h) (by omega); rw [HL3.out] at h9; exact h9)
      have HV2 := Lib.hid (show ∀ W, Ext wB W → Calls Try.prog 18 #[.agg #[.int .i64 P.ch.base, .int .i64 P.ch.states, .int .i64 P.ch.start, .int .i64 P.ch.fin, .slice a4 n4 c4, .slice b4 m4 d4, .int .i64 P.apart, .slice ia4 im4 ic4, .slice ra4 rm4 rc4]] W (Ret (.bool true) W) from fun W h => by have h9 := impl_ValidRegistry P a4 n4 c4 b4 m4 d4 ia4 im4 ic4 ra4 rm4 rc4 W (HIB.out.ext h); rw [HL1.out.valid] at h9; exact h9)
      have HS4 := Lib.hid (show Strs wB ia4 im4 ic4 D.issued by have := HIB.out.is; rw [HPi.out] at this; exact this)
      go_wp2_with (first
        | (go_at_call 29; (with_reducible refine (HRv2.out _ (by repeat (first | (with_reducible exact Ext.refl _) | (with_reducible assumption) | (with_reducible refine Ext.drewN ?_ _) | (with_reducible refine Ext.drew ?_) | (with_reducible refine Ext.alloc ?_ _) | ((with_reducible refine Ext.setCell ?_ ?_ _); rotate_left; focus (first | (simp; done) | (simp; omega) | omega)) | (with_reducible refine Ext.trans ?_ (by with_reducible assumption))))).mono ?_); rintro e w6 ⟨a6, n6, c6, b6, m6, d6, ia6, im6, ic6, ra6, rm6, rc6, rfl, hr6, hz6, hy6⟩; have hx6 : Ext wB w6 := Ext.trans (by repeat (first | (with_reducible exact Ext.refl _) | (with_reducible assumption) | (with_reducible refine Ext.drewN ?_ _) | (with_reducible refine Ext.drew ?_) | (with_reducible refine Ext.alloc ?_ _) | ((with_reducible refine Ext.setCell ?_ ?_ _); rotate_left; focus (first | (simp; done) | (simp; omega) | omega)) | (with_reducible refine Ext.trans ?_ (by with_reducible assumption)))) hy6; clear hy6 hr6 hz6)
        | (go_at_call 16; (with_reducible refine (HIG.out _ (by repeat (first | (with_reducible exact Ext.refl _) | (with_reducible assumption) | (with_reducible refine Ext.drewN ?_ _) | (with_reducible refine Ext.drew ?_) | (with_reducible refine Ext.alloc ?_ _) | ((with_reducible refine Ext.setCell ?_ ?_ _); rotate_left; focus (first | (simp; done) | (simp; omega) | omega)) | (with_reducible refine Ext.trans ?_ (by with_reducible assumption))))).mono ?_); rintro e w7 ⟨a7, n7, c7, b7, m7, d7, ia7, im7, ic7, ra7, rm7, rc7, rfl, hr7, hz7, hy7⟩; have hx7 : Ext wB w7 := Ext.trans (by repeat (first | (with_reducible exact Ext.refl _) | (with_reducible assumption) | (with_reducible refine Ext.drewN ?_ _) | (with_reducible refine Ext.drew ?_) | (with_reducible refine Ext.alloc ?_ _) | ((with_reducible refine Ext.setCell ?_ ?_ _); rotate_left; focus (first | (simp; done) | (simp; omega) | omega)) | (with_reducible refine Ext.trans ?_ (by with_reducible assumption)))) hy7; clear hy7 hr7 hz7)
        | (go_at_call 18; (with_reducible refine (HV2.out _ (by repeat (first | (with_reducible exact Ext.refl _) | (with_reducible assumption) | (with_reducible refine Ext.drewN ?_ _) | (with_reducible refine Ext.drew ?_) | (with_reducible refine Ext.alloc ?_ _) | ((with_reducible refine Ext.setCell ?_ ?_ _); rotate_left; focus (first | (simp; done) | (simp; omega) | omega)) | (with_reducible refine Ext.trans ?_ (by with_reducible assumption))))).mono ?_); rintro e w8 ⟨rfl, hy8⟩; have hx8 : Ext wB w8 := Ext.trans (by repeat (first | (with_reducible exact Ext.refl _) | (with_reducible assumption) | (with_reducible refine Ext.drewN ?_ _) | (with_reducible refine Ext.drew ?_) | (with_reducible refine Ext.alloc ?_ _) | ((with_reducible refine Ext.setCell ?_ ?_ _); rotate_left; focus (first | (simp; done) | (simp; omega) | omega)) | (with_reducible refine Ext.trans ?_ (by with_reducible assumption)))) hy8; clear hy8)
        | (go_at_call 19; (with_reducible refine (laws_sameTexts ia4 ia0 im4 ic4 ic0 D.issued _ (Strs.ext HS4.out (by repeat (first | (with_reducible exact Ext.refl _) | (with_reducible assumption) | (with_reducible refine Ext.drewN ?_ _) | (with_reducible refine Ext.drew ?_) | (with_reducible refine Ext.alloc ?_ _) | ((with_reducible refine Ext.setCell ?_ ?_ _); rotate_left; focus (first | (simp; done) | (simp; omega) | omega)) | (with_reducible refine Ext.trans ?_ (by with_reducible assumption))))) (Strs.ext HInB.out.is (by repeat (first | (with_reducible exact Ext.refl _) | (with_reducible assumption) | (with_reducible refine Ext.drewN ?_ _) | (with_reducible refine Ext.drew ?_) | (with_reducible refine Ext.alloc ?_ _) | ((with_reducible refine Ext.setCell ?_ ?_ _); rotate_left; focus (first | (simp; done) | (simp; omega) | omega)) | (with_reducible refine Ext.trans ?_ (by with_reducible assumption))))) (by omega)).mono ?_); rintro e w9 ⟨rfl, hy9⟩; have hx9 : Ext wB w9 := Ext.trans (by repeat (first | (with_reducible exact Ext.refl _) | (with_reducible assumption) | (with_reducible refine Ext.drewN ?_ _) | (with_reducible refine Ext.drew ?_) | (with_reducible refine Ext.alloc ?_ _) | ((with_reducible refine Ext.setCell ?_ ?_ _); rotate_left; focus (first | (simp; done) | (simp; omega) | omega)) | (with_reducible refine Ext.trans ?_ (by with_reducible assumption)))) hy9; clear hy9))
      obtain ⟨bs, os, hixs, hcs⟩ := Strs.ix (P := Try.prog) HInB.out.is 28 9 und_strs cell_str
      have HSt2 := Lib.hid (fun t W (ht : t.size ≤ 1048576) (h : Ext wB W) => impl_StatusOf P a4 n4 c4 b4 m4 d4 ia4 im4 ic4 ra4 rm4 rc4 t W (HIB.out.ext h) ht)
      go_loopw [18, 19, 20, 21, 22] (fun iv _ _ _ _ wr => ∃ k : Nat, k ≤ im4 ∧ iv = .int .i64 k ∧ Ext wB wr) (fun iv _ _ _ _ _ => im4 - (intOf iv).toNat)
      case atStart => exact ⟨0, Nat.zero_le _, rfl, (by repeat (first | (with_reducible exact Ext.refl _) | (with_reducible assumption) | (with_reducible refine Ext.drewN ?_ _) | (with_reducible refine Ext.drew ?_) | (with_reducible refine Ext.alloc ?_ _) | ((with_reducible refine Ext.setCell ?_ ?_ _); rotate_left; focus (first | (simp; done) | (simp; omega) | omega)) | (with_reducible refine Ext.trans ?_ (by with_reducible assumption))))⟩
      case round =>
        obtain ⟨k, hk, rfl, hxr⟩ := hrel
        have hxrr : Ext wr wr := Ext.refl _
        by_cases hlt : k < im4
        · have hkD : k < D.issued.length := by rw [HDl.out]; exact hlt
          have hz20 : (gs D.issued k).size ≤ 1048576 := by have := HOk.out.s20 k hkD; omega
          have h1 := stat_issued HOk.out HVal.out hkD
          have h2 := (stat_issued HL1.out HL1.out.valid (show k < P.issued.length by rw [HPi.out]; exact hkD)).1
          have h3 := HL4.out k hkD
          rw [HPi.out] at h2
          have HA := Lib.hid (fun W (h : Ext wq W) => HSt.out (gs D.issued k) W hz20 h)
          have HBb := Lib.hid (fun W (h : Ext wB W) => HSt2.out (gs D.issued k) W hz20 h)
          rw [h1.1] at HA
          rw [h2, h3] at HBb
          have hxqr : Ext wq wr := hxqB.trans hxr
          generalize statOf D (gs D.issued k) = sa at *
          clear h1 h2 h3 hz20 hkD
          by_cases he : gs D.issued k = s
          · rw [if_pos he] at HBb
            have he2 : ((gs D.issued k).toList == s.toList) = true := by rw [he]; simp
            clear he
            go_wp2_with fail
            (refine wp_region_from wr (by repeat (first | (with_reducible exact Ext.refl _) | (with_reducible refine Ext.drewN ?_ _) | (with_reducible refine Ext.drew ?_) | (with_reducible refine Ext.alloc ?_ _) | ((with_reducible refine Ext.setCell ?_ ?_ _); rotate_left; focus (first | (simp; done) | (simp; omega) | omega)) | assumption | (with_reducible refine Ext.trans ?_ (by assumption)))) (by kernel_rfl) (by kernel_rfl) (by kernel_rfl) ?_; (repeat (first | (refine mix_q rfl ?_; go_big_quiet_step (fail); refine wpQuiet_nil ?_; show wpMix _ _ _ _ _ _ _) | (refine mix_s rfl ?_; go_wp2_with ((go_at_call 23; (with_reducible refine (HA.out _ (by repeat (first | (with_reducible exact Ext.refl _) | (with_reducible assumption) | (with_reducible refine Ext.drewN ?_ _) | (with_reducible refine Ext.drew ?_) | (with_reducible refine Ext.alloc ?_ _) | ((with_reducible refine Ext.setCell ?_ ?_ _); rotate_left; focus (first | (simp; done) | (simp; omega) | omega)) | (with_reducible refine Ext.trans ?_ (by with_reducible assumption))))).mono ?_); rintro e w10 ⟨rfl, hy10⟩; have hx10 : Ext wr w10 := Ext.trans (by repeat (first | (with_reducible exact Ext.refl _) | (with_reducible assumption) | (with_reducible refine Ext.drewN ?_ _) | (with_reducible refine Ext.drew ?_) | (with_reducible refine Ext.alloc ?_ _) | ((with_reducible refine Ext.setCell ?_ ?_ _); rotate_left; focus (first | (simp; done) | (simp; omega) | omega)) | (with_reducible refine Ext.trans ?_ (by with_reducible assumption)))) hy10; clear hy10)); first | refine ⟨up_of (by repeat (first | (with_reducible exact Ext.refl _) | (with_reducible refine Ext.drewN ?_ _) | (with_reducible refine Ext.drew ?_) | (with_reducible refine Ext.alloc ?_ _) | ((with_reducible refine Ext.setCell ?_ ?_ _); rotate_left; focus (first | (simp; done) | (simp; omega) | omega)) | assumption | (with_reducible refine Ext.trans ?_ (by assumption)))), ?_⟩ | refine ⟨rfl, rfl, up_of (by repeat (first | (with_reducible exact Ext.refl _) | (with_reducible refine Ext.drewN ?_ _) | (with_reducible refine Ext.drew ?_) | (with_reducible refine Ext.alloc ?_ _) | ((with_reducible refine Ext.setCell ?_ ?_ _); rotate_left; focus (first | (simp; done) | (simp; omega) | omega)) | assumption | (with_reducible refine Ext.trans ?_ (by assumption)))), ?_⟩))); refine mix_nil ?_)
            have hxb10 : Ext wB w10 := hxr.trans hx10
            have hxq10 : Ext wq w10 := hxqB.trans hxb10
            go_wp2_with fail
            (refine wp_region_from w10 (by repeat (first | (with_reducible exact Ext.refl _) | (with_reducible refine Ext.drewN ?_ _) | (with_reducible refine Ext.drew ?_) | (with_reducible refine Ext.alloc ?_ _) | ((with_reducible refine Ext.setCell ?_ ?_ _); rotate_left; focus (first | (simp; done) | (simp; omega) | omega)) | assumption | (with_reducible refine Ext.trans ?_ (by assumption)))) (by kernel_rfl) (by kernel_rfl) (by kernel_rfl) ?_; (repeat (first | (refine mix_q rfl ?_; go_big_quiet_step (fail); refine wpQuiet_nil ?_; show wpMix _ _ _ _ _ _ _) | (refine mix_s rfl ?_; go_wp2_with ((go_at_call 23; (with_reducible refine (HBb.out _ (by repeat (first | (with_reducible exact Ext.refl _) | (with_reducible assumption) | (with_reducible refine Ext.drewN ?_ _) | (with_reducible refine Ext.drew ?_) | (with_reducible refine Ext.alloc ?_ _) | ((with_reducible refine Ext.setCell ?_ ?_ _); rotate_left; focus (first | (simp; done) | (simp; omega) | omega)) | (with_reducible refine Ext.trans ?_ (by with_reducible assumption))))).mono ?_); rintro e w11 ⟨rfl, hy11⟩; have hx11 : Ext w10 w11 := Ext.trans (by repeat (first | (with_reducible exact Ext.refl _) | (with_reducible assumption) | (with_reducible refine Ext.drewN ?_ _) | (with_reducible refine Ext.drew ?_) | (with_reducible refine Ext.alloc ?_ _) | ((with_reducible refine Ext.setCell ?_ ?_ _); rotate_left; focus (first | (simp; done) | (simp; omega) | omega)) | (with_reducible refine Ext.trans ?_ (by with_reducible assumption)))) hy11; clear hy11)); first | refine ⟨up_of (by repeat (first | (with_reducible exact Ext.refl _) | (with_reducible refine Ext.drewN ?_ _) | (with_reducible refine Ext.drew ?_) | (with_reducible refine Ext.alloc ?_ _) | ((with_reducible refine Ext.setCell ?_ ?_ _); rotate_left; focus (first | (simp; done) | (simp; omega) | omega)) | assumption | (with_reducible refine Ext.trans ?_ (by assumption)))), ?_⟩ | refine ⟨rfl, rfl, up_of (by repeat (first | (with_reducible exact Ext.refl _) | (with_reducible refine Ext.drewN ?_ _) | (with_reducible refine Ext.drew ?_) | (with_reducible refine Ext.alloc ?_ _) | ((with_reducible refine Ext.setCell ?_ ?_ _); rotate_left; focus (first | (simp; done) | (simp; omega) | omega)) | assumption | (with_reducible refine Ext.trans ?_ (by assumption)))), ?_⟩))); refine mix_nil ?_)
            have hxb11 : Ext wB w11 := hxb10.trans hx11
            go_wp2_with fail
            exact ⟨⟨k + 1, by omega, by go_num, (by repeat (first | (with_reducible exact Ext.refl _) | (with_reducible assumption) | (with_reducible refine Ext.drewN ?_ _) | (with_reducible refine Ext.drew ?_) | (with_reducible refine Ext.alloc ?_ _) | ((with_reducible refine Ext.setCell ?_ ?_ _); rotate_left; focus (first | (simp; done) | (simp; omega) | omega)) | (with_reducible refine Ext.trans ?_ (by with_reducible assumption))))⟩, by simp [intOf]; omega⟩
          · rw [if_neg he] at HBb
            have he2 : ((gs D.issued k).toList == s.toList) = false := by
              cases hq : ((gs D.issued k).toList == s.toList) with
              | false => rfl
              | true =>
                have h2 := beq_iff_eq.1 hq
                simp only [ByteArray.toList_eq] at h2
                exact absurd (ByteArray.ext (Array.toList_inj.1 h2)) he
            clear he
            go_wp2_with fail
            (refine wp_region_from wr (by repeat (first | (with_reducible exact Ext.refl _) | (with_reducible refine Ext.drewN ?_ _) | (with_reducible refine Ext.drew ?_) | (with_reducible refine Ext.alloc ?_ _) | ((with_reducible refine Ext.setCell ?_ ?_ _); rotate_left; focus (first | (simp; done) | (simp; omega) | omega)) | assumption | (with_reducible refine Ext.trans ?_ (by assumption)))) (by kernel_rfl) (by kernel_rfl) (by kernel_rfl) ?_; (repeat (first | (refine mix_q rfl ?_; go_big_quiet_step (fail); refine wpQuiet_nil ?_; show wpMix _ _ _ _ _ _ _) | (refine mix_s rfl ?_; go_wp2_with ((go_at_call 23; (with_reducible refine (HA.out _ (by repeat (first | (with_reducible exact Ext.refl _) | (with_reducible assumption) | (with_reducible refine Ext.drewN ?_ _) | (with_reducible refine Ext.drew ?_) | (with_reducible refine Ext.alloc ?_ _) | ((with_reducible refine Ext.setCell ?_ ?_ _); rotate_left; focus (first | (simp; done) | (simp; omega) | omega)) | (with_reducible refine Ext.trans ?_ (by with_reducible assumption))))).mono ?_); rintro e w10 ⟨rfl, hy10⟩; have hx10 : Ext wr w10 := Ext.trans (by repeat (first | (with_reducible exact Ext.refl _) | (with_reducible assumption) | (with_reducible refine Ext.drewN ?_ _) | (with_reducible refine Ext.drew ?_) | (with_reducible refine Ext.alloc ?_ _) | ((with_reducible refine Ext.setCell ?_ ?_ _); rotate_left; focus (first | (simp; done) | (simp; omega) | omega)) | (with_reducible refine Ext.trans ?_ (by with_reducible assumption)))) hy10; clear hy10)); first | refine ⟨up_of (by repeat (first | (with_reducible exact Ext.refl _) | (with_reducible refine Ext.drewN ?_ _) | (with_reducible refine Ext.drew ?_) | (with_reducible refine Ext.alloc ?_ _) | ((with_reducible refine Ext.setCell ?_ ?_ _); rotate_left; focus (first | (simp; done) | (simp; omega) | omega)) | assumption | (with_reducible refine Ext.trans ?_ (by assumption)))), ?_⟩ | refine ⟨rfl, rfl, up_of (by repeat (first | (with_reducible exact Ext.refl _) | (with_reducible refine Ext.drewN ?_ _) | (with_reducible refine Ext.drew ?_) | (with_reducible refine Ext.alloc ?_ _) | ((with_reducible refine Ext.setCell ?_ ?_ _); rotate_left; focus (first | (simp; done) | (simp; omega) | omega)) | assumption | (with_reducible refine Ext.trans ?_ (by assumption)))), ?_⟩))); refine mix_nil ?_)
            have hxb10 : Ext wB w10 := hxr.trans hx10
            have hxq10 : Ext wq w10 := hxqB.trans hxb10
            go_wp2_with fail
            (refine wp_region_from w10 (by repeat (first | (with_reducible exact Ext.refl _) | (with_reducible refine Ext.drewN ?_ _) | (with_reducible refine Ext.drew ?_) | (with_reducible refine Ext.alloc ?_ _) | ((with_reducible refine Ext.setCell ?_ ?_ _); rotate_left; focus (first | (simp; done) | (simp; omega) | omega)) | assumption | (with_reducible refine Ext.trans ?_ (by assumption)))) (by kernel_rfl) (by kernel_rfl) (by kernel_rfl) ?_; (repeat (first | (refine mix_q rfl ?_; go_big_quiet_step (fail); refine wpQuiet_nil ?_; show wpMix _ _ _ _ _ _ _) | (refine mix_s rfl ?_; go_wp2_with ((go_at_call 23; (with_reducible refine (HBb.out _ (by repeat (first | (with_reducible exact Ext.refl _) | (with_reducible assumption) | (with_reducible refine Ext.drewN ?_ _) | (with_reducible refine Ext.drew ?_) | (with_reducible refine Ext.alloc ?_ _) | ((with_reducible refine Ext.setCell ?_ ?_ _); rotate_left; focus (first | (simp; done) | (simp; omega) | omega)) | (with_reducible refine Ext.trans ?_ (by with_reducible assumption))))).mono ?_); rintro e w11 ⟨rfl, hy11⟩; have hx11 : Ext w10 w11 := Ext.trans (by repeat (first | (with_reducible exact Ext.refl _) | (with_reducible assumption) | (with_reducible refine Ext.drewN ?_ _) | (with_reducible refine Ext.drew ?_) | (with_reducible refine Ext.alloc ?_ _) | ((with_reducible refine Ext.setCell ?_ ?_ _); rotate_left; focus (first | (simp; done) | (simp; omega) | omega)) | (with_reducible refine Ext.trans ?_ (by with_reducible assumption)))) hy11; clear hy11)); first | refine ⟨up_of (by repeat (first | (with_reducible exact Ext.refl _) | (with_reducible refine Ext.drewN ?_ _) | (with_reducible refine Ext.drew ?_) | (with_reducible refine Ext.alloc ?_ _) | ((with_reducible refine Ext.setCell ?_ ?_ _); rotate_left; focus (first | (simp; done) | (simp; omega) | omega)) | assumption | (with_reducible refine Ext.trans ?_ (by assumption)))), ?_⟩ | refine ⟨rfl, rfl, up_of (by repeat (first | (with_reducible exact Ext.refl _) | (with_reducible refine Ext.drewN ?_ _) | (with_reducible refine Ext.drew ?_) | (with_reducible refine Ext.alloc ?_ _) | ((with_reducible refine Ext.setCell ?_ ?_ _); rotate_left; focus (first | (simp; done) | (simp; omega) | omega)) | assumption | (with_reducible refine Ext.trans ?_ (by assumption)))), ?_⟩))); refine mix_nil ?_)
            have hxb11 : Ext wB w11 := hxb10.trans hx11
            go_wp2_with fail
            exact ⟨⟨k + 1, by omega, by go_num, (by repeat (first | (with_reducible exact Ext.refl _) | (with_reducible assumption) | (with_reducible refine Ext.drewN ?_ _) | (with_reducible refine Ext.drew ?_) | (with_reducible refine Ext.alloc ?_ _) | ((with_reducible refine Ext.setCell ?_ ?_ _); rotate_left; focus (first | (simp; done) | (simp; omega) | omega)) | (with_reducible refine Ext.trans ?_ (by with_reducible assumption))))⟩, by simp [intOf]; omega⟩
        · go_wp2_with fail
          go_ret
          exact ⟨rfl, (hxwq.trans hxqB).trans (by repeat (first | (with_reducible exact Ext.refl _) | (with_reducible assumption) | (with_reducible refine Ext.drewN ?_ _) | (with_reducible refine Ext.drew ?_) | (with_reducible refine Ext.alloc ?_ _) | ((with_reducible refine Ext.setCell ?_ ?_ _); rotate_left; focus (first | (simp; done) | (simp; omega) | omega)) | (with_reducible refine Ext.trans ?_ (by with_reducible assumption))))⟩
end Go.Proofs.Ytcdoanookiimaaa
namespace Go.Proofs.Ytcdoanookiimaaa.fnRevoked
set_option maxRecDepth 100000
open Go.ChangeShapes Go.WideShapes Go.ChangeAt Go.RowKit
open Go.ChangeMaps (open_string shut_string)
set_option linter.unusedVariables false

set_option maxRecDepth 100000 in
theorem lifted (os : Os) (started : os.Started) (H : Type) (enc : TypeId × Value → H) :
    ReturnsInHanded {} Try.checked os 5 .any (Rows.fnRevokedSpec.pre6 enc Try.prog Try.f5 Rows.fnRevokedRow.domain false) (Rows.fnRevokedSpec.post enc Try.prog Try.f5 false true false false) := by
  refine returnsInHanded_of_change (C := Try.checked) own started (by kernel_rfl) Try.func5
    (ChangeSpec.witness6 (enc := enc) (C := Try.checked) false ⟨#[], #[.slice none 0 0, .slice none 0 0], []⟩ 8 (by kernel_rfl) (by kernel_rfl) (by kernel_rfl) (by kernel_rfl)) ?_
  intro W base args ds gs before hval0 hW hcnd _
  have hval : ∀ (j : Nat) t v, Try.f5.params[j]? = some t → args[j]? = some v → Value.okWide Try.prog W .any base t v := hval0
  have hW' := hW
  obtain ⟨p, q, hA0, hV, rfl, hfz, hnd⟩ := hW
  have hA : DataW.TrodAll enc Try.prog W 0 (fun _ => true) true Try.f5.params.toList args.toList ds p := hA0
  rw [Try.params5] at hA hval
  obtain ⟨v0, vs0, d0, ds0, p0, q0, hargs, rfl, rfl, h0, r0⟩ := trodAll_cons hA
  obtain ⟨v1, vs1, d1, ds1, p1, q1, rfl, rfl, rfl, h1, r1⟩ := trodAll_cons r0
  obtain ⟨rfl, rfl, rfl⟩ := trodAll_nil r1
  obtain rfl : args = #[v0, v1] := by cases args; simp_all
  obtain ⟨rfl, rfl⟩ := trodVars_none hV
  have k0 := h0
  have lt0 : ∀ x ∈ p0, x.block < W.heap.size := by obtain ⟨m, hm⟩ := k0; exact DataW.trod_lt m _ _ _ hm
  obtain ⟨a0, n0, c0, l0, rfl, hi0, hn0⟩ := opn_bytes (hval 0 22 v0 rfl rfl) h0
  have k1 := h1
  have lt1 : ∀ x ∈ p1, x.block < W.heap.size := by obtain ⟨m, hm⟩ := k1; exact DataW.trod_lt m _ _ _ hm
  obtain ⟨a1, n1, c1, l1, rfl, hi1, hn1⟩ := opn_bytes (hval 1 22 v1 rfl rfl) h1
  clear hA0 hval0
  refine (lawRevoked a0 n0 c0 l0 a1 n1 c1 l1 W hi0 hn0 hi1 hn1).mono fun e W' ⟨he, bel⟩ => ?_
  subst he
  exact ⟨_, rfl, _, _, _, [], _, [], hW', trodAll_mk1 (shut_bool Try.underlying4 _), (trodAll_cons_mk (Below.trod laidOut (by kernel_rfl) (of_decide_eq_true (by kernel_rfl)) k0 bel lt0) (trodAll_cons_mk (Below.trod laidOut (by kernel_rfl) (of_decide_eq_true (by kernel_rfl)) k1 bel lt1) trodAll_mk0)), rfl, bel.frame _, fun h => by cases h⟩

theorem proved : Rows.FnRevokedSaid :=
  OpenClaim.holds_of_wide 5 Try.f5 rfl rfl rfl rfl rfl rfl rfl ⟨rfl, rfl, rfl, rfl, rfl⟩ rfl rfl rfl rfl rfl (by kernel_rfl) Try.func5 (by kernel_rfl)
    (of_decide_eq_true (by kernel_rfl)) (by unfold Func.isWrapper; first | (rw [if_pos (by decide +kernel)]; kernel_rfl) | (rw [if_neg (by decide +kernel)]; exact ⟨rfl, rfl⟩))
    (fun os started H enc _ => lifted os started H enc)
end Go.Proofs.Ytcdoanookiimaaa.fnRevoked
