/- A word that has been issued and is not revoked is found from each word whose edit distance is at most the radius, here with at most one edit; and nearest words are as far as told. Conditions: none. -/
import Derived.Test.YtcdoanookiimaaaR8R
import Derived.Test.YtcdoanookiimaaaR8
import Derived.Test.YtcdoanookiimaaaFndP
import Derived.Test.YtcdoanookiimaaaNear
import Derived.Test.YtcdoanookiimaaaOpen
import Derived.Test.YtcdoanookiimaaaOpenB
namespace Go.Proofs.Ytcdoanookiimaaa
set_option maxRecDepth 100000
open Go.RowKit

/-- the typed word -/
def TypedCut (wq : World) (s : ByteArray) (rd : Nat) (v : Value) (wx : World) : Prop := ∃ t : ByteArray, v = .string t ∧ distS t s ≤ rd ∧ t.size ≤ 20 ∧ wordB t.data.toList 36 20 = true ∧ Ext wq wx
set_option maxHeartbeats 16000000 in
theorem lawFound (a : Option Addr) (n c : Nat) (l : List UInt8) (a' : Option Addr) (n' c' : Nat) (l' : List UInt8) (w : World) (hv : Bytes w a n c l) (hn : n ≤ 9223372036854775807) (hv' : Bytes w a' n' c' l') (hn' : n' ≤ 9223372036854775807) :
    Calls Try.prog 4 #[.slice a n c, .slice a' n' c'] w (Ret (.bool true) w) := by
  have HLong := Lib.hid (laws_r8Long a a' n c n' c' w hn hn')
  have HB := Lib.hid hv
  have HB' := Lib.hid hv'
  clear hv hv'
  by_cases hlong : 48 < n ∨ 48 < n'
  · rw [decide_eq_true hlong] at HLong
    clear hlong
    go_enter Try.func4, Try.ntmps4
    go_wp2_with (refine HLong.out.mono ?_; rintro e w1 ⟨rfl, rfl⟩)
    go_ret
    exact ⟨rfl, Ext.refl _⟩
  rw [decide_eq_false hlong] at HLong
  have hn48 : n ≤ 48 ∧ n' ≤ 48 := by omega
  clear hlong
  go_enter Try.func4, Try.ntmps4
  go_upto_region 4 with (first | (go_at_call 11; refine HLong.out.mono ?_; rintro e w1 ⟨rfl, rfl⟩) | (go_at_call 12; (with_reducible refine (spec_R8Rg a n c l w HB.out (by omega)).mono ?_); rintro e w1 ⟨D, a0, n0, c0, b0, m0, d0, ia0, im0, ic0, ra0, rm0, rc0, rfl, hval, hi5, ha1, ha3, hb2, hb4, hm1, hm5, hn3, hin, hx1⟩))
  have HOk := Lib.hid (validRg_ok hval)
  have HDl := Lib.hid (show D.issued.length = im0 from hin.is.len)
  have HRl := Lib.hid (show D.revoked.length = rm0 from hin.rs.len)
  have HMl := Lib.hid (show D.ch.places.length = m0 from hin.ch.ps.len)
  obtain ⟨q5, hq5⟩ : ∃ q, q = w1.heap.size := ⟨_, rfl⟩
  obtain ⟨wq, hwq⟩ : ∃ W, W = w1.alloc (.cells #[.int .i64 D.ch.base, .int .i64 D.ch.states, .int .i64 D.ch.start, .int .i64 D.ch.fin, .slice a0 n0 c0, .slice b0 m0 d0, .int .i64 D.apart, .slice ia0 im0 ic0, .slice ra0 rm0 rc0] 30) := ⟨_, rfl⟩
  rw [← hwq, ← hq5]
  have hxq : Ext w1 wq := by rw [hwq]; exact (Ext.refl _).alloc _
  have HQ5 := Lib.hid (show SAt wq q5 30 #[.int .i64 D.ch.base, .int .i64 D.ch.states, .int .i64 D.ch.start, .int .i64 D.ch.fin, .slice a0 n0 c0, .slice b0 m0 d0, .int .i64 D.apart, .slice ia0 im0 ic0, .slice ra0 rm0 rc0] by rw [hwq]; exact SAt.new' _ _ _ hq5)
  have HInQ := Lib.hid (hin.ext hxq)
  have hxwq : Ext w wq := hx1.trans hxq
  have hxqq : Ext wq wq := Ext.refl _
  have HVal := Lib.hid hval
  clear hin hval hwq hq5 hxq hx1 HLong HB
  have v0 := fun w' (hx : Ext wq w') => (HQ5.out.ext hx).cell 0 (by simp)
  have v1 := fun w' (hx : Ext wq w') => (HQ5.out.ext hx).cell 1 (by simp)
  have v2 := fun w' (hx : Ext wq w') => (HQ5.out.ext hx).cell 2 (by simp)
  have v3 := fun w' (hx : Ext wq w') => (HQ5.out.ext hx).cell 3 (by simp)
  have v4 := fun w' (hx : Ext wq w') => (HQ5.out.ext hx).cell 4 (by simp)
  have v5 := fun w' (hx : Ext wq w') => (HQ5.out.ext hx).cell 5 (by simp)
  have v6 := fun w' (hx : Ext wq w') => (HQ5.out.ext hx).cell 6 (by simp)
  have v7 := fun w' (hx : Ext wq w') => (HQ5.out.ext hx).cell 7 (by simp)
  have v8 := fun w' (hx : Ext wq w') => (HQ5.out.ext hx).cell 8 (by simp)
  try simp only [List.getElem_toArray, List.getElem_cons_succ, List.getElem_cons_zero] at v0 v1 v2 v3 v4 v5 v6 v7 v8
  obtain ⟨rd, hrd⟩ : ∃ rd : Nat, (D.apart - 1) / 2 = (rd : Int) := Int.eq_ofNat_of_zero_le (by omega)
  have hrd1 : rd ≤ 1 := by omega
  have htd : (D.apart - 1).tdiv 2 = (rd : Int) := by rw [Int.tdiv_eq_ediv_of_nonneg (by omega)]; exact hrd
  have HRa := Lib.hid (show ∀ W, Ext wq W → Calls Try.prog 21 #[.agg #[.int .i64 D.ch.base, .int .i64 D.ch.states, .int .i64 D.ch.start, .int .i64 D.ch.fin, .slice a0 n0 c0, .slice b0 m0 d0, .int .i64 D.apart, .slice ia0 im0 ic0, .slice ra0 rm0 rc0]] W (Ret2 (.int .i64 rd) (.bool true) W) from fun W h => by have h9 := impl_RadiusOf D a0 n0 c0 b0 m0 d0 ia0 im0 ic0 ra0 rm0 rc0 W (HInQ.out.ext h); rw [HVal.out, radRes, HVal.out, if_pos rfl, hrd] at h9; exact h9)
  have HNr := Lib.hid (fun t W (ht : t.size ≤ 1048576) (h : Ext wq W) => impl_Nearest D a0 n0 c0 b0 m0 d0 ia0 im0 ic0 ra0 rm0 rc0 t W (HInQ.out.ext h) ht)
  by_cases h0 : im0 = 0
  · have HN0 := Lib.hid (fun W (h : Ext wq W) => HNr.out ⟨#[48]⟩ W (by decide) h)
    rw [show nearB D ⟨#[48]⟩ = false by rw [nearB, HDl.out, h0, decide_eq_true ((near_neg 0).2 (fun j hj => by omega))]; simp] at HN0
    have hb0 : ((im0 : Int) == 0) = true := by simp [h0]
    clear h0
    go_wp2_with (first | (go_at_call 21; (with_reducible refine (HRa.out _ (by repeat (first | (with_reducible exact Ext.refl _) | (with_reducible assumption) | (with_reducible refine Ext.drewN ?_ _) | (with_reducible refine Ext.drew ?_) | (with_reducible refine Ext.alloc ?_ _) | ((with_reducible refine Ext.setCell ?_ ?_ _); rotate_left; focus (first | (simp; done) | (simp; omega) | omega)) | (with_reducible refine Ext.trans ?_ (by with_reducible assumption))))).mono ?_); rintro e w2 ⟨rfl, hy2⟩; have hx2 : Ext wq w2 := Ext.trans (by repeat (first | (with_reducible exact Ext.refl _) | (with_reducible assumption) | (with_reducible refine Ext.drewN ?_ _) | (with_reducible refine Ext.drew ?_) | (with_reducible refine Ext.alloc ?_ _) | ((with_reducible refine Ext.setCell ?_ ?_ _); rotate_left; focus (first | (simp; done) | (simp; omega) | omega)) | (with_reducible refine Ext.trans ?_ (by with_reducible assumption)))) hy2; clear hy2) | (go_at_call 22; (with_reducible refine (HN0.out _ (by repeat (first | (with_reducible exact Ext.refl _) | (with_reducible assumption) | (with_reducible refine Ext.drewN ?_ _) | (with_reducible refine Ext.drew ?_) | (with_reducible refine Ext.alloc ?_ _) | ((with_reducible refine Ext.setCell ?_ ?_ _); rotate_left; focus (first | (simp; done) | (simp; omega) | omega)) | (with_reducible refine Ext.trans ?_ (by with_reducible assumption))))).mono ?_); rintro e w3 ⟨a3, c3, rfl, ho3, hy3⟩; have hx3 : Ext wq w3 := Ext.trans (by repeat (first | (with_reducible exact Ext.refl _) | (with_reducible assumption) | (with_reducible refine Ext.drewN ?_ _) | (with_reducible refine Ext.drew ?_) | (with_reducible refine Ext.alloc ?_ _) | ((with_reducible refine Ext.setCell ?_ ?_ _); rotate_left; focus (first | (simp; done) | (simp; omega) | omega)) | (with_reducible refine Ext.trans ?_ (by with_reducible assumption)))) hy3; clear hy3 ho3))
    go_ret
    exact ⟨rfl, hxwq.trans (by repeat (first | (with_reducible exact Ext.refl _) | (with_reducible assumption) | (with_reducible refine Ext.drewN ?_ _) | (with_reducible refine Ext.drew ?_) | (with_reducible refine Ext.alloc ?_ _) | ((with_reducible refine Ext.setCell ?_ ?_ _); rotate_left; focus (first | (simp; done) | (simp; omega) | omega)) | (with_reducible refine Ext.trans ?_ (by with_reducible assumption))))⟩
  · have hb0 : ((im0 : Int) == 0) = false := by simp; omega
    have hz0 := r8_bd l' 0 im0 (by omega)
    have HR0 := Lib.hid (fun W (h : Ext wq W) => laws_r8 a' n' c' l' 0 (im0 : Int) W (HB'.out.ext (hxwq.trans h)) (by omega) (by omega) (by omega))
    generalize r8 l' 0 im0 = r0 at *
    obtain ⟨i, rfl⟩ := Int.eq_ofNat_of_zero_le hz0.1
    have him : i < im0 := by omega
    clear hz0 h0
    have hiD : i < D.issued.length := by rw [HDl.out]; exact him
    have hck := HOk.out.chk i hiD
    have hsz : (gs D.issued i).size ≤ 5 ∧ 1 ≤ (gs D.issued i).size := by have := HOk.out.size i hiD; rw [HMl.out] at this; omega
    have hst := stat_issued HOk.out HVal.out hiD
    have hws : wordB (gs D.issued i).data.toList 36 20 = true := by
      unfold chkB runOk wordCh at hck
      simp only [Bool.and_eq_true] at hck
      have h1 := hck.1.2.1
      unfold wordB at h1
      simp only [Bool.and_eq_true, List.all_eq_true, decide_eq_true_eq] at h1
      refine wordB_t.2 ⟨fun c hc' => ?_, h1.2.2⟩
      have h2 := inB_t.1 (h1.1 c hc')
      exact inB_t.2 (by omega)
    have HFL := Lib.hid (fun t (ht : wordB t.data.toList 36 20 = true) (hd : distS t (gs D.issued i) ≤ rd) => found_law HOk.out hiD ht hd hrd)
    have HSt := Lib.hid (fun t W (ht : t.size ≤ 1048576) (h : Ext wq W) => impl_StatusOf D a0 n0 c0 b0 m0 d0 ia0 im0 ic0 ra0 rm0 rc0 t W (HInQ.out.ext h) ht)
    have HSs := Lib.hid (fun W (h : Ext wq W) => HSt.out (gs D.issued i) W (by omega) h)
    rw [hst.1, hst.2] at HSs
    obtain ⟨bs, os, hixs, hcs⟩ := Strs.ix (P := Try.prog) HInQ.out.is 28 9 und_strs cell_str
    have hix9 := fun K W => hixs (i : Int) K W (by omega) (by omega)
    rw [Int.toNat_natCast] at hix9
    have hcs9 := fun W (h : Ext wq W) => hcs i W him h
    clear hixs hcs
    obtain ⟨s, hs⟩ : ∃ s, s = gs D.issued i := ⟨_, rfl⟩
    rw [← hs] at hcs9 HSs HFL hws hsz
    have HWs := Lib.hid hws
    obtain ⟨st, hst2⟩ : ∃ st : Int, st = (if revHas D i then 2 else 1) := ⟨_, rfl⟩
    rw [← hst2] at HSs
    have HS2 := Lib.hid hst2
    clear hs hst hck hws hiD hst2
    go_upto_region 10 with (first | (go_at_call 21; (with_reducible refine (HRa.out _ (by repeat (first | (with_reducible exact Ext.refl _) | (with_reducible assumption) | (with_reducible refine Ext.drewN ?_ _) | (with_reducible refine Ext.drew ?_) | (with_reducible refine Ext.alloc ?_ _) | ((with_reducible refine Ext.setCell ?_ ?_ _); rotate_left; focus (first | (simp; done) | (simp; omega) | omega)) | (with_reducible refine Ext.trans ?_ (by with_reducible assumption))))).mono ?_); rintro e w2 ⟨rfl, hy2⟩; have hx2 : Ext wq w2 := Ext.trans (by repeat (first | (with_reducible exact Ext.refl _) | (with_reducible assumption) | (with_reducible refine Ext.drewN ?_ _) | (with_reducible refine Ext.drew ?_) | (with_reducible refine Ext.alloc ?_ _) | ((with_reducible refine Ext.setCell ?_ ?_ _); rotate_left; focus (first | (simp; done) | (simp; omega) | omega)) | (with_reducible refine Ext.trans ?_ (by with_reducible assumption)))) hy2; clear hy2))
    (refine wp_region_from w2 (by repeat (first | (with_reducible exact Ext.refl _) | (with_reducible refine Ext.drewN ?_ _) | (with_reducible refine Ext.drew ?_) | (with_reducible refine Ext.alloc ?_ _) | ((with_reducible refine Ext.setCell ?_ ?_ _); rotate_left; focus (first | (simp; done) | (simp; omega) | omega)) | assumption | (with_reducible refine Ext.trans ?_ (by assumption)))) (by kernel_rfl) (by kernel_rfl) (by kernel_rfl) ?_; (repeat (first | (refine mix_q rfl ?_; go_big_quiet_step (fail); refine wpQuiet_nil ?_; show wpMix _ _ _ _ _ _ _) | (refine mix_s rfl ?_; go_wp2_with ((go_at_call 13; (with_reducible refine (HR0.out _ (by repeat (first | (with_reducible exact Ext.refl _) | (with_reducible assumption) | (with_reducible refine Ext.drewN ?_ _) | (with_reducible refine Ext.drew ?_) | (with_reducible refine Ext.alloc ?_ _) | ((with_reducible refine Ext.setCell ?_ ?_ _); rotate_left; focus (first | (simp; done) | (simp; omega) | omega)) | (with_reducible refine Ext.trans ?_ (by with_reducible assumption))))).mono ?_); rintro e w3 ⟨rfl, rfl⟩)); first | refine ⟨up_of (by repeat (first | (with_reducible exact Ext.refl _) | (with_reducible refine Ext.drewN ?_ _) | (with_reducible refine Ext.drew ?_) | (with_reducible refine Ext.alloc ?_ _) | ((with_reducible refine Ext.setCell ?_ ?_ _); rotate_left; focus (first | (simp; done) | (simp; omega) | omega)) | assumption | (with_reducible refine Ext.trans ?_ (by assumption)))), ?_⟩ | refine ⟨rfl, rfl, up_of (by repeat (first | (with_reducible exact Ext.refl _) | (with_reducible refine Ext.drewN ?_ _) | (with_reducible refine Ext.drew ?_) | (with_reducible refine Ext.alloc ?_ _) | ((with_reducible refine Ext.setCell ?_ ?_ _); rotate_left; focus (first | (simp; done) | (simp; omega) | omega)) | assumption | (with_reducible refine Ext.trans ?_ (by assumption)))), ?_⟩))); refine mix_nil ?_)
    go_upto_if 76 with (go_at_call 23; (with_reducible refine (HSs.out _ (by repeat (first | (with_reducible exact Ext.refl _) | (with_reducible assumption) | (with_reducible refine Ext.drewN ?_ _) | (with_reducible refine Ext.drew ?_) | (with_reducible refine Ext.alloc ?_ _) | ((with_reducible refine Ext.setCell ?_ ?_ _); rotate_left; focus (first | (simp; done) | (simp; omega) | omega)) | (with_reducible refine Ext.trans ?_ (by with_reducible assumption))))).mono ?_); rintro e w4 ⟨rfl, hy4⟩; have hx4 : Ext wq w4 := Ext.trans (by repeat (first | (with_reducible exact Ext.refl _) | (with_reducible assumption) | (with_reducible refine Ext.drewN ?_ _) | (with_reducible refine Ext.drew ?_) | (with_reducible refine Ext.alloc ?_ _) | ((with_reducible refine Ext.setCell ?_ ?_ _); rotate_left; focus (first | (simp; done) | (simp; omega) | omega)) | (with_reducible refine Ext.trans ?_ (by with_reducible assumption)))) hy4; clear hy4)
    go_cut [14] from 77 to 121 (fun s14 wx => TypedCut wq s rd s14 wx)
    case first =>
      by_cases hr : 0 < rd
      · have hz1 := r8_bd l' 1 s.size (by omega)
        have HR1 := Lib.hid (fun W (h : Ext wq W) => laws_r8 a' n' c' l' 1 (s.size : Int) W (HB'.out.ext (hxwq.trans h)) (by omega) (by omega) (by omega))
        generalize r8 l' 1 s.size = r1 at *
        obtain ⟨j, rfl⟩ := Int.eq_ofNat_of_zero_le hz1.1
        have hj : j < s.size := by omega
        have hz2 := r8_bd l' 2 D.ch.base (by omega)
        have HR2 := Lib.hid (fun W (h : Ext wq W) => laws_r8 a' n' c' l' 2 D.ch.base W (HB'.out.ext (hxwq.trans h)) (by omega) (by omega) (by omega))
        generalize r8 l' 2 D.ch.base = z at *
        have HSy := Lib.hid (fun W => laws_r8Symbol z W hz2.1 (by omega))
        have hu1 : (textOf [z]).size = 1 := textOf_size _
        have hwu : wordB (textOf [z]).data.toList 36 20 = true := word_sym hz2.1 (by omega)
        obtain ⟨u, hu⟩ : ∃ u, u = textOf [z] := ⟨_, rfl⟩
        rw [← hu] at HSy hu1 hwu
        have HWu := Lib.hid hwu
        have hz3 := r8_bd l' 3 3 (by omega)
        have HR3 := Lib.hid (fun W (h : Ext wq W) => laws_r8 a' n' c' l' 3 3 W (HB'.out.ext (hxwq.trans h)) (by omega) (by omega) (by omega))
        generalize r8 l' 3 3 = sw at *
        obtain rfl : rd = 1 := by omega
        have HM := Lib.hid (And.intro (dist_more s u j hu1) (word_mid (i := j) (j := j) HWs.out (by omega) HWu.out hu1 (by omega) (Nat.le_refl _)))
        have HLs := Lib.hid (And.intro (dist_less s j) (word_less (i := j) (j := j + 1) HWs.out (by omega) (by omega)))
        have HT := Lib.hid (And.intro (dist_turn s u j hu1 hj) (word_mid (i := j) (j := j + 1) HWs.out (by omega) HWu.out hu1 (by omega) (by omega)))
        clear hu hwu hz1 hz2
        have h3 : sw = 0 ∨ sw = 1 ∨ sw = 2 := by omega
        clear hz3
        rcases h3 with rfl | rfl | rfl
        · go_wp2_with (first | (go_at_call 13; first | ((with_reducible refine (HR1.out _ (by repeat (first | (with_reducible exact Ext.refl _) | (with_reducible assumption) | (with_reducible refine Ext.drewN ?_ _) | (with_reducible refine Ext.drew ?_) | (with_reducible refine Ext.alloc ?_ _) | ((with_reducible refine Ext.setCell ?_ ?_ _); rotate_left; focus (first | (simp; done) | (simp; omega) | omega)) | (with_reducible refine Ext.trans ?_ (by with_reducible assumption))))).mono ?_); rintro e w5 ⟨rfl, rfl⟩) | ((with_reducible refine (HR2.out _ (by repeat (first | (with_reducible exact Ext.refl _) | (with_reducible assumption) | (with_reducible refine Ext.drewN ?_ _) | (with_reducible refine Ext.drew ?_) | (with_reducible refine Ext.alloc ?_ _) | ((with_reducible refine Ext.setCell ?_ ?_ _); rotate_left; focus (first | (simp; done) | (simp; omega) | omega)) | (with_reducible refine Ext.trans ?_ (by with_reducible assumption))))).mono ?_); rintro e w6 ⟨rfl, rfl⟩) | ((with_reducible refine (HR3.out _ (by repeat (first | (with_reducible exact Ext.refl _) | (with_reducible assumption) | (with_reducible refine Ext.drewN ?_ _) | (with_reducible refine Ext.drew ?_) | (with_reducible refine Ext.alloc ?_ _) | ((with_reducible refine Ext.setCell ?_ ?_ _); rotate_left; focus (first | (simp; done) | (simp; omega) | omega)) | (with_reducible refine Ext.trans ?_ (by with_reducible assumption))))).mono ?_); rintro e w7 ⟨rfl, rfl⟩)) | (go_at_call 24; (with_reducible refine (HSy.out _).mono ?_); rintro e w8 ⟨rfl, rfl⟩))
          (refine wp_region_up (by kernel_rfl) (by kernel_rfl) (by kernel_rfl) ?_; (repeat (first | (refine mix_q rfl ?_; go_big_quiet_step (fail); refine wpQuiet_nil ?_; show wpMix _ _ _ _ _ _ _) | (refine mix_s rfl ?_; go_wp2_with (fail); first | refine ⟨up_of (by repeat (first | (with_reducible exact Ext.refl _) | (with_reducible refine Ext.drewN ?_ _) | (with_reducible refine Ext.drew ?_) | (with_reducible refine Ext.alloc ?_ _) | ((with_reducible refine Ext.setCell ?_ ?_ _); rotate_left; focus (first | (simp; done) | (simp; omega) | omega)) | assumption | (with_reducible refine Ext.trans ?_ (by assumption)))), ?_⟩ | refine ⟨rfl, rfl, up_of (by repeat (first | (with_reducible exact Ext.refl _) | (with_reducible refine Ext.drewN ?_ _) | (with_reducible refine Ext.drew ?_) | (with_reducible refine Ext.alloc ?_ _) | ((with_reducible refine Ext.setCell ?_ ?_ _); rotate_left; focus (first | (simp; done) | (simp; omega) | omega)) | assumption | (with_reducible refine Ext.trans ?_ (by assumption)))), ?_⟩))); refine mix_nil ?_)
          go_wp2_with fail
          go_meet
          refine ⟨_, rfl, HM.out.1, ?_, HM.out.2, (by repeat (first | (with_reducible exact Ext.refl _) | (with_reducible assumption) | (with_reducible refine Ext.drewN ?_ _) | (with_reducible refine Ext.drew ?_) | (with_reducible refine Ext.alloc ?_ _) | ((with_reducible refine Ext.setCell ?_ ?_ _); rotate_left; focus (first | (simp; done) | (simp; omega) | omega)) | (with_reducible refine Ext.trans ?_ (by with_reducible assumption))))⟩
          have := (wordB_t.1 HM.out.2).2
          simp only [Array.length_toList, ByteArray.size_data] at this
          omega
        · go_wp2_with (first | (go_at_call 13; first | ((with_reducible refine (HR1.out _ (by repeat (first | (with_reducible exact Ext.refl _) | (with_reducible assumption) | (with_reducible refine Ext.drewN ?_ _) | (with_reducible refine Ext.drew ?_) | (with_reducible refine Ext.alloc ?_ _) | ((with_reducible refine Ext.setCell ?_ ?_ _); rotate_left; focus (first | (simp; done) | (simp; omega) | omega)) | (with_reducible refine Ext.trans ?_ (by with_reducible assumption))))).mono ?_); rintro e w5 ⟨rfl, rfl⟩) | ((with_reducible refine (HR2.out _ (by repeat (first | (with_reducible exact Ext.refl _) | (with_reducible assumption) | (with_reducible refine Ext.drewN ?_ _) | (with_reducible refine Ext.drew ?_) | (with_reducible refine Ext.alloc ?_ _) | ((with_reducible refine Ext.setCell ?_ ?_ _); rotate_left; focus (first | (simp; done) | (simp; omega) | omega)) | (with_reducible refine Ext.trans ?_ (by with_reducible assumption))))).mono ?_); rintro e w6 ⟨rfl, rfl⟩) | ((with_reducible refine (HR3.out _ (by repeat (first | (with_reducible exact Ext.refl _) | (with_reducible assumption) | (with_reducible refine Ext.drewN ?_ _) | (with_reducible refine Ext.drew ?_) | (with_reducible refine Ext.alloc ?_ _) | ((with_reducible refine Ext.setCell ?_ ?_ _); rotate_left; focus (first | (simp; done) | (simp; omega) | omega)) | (with_reducible refine Ext.trans ?_ (by with_reducible assumption))))).mono ?_); rintro e w7 ⟨rfl, rfl⟩)) | (go_at_call 24; (with_reducible refine (HSy.out _).mono ?_); rintro e w8 ⟨rfl, rfl⟩))
          (refine wp_region_up (by kernel_rfl) (by kernel_rfl) (by kernel_rfl) ?_; (repeat (first | (refine mix_q rfl ?_; go_big_quiet_step (fail); refine wpQuiet_nil ?_; show wpMix _ _ _ _ _ _ _) | (refine mix_s rfl ?_; go_wp2_with (fail); first | refine ⟨up_of (by repeat (first | (with_reducible exact Ext.refl _) | (with_reducible refine Ext.drewN ?_ _) | (with_reducible refine Ext.drew ?_) | (with_reducible refine Ext.alloc ?_ _) | ((with_reducible refine Ext.setCell ?_ ?_ _); rotate_left; focus (first | (simp; done) | (simp; omega) | omega)) | assumption | (with_reducible refine Ext.trans ?_ (by assumption)))), ?_⟩ | refine ⟨rfl, rfl, up_of (by repeat (first | (with_reducible exact Ext.refl _) | (with_reducible refine Ext.drewN ?_ _) | (with_reducible refine Ext.drew ?_) | (with_reducible refine Ext.alloc ?_ _) | ((with_reducible refine Ext.setCell ?_ ?_ _); rotate_left; focus (first | (simp; done) | (simp; omega) | omega)) | assumption | (with_reducible refine Ext.trans ?_ (by assumption)))), ?_⟩))); refine mix_nil ?_)
          go_wp2_with fail
          go_meet
          refine ⟨_, rfl, HLs.out.1, ?_, HLs.out.2, (by repeat (first | (with_reducible exact Ext.refl _) | (with_reducible assumption) | (with_reducible refine Ext.drewN ?_ _) | (with_reducible refine Ext.drew ?_) | (with_reducible refine Ext.alloc ?_ _) | ((with_reducible refine Ext.setCell ?_ ?_ _); rotate_left; focus (first | (simp; done) | (simp; omega) | omega)) | (with_reducible refine Ext.trans ?_ (by with_reducible assumption))))⟩
          have := (wordB_t.1 HLs.out.2).2
          simp only [Array.length_toList, ByteArray.size_data] at this
          omega
        · go_wp2_with (first | (go_at_call 13; first | ((with_reducible refine (HR1.out _ (by repeat (first | (with_reducible exact Ext.refl _) | (with_reducible assumption) | (with_reducible refine Ext.drewN ?_ _) | (with_reducible refine Ext.drew ?_) | (with_reducible refine Ext.alloc ?_ _) | ((with_reducible refine Ext.setCell ?_ ?_ _); rotate_left; focus (first | (simp; done) | (simp; omega) | omega)) | (with_reducible refine Ext.trans ?_ (by with_reducible assumption))))).mono ?_); rintro e w5 ⟨rfl, rfl⟩) | ((with_reducible refine (HR2.out _ (by repeat (first | (with_reducible exact Ext.refl _) | (with_reducible assumption) | (with_reducible refine Ext.drewN ?_ _) | (with_reducible refine Ext.drew ?_) | (with_reducible refine Ext.alloc ?_ _) | ((with_reducible refine Ext.setCell ?_ ?_ _); rotate_left; focus (first | (simp; done) | (simp; omega) | omega)) | (with_reducible refine Ext.trans ?_ (by with_reducible assumption))))).mono ?_); rintro e w6 ⟨rfl, rfl⟩) | ((with_reducible refine (HR3.out _ (by repeat (first | (with_reducible exact Ext.refl _) | (with_reducible assumption) | (with_reducible refine Ext.drewN ?_ _) | (with_reducible refine Ext.drew ?_) | (with_reducible refine Ext.alloc ?_ _) | ((with_reducible refine Ext.setCell ?_ ?_ _); rotate_left; focus (first | (simp; done) | (simp; omega) | omega)) | (with_reducible refine Ext.trans ?_ (by with_reducible assumption))))).mono ?_); rintro e w7 ⟨rfl, rfl⟩)) | (go_at_call 24; (with_reducible refine (HSy.out _).mono ?_); rintro e w8 ⟨rfl, rfl⟩))
          (refine wp_region_up (by kernel_rfl) (by kernel_rfl) (by kernel_rfl) ?_; (repeat (first | (refine mix_q rfl ?_; go_big_quiet_step (fail); refine wpQuiet_nil ?_; show wpMix _ _ _ _ _ _ _) | (refine mix_s rfl ?_; go_wp2_with (fail); first | refine ⟨up_of (by repeat (first | (with_reducible exact Ext.refl _) | (with_reducible refine Ext.drewN ?_ _) | (with_reducible refine Ext.drew ?_) | (with_reducible refine Ext.alloc ?_ _) | ((with_reducible refine Ext.setCell ?_ ?_ _); rotate_left; focus (first | (simp; done) | (simp; omega) | omega)) | assumption | (with_reducible refine Ext.trans ?_ (by assumption)))), ?_⟩ | refine ⟨rfl, rfl, up_of (by repeat (first | (with_reducible exact Ext.refl _) | (with_reducible refine Ext.drewN ?_ _) | (with_reducible refine Ext.drew ?_) | (with_reducible refine Ext.alloc ?_ _) | ((with_reducible refine Ext.setCell ?_ ?_ _); rotate_left; focus (first | (simp; done) | (simp; omega) | omega)) | assumption | (with_reducible refine Ext.trans ?_ (by assumption)))), ?_⟩))); refine mix_nil ?_)
          go_wp2_with fail
          go_meet
          refine ⟨_, rfl, HT.out.1, ?_, HT.out.2, (by repeat (first | (with_reducible exact Ext.refl _) | (with_reducible assumption) | (with_reducible refine Ext.drewN ?_ _) | (with_reducible refine Ext.drew ?_) | (with_reducible refine Ext.alloc ?_ _) | ((with_reducible refine Ext.setCell ?_ ?_ _); rotate_left; focus (first | (simp; done) | (simp; omega) | omega)) | (with_reducible refine Ext.trans ?_ (by with_reducible assumption))))⟩
          have := (wordB_t.1 HT.out.2).2
          simp only [Array.length_toList, ByteArray.size_data] at this
          omega
      · obtain rfl : rd = 0 := by omega
        go_wp2_with fail
        go_meet
        exact ⟨s, rfl, by rw [dist_selfN]; exact Nat.le_refl _, by omega, HWs.out, (by repeat (first | (with_reducible exact Ext.refl _) | (with_reducible assumption) | (with_reducible refine Ext.drewN ?_ _) | (with_reducible refine Ext.drew ?_) | (with_reducible refine Ext.alloc ?_ _) | ((with_reducible refine Ext.setCell ?_ ?_ _); rotate_left; focus (first | (simp; done) | (simp; omega) | omega)) | (with_reducible refine Ext.trans ?_ (by with_reducible assumption))))⟩
    case rest =>
      obtain ⟨t, rfl, hd, ht20, hwt, hxc⟩ := hcut
      have HF := HFL.out t hwt hd
      have HNL := near_law HOk.out hwt
      have HFw := Lib.hid (fun W (h : Ext wq W) => impl_FindWord D a0 n0 c0 b0 m0 d0 ia0 im0 ic0 ra0 rm0 rc0 t W (HInQ.out.ext h) (by omega))
      have HNw := Lib.hid (fun W (h : Ext wq W) => HNr.out t W (by omega) h)
      rw [HNL.1, HDl.out, HRl.out] at HNw
      have HNE := Lib.hid HNL.2
      have HWt := Lib.hid hwt
      obtain ⟨L, hL⟩ : ∃ L, L = nearL D t := ⟨_, rfl⟩
      have hLl : L.length ≤ 5 := by
        rw [hL, nearL]
        split
        · have h1 := putAll_len (nearS D t D.issued.length).1
          have h2 := (near_sub D t D.issued.length (Nat.le_refl _)).length_le
          rw [List.length_take, Nat.min_self] at h2
          have h3 := HDl.out
          omega
        · simp
      rw [← hL] at HNw HNE
      obtain ⟨far, hfar⟩ : ∃ far, far = nearN D t := ⟨_, rfl⟩
      rw [← hfar] at HNw HNE
      have hwq2 : Ext wq wc := hxc
      have hdd : decide ((rm0 : Int) < (im0 : Int)) = decide (rm0 < im0) := by simp
      have HBd := Lib.hid (show nearB D t = decide (rm0 < im0) by rw [HNL.1, HDl.out, HRl.out])
      clear hL hfar hwt hd HNL
      cases hrv : revHas D i
      · have hf := HF.1 hrv
        have h3 := hf.2.2
        rw [HBd.out] at h3
        rw [hf.1, hf.2.1] at HFw
        rw [h3] at HNw
        obtain rfl : st = 1 := by rw [HS2.out, hrv]; rfl
        clear hf HF HBd hdd
        go_wp2_with (first | (go_at_call 25; (with_reducible refine (HFw.out _ (by repeat (first | (with_reducible exact Ext.refl _) | (with_reducible assumption) | (with_reducible refine Ext.drewN ?_ _) | (with_reducible refine Ext.drew ?_) | (with_reducible refine Ext.alloc ?_ _) | ((with_reducible refine Ext.setCell ?_ ?_ _); rotate_left; focus (first | (simp; done) | (simp; omega) | omega)) | (with_reducible refine Ext.trans ?_ (by with_reducible assumption))))).mono ?_); rintro e w7 ⟨rfl, hy7⟩; have hx7 : Ext wq w7 := Ext.trans (by repeat (first | (with_reducible exact Ext.refl _) | (with_reducible assumption) | (with_reducible refine Ext.drewN ?_ _) | (with_reducible refine Ext.drew ?_) | (with_reducible refine Ext.alloc ?_ _) | ((with_reducible refine Ext.setCell ?_ ?_ _); rotate_left; focus (first | (simp; done) | (simp; omega) | omega)) | (with_reducible refine Ext.trans ?_ (by with_reducible assumption)))) hy7; clear hy7) | (go_at_call 22; (with_reducible refine (HNw.out _ (by repeat (first | (with_reducible exact Ext.refl _) | (with_reducible assumption) | (with_reducible refine Ext.drewN ?_ _) | (with_reducible refine Ext.drew ?_) | (with_reducible refine Ext.alloc ?_ _) | ((with_reducible refine Ext.setCell ?_ ?_ _); rotate_left; focus (first | (simp; done) | (simp; omega) | omega)) | (with_reducible refine Ext.trans ?_ (by with_reducible assumption))))).mono ?_); rintro e w8 ⟨a8, c8, rfl, ho8, hy8⟩; have hx8 : Ext wq w8 := Ext.trans (by repeat (first | (with_reducible exact Ext.refl _) | (with_reducible assumption) | (with_reducible refine Ext.drewN ?_ _) | (with_reducible refine Ext.drew ?_) | (with_reducible refine Ext.alloc ?_ _) | ((with_reducible refine Ext.setCell ?_ ?_ _); rotate_left; focus (first | (simp; done) | (simp; omega) | omega)) | (with_reducible refine Ext.trans ?_ (by with_reducible assumption)))) hy8; have HO8 := Lib.hid (show Strs w8 a8 L.length c8 L from ho8.sl); clear hy8 ho8))
        obtain ⟨bl, ol, hixl, hcl⟩ := Strs.ix (P := Try.prog) HO8.out 28 9 und_strs cell_str
        go_loopw [22, 23, 24, 25, 26] (fun iv _ _ _ _ wr => ∃ k : Nat, k ≤ L.length ∧ iv = .int .i64 k ∧ Ext w8 wr) (fun iv _ _ _ _ _ => L.length - (intOf iv).toNat)
        case atStart => exact ⟨0, Nat.zero_le _, rfl, (by repeat (first | (with_reducible exact Ext.refl _) | (with_reducible assumption) | (with_reducible refine Ext.drewN ?_ _) | (with_reducible refine Ext.drew ?_) | (with_reducible refine Ext.alloc ?_ _) | ((with_reducible refine Ext.setCell ?_ ?_ _); rotate_left; focus (first | (simp; done) | (simp; omega) | omega)) | (with_reducible refine Ext.trans ?_ (by with_reducible assumption))))⟩
        case round =>
          obtain ⟨k, hk, rfl, hxr⟩ := hrel
          have hxrr : Ext wr wr := Ext.refl _
          have hxqr : Ext wq wr := hx8.trans hxr
          by_cases hlt : k < L.length
          · obtain ⟨g1, g2, g3, g4, g5, _⟩ := HNE.out _ (gs_mem hlt)
            have HE := Lib.hid (fun W => impl_EditDistance t (gs L k) W (by omega) (by omega) HWt.out g2)
            have HA := Lib.hid (fun W (h : Ext wq W) => HSt.out (gs L k) W (by omega) h)
            rw [g5] at HE
            rw [g3, g4] at HA
            clear g1 g2 g3 g4 g5
            go_wp2_with (go_at_call 26; (with_reducible refine (HE.out _).mono ?_); rintro e w9 ⟨rfl, hy9⟩; have hx9 : Ext wr w9 := Ext.trans (by repeat (first | (with_reducible exact Ext.refl _) | (with_reducible assumption) | (with_reducible refine Ext.drewN ?_ _) | (with_reducible refine Ext.drew ?_) | (with_reducible refine Ext.alloc ?_ _) | ((with_reducible refine Ext.setCell ?_ ?_ _); rotate_left; focus (first | (simp; done) | (simp; omega) | omega)) | (with_reducible refine Ext.trans ?_ (by with_reducible assumption)))) hy9; clear hy9)
            have hx8b : Ext w8 w9 := hxr.trans hx9
            have hxq9 : Ext wq w9 := hxqr.trans hx9
            (refine wp_region_from w9 (by repeat (first | (with_reducible exact Ext.refl _) | (with_reducible refine Ext.drewN ?_ _) | (with_reducible refine Ext.drew ?_) | (with_reducible refine Ext.alloc ?_ _) | ((with_reducible refine Ext.setCell ?_ ?_ _); rotate_left; focus (first | (simp; done) | (simp; omega) | omega)) | assumption | (with_reducible refine Ext.trans ?_ (by assumption)))) (by kernel_rfl) (by kernel_rfl) (by kernel_rfl) ?_; (repeat (first | (refine mix_q rfl ?_; go_big_quiet_step (fail); refine wpQuiet_nil ?_; show wpMix _ _ _ _ _ _ _) | (refine mix_s rfl ?_; go_wp2_with ((go_at_call 23; (with_reducible refine (HA.out _ (by repeat (first | (with_reducible exact Ext.refl _) | (with_reducible assumption) | (with_reducible refine Ext.drewN ?_ _) | (with_reducible refine Ext.drew ?_) | (with_reducible refine Ext.alloc ?_ _) | ((with_reducible refine Ext.setCell ?_ ?_ _); rotate_left; focus (first | (simp; done) | (simp; omega) | omega)) | (with_reducible refine Ext.trans ?_ (by with_reducible assumption))))).mono ?_); rintro e w10 ⟨rfl, hy10⟩; have hx10 : Ext w9 w10 := Ext.trans (by repeat (first | (with_reducible exact Ext.refl _) | (with_reducible assumption) | (with_reducible refine Ext.drewN ?_ _) | (with_reducible refine Ext.drew ?_) | (with_reducible refine Ext.alloc ?_ _) | ((with_reducible refine Ext.setCell ?_ ?_ _); rotate_left; focus (first | (simp; done) | (simp; omega) | omega)) | (with_reducible refine Ext.trans ?_ (by with_reducible assumption)))) hy10; clear hy10)); first | refine ⟨up_of (by repeat (first | (with_reducible exact Ext.refl _) | (with_reducible refine Ext.drewN ?_ _) | (with_reducible refine Ext.drew ?_) | (with_reducible refine Ext.alloc ?_ _) | ((with_reducible refine Ext.setCell ?_ ?_ _); rotate_left; focus (first | (simp; done) | (simp; omega) | omega)) | assumption | (with_reducible refine Ext.trans ?_ (by assumption)))), ?_⟩ | refine ⟨rfl, rfl, up_of (by repeat (first | (with_reducible exact Ext.refl _) | (with_reducible refine Ext.drewN ?_ _) | (with_reducible refine Ext.drew ?_) | (with_reducible refine Ext.alloc ?_ _) | ((with_reducible refine Ext.setCell ?_ ?_ _); rotate_left; focus (first | (simp; done) | (simp; omega) | omega)) | assumption | (with_reducible refine Ext.trans ?_ (by assumption)))), ?_⟩))); refine mix_nil ?_)
            have hx8c : Ext w8 w10 := hx8b.trans hx10
            go_wp2_with fail
            exact ⟨⟨k + 1, by omega, by go_num, (by repeat (first | (with_reducible exact Ext.refl _) | (with_reducible assumption) | (with_reducible refine Ext.drewN ?_ _) | (with_reducible refine Ext.drew ?_) | (with_reducible refine Ext.alloc ?_ _) | ((with_reducible refine Ext.setCell ?_ ?_ _); rotate_left; focus (first | (simp; done) | (simp; omega) | omega)) | (with_reducible refine Ext.trans ?_ (by with_reducible assumption))))⟩, by simp [intOf]; omega⟩
          · go_wp2_with fail
            go_ret
            exact ⟨rfl, (hxwq.trans hxqr).trans (by repeat (first | (with_reducible exact Ext.refl _) | (with_reducible assumption) | (with_reducible refine Ext.drewN ?_ _) | (with_reducible refine Ext.drew ?_) | (with_reducible refine Ext.alloc ?_ _) | ((with_reducible refine Ext.setCell ?_ ?_ _); rotate_left; focus (first | (simp; done) | (simp; omega) | omega)) | (with_reducible refine Ext.trans ?_ (by with_reducible assumption))))⟩
      · have hf := HF.2 hrv
        obtain rfl : st = 2 := by rw [HS2.out, hrv]; rfl
        clear HF HBd
        cases hfb : findB D t with
        | false =>
          rw [hfb] at HFw
          clear hf hfb
          obtain ⟨bb, hbb⟩ : ∃ bb, bb = decide (rm0 < im0) := ⟨_, rfl⟩
          rw [← hbb] at HNw
          have hb2 : decide (rm0 < im0) = bb := hbb.symm
          clear hbb hdd
          go_wp2_with (first | (go_at_call 25; (with_reducible refine (HFw.out _ (by repeat (first | (with_reducible exact Ext.refl _) | (with_reducible assumption) | (with_reducible refine Ext.drewN ?_ _) | (with_reducible refine Ext.drew ?_) | (with_reducible refine Ext.alloc ?_ _) | ((with_reducible refine Ext.setCell ?_ ?_ _); rotate_left; focus (first | (simp; done) | (simp; omega) | omega)) | (with_reducible refine Ext.trans ?_ (by with_reducible assumption))))).mono ?_); rintro e w7 ⟨rfl, hy7⟩; have hx7 : Ext wq w7 := Ext.trans (by repeat (first | (with_reducible exact Ext.refl _) | (with_reducible assumption) | (with_reducible refine Ext.drewN ?_ _) | (with_reducible refine Ext.drew ?_) | (with_reducible refine Ext.alloc ?_ _) | ((with_reducible refine Ext.setCell ?_ ?_ _); rotate_left; focus (first | (simp; done) | (simp; omega) | omega)) | (with_reducible refine Ext.trans ?_ (by with_reducible assumption)))) hy7; clear hy7) | (go_at_call 22; (with_reducible refine (HNw.out _ (by repeat (first | (with_reducible exact Ext.refl _) | (with_reducible assumption) | (with_reducible refine Ext.drewN ?_ _) | (with_reducible refine Ext.drew ?_) | (with_reducible refine Ext.alloc ?_ _) | ((with_reducible refine Ext.setCell ?_ ?_ _); rotate_left; focus (first | (simp; done) | (simp; omega) | omega)) | (with_reducible refine Ext.trans ?_ (by with_reducible assumption))))).mono ?_); rintro e w8 ⟨a8, c8, rfl, ho8, hy8⟩; have hx8 : Ext wq w8 := Ext.trans (by repeat (first | (with_reducible exact Ext.refl _) | (with_reducible assumption) | (with_reducible refine Ext.drewN ?_ _) | (with_reducible refine Ext.drew ?_) | (with_reducible refine Ext.alloc ?_ _) | ((with_reducible refine Ext.setCell ?_ ?_ _); rotate_left; focus (first | (simp; done) | (simp; omega) | omega)) | (with_reducible refine Ext.trans ?_ (by with_reducible assumption)))) hy8; have HO8 := Lib.hid (show Strs w8 a8 L.length c8 L from ho8.sl); clear hy8 ho8))
          obtain ⟨bl, ol, hixl, hcl⟩ := Strs.ix (P := Try.prog) HO8.out 28 9 und_strs cell_str
          go_loopw [22, 23, 24, 25, 26] (fun iv _ _ _ _ wr => ∃ k : Nat, k ≤ L.length ∧ iv = .int .i64 k ∧ Ext w8 wr) (fun iv _ _ _ _ _ => L.length - (intOf iv).toNat)
          case atStart => exact ⟨0, Nat.zero_le _, rfl, (by repeat (first | (with_reducible exact Ext.refl _) | (with_reducible assumption) | (with_reducible refine Ext.drewN ?_ _) | (with_reducible refine Ext.drew ?_) | (with_reducible refine Ext.alloc ?_ _) | ((with_reducible refine Ext.setCell ?_ ?_ _); rotate_left; focus (first | (simp; done) | (simp; omega) | omega)) | (with_reducible refine Ext.trans ?_ (by with_reducible assumption))))⟩
          case round =>
            obtain ⟨k, hk, rfl, hxr⟩ := hrel
            have hxrr : Ext wr wr := Ext.refl _
            have hxqr : Ext wq wr := hx8.trans hxr
            by_cases hlt : k < L.length
            · obtain ⟨g1, g2, g3, g4, g5, _⟩ := HNE.out _ (gs_mem hlt)
              have HE := Lib.hid (fun W => impl_EditDistance t (gs L k) W (by omega) (by omega) HWt.out g2)
              have HA := Lib.hid (fun W (h : Ext wq W) => HSt.out (gs L k) W (by omega) h)
              rw [g5] at HE
              rw [g3, g4] at HA
              clear g1 g2 g3 g4 g5
              go_wp2_with (go_at_call 26; (with_reducible refine (HE.out _).mono ?_); rintro e w9 ⟨rfl, hy9⟩; have hx9 : Ext wr w9 := Ext.trans (by repeat (first | (with_reducible exact Ext.refl _) | (with_reducible assumption) | (with_reducible refine Ext.drewN ?_ _) | (with_reducible refine Ext.drew ?_) | (with_reducible refine Ext.alloc ?_ _) | ((with_reducible refine Ext.setCell ?_ ?_ _); rotate_left; focus (first | (simp; done) | (simp; omega) | omega)) | (with_reducible refine Ext.trans ?_ (by with_reducible assumption)))) hy9; clear hy9)
              have hx8b : Ext w8 w9 := hxr.trans hx9
              have hxq9 : Ext wq w9 := hxqr.trans hx9
              (refine wp_region_from w9 (by repeat (first | (with_reducible exact Ext.refl _) | (with_reducible refine Ext.drewN ?_ _) | (with_reducible refine Ext.drew ?_) | (with_reducible refine Ext.alloc ?_ _) | ((with_reducible refine Ext.setCell ?_ ?_ _); rotate_left; focus (first | (simp; done) | (simp; omega) | omega)) | assumption | (with_reducible refine Ext.trans ?_ (by assumption)))) (by kernel_rfl) (by kernel_rfl) (by kernel_rfl) ?_; (repeat (first | (refine mix_q rfl ?_; go_big_quiet_step (fail); refine wpQuiet_nil ?_; show wpMix _ _ _ _ _ _ _) | (refine mix_s rfl ?_; go_wp2_with ((go_at_call 23; (with_reducible refine (HA.out _ (by repeat (first | (with_reducible exact Ext.refl _) | (with_reducible assumption) | (with_reducible refine Ext.drewN ?_ _) | (with_reducible refine Ext.drew ?_) | (with_reducible refine Ext.alloc ?_ _) | ((with_reducible refine Ext.setCell ?_ ?_ _); rotate_left; focus (first | (simp; done) | (simp; omega) | omega)) | (with_reducible refine Ext.trans ?_ (by with_reducible assumption))))).mono ?_); rintro e w10 ⟨rfl, hy10⟩; have hx10 : Ext w9 w10 := Ext.trans (by repeat (first | (with_reducible exact Ext.refl _) | (with_reducible assumption) | (with_reducible refine Ext.drewN ?_ _) | (with_reducible refine Ext.drew ?_) | (with_reducible refine Ext.alloc ?_ _) | ((with_reducible refine Ext.setCell ?_ ?_ _); rotate_left; focus (first | (simp; done) | (simp; omega) | omega)) | (with_reducible refine Ext.trans ?_ (by with_reducible assumption)))) hy10; clear hy10)); first | refine ⟨up_of (by repeat (first | (with_reducible exact Ext.refl _) | (with_reducible refine Ext.drewN ?_ _) | (with_reducible refine Ext.drew ?_) | (with_reducible refine Ext.alloc ?_ _) | ((with_reducible refine Ext.setCell ?_ ?_ _); rotate_left; focus (first | (simp; done) | (simp; omega) | omega)) | assumption | (with_reducible refine Ext.trans ?_ (by assumption)))), ?_⟩ | refine ⟨rfl, rfl, up_of (by repeat (first | (with_reducible exact Ext.refl _) | (with_reducible refine Ext.drewN ?_ _) | (with_reducible refine Ext.drew ?_) | (with_reducible refine Ext.alloc ?_ _) | ((with_reducible refine Ext.setCell ?_ ?_ _); rotate_left; focus (first | (simp; done) | (simp; omega) | omega)) | assumption | (with_reducible refine Ext.trans ?_ (by assumption)))), ?_⟩))); refine mix_nil ?_)
              have hx8c : Ext w8 w10 := hx8b.trans hx10
              go_wp2_with fail
              exact ⟨⟨k + 1, by omega, by go_num, (by repeat (first | (with_reducible exact Ext.refl _) | (with_reducible assumption) | (with_reducible refine Ext.drewN ?_ _) | (with_reducible refine Ext.drew ?_) | (with_reducible refine Ext.alloc ?_ _) | ((with_reducible refine Ext.setCell ?_ ?_ _); rotate_left; focus (first | (simp; done) | (simp; omega) | omega)) | (with_reducible refine Ext.trans ?_ (by with_reducible assumption))))⟩, by simp [intOf]; omega⟩
            · go_wp2_with fail
              go_ret
              exact ⟨rfl, (hxwq.trans hxqr).trans (by repeat (first | (with_reducible exact Ext.refl _) | (with_reducible assumption) | (with_reducible refine Ext.drewN ?_ _) | (with_reducible refine Ext.drew ?_) | (with_reducible refine Ext.alloc ?_ _) | ((with_reducible refine Ext.setCell ?_ ?_ _); rotate_left; focus (first | (simp; done) | (simp; omega) | omega)) | (with_reducible refine Ext.trans ?_ (by with_reducible assumption))))⟩
        | true =>
          have hne := hf hfb
          rw [hfb] at HFw
          generalize findT D t = ft at *
          have he2 : (ft.toList == s.toList) = false := by
            cases hq : (ft.toList == s.toList) with
            | false => rfl
            | true =>
              have h2 := beq_iff_eq.1 hq
              simp only [ByteArray.toList_eq] at h2
              exact absurd (ByteArray.ext (Array.toList_inj.1 h2)) hne
          clear hf hfb hne
          obtain ⟨bb, hbb⟩ : ∃ bb, bb = decide (rm0 < im0) := ⟨_, rfl⟩
          rw [← hbb] at HNw
          have hb2 : decide (rm0 < im0) = bb := hbb.symm
          clear hbb hdd
          go_wp2_with (first | (go_at_call 25; (with_reducible refine (HFw.out _ (by repeat (first | (with_reducible exact Ext.refl _) | (with_reducible assumption) | (with_reducible refine Ext.drewN ?_ _) | (with_reducible refine Ext.drew ?_) | (with_reducible refine Ext.alloc ?_ _) | ((with_reducible refine Ext.setCell ?_ ?_ _); rotate_left; focus (first | (simp; done) | (simp; omega) | omega)) | (with_reducible refine Ext.trans ?_ (by with_reducible assumption))))).mono ?_); rintro e w7 ⟨rfl, hy7⟩; have hx7 : Ext wq w7 := Ext.trans (by repeat (first | (with_reducible exact Ext.refl _) | (with_reducible assumption) | (with_reducible refine Ext.drewN ?_ _) | (with_reducible refine Ext.drew ?_) | (with_reducible refine Ext.alloc ?_ _) | ((with_reducible refine Ext.setCell ?_ ?_ _); rotate_left; focus (first | (simp; done) | (simp; omega) | omega)) | (with_reducible refine Ext.trans ?_ (by with_reducible assumption)))) hy7; clear hy7) | (go_at_call 22; (with_reducible refine (HNw.out _ (by repeat (first | (with_reducible exact Ext.refl _) | (with_reducible assumption) | (with_reducible refine Ext.drewN ?_ _) | (with_reducible refine Ext.drew ?_) | (with_reducible refine Ext.alloc ?_ _) | ((with_reducible refine Ext.setCell ?_ ?_ _); rotate_left; focus (first | (simp; done) | (simp; omega) | omega)) | (with_reducible refine Ext.trans ?_ (by with_reducible assumption))))).mono ?_); rintro e w8 ⟨a8, c8, rfl, ho8, hy8⟩; have hx8 : Ext wq w8 := Ext.trans (by repeat (first | (with_reducible exact Ext.refl _) | (with_reducible assumption) | (with_reducible refine Ext.drewN ?_ _) | (with_reducible refine Ext.drew ?_) | (with_reducible refine Ext.alloc ?_ _) | ((with_reducible refine Ext.setCell ?_ ?_ _); rotate_left; focus (first | (simp; done) | (simp; omega) | omega)) | (with_reducible refine Ext.trans ?_ (by with_reducible assumption)))) hy8; have HO8 := Lib.hid (show Strs w8 a8 L.length c8 L from ho8.sl); clear hy8 ho8))
          obtain ⟨bl, ol, hixl, hcl⟩ := Strs.ix (P := Try.prog) HO8.out 28 9 und_strs cell_str
          go_loopw [22, 23, 24, 25, 26] (fun iv _ _ _ _ wr => ∃ k : Nat, k ≤ L.length ∧ iv = .int .i64 k ∧ Ext w8 wr) (fun iv _ _ _ _ _ => L.length - (intOf iv).toNat)
          case atStart => exact ⟨0, Nat.zero_le _, rfl, (by repeat (first | (with_reducible exact Ext.refl _) | (with_reducible assumption) | (with_reducible refine Ext.drewN ?_ _) | (with_reducible refine Ext.drew ?_) | (with_reducible refine Ext.alloc ?_ _) | ((with_reducible refine Ext.setCell ?_ ?_ _); rotate_left; focus (first | (simp; done) | (simp; omega) | omega)) | (with_reducible refine Ext.trans ?_ (by with_reducible assumption))))⟩
          case round =>
            obtain ⟨k, hk, rfl, hxr⟩ := hrel
            have hxrr : Ext wr wr := Ext.refl _
            have hxqr : Ext wq wr := hx8.trans hxr
            by_cases hlt : k < L.length
            · obtain ⟨g1, g2, g3, g4, g5, _⟩ := HNE.out _ (gs_mem hlt)
              have HE := Lib.hid (fun W => impl_EditDistance t (gs L k) W (by omega) (by omega) HWt.out g2)
              have HA := Lib.hid (fun W (h : Ext wq W) => HSt.out (gs L k) W (by omega) h)
              rw [g5] at HE
              rw [g3, g4] at HA
              clear g1 g2 g3 g4 g5
              go_wp2_with (go_at_call 26; (with_reducible refine (HE.out _).mono ?_); rintro e w9 ⟨rfl, hy9⟩; have hx9 : Ext wr w9 := Ext.trans (by repeat (first | (with_reducible exact Ext.refl _) | (with_reducible assumption) | (with_reducible refine Ext.drewN ?_ _) | (with_reducible refine Ext.drew ?_) | (with_reducible refine Ext.alloc ?_ _) | ((with_reducible refine Ext.setCell ?_ ?_ _); rotate_left; focus (first | (simp; done) | (simp; omega) | omega)) | (with_reducible refine Ext.trans ?_ (by with_reducible assumption)))) hy9; clear hy9)
              have hx8b : Ext w8 w9 := hxr.trans hx9
              have hxq9 : Ext wq w9 := hxqr.trans hx9
              (refine wp_region_from w9 (by repeat (first | (with_reducible exact Ext.refl _) | (with_reducible refine Ext.drewN ?_ _) | (with_reducible refine Ext.drew ?_) | (with_reducible refine Ext.alloc ?_ _) | ((with_reducible refine Ext.setCell ?_ ?_ _); rotate_left; focus (first | (simp; done) | (simp; omega) | omega)) | assumption | (with_reducible refine Ext.trans ?_ (by assumption)))) (by kernel_rfl) (by kernel_rfl) (by kernel_rfl) ?_; (repeat (first | (refine mix_q rfl ?_; go_big_quiet_step (fail); refine wpQuiet_nil ?_; show wpMix _ _ _ _ _ _ _) | (refine mix_s rfl ?_; go_wp2_with ((go_at_call 23; (with_reducible refine (HA.out _ (by repeat (first | (with_reducible exact Ext.refl _) | (with_reducible assumption) | (with_reducible refine Ext.drewN ?_ _) | (with_reducible refine Ext.drew ?_) | (with_reducible refine Ext.alloc ?_ _) | ((with_reducible refine Ext.setCell ?_ ?_ _); rotate_left; focus (first | (simp; done) | (simp; omega) | omega)) | (with_reducible refine Ext.trans ?_ (by with_reducible assumption))))).mono ?_); rintro e w10 ⟨rfl, hy10⟩; have hx10 : Ext w9 w10 := Ext.trans (by repeat (first | (with_reducible exact Ext.refl _) | (with_reducible assumption) | (with_reducible refine Ext.drewN ?_ _) | (with_reducible refine Ext.drew ?_) | (with_reducible refine Ext.alloc ?_ _) | ((with_reducible refine Ext.setCell ?_ ?_ _); rotate_left; focus (first | (simp; done) | (simp; omega) | omega)) | (with_reducible refine Ext.trans ?_ (by with_reducible assumption)))) hy10; clear hy10)); first | refine ⟨up_of (by repeat (first | (with_reducible exact Ext.refl _) | (with_reducible refine Ext.drewN ?_ _) | (with_reducible refine Ext.drew ?_) | (with_reducible refine Ext.alloc ?_ _) | ((with_reducible refine Ext.setCell ?_ ?_ _); rotate_left; focus (first | (simp; done) | (simp; omega) | omega)) | assumption | (with_reducible refine Ext.trans ?_ (by assumption)))), ?_⟩ | refine ⟨rfl, rfl, up_of (by repeat (first | (with_reducible exact Ext.refl _) | (with_reducible refine Ext.drewN ?_ _) | (with_reducible refine Ext.drew ?_) | (with_reducible refine Ext.alloc ?_ _) | ((with_reducible refine Ext.setCell ?_ ?_ _); rotate_left; focus (first | (simp; done) | (simp; omega) | omega)) | assumption | (with_reducible refine Ext.trans ?_ (by assumption)))), ?_⟩))); refine mix_nil ?_)
              have hx8c : Ext w8 w10 := hx8b.trans hx10
              go_wp2_with fail
              exact ⟨⟨k + 1, by omega, by go_num, (by repeat (first | (with_reducible exact Ext.refl _) | (with_reducible assumption) | (with_reducible refine Ext.drewN ?_ _) | (with_reducible refine Ext.drew ?_) | (with_reducible refine Ext.alloc ?_ _) | ((with_reducible refine Ext.setCell ?_ ?_ _); rotate_left; focus (first | (simp; done) | (simp; omega) | omega)) | (with_reducible refine Ext.trans ?_ (by with_reducible assumption))))⟩, by simp [intOf]; omega⟩
            · go_wp2_with fail
              go_ret
              exact ⟨rfl, (hxwq.trans hxqr).trans (by repeat (first | (with_reducible exact Ext.refl _) | (with_reducible assumption) | (with_reducible refine Ext.drewN ?_ _) | (with_reducible refine Ext.drew ?_) | (with_reducible refine Ext.alloc ?_ _) | ((with_reducible refine Ext.setCell ?_ ?_ _); rotate_left; focus (first | (simp; done) | (simp; omega) | omega)) | (with_reducible refine Ext.trans ?_ (by with_reducible assumption))))⟩
end Go.Proofs.Ytcdoanookiimaaa
namespace Go.Proofs.Ytcdoanookiimaaa.fnFound
set_option maxRecDepth 100000
open Go.ChangeShapes Go.WideShapes Go.ChangeAt Go.RowKit
open Go.ChangeMaps (open_string shut_string)
set_option linter.unusedVariables false

set_option maxRecDepth 100000 in
theorem lifted (os : Os) (started : os.Started) (H : Type) (enc : TypeId × Value → H) :
    ReturnsInHanded {} Try.checked os 4 .any (Rows.fnFoundSpec.pre6 enc Try.prog Try.f4 Rows.fnFoundRow.domain false) (Rows.fnFoundSpec.post enc Try.prog Try.f4 false true false false) := by
  refine returnsInHanded_of_change (C := Try.checked) own started (by kernel_rfl) Try.func4
    (ChangeSpec.witness6 (enc := enc) (C := Try.checked) false ⟨#[], #[.slice none 0 0, .slice none 0 0], []⟩ 8 (by kernel_rfl) (by kernel_rfl) (by kernel_rfl) (by kernel_rfl)) ?_
  intro W base args ds gs before hval0 hW hcnd _
  have hval : ∀ (j : Nat) t v, Try.f4.params[j]? = some t → args[j]? = some v → Value.okWide Try.prog W .any base t v := hval0
  have hW' := hW
  obtain ⟨p, q, hA0, hV, rfl, hfz, hnd⟩ := hW
  have hA : DataW.TrodAll enc Try.prog W 0 (fun _ => true) true Try.f4.params.toList args.toList ds p := hA0
  rw [Try.params4] at hA hval
  obtain ⟨v0, vs0, d0, ds0, p0, q0, hargs, rfl, rfl, h0, r0⟩ := trodAll_cons hA
  obtain ⟨v1, vs1, d1, ds1, p1, q1, rfl, rfl, rfl, h1, r1⟩ := trodAll_cons r0
  obtain ⟨rfl, rfl, rfl⟩ := trodAll_nil r1
  obtain rfl : args = #[v0, v1] := by cases args; simp_all
  obtain ⟨rfl, rfl⟩ := trodVars_none hV
  have k0 := h0
  have lt0 : ∀ x ∈ p0, x.block < W.heap.size := by obtain ⟨m, hm⟩ := k0; exact DataW.trod_lt m _ _ _ hm
  obtain ⟨a0, n0, c0, l0, rfl, hi0, hn0⟩ := opn_bytes (hval 0 22 v0 rfl rfl) h0
  have k1 := h1
  have lt1 : ∀ x ∈ p1, x.block < W.heap.size := by obtain ⟨m, hm⟩ := k1; exact DataW.trod_lt m _ _ _ hm
  obtain ⟨a1, n1, c1, l1, rfl, hi1, hn1⟩ := opn_bytes (hval 1 22 v1 rfl rfl) h1
  clear hA0 hval0
  refine (lawFound a0 n0 c0 l0 a1 n1 c1 l1 W hi0 hn0 hi1 hn1).mono fun e W' ⟨he, bel⟩ => ?_
  subst he
  exact ⟨_, rfl, _, _, _, [], _, [], hW', trodAll_mk1 (shut_bool Try.underlying4 _), (trodAll_cons_mk (Below.trod laidOut (by kernel_rfl) (of_decide_eq_true (by kernel_rfl)) k0 bel lt0) (trodAll_cons_mk (Below.trod laidOut (by kernel_rfl) (of_decide_eq_true (by kernel_rfl)) k1 bel lt1) trodAll_mk0)), rfl, bel.frame _, fun h => by cases h⟩

theorem proved : Rows.FnFoundSaid :=
  OpenClaim.holds_of_wide 4 Try.f4 rfl rfl rfl rfl rfl rfl rfl ⟨rfl, rfl, rfl, rfl, rfl⟩ rfl rfl rfl rfl rfl (by kernel_rfl) Try.func4 (by kernel_rfl)
    (of_decide_eq_true (by kernel_rfl)) (by unfold Func.isWrapper; first | (rw [if_pos (by decide +kernel)]; kernel_rfl) | (rw [if_neg (by decide +kernel)]; exact ⟨rfl, rfl⟩))
    (fun os started H enc _ => lifted os started H enc)
end Go.Proofs.Ytcdoanookiimaaa.fnFound
