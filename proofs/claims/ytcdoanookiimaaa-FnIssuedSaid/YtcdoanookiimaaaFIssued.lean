/- Words that are issued one after another are those that are issued at once, as far apart as the registry promises, and the registry is full exactly if no more can be issued. -/
import Derived.Test.YtcdoanookiimaaaR8R
import Derived.Test.YtcdoanookiimaaaIssP
import Derived.Deep.CutBlock
import Derived.Test.YtcdoanookiimaaaOpen
import Derived.Test.YtcdoanookiimaaaOpenB
namespace Go.Proofs.Ytcdoanookiimaaa
set_option maxRecDepth 100000
open Go.RowKit

/-- behind the loop -/
def EndI (wq : World) (q B : Nat) (D : Rg) (cnt : Nat) (v8 : Value) (W : World) : Prop :=
  ∃ (k : Nat) (L : List ByteArray) (a : Option Addr) (n c : Nat) (b : Option Addr) (m d : Nat) (ia : Option Addr) (im ic : Nat) (ra : Option Addr) (rm rc : Nat) (lo hi : Nat) (la : Option Addr) (lc : Nat), v8 = .slice la k lc ∧ NowAt wq W q B (addL D L) L a n c b m d ia im ic ra rm rc lo hi la k lc ∧ manyL D k = some L ∧ k ≤ cnt ∧ OkRg (addL D L) ∧ (k = cnt ∨ (k < cnt ∧ trialO (addL D L) = none))
/-- at the loop's head -/
def RoundI (wq : World) (q B : Nat) (D : Rg) (k : Nat) (v8 : Value) (W : World) : Prop :=
  ∃ (L : List ByteArray) (a : Option Addr) (n c : Nat) (b : Option Addr) (m d : Nat) (ia : Option Addr) (im ic : Nat) (ra : Option Addr) (rm rc : Nat) (lo hi : Nat) (la : Option Addr) (lc : Nat), v8 = .slice la k lc ∧ NowAt wq W q B (addL D L) L a n c b m d ia im ic ra rm rc lo hi la k lc ∧ manyL D k = some L ∧ OkRg (addL D L)

set_option maxHeartbeats 16000000 in
theorem lawIssued (a : Option Addr) (n c : Nat) (l : List UInt8) (a' : Option Addr) (n' c' : Nat) (l' : List UInt8) (w : World) (hv : Bytes w a n c l) (hn : n ≤ 9223372036854775807) (hv' : Bytes w a' n' c' l') (hn' : n' ≤ 9223372036854775807) :
    Calls Try.prog 3 #[.slice a n c, .slice a' n' c'] w (Ret (.bool true) w) := by
  have HLong := Lib.hid (laws_r8Long a a' n c n' c' w hn hn')
  have HB := Lib.hid hv
  have HB' := Lib.hid hv'
  clear hv hv'
  by_cases hlong : 48 < n ∨ 48 < n'
  · rw [decide_eq_true hlong] at HLong
    clear hlong
    go_enter Try.func3, Try.ntmps3
    go_wp2_with (refine HLong.out.mono ?_; rintro e w1 ⟨rfl, rfl⟩)
    go_ret
    exact ⟨rfl, Ext.refl _⟩
  rw [decide_eq_false hlong] at HLong
  have hn48 : n ≤ 48 ∧ n' ≤ 48 := by omega
  clear hlong
  have hz0 := r8_bd l' 0 4 (by omega)
  have HR0 := Lib.hid (fun W (h : Ext w W) => laws_r8 a' n' c' l' 0 4 W (HB'.out.ext h) (by omega) (by omega) (by omega))
  generalize r8 l' 0 4 = r0 at *
  obtain ⟨cnt, rfl⟩ := Int.eq_ofNat_of_zero_le hz0.1
  have hc4 : cnt ≤ 3 := by omega
  clear hz0
  go_enter Try.func3, Try.ntmps3
  go_upto_block 0 with (first | (go_at_call 11; refine HLong.out.mono ?_; rintro e w1 ⟨rfl, rfl⟩) | (go_at_call 12; (with_reducible refine (spec_R8Rg a n c l w HB.out (by omega)).mono ?_); rintro e w1 ⟨D, a0, n0, c0, b0, m0, d0, ia0, im0, ic0, ra0, rm0, rc0, rfl, hval, hi5, ha1, ha3, hb2, hb4, hm1, hm5, hn3, hin, hx1⟩) | (go_at_call 13; (with_reducible refine (HR0.out _ (by repeat (first | (with_reducible exact Ext.refl _) | (with_reducible assumption) | (with_reducible refine Ext.drewN ?_ _) | (with_reducible refine Ext.drew ?_) | (with_reducible refine Ext.alloc ?_ _) | ((with_reducible refine Ext.setCell ?_ ?_ _); rotate_left; focus (first | (simp; done) | (simp; omega) | omega)) | (with_reducible refine Ext.trans ?_ (by with_reducible assumption))))).mono ?_); rintro e w2 ⟨rfl, rfl⟩))
  have HOk := Lib.hid (validRg_ok hval)
  have HIn1 := Lib.hid hin
  have HDl := Lib.hid (show D.issued.length = im0 from hin.is.len)
  obtain ⟨q5, hq5⟩ : ∃ q, q = w1.heap.size := ⟨_, rfl⟩
  obtain ⟨q7, hq7⟩ : ∃ q, q = w1.heap.size + 1 := ⟨_, rfl⟩
  obtain ⟨wq, hwq⟩ : ∃ W, W = w1.alloc (.cells #[.int .i64 D.ch.base, .int .i64 D.ch.states, .int .i64 D.ch.start, .int .i64 D.ch.fin, .slice a0 n0 c0, .slice b0 m0 d0, .int .i64 D.apart, .slice ia0 im0 ic0, .slice ra0 rm0 rc0] 30) := ⟨_, rfl⟩
  obtain ⟨w0, hw0⟩ : ∃ W, W = (wq.alloc (.cells #[.int .i64 D.ch.base, .int .i64 D.ch.states, .int .i64 D.ch.start, .int .i64 D.ch.fin, .slice a0 n0 c0, .slice b0 m0 d0, .int .i64 D.apart, .slice ia0 im0 ic0, .slice ra0 rm0 rc0] 30)).alloc (.cells #[] 9) := ⟨_, rfl⟩
  have e5 : w1.heap.size + 1 + 1 = q7 + 1 := by omega
  rw [e5, ← hwq, ← hw0, ← hq7, ← hq5]
  have hxq : Ext w1 wq := by rw [hwq]; exact (Ext.refl _).alloc _
  have hqs : wq.heap.size = q7 := by rw [hwq, hq7]; simp
  have HQ5 := Lib.hid (show SAt wq q5 30 #[.int .i64 D.ch.base, .int .i64 D.ch.states, .int .i64 D.ch.start, .int .i64 D.ch.fin, .slice a0 n0 c0, .slice b0 m0 d0, .int .i64 D.apart, .slice ia0 im0 ic0, .slice ra0 rm0 rc0] by rw [hwq]; exact SAt.new' _ _ _ hq5)
  have HInQ := Lib.hid (hin.ext hxq)
  have HNow0 := Lib.hid (show RoundI wq q7 (q7 + 1) D 0 (.slice (some ⟨q7 + 1, 0, none⟩) 0 0) w0 from by
    have hz : (wq.alloc (.cells #[.int .i64 D.ch.base, .int .i64 D.ch.states, .int .i64 D.ch.start, .int .i64 D.ch.fin, .slice a0 n0 c0, .slice b0 m0 d0, .int .i64 D.apart, .slice ia0 im0 ic0, .slice ra0 rm0 rc0] 30)).heap.size = q7 + 1 := by simp [hqs]
    have hz0 : w0.heap.size = q7 + 2 := by rw [hw0]; simp [hqs]
    refine ⟨[], a0, n0, c0, b0, m0, d0, ia0, im0, ic0, ra0, rm0, rc0, q7 + 2, q7 + 2, some ⟨q7 + 1, 0, none⟩, 0, rfl, ?_, rfl, by rw [addL_nil]; exact HOk.out⟩
    rw [addL_nil]
    refine ⟨by rw [hw0]; exact (SAt.new' _ _ _ hqs.symm).alloc _, fun V h1 _ => HInQ.out.ext h1, ?_, fun g hg => (by cases hg; left; simp only; omega), ⟨Nat.le_refl _, by omega⟩, .inl (by omega), by rw [hw0]; exact ((Ext.refl _).alloc _).alloc _, ⟨by omega, by omega⟩⟩
    rw [hw0]
    exact Own.lit0' _ _ (Nat.le_refl _) hz.symm)
  have hxwq : Ext w wq := hx1.trans hxq
  have HVal := Lib.hid hval
  clear hin hval hwq hw0 hq5 hq7 e5 hxq hx1 HLong HB HB' HR0 HIn1
  have HQS := Lib.hid hqs
  clear hqs
  go_cut [8] from 9 to 79 (fun v8 wx => EndI wq q7 (q7 + 1) D cnt v8 wx)
  case first =>
    go_wp2_with fail
    go_loopw [8, 9, 10, 11, 12, 13, 14] (fun v8 v9 _ _ _ _ _ wr => ∃ k : Nat, k ≤ cnt ∧ v9 = .int .i64 k ∧ RoundI wq q7 (q7 + 1) D k v8 wr) (fun _ v9 _ _ _ _ _ _ => cnt - (intOf v9).toNat)
    case atStart => exact ⟨0, Nat.zero_le _, rfl, HNow0.out⟩
    case round =>
      obtain ⟨k, hk, rfl, L, a1, n1, c1, b1, m1, d1, ia1, im1, ic1, ra1, rm1, rc1, lo, hi, la, lc, rfl, hno, hm, hok⟩ := hrel
      have HNo := Lib.hid hno
      have HM := Lib.hid hm
      have HOkN := Lib.hid hok
      have HIr := Lib.hid hno.rgIn
      have HLk := Lib.hid (many_len hm)
      have HNl := Lib.hid (show D.issued.length + k = im1 from by have := hno.rgIn.is.len; simp only [addL, List.length_append, many_len hm] at this; exact this)
      have him40 : im1 ≤ 8 := by have := HNl.out; have := HDl.out; omega
      obtain ⟨N, hN⟩ : ∃ N, N = addL D L := ⟨_, rfl⟩
      rw [← hN] at HNo HOkN HIr
      have HNe := Lib.hid hN
      have HNn := Lib.hid (show N.issued.length = im1 from HIr.out.is.len)
      clear hno hm hok hN
      by_cases hlt : k < cnt
      · have hxrr : Ext wr wr := Ext.refl _
        have hqb := HNo.out.b
        have hql := HNo.out.s.lt
        have x0 := fun w' (hx : Ext wr w') => (HNo.out.s.ext hx).cell 0 (by simp)
        have x1 := fun w' (hx : Ext wr w') => (HNo.out.s.ext hx).cell 1 (by simp)
        have x2 := fun w' (hx : Ext wr w') => (HNo.out.s.ext hx).cell 2 (by simp)
        have x3 := fun w' (hx : Ext wr w') => (HNo.out.s.ext hx).cell 3 (by simp)
        have x4 := fun w' (hx : Ext wr w') => (HNo.out.s.ext hx).cell 4 (by simp)
        have x5 := fun w' (hx : Ext wr w') => (HNo.out.s.ext hx).cell 5 (by simp)
        have x6 := fun w' (hx : Ext wr w') => (HNo.out.s.ext hx).cell 6 (by simp)
        have x7 := fun w' (hx : Ext wr w') => (HNo.out.s.ext hx).cell 7 (by simp)
        have x8 := fun w' (hx : Ext wr w') => (HNo.out.s.ext hx).cell 8 (by simp)
        try simp only [List.getElem_toArray, List.getElem_cons_succ, List.getElem_cons_zero] at x0 x1 x2 x3 x4 x5 x6 x7 x8
        have hval := HOkN.out.valid
        cases ht : trialO N with
        | none =>
          have HIW := Lib.hid (show ∀ W, Ext wr W → Calls Try.prog 14 #[.agg #[.int .i64 N.ch.base, .int .i64 N.ch.states, .int .i64 N.ch.start, .int .i64 N.ch.fin, .slice a1 n1 c1, .slice b1 m1 d1, .int .i64 N.apart, .slice ia1 im1 ic1, .slice ra1 rm1 rc1]] W (RetRgTO (manyRg N 1) (gs (manyT N 1) 0) false W) from fun W h => by have h9 := impl_IssueWord N a1 n1 c1 b1 m1 d1 ia1 im1 ic1 ra1 rm1 rc1 W (HIr.out.ext h); rw [one_no2 ht] at h9; exact h9)
          have HIF := Lib.hid (show ∀ W, Ext wr W → Calls Try.prog 15 #[.agg #[.int .i64 N.ch.base, .int .i64 N.ch.states, .int .i64 N.ch.start, .int .i64 N.ch.fin, .slice a1 n1 c1, .slice b1 m1 d1, .int .i64 N.apart, .slice ia1 im1 ic1, .slice ra1 rm1 rc1]] W (Ret (.bool true) W) from fun W h => by have h9 := impl_IsFull N a1 n1 c1 b1 m1 d1 ia1 im1 ic1 ra1 rm1 rc1 W (HIr.out.ext h); rw [full_is HOkN.out, show trialB N = false by rw [trialB, ht]; rfl] at h9; exact h9)
          have HTn := Lib.hid ht
          clear ht hval
          go_wp2_with (first | (go_at_call 14; (with_reducible refine (HIW.out _ (by repeat (first | (with_reducible exact Ext.refl _) | (with_reducible assumption) | (with_reducible refine Ext.drewN ?_ _) | (with_reducible refine Ext.drew ?_) | (with_reducible refine Ext.alloc ?_ _) | ((with_reducible refine Ext.setCell ?_ ?_ _); rotate_left; focus (first | (simp; done) | (simp; omega) | omega)) | (with_reducible refine Ext.trans ?_ (by with_reducible assumption))))).mono ?_); rintro e w2 ⟨a2, n2, c2, b2, m2, d2, ia2, im2, ic2, ra2, rm2, rc2, rfl, hr2, hz2, hy2⟩; have hx2 : Ext wr w2 := Ext.trans (by repeat (first | (with_reducible exact Ext.refl _) | (with_reducible assumption) | (with_reducible refine Ext.drewN ?_ _) | (with_reducible refine Ext.drew ?_) | (with_reducible refine Ext.alloc ?_ _) | ((with_reducible refine Ext.setCell ?_ ?_ _); rotate_left; focus (first | (simp; done) | (simp; omega) | omega)) | (with_reducible refine Ext.trans ?_ (by with_reducible assumption)))) hy2; clear hy2 hr2 hz2) | (go_at_call 15; (with_reducible refine (HIF.out _ (by repeat (first | (with_reducible exact Ext.refl _) | (with_reducible assumption) | (with_reducible refine Ext.drewN ?_ _) | (with_reducible refine Ext.drew ?_) | (with_reducible refine Ext.alloc ?_ _) | ((with_reducible refine Ext.setCell ?_ ?_ _); rotate_left; focus (first | (simp; done) | (simp; omega) | omega)) | (with_reducible refine Ext.trans ?_ (by with_reducible assumption))))).mono ?_); rintro e w3 ⟨rfl, hy3⟩; have hx3 : Ext wr w3 := Ext.trans (by repeat (first | (with_reducible exact Ext.refl _) | (with_reducible assumption) | (with_reducible refine Ext.drewN ?_ _) | (with_reducible refine Ext.drew ?_) | (with_reducible refine Ext.alloc ?_ _) | ((with_reducible refine Ext.setCell ?_ ?_ _); rotate_left; focus (first | (simp; done) | (simp; omega) | omega)) | (with_reducible refine Ext.trans ?_ (by with_reducible assumption)))) hy3; clear hy3))
          go_meet
          exact ⟨k, L, a1, n1, c1, b1, m1, d1, ia1, im1, ic1, ra1, rm1, rc1, lo, hi, la, lc, rfl, by rw [← HNe.out]; exact HNo.out.ext (by repeat (first | (with_reducible exact Ext.refl _) | (with_reducible assumption) | (with_reducible refine Ext.drewN ?_ _) | (with_reducible refine Ext.drew ?_) | (with_reducible refine Ext.alloc ?_ _) | ((with_reducible refine Ext.setCell ?_ ?_ _); rotate_left; focus (first | (simp; done) | (simp; omega) | omega)) | (with_reducible refine Ext.trans ?_ (by with_reducible assumption)))), HM.out, hk, by rw [← HNe.out]; exact HOkN.out, .inr ⟨hlt, by rw [← HNe.out]; exact HTn.out⟩⟩
        | some s =>
          have ho := one_yes hval (show N.issued.length + 1 ≤ 40 by rw [HNn.out]; omega) ht
          have hi9 := iss_ok HOkN.out (show N.issued.length < 40 by rw [HNn.out]; omega) ht
          have HIW := Lib.hid (show ∀ W, Ext wr W → Calls Try.prog 14 #[.agg #[.int .i64 N.ch.base, .int .i64 N.ch.states, .int .i64 N.ch.start, .int .i64 N.ch.fin, .slice a1 n1 c1, .slice b1 m1 d1, .int .i64 N.apart, .slice ia1 im1 ic1, .slice ra1 rm1 rc1]] W (RetRgTO (issR N s) s true W) from fun W h => by have h9 := impl_IssueWord N a1 n1 c1 b1 m1 d1 ia1 im1 ic1 ra1 rm1 rc1 W (HIr.out.ext h); rw [ho.1, ho.2.1, ho.2.2] at h9; exact h9)
          have HIF := Lib.hid (show ∀ W, Ext wr W → Calls Try.prog 15 #[.agg #[.int .i64 N.ch.base, .int .i64 N.ch.states, .int .i64 N.ch.start, .int .i64 N.ch.fin, .slice a1 n1 c1, .slice b1 m1 d1, .int .i64 N.apart, .slice ia1 im1 ic1, .slice ra1 rm1 rc1]] W (Ret (.bool false) W) from fun W h => by have h9 := impl_IsFull N a1 n1 c1 b1 m1 d1 ia1 im1 ic1 ra1 rm1 rc1 W (HIr.out.ext h); rw [full_is HOkN.out, show trialB N = true by rw [trialB, ht]; rfl] at h9; exact h9)
          have hs20 : s.size ≤ 1048576 := by have := (chk_size (trial_ok HOkN.out.ch HOkN.out.vc ht).1).2; omega
          have HIG := Lib.hid (show ∀ W, Ext wr W → Calls Try.prog 16 #[.agg #[.int .i64 N.ch.base, .int .i64 N.ch.states, .int .i64 N.ch.start, .int .i64 N.ch.fin, .slice a1 n1 c1, .slice b1 m1 d1, .int .i64 N.apart, .slice ia1 im1 ic1, .slice ra1 rm1 rc1], .string s] W (RetRgO (issR N s) true W) from fun W h => by have h9 := impl_IssueGiven N a1 n1 c1 b1 m1 d1 ia1 im1 ic1 ra1 rm1 rc1 s W (HIr.out.ext h) hs20; rw [iss_yes hi9.1, hi9.1] at h9; exact h9)
          have HOk2 := Lib.hid hi9.2
          have HM2 := Lib.hid (show manyL D (k + 1) = some (L ++ [s]) from manyL_more HM.out (by rw [← HNe.out]; exact ht))
          have HGs := Lib.hid (show gs (issR N s).issued im1 = s from by rw [← HNn.out]; exact gs_app_r _ _)
          clear ht hval ho hi9 hs20
          go_wp2_with (first
            | (go_at_call 14; (with_reducible refine (HIW.out _ (by repeat (first | (with_reducible exact Ext.refl _) | (with_reducible assumption) | (with_reducible refine Ext.drewN ?_ _) | (with_reducible refine Ext.drew ?_) | (with_reducible refine Ext.alloc ?_ _) | ((with_reducible refine Ext.setCell ?_ ?_ _); rotate_left; focus (first | (simp; done) | (simp; omega) | omega)) | (with_reducible refine Ext.trans ?_ (by with_reducible assumption))))).mono ?_); rintro e w2 ⟨a2, n2, c2, b2, m2, d2, ia2, im2, ic2, ra2, rm2, rc2, rfl, hr2, hz2, hy2⟩; obtain rfl : im2 = im1 + 1 := (by have h9 := (hr2.inn hz2).is.len; simp only [issR, List.length_append, List.length_singleton, HNn.out] at h9; exact h9.symm); have hx2 : Ext wr w2 := Ext.trans (by repeat (first | (with_reducible exact Ext.refl _) | (with_reducible assumption) | (with_reducible refine Ext.drewN ?_ _) | (with_reducible refine Ext.drew ?_) | (with_reducible refine Ext.alloc ?_ _) | ((with_reducible refine Ext.setCell ?_ ?_ _); rotate_left; focus (first | (simp; done) | (simp; omega) | omega)) | (with_reducible refine Ext.trans ?_ (by with_reducible assumption)))) hy2; have HR2 := Lib.hid hr2; have HZ2 := Lib.hid hz2; clear hy2 hr2 hz2)
            | (go_at_call 15; (with_reducible refine (HIF.out _ (by repeat (first | (with_reducible exact Ext.refl _) | (with_reducible assumption) | (with_reducible refine Ext.drewN ?_ _) | (with_reducible refine Ext.drew ?_) | (with_reducible refine Ext.alloc ?_ _) | ((with_reducible refine Ext.setCell ?_ ?_ _); rotate_left; focus (first | (simp; done) | (simp; omega) | omega)) | (with_reducible refine Ext.trans ?_ (by with_reducible assumption))))).mono ?_); rintro e w3 ⟨rfl, hy3⟩; have hx3 : Ext wr w3 := Ext.trans (by repeat (first | (with_reducible exact Ext.refl _) | (with_reducible assumption) | (with_reducible refine Ext.drewN ?_ _) | (with_reducible refine Ext.drew ?_) | (with_reducible refine Ext.alloc ?_ _) | ((with_reducible refine Ext.setCell ?_ ?_ _); rotate_left; focus (first | (simp; done) | (simp; omega) | omega)) | (with_reducible refine Ext.trans ?_ (by with_reducible assumption)))) hy3; have hx23 : Ext w2 w3 := Ext.trans (by repeat (first | (with_reducible exact Ext.refl _) | (with_reducible assumption) | (with_reducible refine Ext.drewN ?_ _) | (with_reducible refine Ext.drew ?_) | (with_reducible refine Ext.alloc ?_ _) | ((with_reducible refine Ext.setCell ?_ ?_ _); rotate_left; focus (first | (simp; done) | (simp; omega) | omega)) | (with_reducible refine Ext.trans ?_ (by with_reducible assumption)))) hy3; have hc3 := (bcell hy3).1; have hl3 : w2.heap.size < w3.heap.size := (by have h9 := hy3.le; simp at h9; omega); clear hy3)
            | (go_at_call 16; (with_reducible refine (HIG.out _ (by repeat (first | (with_reducible exact Ext.refl _) | (with_reducible assumption) | (with_reducible refine Ext.drewN ?_ _) | (with_reducible refine Ext.drew ?_) | (with_reducible refine Ext.alloc ?_ _) | ((with_reducible refine Ext.setCell ?_ ?_ _); rotate_left; focus (first | (simp; done) | (simp; omega) | omega)) | (with_reducible refine Ext.trans ?_ (by with_reducible assumption))))).mono ?_); rintro e w5 ⟨a3, n3, c3, b3, m3, d3, ia3, im3, ic3, ra3, rm3, rc3, rfl, hr3, hz3, hy5⟩; obtain rfl : im3 = im1 + 1 := (by have h9 := (hr3.inn hz3).is.len; simp only [issR, List.length_append, List.length_singleton, HNn.out] at h9; exact h9.symm); have hx5 : Ext wr w5 := Ext.trans (by repeat (first | (with_reducible exact Ext.refl _) | (with_reducible assumption) | (with_reducible refine Ext.drewN ?_ _) | (with_reducible refine Ext.drew ?_) | (with_reducible refine Ext.alloc ?_ _) | ((with_reducible refine Ext.setCell ?_ ?_ _); rotate_left; focus (first | (simp; done) | (simp; omega) | omega)) | (with_reducible refine Ext.trans ?_ (by with_reducible assumption)))) hy5; have hx25 : Ext w2 w5 := Ext.trans hx23 hy5; have hc5 := (bcell hy5).1; have hl5 : w2.heap.size < w5.heap.size := Nat.lt_of_lt_of_le hl3 hy5.le; have hxx5 : Ext w5 w5 := Ext.refl _; obtain ⟨bg, og, hixg, hcg⟩ := Strs.ix (P := Try.prog) (hr3.inn hz3).is 28 9 und_strs cell_str; have hcg1 := fun W (h : Ext w5 W) => hcg im1 W (Nat.lt_succ_self im1) h; rw [HGs.out] at hcg1; have hix9 := fun K W => hixg (im1 : Int) K W (by omega) (by omega); rw [Int.toNat_natCast] at hix9; clear hcg hixg hy5 hr3 hz3)
            | (at_builtin; refine law_append1_at _ rfl _ _ 28 rfl 9 (.string .empty) 16 und_strs info_str rfl (q7 + 1) la k lc (St L) _ rfl rfl (by simp [Act.eval, go_sem]) (HNo.out.ws.ext (by repeat (first | (with_reducible exact Ext.refl _) | (with_reducible assumption) | (with_reducible refine Ext.drewN ?_ _) | (with_reducible refine Ext.drew ?_) | (with_reducible refine Ext.alloc ?_ _) | ((with_reducible refine Ext.setCell ?_ ?_ _); rotate_left; focus (first | (simp; done) | (simp; omega) | omega)) | (with_reducible refine Ext.trans ?_ (by with_reducible assumption))))) (by simp; have := hx5.le; omega) (by omega) (by omega) ?_; intro ad6 c6 w6 ho6 hb6 hg6 hp6; have hS6 := (HNo.out.s.ext (by repeat (first | (with_reducible exact Ext.refl _) | (with_reducible assumption) | (with_reducible refine Ext.drewN ?_ _) | (with_reducible refine Ext.drew ?_) | (with_reducible refine Ext.alloc ?_ _) | ((with_reducible refine Ext.setCell ?_ ?_ _); rotate_left; focus (first | (simp; done) | (simp; omega) | omega)) | (with_reducible refine Ext.trans ?_ (by with_reducible assumption))))).grown hg6 (row_ne_s (HNo.out.ws.ne_s HNo.out.s (by decide))); have y0 := hS6.cell 0 (by simp); have y1 := hS6.cell 1 (by simp); have y2 := hS6.cell 2 (by simp); have y3 := hS6.cell 3 (by simp); have y4 := hS6.cell 4 (by simp); have y5 := hS6.cell 5 (by simp); have y6 := hS6.cell 6 (by simp); have y7 := hS6.cell 7 (by simp); have y8 := hS6.cell 8 (by simp); (try simp only [List.getElem_toArray, List.getElem_cons_succ, List.getElem_cons_zero] at y0 y1 y2 y3 y4 y5 y6 y7 y8); have yf := fun j => hS6.frozen j; have yl := hS6.lt; have hc6 := gcell hg6 (own_ne_up HNo.out.ws hx2.le) (by simp; have := hx25.le; have := hx2.le; omega); have HG6 := Lib.hid hg6; have HP6 := Lib.hid hp6; have HO6 := Lib.hid ho6; have HB6 := Lib.hid hb6; clear hg6 hp6 ho6 hb6 hS6))
          refine ⟨⟨k + 1, by omega, by go_num, L ++ [s], a2, n2, c2, b2, m2, d2, ia2, im1 + 1, ic2, ra2, rm2, rc2, wr.heap.size, w2.heap.size, ad6, c6, rfl, ?_, HM2.out, ?_⟩, by simp [intOf]; omega⟩
          · rw [← addL_snoc, ← HNe.out]
            exact HNo.out.more hx2 HR2.out HZ2.out (by repeat (first | (with_reducible exact Ext.refl _) | (with_reducible assumption) | (with_reducible refine Ext.drewN ?_ _) | (with_reducible refine Ext.drew ?_) | (with_reducible refine Ext.alloc ?_ _) | ((with_reducible refine Ext.setCell ?_ ?_ _); rotate_left; focus (first | (simp; done) | (simp; omega) | omega)) | (with_reducible refine Ext.trans ?_ (by with_reducible assumption)))) HO6.out HB6.out HG6.out HP6.out
          · rw [← addL_snoc, ← HNe.out]
            exact HOk2.out
      · go_wp2_with fail
        go_meet
        exact ⟨k, L, a1, n1, c1, b1, m1, d1, ia1, im1, ic1, ra1, rm1, rc1, lo, hi, la, lc, rfl, by rw [← HNe.out]; exact HNo.out, HM.out, hk, by rw [← HNe.out]; exact HOkN.out, .inl (by omega)⟩
  case rest =>
    obtain ⟨k, L, a1, n1, c1, b1, m1, d1, ia1, im1, ic1, ra1, rm1, rc1, lo, hi, la, lc, rfl, hno, hm, hkc, hok, hend⟩ := hcut
    have HNo := Lib.hid hno
    have HM := Lib.hid hm
    have HOkN := Lib.hid hok
    have HIr := Lib.hid hno.rgIn
    have HLk := Lib.hid (many_len hm)
    have hxqc : Ext wq wc := hno.x
    have hxcc : Ext wc wc := Ext.refl _
    have HNl := Lib.hid (show D.issued.length + k = im1 from by have := hno.rgIn.is.len; simp only [addL, List.length_append, many_len hm] at this; exact this)
    have him40 : im1 ≤ 8 := by have := HNl.out; have := HDl.out; omega
    have HWs := Lib.hid (show Strs wc la k lc L from hno.ws.sl)
    obtain ⟨N, hN⟩ : ∃ N, N = addL D L := ⟨_, rfl⟩
    rw [← hN] at HNo HOkN HIr
    have HNe := Lib.hid hN
    have HNn := Lib.hid (show N.issued.length = im1 from HIr.out.is.len)
    have HEnd := Lib.hid hend
    have hxwc : Ext w wc := hxwq.trans hxqc
    clear hno hm hok hN hend HNow0
    have z0 := fun w' (hx : Ext wc w') => (HNo.out.s.ext hx).cell 0 (by simp)
    have z1 := fun w' (hx : Ext wc w') => (HNo.out.s.ext hx).cell 1 (by simp)
    have z2 := fun w' (hx : Ext wc w') => (HNo.out.s.ext hx).cell 2 (by simp)
    have z3 := fun w' (hx : Ext wc w') => (HNo.out.s.ext hx).cell 3 (by simp)
    have z4 := fun w' (hx : Ext wc w') => (HNo.out.s.ext hx).cell 4 (by simp)
    have z5 := fun w' (hx : Ext wc w') => (HNo.out.s.ext hx).cell 5 (by simp)
    have z6 := fun w' (hx : Ext wc w') => (HNo.out.s.ext hx).cell 6 (by simp)
    have z7 := fun w' (hx : Ext wc w') => (HNo.out.s.ext hx).cell 7 (by simp)
    have z8 := fun w' (hx : Ext wc w') => (HNo.out.s.ext hx).cell 8 (by simp)
    try simp only [List.getElem_toArray, List.getElem_cons_succ, List.getElem_cons_zero] at z0 z1 z2 z3 z4 z5 z6 z7 z8
    have v0 := fun w' (hx : Ext wq w') => (HQ5.out.ext hx).cell 0 (by simp)
    have v1 := fun w' (hx : Ext wq w') => (HQ5.out.ext hx).cell 1 (by simp)
    have v2 := fun w' (hx : Ext wq w') => (HQ5.out.ext hx).cell 2 (by simp)
    have v3 := fun w' (hx : Ext wq w') => (HQ5.out.ext hx).cell 3 (by simp)
    have v4 := fun w' (hx : Ext wq w') => (HQ5.out.ext hx).cell 4 (by simp)
    have v5 := fun w' (hx : Ext wq w') => (HQ5.out.ext hx).cell 5 (by simp)
    have v6 := fun w' (hx : Ext wq w') => (HQ5.out.ext hx).cell 6 (by simp)
    have v7 := fun w' (hx : Ext wq w') => (HQ5.out.ext hx).cell 7 (by simp)
    have v8 := fun w' (hx : Ext wq w') => (HQ5.out.ext hx).cell 8 (by simp)
    try simp only [List.getElem_toArray, List.getElem_cons_succ, List.getElem_cons_zero] at v0 v1 v2 v3 v4 v5 v6 v7 v8
    have HVr := Lib.hid (show ∀ W, Ext wc W → Calls Try.prog 18 #[.agg #[.int .i64 N.ch.base, .int .i64 N.ch.states, .int .i64 N.ch.start, .int .i64 N.ch.fin, .slice a1 n1 c1, .slice b1 m1 d1, .int .i64 N.apart, .slice ia1 im1 ic1, .slice ra1 rm1 rc1]] W (Ret (.bool true) W) from fun W h => by have h9 := impl_ValidRegistry N a1 n1 c1 b1 m1 d1 ia1 im1 ic1 ra1 rm1 rc1 W (HIr.out.ext h); rw [HOkN.out.valid] at h9; exact h9)
    have HLA := Lib.hid (show ∀ W, Ext wc W → Calls Try.prog 20 #[.agg #[.int .i64 N.ch.base, .int .i64 N.ch.states, .int .i64 N.ch.start, .int .i64 N.ch.fin, .slice a1 n1 c1, .slice b1 m1 d1, .int .i64 N.apart, .slice ia1 im1 ic1, .slice ra1 rm1 rc1]] W (Ret2 (.int .i64 (laRes N)) (.bool (laOk N)) W) from fun W h => impl_LeastApart N a1 n1 c1 b1 m1 d1 ia1 im1 ic1 ra1 rm1 rc1 W (HIr.out.ext h))
    by_cases h2 : 2 ≤ im1
    · have h3 : 2 ≤ N.issued.length := by rw [HNn.out]; exact h2
      have h4 := la_ge HOkN.out h3
      rw [h4.1] at HLA
      have hap : decide (N.apart ≤ laRes N) = true := decide_eq_true h4.2
      have him : decide ((1 : Int) < (im1 : Int)) = true := by simp; omega
      generalize laRes N = lr at *
      clear h3 h4 h2
      by_cases hkk : k = cnt
      · subst hkk
        have HIM := Lib.hid (show ∀ W, Ext wq W → Calls Try.prog 17 #[.agg #[.int .i64 D.ch.base, .int .i64 D.ch.states, .int .i64 D.ch.start, .int .i64 D.ch.fin, .slice a0 n0 c0, .slice b0 m0 d0, .int .i64 D.apart, .slice ia0 im0 ic0, .slice ra0 rm0 rc0], .int .i64 k] W (RetManyO N L true W) from fun W h => by have h9 := impl_IssueMany D a0 n0 c0 b0 m0 d0 ia0 im0 ic0 ra0 rm0 rc0 k W (HInQ.out.ext h); have ha := many_all HOk.out (show D.issued.length + k ≤ 40 by have := HNl.out; omega) HM.out; rw [ha.1, ha.2.1, ha.2.2, ← HNe.out] at h9; exact h9)
        go_wp2_with (first
          | (go_at_call 17; (with_reducible refine (HIM.out _ (by repeat (first | (with_reducible exact Ext.refl _) | (with_reducible assumption) | (with_reducible refine Ext.drewN ?_ _) | (with_reducible refine Ext.drew ?_) | (with_reducible refine Ext.alloc ?_ _) | ((with_reducible refine Ext.setCell ?_ ?_ _); rotate_left; focus (first | (simp; done) | (simp; omega) | omega)) | (with_reducible refine Ext.trans ?_ (by with_reducible assumption))))).mono ?_); rintro e w2 ⟨a3, n3, c3, b3, m3, d3, ia3, im3, ic3, ra3, rm3, rc3, la3, ln3, lc3, rfl, hr3, hz3, hln3, hy2⟩; have hx2 : Ext wc w2 := Ext.trans (by repeat (first | (with_reducible exact Ext.refl _) | (with_reducible assumption) | (with_reducible refine Ext.drewN ?_ _) | (with_reducible refine Ext.drew ?_) | (with_reducible refine Ext.alloc ?_ _) | ((with_reducible refine Ext.setCell ?_ ?_ _); rotate_left; focus (first | (simp; done) | (simp; omega) | omega)) | (with_reducible refine Ext.trans ?_ (by with_reducible assumption)))) hy2; obtain rfl : ln3 = k := (by have h9 := hr3.ls.len; have h8 := HLk.out; omega); obtain rfl : im3 = im1 := (by have h9 := (hr3.rg.inn hz3).is.len; have h8 := HNn.out; omega); have HL3 := Lib.hid hr3.ls; have HI3 := Lib.hid (hr3.rg.inn hz3).is; clear hy2 hr3 hz3 hln3)
          | (go_at_call 18; (with_reducible refine (HVr.out _ (by repeat (first | (with_reducible exact Ext.refl _) | (with_reducible assumption) | (with_reducible refine Ext.drewN ?_ _) | (with_reducible refine Ext.drew ?_) | (with_reducible refine Ext.alloc ?_ _) | ((with_reducible refine Ext.setCell ?_ ?_ _); rotate_left; focus (first | (simp; done) | (simp; omega) | omega)) | (with_reducible refine Ext.trans ?_ (by with_reducible assumption))))).mono ?_); rintro e w3 ⟨rfl, hy3⟩; have hx3 : Ext wc w3 := Ext.trans (by repeat (first | (with_reducible exact Ext.refl _) | (with_reducible assumption) | (with_reducible refine Ext.drewN ?_ _) | (with_reducible refine Ext.drew ?_) | (with_reducible refine Ext.alloc ?_ _) | ((with_reducible refine Ext.setCell ?_ ?_ _); rotate_left; focus (first | (simp; done) | (simp; omega) | omega)) | (with_reducible refine Ext.trans ?_ (by with_reducible assumption)))) hy3; have hx23 : Ext w2 w3 := Ext.trans (by repeat (first | (with_reducible exact Ext.refl _) | (with_reducible assumption) | (with_reducible refine Ext.drewN ?_ _) | (with_reducible refine Ext.drew ?_) | (with_reducible refine Ext.alloc ?_ _) | ((with_reducible refine Ext.setCell ?_ ?_ _); rotate_left; focus (first | (simp; done) | (simp; omega) | omega)) | (with_reducible refine Ext.trans ?_ (by with_reducible assumption)))) hy3; have hc3 := (bcell hy3).1; have hl3 : w2.heap.size < w3.heap.size := (by have h9 := hy3.le; simp at h9; omega); clear hy3)
          | (go_at_call 19; first
              | ((with_reducible refine (laws_sameTexts la3 la ln3 lc3 lc L _ (Strs.ext HL3.out (by repeat (first | (with_reducible exact Ext.refl _) | (with_reducible assumption) | (with_reducible refine Ext.drewN ?_ _) | (with_reducible refine Ext.drew ?_) | (with_reducible refine Ext.alloc ?_ _) | ((with_reducible refine Ext.setCell ?_ ?_ _); rotate_left; focus (first | (simp; done) | (simp; omega) | omega)) | (with_reducible refine Ext.trans ?_ (by with_reducible assumption))))) (Strs.ext HWs.out (by repeat (first | (with_reducible exact Ext.refl _) | (with_reducible assumption) | (with_reducible refine Ext.drewN ?_ _) | (with_reducible refine Ext.drew ?_) | (with_reducible refine Ext.alloc ?_ _) | ((with_reducible refine Ext.setCell ?_ ?_ _); rotate_left; focus (first | (simp; done) | (simp; omega) | omega)) | (with_reducible refine Ext.trans ?_ (by with_reducible assumption))))) (by omega)).mono ?_); rintro e w4 ⟨rfl, hy4⟩; have hx4 : Ext wc w4 := Ext.trans (by repeat (first | (with_reducible exact Ext.refl _) | (with_reducible assumption) | (with_reducible refine Ext.drewN ?_ _) | (with_reducible refine Ext.drew ?_) | (with_reducible refine Ext.alloc ?_ _) | ((with_reducible refine Ext.setCell ?_ ?_ _); rotate_left; focus (first | (simp; done) | (simp; omega) | omega)) | (with_reducible refine Ext.trans ?_ (by with_reducible assumption)))) hy4; have hx24 : Ext w2 w4 := Ext.trans (by repeat (first | (with_reducible exact Ext.refl _) | (with_reducible assumption) | (with_reducible refine Ext.drewN ?_ _) | (with_reducible refine Ext.drew ?_) | (with_reducible refine Ext.alloc ?_ _) | ((with_reducible refine Ext.setCell ?_ ?_ _); rotate_left; focus (first | (simp; done) | (simp; omega) | omega)) | (with_reducible refine Ext.trans ?_ (by with_reducible assumption)))) hy4; have hc4 := (bcell hy4).1; clear hy4)
              | ((with_reducible refine (laws_sameTexts ia3 ia1 im3 ic3 ic1 N.issued _ (Strs.ext HI3.out (by repeat (first | (with_reducible exact Ext.refl _) | (with_reducible assumption) | (with_reducible refine Ext.drewN ?_ _) | (with_reducible refine Ext.drew ?_) | (with_reducible refine Ext.alloc ?_ _) | ((with_reducible refine Ext.setCell ?_ ?_ _); rotate_left; focus (first | (simp; done) | (simp; omega) | omega)) | (with_reducible refine Ext.trans ?_ (by with_reducible assumption))))) (Strs.ext HIr.out.is (by repeat (first | (with_reducible exact Ext.refl _) | (with_reducible assumption) | (with_reducible refine Ext.drewN ?_ _) | (with_reducible refine Ext.drew ?_) | (with_reducible refine Ext.alloc ?_ _) | ((with_reducible refine Ext.setCell ?_ ?_ _); rotate_left; focus (first | (simp; done) | (simp; omega) | omega)) | (with_reducible refine Ext.trans ?_ (by with_reducible assumption))))) (by omega)).mono ?_); rintro e w5 ⟨rfl, hy5⟩; have hx5 : Ext wc w5 := Ext.trans (by repeat (first | (with_reducible exact Ext.refl _) | (with_reducible assumption) | (with_reducible refine Ext.drewN ?_ _) | (with_reducible refine Ext.drew ?_) | (with_reducible refine Ext.alloc ?_ _) | ((with_reducible refine Ext.setCell ?_ ?_ _); rotate_left; focus (first | (simp; done) | (simp; omega) | omega)) | (with_reducible refine Ext.trans ?_ (by with_reducible assumption)))) hy5; clear hy5))
          | (go_at_call 20; (with_reducible refine (HLA.out _ (by repeat (first | (with_reducible exact Ext.refl _) | (with_reducible assumption) | (with_reducible refine Ext.drewN ?_ _) | (with_reducible refine Ext.drew ?_) | (with_reducible refine Ext.alloc ?_ _) | ((with_reducible refine Ext.setCell ?_ ?_ _); rotate_left; focus (first | (simp; done) | (simp; omega) | omega)) | (with_reducible refine Ext.trans ?_ (by with_reducible assumption))))).mono ?_); rintro e w6 ⟨rfl, hy6⟩; have hx6 : Ext wc w6 := Ext.trans (by repeat (first | (with_reducible exact Ext.refl _) | (with_reducible assumption) | (with_reducible refine Ext.drewN ?_ _) | (with_reducible refine Ext.drew ?_) | (with_reducible refine Ext.alloc ?_ _) | ((with_reducible refine Ext.setCell ?_ ?_ _); rotate_left; focus (first | (simp; done) | (simp; omega) | omega)) | (with_reducible refine Ext.trans ?_ (by with_reducible assumption)))) hy6; clear hy6))
        go_ret
        exact ⟨rfl, hxwc.trans (by repeat (first | (with_reducible exact Ext.refl _) | (with_reducible assumption) | (with_reducible refine Ext.drewN ?_ _) | (with_reducible refine Ext.drew ?_) | (with_reducible refine Ext.alloc ?_ _) | ((with_reducible refine Ext.setCell ?_ ?_ _); rotate_left; focus (first | (simp; done) | (simp; omega) | omega)) | (with_reducible refine Ext.trans ?_ (by with_reducible assumption))))⟩
      · have hke : ((k : Int) == cnt) = false := by simp; omega
        have HIM := Lib.hid (show ∀ W, Ext wq W → Calls Try.prog 17 #[.agg #[.int .i64 D.ch.base, .int .i64 D.ch.states, .int .i64 D.ch.start, .int .i64 D.ch.fin, .slice a0 n0 c0, .slice b0 m0 d0, .int .i64 D.apart, .slice ia0 im0 ic0, .slice ra0 rm0 rc0], .int .i64 cnt] W (RetManyO (manyRg D cnt) (manyT D cnt) false W) from fun W h => by have h9 := impl_IssueMany D a0 n0 c0 b0 m0 d0 ia0 im0 ic0 ra0 rm0 rc0 cnt W (HInQ.out.ext h); rw [many_few HM.out (by rcases HEnd.out with h | h; exact absurd h hkk; exact h.2) (by omega)] at h9; exact h9)
        go_wp2_with (first
          | (go_at_call 17; (with_reducible refine (HIM.out _ (by repeat (first | (with_reducible exact Ext.refl _) | (with_reducible assumption) | (with_reducible refine Ext.drewN ?_ _) | (with_reducible refine Ext.drew ?_) | (with_reducible refine Ext.alloc ?_ _) | ((with_reducible refine Ext.setCell ?_ ?_ _); rotate_left; focus (first | (simp; done) | (simp; omega) | omega)) | (with_reducible refine Ext.trans ?_ (by with_reducible assumption))))).mono ?_); rintro e w2 ⟨a3, n3, c3, b3, m3, d3, ia3, im3, ic3, ra3, rm3, rc3, la3, ln3, lc3, rfl, hr3, hz3, hln3, hy2⟩; have hx2 : Ext wc w2 := Ext.trans (by repeat (first | (with_reducible exact Ext.refl _) | (with_reducible assumption) | (with_reducible refine Ext.drewN ?_ _) | (with_reducible refine Ext.drew ?_) | (with_reducible refine Ext.alloc ?_ _) | ((with_reducible refine Ext.setCell ?_ ?_ _); rotate_left; focus (first | (simp; done) | (simp; omega) | omega)) | (with_reducible refine Ext.trans ?_ (by with_reducible assumption)))) hy2; clear hy2 hr3 hz3 hln3)
          | (go_at_call 18; (with_reducible refine (HVr.out _ (by repeat (first | (with_reducible exact Ext.refl _) | (with_reducible assumption) | (with_reducible refine Ext.drewN ?_ _) | (with_reducible refine Ext.drew ?_) | (with_reducible refine Ext.alloc ?_ _) | ((with_reducible refine Ext.setCell ?_ ?_ _); rotate_left; focus (first | (simp; done) | (simp; omega) | omega)) | (with_reducible refine Ext.trans ?_ (by with_reducible assumption))))).mono ?_); rintro e w3 ⟨rfl, hy3⟩; have hx3 : Ext wc w3 := Ext.trans (by repeat (first | (with_reducible exact Ext.refl _) | (with_reducible assumption) | (with_reducible refine Ext.drewN ?_ _) | (with_reducible refine Ext.drew ?_) | (with_reducible refine Ext.alloc ?_ _) | ((with_reducible refine Ext.setCell ?_ ?_ _); rotate_left; focus (first | (simp; done) | (simp; omega) | omega)) | (with_reducible refine Ext.trans ?_ (by with_reducible assumption)))) hy3; clear hy3)
          | (go_at_call 20; (with_reducible refine (HLA.out _ (by repeat (first | (with_reducible exact Ext.refl _) | (with_reducible assumption) | (with_reducible refine Ext.drewN ?_ _) | (with_reducible refine Ext.drew ?_) | (with_reducible refine Ext.alloc ?_ _) | ((with_reducible refine Ext.setCell ?_ ?_ _); rotate_left; focus (first | (simp; done) | (simp; omega) | omega)) | (with_reducible refine Ext.trans ?_ (by with_reducible assumption))))).mono ?_); rintro e w6 ⟨rfl, hy6⟩; have hx6 : Ext wc w6 := Ext.trans (by repeat (first | (with_reducible exact Ext.refl _) | (with_reducible assumption) | (with_reducible refine Ext.drewN ?_ _) | (with_reducible refine Ext.drew ?_) | (with_reducible refine Ext.alloc ?_ _) | ((with_reducible refine Ext.setCell ?_ ?_ _); rotate_left; focus (first | (simp; done) | (simp; omega) | omega)) | (with_reducible refine Ext.trans ?_ (by with_reducible assumption)))) hy6; clear hy6))
        go_ret
        exact ⟨rfl, hxwc.trans (by repeat (first | (with_reducible exact Ext.refl _) | (with_reducible assumption) | (with_reducible refine Ext.drewN ?_ _) | (with_reducible refine Ext.drew ?_) | (with_reducible refine Ext.alloc ?_ _) | ((with_reducible refine Ext.setCell ?_ ?_ _); rotate_left; focus (first | (simp; done) | (simp; omega) | omega)) | (with_reducible refine Ext.trans ?_ (by with_reducible assumption))))⟩
    · have h4 := la_less (D := N) (show ¬ 2 ≤ N.issued.length by rw [HNn.out]; exact h2)
      rw [h4] at HLA
      have him : decide ((1 : Int) < (im1 : Int)) = false := by simp; omega
      clear h4 h2
      by_cases hkk : k = cnt
      · subst hkk
        have HIM := Lib.hid (show ∀ W, Ext wq W → Calls Try.prog 17 #[.agg #[.int .i64 D.ch.base, .int .i64 D.ch.states, .int .i64 D.ch.start, .int .i64 D.ch.fin, .slice a0 n0 c0, .slice b0 m0 d0, .int .i64 D.apart, .slice ia0 im0 ic0, .slice ra0 rm0 rc0], .int .i64 k] W (RetManyO N L true W) from fun W h => by have h9 := impl_IssueMany D a0 n0 c0 b0 m0 d0 ia0 im0 ic0 ra0 rm0 rc0 k W (HInQ.out.ext h); have ha := many_all HOk.out (show D.issued.length + k ≤ 40 by have := HNl.out; omega) HM.out; rw [ha.1, ha.2.1, ha.2.2, ← HNe.out] at h9; exact h9)
        go_wp2_with (first
          | (go_at_call 17; (with_reducible refine (HIM.out _ (by repeat (first | (with_reducible exact Ext.refl _) | (with_reducible assumption) | (with_reducible refine Ext.drewN ?_ _) | (with_reducible refine Ext.drew ?_) | (with_reducible refine Ext.alloc ?_ _) | ((with_reducible refine Ext.setCell ?_ ?_ _); rotate_left; focus (first | (simp; done) | (simp; omega) | omega)) | (with_reducible refine Ext.trans ?_ (by with_reducible assumption))))).mono ?_); rintro e w2 ⟨a3, n3, c3, b3, m3, d3, ia3, im3, ic3, ra3, rm3, rc3, la3, ln3, lc3, rfl, hr3, hz3, hln3, hy2⟩; have hx2 : Ext wc w2 := Ext.trans (by repeat (first | (with_reducible exact Ext.refl _) | (with_reducible assumption) | (with_reducible refine Ext.drewN ?_ _) | (with_reducible refine Ext.drew ?_) | (with_reducible refine Ext.alloc ?_ _) | ((with_reducible refine Ext.setCell ?_ ?_ _); rotate_left; focus (first | (simp; done) | (simp; omega) | omega)) | (with_reducible refine Ext.trans ?_ (by with_reducible assumption)))) hy2; obtain rfl : ln3 = k := (by have h9 := hr3.ls.len; have h8 := HLk.out; omega); obtain rfl : im3 = im1 := (by have h9 := (hr3.rg.inn hz3).is.len; have h8 := HNn.out; omega); have HL3 := Lib.hid hr3.ls; have HI3 := Lib.hid (hr3.rg.inn hz3).is; clear hy2 hr3 hz3 hln3)
          | (go_at_call 18; (with_reducible refine (HVr.out _ (by repeat (first | (with_reducible exact Ext.refl _) | (with_reducible assumption) | (with_reducible refine Ext.drewN ?_ _) | (with_reducible refine Ext.drew ?_) | (with_reducible refine Ext.alloc ?_ _) | ((with_reducible refine Ext.setCell ?_ ?_ _); rotate_left; focus (first | (simp; done) | (simp; omega) | omega)) | (with_reducible refine Ext.trans ?_ (by with_reducible assumption))))).mono ?_); rintro e w3 ⟨rfl, hy3⟩; have hx3 : Ext wc w3 := Ext.trans (by repeat (first | (with_reducible exact Ext.refl _) | (with_reducible assumption) | (with_reducible refine Ext.drewN ?_ _) | (with_reducible refine Ext.drew ?_) | (with_reducible refine Ext.alloc ?_ _) | ((with_reducible refine Ext.setCell ?_ ?_ _); rotate_left; focus (first | (simp; done) | (simp; omega) | omega)) | (with_reducible refine Ext.trans ?_ (by with_reducible assumption)))) hy3; have hx23 : Ext w2 w3 := Ext.trans (by repeat (first | (with_reducible exact Ext.refl _) | (with_reducible assumption) | (with_reducible refine Ext.drewN ?_ _) | (with_reducible refine Ext.drew ?_) | (with_reducible refine Ext.alloc ?_ _) | ((with_reducible refine Ext.setCell ?_ ?_ _); rotate_left; focus (first | (simp; done) | (simp; omega) | omega)) | (with_reducible refine Ext.trans ?_ (by with_reducible assumption)))) hy3; have hc3 := (bcell hy3).1; have hl3 : w2.heap.size < w3.heap.size := (by have h9 := hy3.le; simp at h9; omega); clear hy3)
          | (go_at_call 19; first
              | ((with_reducible refine (laws_sameTexts la3 la ln3 lc3 lc L _ (Strs.ext HL3.out (by repeat (first | (with_reducible exact Ext.refl _) | (with_reducible assumption) | (with_reducible refine Ext.drewN ?_ _) | (with_reducible refine Ext.drew ?_) | (with_reducible refine Ext.alloc ?_ _) | ((with_reducible refine Ext.setCell ?_ ?_ _); rotate_left; focus (first | (simp; done) | (simp; omega) | omega)) | (with_reducible refine Ext.trans ?_ (by with_reducible assumption))))) (Strs.ext HWs.out (by repeat (first | (with_reducible exact Ext.refl _) | (with_reducible assumption) | (with_reducible refine Ext.drewN ?_ _) | (with_reducible refine Ext.drew ?_) | (with_reducible refine Ext.alloc ?_ _) | ((with_reducible refine Ext.setCell ?_ ?_ _); rotate_left; focus (first | (simp; done) | (simp; omega) | omega)) | (with_reducible refine Ext.trans ?_ (by with_reducible assumption))))) (by omega)).mono ?_); rintro e w4 ⟨rfl, hy4⟩; have hx4 : Ext wc w4 := Ext.trans (by repeat (first | (with_reducible exact Ext.refl _) | (with_reducible assumption) | (with_reducible refine Ext.drewN ?_ _) | (with_reducible refine Ext.drew ?_) | (with_reducible refine Ext.alloc ?_ _) | ((with_reducible refine Ext.setCell ?_ ?_ _); rotate_left; focus (first | (simp; done) | (simp; omega) | omega)) | (with_reducible refine Ext.trans ?_ (by with_reducible assumption)))) hy4; have hx24 : Ext w2 w4 := Ext.trans (by repeat (first | (with_reducible exact Ext.refl _) | (with_reducible assumption) | (with_reducible refine Ext.drewN ?_ _) | (with_reducible refine Ext.drew ?_) | (with_reducible refine Ext.alloc ?_ _) | ((with_reducible refine Ext.setCell ?_ ?_ _); rotate_left; focus (first | (simp; done) | (simp; omega) | omega)) | (with_reducible refine Ext.trans ?_ (by with_reducible assumption)))) hy4; have hc4 := (bcell hy4).1; clear hy4)
              | ((with_reducible refine (laws_sameTexts ia3 ia1 im3 ic3 ic1 N.issued _ (Strs.ext HI3.out (by repeat (first | (with_reducible exact Ext.refl _) | (with_reducible assumption) | (with_reducible refine Ext.drewN ?_ _) | (with_reducible refine Ext.drew ?_) | (with_reducible refine Ext.alloc ?_ _) | ((with_reducible refine Ext.setCell ?_ ?_ _); rotate_left; focus (first | (simp; done) | (simp; omega) | omega)) | (with_reducible refine Ext.trans ?_ (by with_reducible assumption))))) (Strs.ext HIr.out.is (by repeat (first | (with_reducible exact Ext.refl _) | (with_reducible assumption) | (with_reducible refine Ext.drewN ?_ _) | (with_reducible refine Ext.drew ?_) | (with_reducible refine Ext.alloc ?_ _) | ((with_reducible refine Ext.setCell ?_ ?_ _); rotate_left; focus (first | (simp; done) | (simp; omega) | omega)) | (with_reducible refine Ext.trans ?_ (by with_reducible assumption))))) (by omega)).mono ?_); rintro e w5 ⟨rfl, hy5⟩; have hx5 : Ext wc w5 := Ext.trans (by repeat (first | (with_reducible exact Ext.refl _) | (with_reducible assumption) | (with_reducible refine Ext.drewN ?_ _) | (with_reducible refine Ext.drew ?_) | (with_reducible refine Ext.alloc ?_ _) | ((with_reducible refine Ext.setCell ?_ ?_ _); rotate_left; focus (first | (simp; done) | (simp; omega) | omega)) | (with_reducible refine Ext.trans ?_ (by with_reducible assumption)))) hy5; clear hy5))
          | (go_at_call 20; (with_reducible refine (HLA.out _ (by repeat (first | (with_reducible exact Ext.refl _) | (with_reducible assumption) | (with_reducible refine Ext.drewN ?_ _) | (with_reducible refine Ext.drew ?_) | (with_reducible refine Ext.alloc ?_ _) | ((with_reducible refine Ext.setCell ?_ ?_ _); rotate_left; focus (first | (simp; done) | (simp; omega) | omega)) | (with_reducible refine Ext.trans ?_ (by with_reducible assumption))))).mono ?_); rintro e w6 ⟨rfl, hy6⟩; have hx6 : Ext wc w6 := Ext.trans (by repeat (first | (with_reducible exact Ext.refl _) | (with_reducible assumption) | (with_reducible refine Ext.drewN ?_ _) | (with_reducible refine Ext.drew ?_) | (with_reducible refine Ext.alloc ?_ _) | ((with_reducible refine Ext.setCell ?_ ?_ _); rotate_left; focus (first | (simp; done) | (simp; omega) | omega)) | (with_reducible refine Ext.trans ?_ (by with_reducible assumption)))) hy6; clear hy6))
        go_ret
        exact ⟨rfl, hxwc.trans (by repeat (first | (with_reducible exact Ext.refl _) | (with_reducible assumption) | (with_reducible refine Ext.drewN ?_ _) | (with_reducible refine Ext.drew ?_) | (with_reducible refine Ext.alloc ?_ _) | ((with_reducible refine Ext.setCell ?_ ?_ _); rotate_left; focus (first | (simp; done) | (simp; omega) | omega)) | (with_reducible refine Ext.trans ?_ (by with_reducible assumption))))⟩
      · have hke : ((k : Int) == cnt) = false := by simp; omega
        have HIM := Lib.hid (show ∀ W, Ext wq W → Calls Try.prog 17 #[.agg #[.int .i64 D.ch.base, .int .i64 D.ch.states, .int .i64 D.ch.start, .int .i64 D.ch.fin, .slice a0 n0 c0, .slice b0 m0 d0, .int .i64 D.apart, .slice ia0 im0 ic0, .slice ra0 rm0 rc0], .int .i64 cnt] W (RetManyO (manyRg D cnt) (manyT D cnt) false W) from fun W h => by have h9 := impl_IssueMany D a0 n0 c0 b0 m0 d0 ia0 im0 ic0 ra0 rm0 rc0 cnt W (HInQ.out.ext h); rw [many_few HM.out (by rcases HEnd.out with h | h; exact absurd h hkk; exact h.2) (by omega)] at h9; exact h9)
        go_wp2_with (first
          | (go_at_call 17; (with_reducible refine (HIM.out _ (by repeat (first | (with_reducible exact Ext.refl _) | (with_reducible assumption) | (with_reducible refine Ext.drewN ?_ _) | (with_reducible refine Ext.drew ?_) | (with_reducible refine Ext.alloc ?_ _) | ((with_reducible refine Ext.setCell ?_ ?_ _); rotate_left; focus (first | (simp; done) | (simp; omega) | omega)) | (with_reducible refine Ext.trans ?_ (by with_reducible assumption))))).mono ?_); rintro e w2 ⟨a3, n3, c3, b3, m3, d3, ia3, im3, ic3, ra3, rm3, rc3, la3, ln3, lc3, rfl, hr3, hz3, hln3, hy2⟩; have hx2 : Ext wc w2 := Ext.trans (by repeat (first | (with_reducible exact Ext.refl _) | (with_reducible assumption) | (with_reducible refine Ext.drewN ?_ _) | (with_reducible refine Ext.drew ?_) | (with_reducible refine Ext.alloc ?_ _) | ((with_reducible refine Ext.setCell ?_ ?_ _); rotate_left; focus (first | (simp; done) | (simp; omega) | omega)) | (with_reducible refine Ext.trans ?_ (by with_reducible assumption)))) hy2; clear hy2 hr3 hz3 hln3)
          | (go_at_call 18; (with_reducible refine (HVr.out _ (by repeat (first | (with_reducible exact Ext.refl _) | (with_reducible assumption) | (with_reducible refine Ext.drewN ?_ _) | (with_reducible refine Ext.drew ?_) | (with_reducible refine Ext.alloc ?_ _) | ((with_reducible refine Ext.setCell ?_ ?_ _); rotate_left; focus (first | (simp; done) | (simp; omega) | omega)) | (with_reducible refine Ext.trans ?_ (by with_reducible assumption))))).mono ?_); rintro e w3 ⟨rfl, hy3⟩; have hx3 : Ext wc w3 := Ext.trans (by repeat (first | (with_reducible exact Ext.refl _) | (with_reducible assumption) | (with_reducible refine Ext.drewN ?_ _) | (with_reducible refine Ext.drew ?_) | (with_reducible refine Ext.alloc ?_ _) | ((with_reducible refine Ext.setCell ?_ ?_ _); rotate_left; focus (first | (simp; done) | (simp; omega) | omega)) | (with_reducible refine Ext.trans ?_ (by with_reducible assumption)))) hy3; clear hy3)
          | (go_at_call 20; (with_reducible refine (HLA.out _ (by repeat (first | (with_reducible exact Ext.refl _) | (with_reducible assumption) | (with_reducible refine Ext.drewN ?_ _) | (with_reducible refine Ext.drew ?_) | (with_reducible refine Ext.alloc ?_ _) | ((with_reducible refine Ext.setCell ?_ ?_ _); rotate_left; focus (first | (simp; done) | (simp; omega) | omega)) | (with_reducible refine Ext.trans ?_ (by with_reducible assumption))))).mono ?_); rintro e w6 ⟨rfl, hy6⟩; have hx6 : Ext wc w6 := Ext.trans (by repeat (first | (with_reducible exact Ext.refl _) | (with_reducible assumption) | (with_reducible refine Ext.drewN ?_ _) | (with_reducible refine Ext.drew ?_) | (with_reducible refine Ext.alloc ?_ _) | ((with_reducible refine Ext.setCell ?_ ?_ _); rotate_left; focus (first | (simp; done) | (simp; omega) | omega)) | (with_reducible refine Ext.trans ?_ (by with_reducible assumption)))) hy6; clear hy6))
        go_ret
        exact ⟨rfl, hxwc.trans (by repeat (first | (with_reducible exact Ext.refl _) | (with_reducible assumption) | (with_reducible refine Ext.drewN ?_ _) | (with_reducible refine Ext.drew ?_) | (with_reducible refine Ext.alloc ?_ _) | ((with_reducible refine Ext.setCell ?_ ?_ _); rotate_left; focus (first | (simp; done) | (simp; omega) | omega)) | (with_reducible refine Ext.trans ?_ (by with_reducible assumption))))⟩
end Go.Proofs.Ytcdoanookiimaaa
namespace Go.Proofs.Ytcdoanookiimaaa.fnIssued
set_option maxRecDepth 100000
open Go.ChangeShapes Go.WideShapes Go.ChangeAt Go.RowKit
open Go.ChangeMaps (open_string shut_string)
set_option linter.unusedVariables false

set_option maxRecDepth 100000 in
theorem lifted (os : Os) (started : os.Started) (H : Type) (enc : TypeId × Value → H) :
    ReturnsInHanded {} Try.checked os 3 .any (Rows.fnIssuedSpec.pre6 enc Try.prog Try.f3 Rows.fnIssuedRow.domain false) (Rows.fnIssuedSpec.post enc Try.prog Try.f3 false true false false) := by
  refine returnsInHanded_of_change (C := Try.checked) own started (by kernel_rfl) Try.func3
    (ChangeSpec.witness6 (enc := enc) (C := Try.checked) false ⟨#[], #[.slice none 0 0, .slice none 0 0], []⟩ 8 (by kernel_rfl) (by kernel_rfl) (by kernel_rfl) (by kernel_rfl)) ?_
  intro W base args ds gs before hval0 hW hcnd _
  have hval : ∀ (j : Nat) t v, Try.f3.params[j]? = some t → args[j]? = some v → Value.okWide Try.prog W .any base t v := hval0
  have hW' := hW
  obtain ⟨p, q, hA0, hV, rfl, hfz, hnd⟩ := hW
  have hA : DataW.TrodAll enc Try.prog W 0 (fun _ => true) true Try.f3.params.toList args.toList ds p := hA0
  rw [Try.params3] at hA hval
  obtain ⟨v0, vs0, d0, ds0, p0, q0, hargs, rfl, rfl, h0, r0⟩ := trodAll_cons hA
  obtain ⟨v1, vs1, d1, ds1, p1, q1, rfl, rfl, rfl, h1, r1⟩ := trodAll_cons r0
  obtain ⟨rfl, rfl, rfl⟩ := trodAll_nil r1
  obtain rfl : args = #[v0, v1] := by cases args; simp_all
  obtain ⟨rfl, rfl⟩ := trodVars_none hV
  have k0 := h0
  have lt0 : ∀ x ∈ p0, x.block < W.heap.size := by obtain ⟨m, hm⟩ := k0; exact DataW.trod_lt m _ _ _ hm
  obtain ⟨a0, n0, c0, l0, rfl, hi0, hn0⟩ := opn_bytes (hval 0 22 v0 rfl rfl) h0
  have k1 := h1
  have lt1 : ∀ x ∈ p1, x.block < W.heap.size := by obtain ⟨m, hm⟩ := k1; exact DataW.trod_lt m _ _ _ hm
  obtain ⟨a1, n1, c1, l1, rfl, hi1, hn1⟩ := opn_bytes (hval 1 22 v1 rfl rfl) h1
  clear hA0 hval0
  refine (lawIssued a0 n0 c0 l0 a1 n1 c1 l1 W hi0 hn0 hi1 hn1).mono fun e W' ⟨he, bel⟩ => ?_
  subst he
  exact ⟨_, rfl, _, _, _, [], _, [], hW', trodAll_mk1 (shut_bool Try.underlying4 _), (trodAll_cons_mk (Below.trod laidOut (by kernel_rfl) (of_decide_eq_true (by kernel_rfl)) k0 bel lt0) (trodAll_cons_mk (Below.trod laidOut (by kernel_rfl) (of_decide_eq_true (by kernel_rfl)) k1 bel lt1) trodAll_mk0)), rfl, bel.frame _, fun h => by cases h⟩

theorem proved : Rows.FnIssuedSaid :=
  OpenClaim.holds_of_wide 3 Try.f3 rfl rfl rfl rfl rfl rfl rfl ⟨rfl, rfl, rfl, rfl, rfl⟩ rfl rfl rfl rfl rfl (by kernel_rfl) Try.func3 (by kernel_rfl)
    (of_decide_eq_true (by kernel_rfl)) (by unfold Func.isWrapper; first | (rw [if_pos (by decide +kernel)]; kernel_rfl) | (rw [if_neg (by decide +kernel)]; exact ⟨rfl, rfl⟩))
    (fun os started H enc _ => lifted os started H enc)
end Go.Proofs.Ytcdoanookiimaaa.fnIssued
