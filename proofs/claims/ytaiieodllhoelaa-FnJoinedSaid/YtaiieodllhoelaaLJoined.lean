/- The law on joined chains: walked. -/
import Derived.Test.YtaiieodllhoelaaR8L
import Derived.Test.YtaiieodllhoelaaR8
import Derived.Test.YtaiieodllhoelaaCount
import Derived.Test.YtaiieodllhoelaaJoinI
import Derived.Test.YtaiieodllhoelaaJoinN
import Derived.Test.YtaiieodllhoelaaEvenI
namespace Go.Proofs.Ytaiieodllhoelaa
set_option maxRecDepth 100000
open Go.RowKit

/-- the chain with the first table of another one -/
def evenOf (C : Ch) : Ch := evenCh C.base C.states C.start C.fin (gm C.tabs 0) C.places.length
theorem even_drawn {C : Ch} (h : DrawnCh C) : DrawnCh (evenOf C) :=
  ⟨h.b2, h.b36, h.s1, h.s36, h.st, h.en, by simp [evenOf, evenCh], by simp [evenOf, evenCh], by simpa [evenOf, evenCh] using h.p1, by simpa [evenOf, evenCh] using h.p5,
    fun u hu => by
      obtain rfl := List.mem_singleton.1 hu
      have h1 := h.t1
      exact h.ts _ (by unfold gm; rw [List.getD_eq_getElem?_getD, List.getElem?_eq_getElem (by omega)]; exact List.getElem_mem _),
    fun k hk => by obtain ⟨_, rfl⟩ := List.mem_replicate.1 hk; simp [evenOf, evenCh]⟩
theorem even_next {C : Ch} {p : Nat} (hp : p < C.places.length) (x d : Int) : nextS (evenOf C) p x d = gi (gl (gm C.tabs 0) x.toNat) d.toNat := by
  have h1 : gi (evenOf C).places p = 0 := by simp [evenOf, evenCh, gi, hp]
  unfold nextS
  rw [Int.toNat_natCast, h1]
  rfl
/-- the chain is made and lies in a block of its own -/
def EvCut (E : Ch) (p : Nat) (wt : World) (s17 s18 : Value) (wx : World) : Prop :=
  ∃ (g : Nat) (a : Option Addr) (c : Nat) (b : Option Addr) (d : Nat), s17 = .pointer (some ⟨g, 0, none⟩) ∧ s18 = .bool true ∧ SAt wx g 27 #[.int .i64 E.base, .int .i64 E.states, .int .i64 E.start, .int .i64 E.fin, .slice a 1 c, .slice b p d] ∧ ChIn wx E a 1 c b p d ∧ Ext wt wx
theorem ev_leaf {E : Ch} {p : Nat} {wt wx : World} {g : Nat} {a : Option Addr} {c : Nat} {b : Option Addr} {d : Nat} (hS : SAt wx g 27 #[.int .i64 E.base, .int .i64 E.states, .int .i64 E.start, .int .i64 E.fin, .slice a 1 c, .slice b p d]) (hC : ChIn wx E a 1 c b p d) (hX : Ext wt wx) :
    EvCut E p wt (.pointer (some ⟨g, 0, none⟩)) (.bool true) wx := ⟨g, a, c, b, d, rfl, rfl, hS, hC, hX⟩
set_option maxHeartbeats 8000000 in
theorem lawJoined (a : Option Addr) (n c : Nat) (l : List UInt8) (a' : Option Addr) (n' c' : Nat) (l' : List UInt8) (w : World) (hv : Bytes w a n c l) (hn : n ≤ 9223372036854775807) (hv' : Bytes w a' n' c' l') (hn' : n' ≤ 9223372036854775807) :
    Calls Try.prog 4 #[.slice a n c, .slice a' n' c'] w (Ret (.bool true) w) := by
  have HLong := Lib.hid (laws_r8Long a a' n c n' c' w hn hn')
  have HB := Lib.hid hv
  have HB' := Lib.hid hv'
  clear hv hv'
  by_cases hlong : 48 < n ∨ 48 < n'
  · rw [decide_eq_true hlong] at HLong
    clear hlong
    go_enter Try.func4, Try.ntmps4
    go_wp2_with (refine HLong.out.mono ?_; rintro e w1 ⟨rfl, rfl⟩)
    go_ret
    exact ⟨rfl, Ext.refl _⟩
  rw [decide_eq_false hlong] at HLong
  have hn48 : n ≤ 48 ∧ n' ≤ 48 := by omega
  clear hlong
  go_enter Try.func4, Try.ntmps4
  go_wp2_with (first | (go_at_call 15; refine HLong.out.mono ?_; rintro e w1 ⟨rfl, rfl⟩) | (go_at_call 16; refine (spec_R8Chain a n c l w HB.out (by omega)).mono ?_; rintro e w1 ⟨C, ca, cx, cc, cb, p, cd, rfl, hdc, hfew, hp, hcx3, hcc, hx1⟩))
  have HDC := Lib.hid hdc
  have hvc := Lib.hid hdc.valid
  have hokc := Lib.hid (validCh_ok hdc.valid)
  have hb2 := hdc.b2
  have hb10 := hdc.b36
  have hp5 := hdc.p5
  have hp1 := hdc.p1
  have hcs1 := hdc.s1
  have hcs10 := hdc.s36
  rw [hp] at hp5 hp1
  have HPC := Lib.hid hp
  have hN := few_words hokc.out hfew
  obtain ⟨wb, hwb⟩ : ∃ wb, wb = w1.alloc (.cells #[.int .i64 C.base, .int .i64 C.states, .int .i64 C.start, .int .i64 C.fin, .slice ca cx cc, .slice cb p cd] 27) := ⟨_, rfl⟩
  have hx1b : Ext w1 wb := by rw [hwb]; exact (by repeat (first | (with_reducible exact Ext.refl _) | (with_reducible refine Ext.drewN ?_ _) | (with_reducible refine Ext.drew ?_) | (with_reducible refine Ext.alloc ?_ _) | ((with_reducible refine Ext.setCell ?_ ?_ _); rotate_left; focus (first | (simp; done) | (simp; omega) | omega)) | assumption | (with_reducible refine Ext.trans ?_ (by assumption))))
  have HAC := Lib.hid (show ChAt wb w1.heap.size C ca cx cc cb p cd by rw [hwb]; exact hcc.box _)
  have hxwb : Ext w wb := hx1.trans hx1b
  have HIC := Lib.hid (hcc.ext hx1b)
  rw [← hwb]
  obtain ⟨qC, hqC⟩ : ∃ q, q = w1.heap.size := ⟨_, rfl⟩
  rw [← hqC] at HAC ⊢
  obtain ⟨k0, k1, k2, k3, k4, k5, _, _⟩ := HAC.out
  obtain ⟨bN, hbN⟩ := Int.eq_ofNat_of_zero_le (show 0 ≤ C.base by omega)
  have HLk := Lib.hid (spec_R8Like a' n' c' l' bN p wb (HB'.out.ext hxwb) (by omega) (by omega) (by omega) hp1 hp5)
  rw [← hbN] at HLk
  have HbN := Lib.hid hbN
  clear hbN
  clear hwb hqC hdc hfew hp hcc HLong hx1 hx1b HB
  have hxbb : Ext wb wb := Ext.refl _
  go_wp2_with ((with_reducible refine HLk.out.mono ?_); rintro e w2 ⟨D, da, dx, dc, db, dd, rfl, hdd, hdb, hdp, hds6, hdx3, hcd, hx2⟩; have HDb := Lib.hid hdb; clear hdb)
  have HDD := Lib.hid hdd
  have hvd := Lib.hid hdd.valid
  have hokd := Lib.hid (validCh_ok hdd.valid)
  have hds1 := hdd.s1
  have hFb : C.base = D.base := by rw [HDb.out, HbN.out]
  have hFl : C.places.length = D.places.length := by rw [hdp, HPC.out]
  have HFb := Lib.hid hFb
  have HFl := Lib.hid hFl
  obtain ⟨wd, hwd⟩ : ∃ wd, wd = w2.alloc (.cells #[.int .i64 D.base, .int .i64 D.states, .int .i64 D.start, .int .i64 D.fin, .slice da dx dc, .slice db p dd] 27) := ⟨_, rfl⟩
  have hx2d : Ext w2 wd := by rw [hwd]; exact (by repeat (first | (with_reducible exact Ext.refl _) | (with_reducible refine Ext.drewN ?_ _) | (with_reducible refine Ext.drew ?_) | (with_reducible refine Ext.alloc ?_ _) | ((with_reducible refine Ext.setCell ?_ ?_ _); rotate_left; focus (first | (simp; done) | (simp; omega) | omega)) | assumption | (with_reducible refine Ext.trans ?_ (by assumption))))
  have HAD := Lib.hid (show ChAt wd w2.heap.size D da dx dc db p dd by rw [hwd]; exact hcd.box _)
  have HID := Lib.hid (hcd.ext hx2d)
  have hxbd : Ext wb wd := hx2.trans hx2d
  rw [← hwd]
  obtain ⟨qD, hqD⟩ : ∃ q, q = w2.heap.size := ⟨_, rfl⟩
  rw [← hqD] at HAD ⊢
  obtain ⟨d0, d1, d2, d3, d4, d5, _, _⟩ := HAD.out
  have HICd := Lib.hid (HIC.out.ext hxbd)
  clear hwd hqD hdd hdp hcd HLk hx2 hx2d hFb hFl
  have hE := Lib.hid (even_drawn HDC.out)
  obtain ⟨b0, off0, a0, n0, c0, ⟨f1, f2⟩, hr0⟩ := HIC.out.ts.one (P := Try.prog) 24 43 und_tabs cell_tab1 0 (by omega) (by have := HIC.out.ts.len; have := hokc.out.t1; omega)
  rw [show (0 : Int).toNat = 0 from rfl] at hr0
  have hn0 : (n0 : Int) = C.states := by
    have h1 := hokc.out.tl 0 (by have := hokc.out.t1; omega)
    rw [hr0.len] at h1
    exact h1
  have HN0 := Lib.hid hn0
  have hEq : evenCh C.base (n0 : Int) C.start C.fin (gm C.tabs 0) p = evenOf C := by rw [hn0, ← HPC.out]; rfl
  have HEv := Lib.hid (fun W (h : Ext wb W) => impl_EvenYes a0 n0 c0 (gm C.tabs 0) p C.base C.start C.fin W (hr0.ext h) (by rw [hEq]; exact hE.out.valid))
  rw [hEq] at HEv
  have HEn := Lib.hid (show ∀ (i : Nat) (x d : Int), i < p → nextS (evenOf C) i x d = gi (gl (gm C.tabs 0) x.toNat) d.toNat from fun i x d h => even_next (by rw [HPC.out]; exact h) x d)
  have HEo := Lib.hid (validCh_ok hE.out.valid)
  have HEl := Lib.hid (show (evenOf C).base = C.base ∧ (evenOf C).states = C.states ∧ (evenOf C).start = C.start ∧ (evenOf C).places.length = p from ⟨rfl, rfl, rfl, by rw [← HPC.out]; simp [evenOf, evenCh]⟩)
  have HEd := Lib.hid (show ∀ ds, DigC C ds → DigC (evenOf C) ds from fun ds h => h)
  have HEv1 := Lib.hid hE.out.valid
  have HR0 := Lib.hid hr0
  obtain ⟨E, hEe⟩ : ∃ E, E = evenOf C := ⟨_, rfl⟩
  rw [← hEe] at HEv HEn HEo HEl HEd HEv1
  clear hEq hEe hn0 hr0 hE
  have hxdd : Ext wd wd := Ext.refl _
  have hm := mul_bd (x := C.states) (y := D.states) (a := 10) (b := 6) (by omega) hcs10 (by omega) hds6
  by_cases h36 : C.states * D.states ≤ 36
  · have HFit := Lib.hid (show Fit C D from ⟨hokc.out, hokd.out, HFb.out, HFl.out, h36⟩)
    have HJ := Lib.hid (fun W (h : Ext wd W) => impl_JoinYes C D ca cx cc cb p cd da dx dc db dd W (HICd.out.ext h) (HID.out.ext h) HFit.out hvc.out hvd.out)
    obtain ⟨J, hJ⟩ : ∃ J, J = joinCh C D := ⟨_, rfl⟩
    have HJe := Lib.hid hJ
    clear hJ

    go_wp2_with (go_at_call 27; (with_reducible refine (HJ.out _ (by repeat (first | (with_reducible exact Ext.refl _) | (with_reducible assumption) | (with_reducible refine Ext.drewN ?_ _) | (with_reducible refine Ext.drew ?_) | (with_reducible refine Ext.alloc ?_ _) | ((with_reducible refine Ext.setCell ?_ ?_ _); rotate_left; focus (first | (simp; done) | (simp; omega) | omega)) | (with_reducible refine Ext.trans ?_ (by with_reducible assumption))))).mono ?_); rintro e w3 ⟨ja, jx, jc, jb, jy, jd, rfl, hcj, hy3⟩; have hx3b : Ext wb w3 := hxbd.trans hy3; have hx3 : Ext wd w3 := hy3; clear hy3; rw [← HJe.out] at hcj ⊢; refine Hid.out ?_)
    refine Lib.hid ?_
    have hJ := HJe.out
    obtain ⟨N, hNe⟩ : ∃ N, N = (wordsA C).length := ⟨_, rfl⟩
    have HJv := Lib.hid (show validCh J = true by rw [hJ]; exact HFit.out.valid)
    have HJc := Lib.hid (show (wordsA J).length = cntJ C D N by rw [hJ, hNe]; exact HFit.out.count)
    have HJk := Lib.hid (show ∀ k, k < N → chkB J (wordR C (k + 1)) = bothP D 0 D.start ((wordsA C).getD k []) ∧ chkB D (wordR C (k + 1)) = bothP D 0 D.start ((wordsA C).getD k []) from fun k hk => by rw [hJ]; exact HFit.out.chk hvc.out hvd.out (by omega))
    have HJs := Lib.hid (show ∀ k, k < N → cntJ C D (k + 1) = cntJ C D k + if bothP D 0 D.start ((wordsA C).getD k []) then 1 else 0 from fun k hk => cntJ_succ (by omega))
    have HJl := Lib.hid (show ∀ k, k < N → (wordR C (k + 1)).size ≤ 1048576 from fun k hk => by rw [wordR_len hokc.out (by omega), HPC.out]; omega)
    rw [← hNe] at hN
    have HNe := Lib.hid hNe
    clear hNe hJ
    obtain ⟨wj, hwj⟩ : ∃ wj, wj = w3.alloc (.cells #[.int .i64 J.base, .int .i64 J.states, .int .i64 J.start, .int .i64 J.fin, .slice ja jx jc, .slice jb jy jd] 27) := ⟨_, rfl⟩
    have hx3j : Ext w3 wj := by rw [hwj]; exact (by repeat (first | (with_reducible exact Ext.refl _) | (with_reducible refine Ext.drewN ?_ _) | (with_reducible refine Ext.drew ?_) | (with_reducible refine Ext.alloc ?_ _) | ((with_reducible refine Ext.setCell ?_ ?_ _); rotate_left; focus (first | (simp; done) | (simp; omega) | omega)) | assumption | (with_reducible refine Ext.trans ?_ (by assumption))))
    have HAJ := Lib.hid (show ChAt wj w3.heap.size J ja jx jc jb jy jd by rw [hwj]; exact hcj.box _)
    have HIJ := Lib.hid (hcj.ext hx3j)
    have hxbj : Ext wb wj := hx3b.trans hx3j
    have hxdj : Ext wd wj := hx3.trans hx3j
    obtain ⟨j0, j1, j2, j3, j4, j5, _, _⟩ := HAJ.out
    have HWA := Lib.hid (fun r W (h : Ext wb W) => impl_WordAt C ca cx cc cb p cd r W (HIC.out.ext h) hvc.out)
    have HCC := Lib.hid (fun W (h : Ext wb W) => impl_CountWords C ca cx cc cb p cd W (HIC.out.ext h) hvc.out)
    rw [← HNe.out] at HCC
    have HCJ := Lib.hid (fun W (h : Ext wj W) => impl_CountWords J ja jx jc jb jy jd W (HIJ.out.ext h) HJv.out)
    rw [HJc.out] at HCJ
    have HcN : cntJ C D N ≤ N := cntJ_le N
    obtain ⟨M, hM⟩ : ∃ M, M = cntJ C D N := ⟨_, rfl⟩
    rw [← hM] at HCJ HcN
    have HM := Lib.hid hM
    have HWk := Lib.hid (show ∀ k : Nat, k < N → watB C k = true ∧ watT C k = wordR C (k + 1) from fun k hk => by
      have h1 : watB C k = true := by unfold watB; rw [decide_eq_true_iff, ← HNe.out]; omega
      exact ⟨h1, by rw [watT, h1]; rfl⟩)
    clear hM hcj
    have hxjj : Ext wj wj := Ext.refl _
    refine Hid.out ?_
    refine Lib.hid ?_
    go_wp2_with fail
    rw [← hwj]
    clear hwj
    refine (HCJ.out _ (Ext.refl _)).mono ?_
    rintro e w4 ⟨rfl, hy4⟩
    have hx4b : Ext wb w4 := hxbj.trans hy4
    have hx4d : Ext wd w4 := hxdj.trans hy4
    have hx4 : Ext wj w4 := hy4
    clear hy4
    go_wp2_with (go_at_call 17; (with_reducible refine (HCC.out _ (by repeat (first | (with_reducible exact Ext.refl _) | (with_reducible assumption) | (with_reducible refine Ext.drewN ?_ _) | (with_reducible refine Ext.drew ?_) | (with_reducible refine Ext.alloc ?_ _) | ((with_reducible refine Ext.setCell ?_ ?_ _); rotate_left; focus (first | (simp; done) | (simp; omega) | omega)) | (with_reducible refine Ext.trans ?_ (by with_reducible assumption))))).mono ?_); rintro e w5 ⟨rfl, hy5⟩; have hx5b : Ext wb w5 := Ext.trans (by repeat (first | (with_reducible exact Ext.refl _) | (with_reducible assumption) | (with_reducible refine Ext.drewN ?_ _) | (with_reducible refine Ext.drew ?_) | (with_reducible refine Ext.alloc ?_ _) | ((with_reducible refine Ext.setCell ?_ ?_ _); rotate_left; focus (first | (simp; done) | (simp; omega) | omega)) | (with_reducible refine Ext.trans ?_ (by with_reducible assumption)))) hy5; have hx5d : Ext wd w5 := hx4d.trans hy5; have hx5 : Ext wj w5 := hx4.trans hy5; clear hy5)
    go_loopw [11, 14, 15, 16] (fun ct rk _ _ wr => ∃ k : Nat, k ≤ N ∧ rk = .int .i64 k ∧ ct = .int .i64 (cntJ C D k : Nat) ∧ Ext wj wr) (fun _ rk _ _ _ => N - (intOf rk).toNat)
    case atStart => exact ⟨0, Nat.zero_le _, rfl, by simp [cntJ], hx5⟩
    case round =>
      obtain ⟨k, hk, rfl, rfl, hx⟩ := hrel
      have hxrb : Ext wb wr := hxbj.trans hx
      have hxrd : Ext wd wr := hxdj.trans hx
      have hxr : Ext wj wr := hx
      have hck : cntJ C D k ≤ k := cntJ_le k
      by_cases hlt : k < N
      · have HW1 := Lib.hid (HWk.out k hlt)
        have HICJ := Lib.hid (fun W (h : Ext wj W) => impl_IsChecked J ja jx jc jb jy jd (wordR C (k + 1)) W (HIJ.out.ext h) (HJl.out k hlt))
        have HICD := Lib.hid (fun W (h : Ext wd W) => impl_IsChecked D da dx dc db p dd (wordR C (k + 1)) W (HID.out.ext h) (HJl.out k hlt))
        rw [(HJk.out k hlt).1] at HICJ
        rw [(HJk.out k hlt).2] at HICD
        have hcs := HJs.out k hlt
        cases hbv : bothP D 0 D.start ((wordsA C).getD k []) with
        | false =>
          rw [hbv] at HICJ HICD hcs
          have HCS := Lib.hid hcs
          clear hcs hbv
          go_wp2_with (go_at_call 19; (with_reducible refine (HWA.out (k : Int) _ (by repeat (first | (with_reducible exact Ext.refl _) | (with_reducible assumption) | (with_reducible refine Ext.drewN ?_ _) | (with_reducible refine Ext.drew ?_) | (with_reducible refine Ext.alloc ?_ _) | ((with_reducible refine Ext.setCell ?_ ?_ _); rotate_left; focus (first | (simp; done) | (simp; omega) | omega)) | (with_reducible refine Ext.trans ?_ (by with_reducible assumption))))).mono ?_); rintro e w6 ⟨rfl, hy6⟩; rw [HW1.out.1, HW1.out.2]; have hx6b : Ext wb w6 := Ext.trans (by repeat (first | (with_reducible exact Ext.refl _) | (with_reducible assumption) | (with_reducible refine Ext.drewN ?_ _) | (with_reducible refine Ext.drew ?_) | (with_reducible refine Ext.alloc ?_ _) | ((with_reducible refine Ext.setCell ?_ ?_ _); rotate_left; focus (first | (simp; done) | (simp; omega) | omega)) | (with_reducible refine Ext.trans ?_ (by with_reducible assumption)))) hy6; have hx6d : Ext wd w6 := hxrd.trans hy6; have hx6 : Ext wj w6 := hxr.trans hy6; clear hy6)
          (refine wp_region_from w6 (by repeat (first | (with_reducible exact Ext.refl _) | (with_reducible refine Ext.drewN ?_ _) | (with_reducible refine Ext.drew ?_) | (with_reducible refine Ext.alloc ?_ _) | ((with_reducible refine Ext.setCell ?_ ?_ _); rotate_left; focus (first | (simp; done) | (simp; omega) | omega)) | assumption | (with_reducible refine Ext.trans ?_ (by assumption)))) (by kernel_rfl) (by kernel_rfl) (by kernel_rfl) ?_; (repeat (first | (refine mix_q rfl ?_; go_big_quiet_step (fail); refine wpQuiet_nil ?_; show wpMix _ _ _ _ _ _ _) | (refine mix_s rfl ?_; go_wp2_with ((first | (go_at_call 21; (with_reducible refine (HICJ.out _ (Ext.trans hx6 (by repeat (first | (with_reducible exact Ext.refl _) | (with_reducible refine Ext.drewN ?_ _) | (with_reducible refine Ext.drew ?_) | (with_reducible refine Ext.alloc ?_ _) | ((with_reducible refine Ext.setCell ?_ ?_ _); rotate_left; focus (first | (simp; done) | (simp; omega) | omega)) | assumption | (with_reducible refine Ext.trans ?_ (by assumption)))))).mono ?_); rintro e w7 ⟨rfl, hy7⟩; have hx7 : Ext w6 w7 := Ext.trans (by repeat (first | (with_reducible exact Ext.refl _) | (with_reducible refine Ext.drewN ?_ _) | (with_reducible refine Ext.drew ?_) | (with_reducible refine Ext.alloc ?_ _) | ((with_reducible refine Ext.setCell ?_ ?_ _); rotate_left; focus (first | (simp; done) | (simp; omega) | omega)) | assumption | (with_reducible refine Ext.trans ?_ (by assumption)))) hy7; clear hy7) | (go_at_call 21; (with_reducible refine (HICD.out _ (Ext.trans hx6d (by repeat (first | (with_reducible exact Ext.refl _) | (with_reducible refine Ext.drewN ?_ _) | (with_reducible refine Ext.drew ?_) | (with_reducible refine Ext.alloc ?_ _) | ((with_reducible refine Ext.setCell ?_ ?_ _); rotate_left; focus (first | (simp; done) | (simp; omega) | omega)) | assumption | (with_reducible refine Ext.trans ?_ (by assumption)))))).mono ?_); rintro e w8 ⟨rfl, hy8⟩; have hx8 : Ext w6 w8 := Ext.trans (by repeat (first | (with_reducible exact Ext.refl _) | (with_reducible refine Ext.drewN ?_ _) | (with_reducible refine Ext.drew ?_) | (with_reducible refine Ext.alloc ?_ _) | ((with_reducible refine Ext.setCell ?_ ?_ _); rotate_left; focus (first | (simp; done) | (simp; omega) | omega)) | assumption | (with_reducible refine Ext.trans ?_ (by assumption)))) hy8; clear hy8))); first | refine ⟨up_of (by repeat (first | (with_reducible exact Ext.refl _) | (with_reducible refine Ext.drewN ?_ _) | (with_reducible refine Ext.drew ?_) | (with_reducible refine Ext.alloc ?_ _) | ((with_reducible refine Ext.setCell ?_ ?_ _); rotate_left; focus (first | (simp; done) | (simp; omega) | omega)) | assumption | (with_reducible refine Ext.trans ?_ (by assumption)))), ?_⟩ | refine ⟨rfl, rfl, up_of (by repeat (first | (with_reducible exact Ext.refl _) | (with_reducible refine Ext.drewN ?_ _) | (with_reducible refine Ext.drew ?_) | (with_reducible refine Ext.alloc ?_ _) | ((with_reducible refine Ext.setCell ?_ ?_ _); rotate_left; focus (first | (simp; done) | (simp; omega) | omega)) | assumption | (with_reducible refine Ext.trans ?_ (by assumption)))), ?_⟩))); refine mix_nil ?_)
          have hx8d : Ext wd w8 := hx6d.trans hx8
          have hx8j : Ext wj w8 := hx6.trans hx8
          go_wp2_with (go_at_call 21; (with_reducible refine (HICD.out _ (Ext.trans hx8d (by repeat (first | (with_reducible exact Ext.refl _) | (with_reducible refine Ext.drewN ?_ _) | (with_reducible refine Ext.drew ?_) | (with_reducible refine Ext.alloc ?_ _) | ((with_reducible refine Ext.setCell ?_ ?_ _); rotate_left; focus (first | (simp; done) | (simp; omega) | omega)) | assumption | (with_reducible refine Ext.trans ?_ (by assumption)))))).mono ?_); rintro e w9 ⟨rfl, hy9⟩; have hx9 : Ext w8 w9 := Ext.trans (by repeat (first | (with_reducible exact Ext.refl _) | (with_reducible refine Ext.drewN ?_ _) | (with_reducible refine Ext.drew ?_) | (with_reducible refine Ext.alloc ?_ _) | ((with_reducible refine Ext.setCell ?_ ?_ _); rotate_left; focus (first | (simp; done) | (simp; omega) | omega)) | assumption | (with_reducible refine Ext.trans ?_ (by assumption)))) hy9; clear hy9)
          exact ⟨⟨k + 1, hlt, by go_num, by rw [HCS.out]; simp, hx8j.trans hx9⟩, by simp [intOf]; omega⟩
        | true =>
          rw [hbv] at HICJ HICD hcs
          have HCS := Lib.hid hcs
          clear hcs hbv
          go_wp2_with (go_at_call 19; (with_reducible refine (HWA.out (k : Int) _ (by repeat (first | (with_reducible exact Ext.refl _) | (with_reducible assumption) | (with_reducible refine Ext.drewN ?_ _) | (with_reducible refine Ext.drew ?_) | (with_reducible refine Ext.alloc ?_ _) | ((with_reducible refine Ext.setCell ?_ ?_ _); rotate_left; focus (first | (simp; done) | (simp; omega) | omega)) | (with_reducible refine Ext.trans ?_ (by with_reducible assumption))))).mono ?_); rintro e w6 ⟨rfl, hy6⟩; rw [HW1.out.1, HW1.out.2]; have hx6b : Ext wb w6 := Ext.trans (by repeat (first | (with_reducible exact Ext.refl _) | (with_reducible assumption) | (with_reducible refine Ext.drewN ?_ _) | (with_reducible refine Ext.drew ?_) | (with_reducible refine Ext.alloc ?_ _) | ((with_reducible refine Ext.setCell ?_ ?_ _); rotate_left; focus (first | (simp; done) | (simp; omega) | omega)) | (with_reducible refine Ext.trans ?_ (by with_reducible assumption)))) hy6; have hx6d : Ext wd w6 := hxrd.trans hy6; have hx6 : Ext wj w6 := hxr.trans hy6; clear hy6)
          (refine wp_region_from w6 (by repeat (first | (with_reducible exact Ext.refl _) | (with_reducible refine Ext.drewN ?_ _) | (with_reducible refine Ext.drew ?_) | (with_reducible refine Ext.alloc ?_ _) | ((with_reducible refine Ext.setCell ?_ ?_ _); rotate_left; focus (first | (simp; done) | (simp; omega) | omega)) | assumption | (with_reducible refine Ext.trans ?_ (by assumption)))) (by kernel_rfl) (by kernel_rfl) (by kernel_rfl) ?_; (repeat (first | (refine mix_q rfl ?_; go_big_quiet_step (fail); refine wpQuiet_nil ?_; show wpMix _ _ _ _ _ _ _) | (refine mix_s rfl ?_; go_wp2_with ((first | (go_at_call 21; (with_reducible refine (HICJ.out _ (Ext.trans hx6 (by repeat (first | (with_reducible exact Ext.refl _) | (with_reducible refine Ext.drewN ?_ _) | (with_reducible refine Ext.drew ?_) | (with_reducible refine Ext.alloc ?_ _) | ((with_reducible refine Ext.setCell ?_ ?_ _); rotate_left; focus (first | (simp; done) | (simp; omega) | omega)) | assumption | (with_reducible refine Ext.trans ?_ (by assumption)))))).mono ?_); rintro e w7 ⟨rfl, hy7⟩; have hx7 : Ext w6 w7 := Ext.trans (by repeat (first | (with_reducible exact Ext.refl _) | (with_reducible refine Ext.drewN ?_ _) | (with_reducible refine Ext.drew ?_) | (with_reducible refine Ext.alloc ?_ _) | ((with_reducible refine Ext.setCell ?_ ?_ _); rotate_left; focus (first | (simp; done) | (simp; omega) | omega)) | assumption | (with_reducible refine Ext.trans ?_ (by assumption)))) hy7; clear hy7) | (go_at_call 21; (with_reducible refine (HICD.out _ (Ext.trans hx6d (by repeat (first | (with_reducible exact Ext.refl _) | (with_reducible refine Ext.drewN ?_ _) | (with_reducible refine Ext.drew ?_) | (with_reducible refine Ext.alloc ?_ _) | ((with_reducible refine Ext.setCell ?_ ?_ _); rotate_left; focus (first | (simp; done) | (simp; omega) | omega)) | assumption | (with_reducible refine Ext.trans ?_ (by assumption)))))).mono ?_); rintro e w8 ⟨rfl, hy8⟩; have hx8 : Ext w6 w8 := Ext.trans (by repeat (first | (with_reducible exact Ext.refl _) | (with_reducible refine Ext.drewN ?_ _) | (with_reducible refine Ext.drew ?_) | (with_reducible refine Ext.alloc ?_ _) | ((with_reducible refine Ext.setCell ?_ ?_ _); rotate_left; focus (first | (simp; done) | (simp; omega) | omega)) | assumption | (with_reducible refine Ext.trans ?_ (by assumption)))) hy8; clear hy8))); first | refine ⟨up_of (by repeat (first | (with_reducible exact Ext.refl _) | (with_reducible refine Ext.drewN ?_ _) | (with_reducible refine Ext.drew ?_) | (with_reducible refine Ext.alloc ?_ _) | ((with_reducible refine Ext.setCell ?_ ?_ _); rotate_left; focus (first | (simp; done) | (simp; omega) | omega)) | assumption | (with_reducible refine Ext.trans ?_ (by assumption)))), ?_⟩ | refine ⟨rfl, rfl, up_of (by repeat (first | (with_reducible exact Ext.refl _) | (with_reducible refine Ext.drewN ?_ _) | (with_reducible refine Ext.drew ?_) | (with_reducible refine Ext.alloc ?_ _) | ((with_reducible refine Ext.setCell ?_ ?_ _); rotate_left; focus (first | (simp; done) | (simp; omega) | omega)) | assumption | (with_reducible refine Ext.trans ?_ (by assumption)))), ?_⟩))); refine mix_nil ?_)
          have hx8d : Ext wd w8 := hx6d.trans hx8
          have hx8j : Ext wj w8 := hx6.trans hx8
          go_wp2_with (go_at_call 21; (with_reducible refine (HICD.out _ (Ext.trans hx8d (by repeat (first | (with_reducible exact Ext.refl _) | (with_reducible refine Ext.drewN ?_ _) | (with_reducible refine Ext.drew ?_) | (with_reducible refine Ext.alloc ?_ _) | ((with_reducible refine Ext.setCell ?_ ?_ _); rotate_left; focus (first | (simp; done) | (simp; omega) | omega)) | assumption | (with_reducible refine Ext.trans ?_ (by assumption)))))).mono ?_); rintro e w9 ⟨rfl, hy9⟩; have hx9 : Ext w8 w9 := Ext.trans (by repeat (first | (with_reducible exact Ext.refl _) | (with_reducible refine Ext.drewN ?_ _) | (with_reducible refine Ext.drew ?_) | (with_reducible refine Ext.alloc ?_ _) | ((with_reducible refine Ext.setCell ?_ ?_ _); rotate_left; focus (first | (simp; done) | (simp; omega) | omega)) | assumption | (with_reducible refine Ext.trans ?_ (by assumption)))) hy9; clear hy9)
          exact ⟨⟨k + 1, hlt, by go_num, by rw [HCS.out]; simp [go_sem], hx8j.trans hx9⟩, by simp [intOf]; omega⟩
      · obtain rfl : k = N := by omega
        rw [← HM.out]
        go_wp2_with fail
        obtain ⟨wt, hwt⟩ : ∃ wt, wt = wr := ⟨_, rfl⟩
        subst hwt
        have hxtt : Ext wt wt := Ext.refl _
        have hlb0 : b0 < wb.heap.size := World.block_lt_of_cell? wb ⟨b0, off0, none⟩ (f2 wb (Ext.refl _))
        have KX := Lib.hid (fun W (h : Ext wt W) => (show Ext wt W ∧ W.cell? ⟨qC, 4, none⟩ = some (.slice ca cx cc) ∧ W.cell? ⟨b0, off0, none⟩ = some (.slice a0 n0 c0) ∧ W.cell? ⟨qC, 5, none⟩ = some (.slice cb p cd) ∧ W.cell? ⟨qC, 2, none⟩ = some (.int .i64 C.start) ∧ W.cell? ⟨qC, 3, none⟩ = some (.int .i64 C.fin) from ⟨h, k4 W (hxrb.trans h), f2 W (hxrb.trans h), k5 W (hxrb.trans h), k2 W (hxrb.trans h), k3 W (hxrb.trans h)⟩))
        go_cut [17, 18] from 102 to 116 (fun s17 s18 wx => EvCut E p wt s17 s18 wx)
        case first =>
          go_region_held3 (fun w' => Ext wt w' ∧ w'.cell? ⟨qC, 4, none⟩ = some (.slice ca cx cc) ∧ w'.cell? ⟨b0, off0, none⟩ = some (.slice a0 n0 c0) ∧ w'.cell? ⟨qC, 5, none⟩ = some (.slice cb p cd) ∧ w'.cell? ⟨qC, 2, none⟩ = some (.int .i64 C.start) ∧ w'.cell? ⟨qC, 3, none⟩ = some (.int .i64 C.fin)) ((exact KX.out _ (by repeat (first | (with_reducible exact Ext.refl _) | (with_reducible assumption) | (with_reducible refine Ext.drewN ?_ _) | (with_reducible refine Ext.drew ?_) | (with_reducible refine Ext.alloc ?_ _) | ((with_reducible refine Ext.setCell ?_ ?_ _); rotate_left; focus (first | (simp; done) | (simp; omega) | omega)) | (with_reducible refine Ext.trans ?_ (by with_reducible assumption)))))) ((go_at_call 28; (with_reducible refine (HEv.out _ (Ext.trans hxrb (by repeat (first | (with_reducible exact Ext.refl _) | (with_reducible assumption) | (with_reducible refine Ext.drewN ?_ _) | (with_reducible refine Ext.drew ?_) | (with_reducible refine Ext.alloc ?_ _) | ((with_reducible refine Ext.setCell ?_ ?_ _); rotate_left; focus (first | (simp; done) | (simp; omega) | omega)) | (with_reducible refine Ext.trans ?_ (by with_reducible assumption)))))).mono ?_); rintro e w7 ⟨ae, ce, be, de, rfl, hk7, hz7⟩; have hx7 : Ext wt w7 := Ext.trans (by repeat (first | (with_reducible exact Ext.refl _) | (with_reducible assumption) | (with_reducible refine Ext.drewN ?_ _) | (with_reducible refine Ext.drew ?_) | (with_reducible refine Ext.alloc ?_ _) | ((with_reducible refine Ext.setCell ?_ ?_ _); rotate_left; focus (first | (simp; done) | (simp; omega) | omega)) | (with_reducible refine Ext.trans ?_ (by with_reducible assumption)))) hz7; obtain ⟨hc7, hf7⟩ := bcell hz7; have hle7 := hx7.le; have hsz7 := hz7.le; simp at hsz7; (try (have hlt7 : wt.heap.size < w7.heap.size := by omega))))
          all_goals (go_wp2_with fail; go_meet)
          all_goals
            clear hc7 hf7
            apply ev_leaf
            · repeat (first | ((with_reducible refine SAt.new' _ _ _ ?_) <;> (first | (simp; done) | (simp; omega))) | (with_reducible refine SAt.alloc ?_ _) | (with_reducible refine SAt.drew ?_) | (with_reducible refine SAt.six (z0 := .int .i64 0) (z1 := .int .i64 0) (z2 := .int .i64 0) (z3 := .int .i64 0) (z4 := .slice none 0 0) (z5 := .slice none 0 0) ?_ _ _ _ _ _ _) | (with_reducible refine SAt.ext ?_ hz7))
            · exact hk7 _ (KeepB.chg (lo' := wt.heap.size) (hi' := _) (by repeat (first | (with_reducible exact Chg.refl _ _ _) | (with_reducible assumption) | (with_reducible refine Chg.drewQ ?_) | (with_reducible refine Chg.allocQ ?_ _) | ((with_reducible refine Chg.setQ ?_ _ _ ?_ ?_); rotate_left; (focus (first | (simp; done) | (simp; omega) | omega)); (focus (first | (simp; done) | (simp; omega) | omega))))) (Nat.le_refl _) (.inl (Nat.le_refl _)))
            · exact (by repeat (first | (with_reducible exact Ext.refl _) | (with_reducible assumption) | (with_reducible refine Ext.drewN ?_ _) | (with_reducible refine Ext.drew ?_) | (with_reducible refine Ext.alloc ?_ _) | ((with_reducible refine Ext.setCell ?_ ?_ _); rotate_left; focus (first | (simp; done) | (simp; omega) | omega)) | (with_reducible refine Ext.trans ?_ (by with_reducible assumption))))
        case rest =>
          obtain ⟨g, ae, ce, be, de, rfl, rfl, hS, hCE, hxc⟩ := hcut
          have HCE := Lib.hid hCE
          have hxcb : Ext wb wc := hxrb.trans hxc
          have e0 := fun W (h : Ext wc W) => (hS.ext h).cell 0 (by simp)
          have e1 := fun W (h : Ext wc W) => (hS.ext h).cell 1 (by simp)
          have e2 := fun W (h : Ext wc W) => (hS.ext h).cell 2 (by simp)
          have e3 := fun W (h : Ext wc W) => (hS.ext h).cell 3 (by simp)
          have e4 := fun W (h : Ext wc W) => (hS.ext h).cell 4 (by simp)
          have e5 := fun W (h : Ext wc W) => (hS.ext h).cell 5 (by simp)
          try simp only [List.getElem_toArray, List.getElem_cons_succ, List.getElem_cons_zero] at e0 e1 e2 e3 e4 e5
          clear hS hCE KX HEv
          have hxcc : Ext wc wc := Ext.refl _
          go_wp2_with fail
          go_loopw [19, 20, 21, 22] (fun wd st ii _ wr => ∃ (i : Nat) (xs : List Int), i ≤ p ∧ ii = .int .i64 i ∧ wd = .string (textOf xs) ∧ st = .int .i64 (runS E 0 C.start xs) ∧ Hid (xs.length = i) ∧ Hid (DigC C xs) ∧ Ext wc wr) (fun _ _ ii _ _ => p - (intOf ii).toNat)
          case atStart => exact ⟨0, [], Nat.zero_le _, rfl, rfl, rfl, rfl, (fun d hd => by cases hd), (by repeat (first | (with_reducible exact Ext.refl _) | (with_reducible assumption) | (with_reducible refine Ext.drewN ?_ _) | (with_reducible refine Ext.drew ?_) | (with_reducible refine Ext.alloc ?_ _) | ((with_reducible refine Ext.setCell ?_ ?_ _); rotate_left; focus (first | (simp; done) | (simp; omega) | omega)) | (with_reducible refine Ext.trans ?_ (by with_reducible assumption))))⟩
          case round =>
            obtain ⟨i, xs, hi, rfl, rfl, rfl, HXl, HXd, hx⟩ := hrel
            have hxrb2 : Ext wb wr := hxcb.trans hx
            have hxr2 : Ext wc wr := hx
            have hsb := runS_bd HEo.out xs 0 C.start (HEd.out xs HXd.out) (by omega) (by rw [HXl.out, HEl.out.2.2.2]; omega) (by rw [← HEl.out.2.2.1]; exact HEo.out.st0) (by rw [← HEl.out.2.2.1]; exact HEo.out.st1)
            rw [HEl.out.2.1] at hsb
            by_cases hlt2 : i < p
            · have hz := r8_bd l' ((i : Int) + 20) C.base (by omega)
              have HR8 := Lib.hid (fun W (h : Ext w W) => laws_r8 a' n' c' l' ((i : Int) + 20) C.base W (HB'.out.ext h) (by omega) (by omega) (by omega))
              generalize r8 l' ((i : Int) + 20) C.base = z at *
              have HSn := Lib.hid (show runS E 0 C.start (xs ++ [z]) = gi (gl (gm C.tabs 0) (runS E 0 C.start xs).toNat) z.toNat by
                rw [runS_snoc, HXl.out, show (0 : Int) + (i : Int) = (i : Int) by omega]
                exact HEn.out i _ _ hlt2)
              generalize runS E 0 C.start xs = s at *
              have hn0' := HN0.out
              obtain ⟨b2, o2, a2, n2, c2, ⟨f3, f4⟩, hr2⟩ := HR0.out.one (P := Try.prog) 43 25 und_rows cell_row1 s (by omega) (by omega)
              obtain ⟨b3, o3, f5, f6⟩ := hr2.one (P := Try.prog) 25 2 und_int64s cell_int64 z (by omega) (by
                have h1 := hokc.out.rl 0 (by have := hokc.out.t1; omega) s.toNat (by have := HR0.out.len; omega)
                rw [hr2.len] at h1; omega)
              have hs1 : (textOf xs).size = i := by rw [textOf_size, HXl.out]
              have hs2 : (textOf [z]).size = 1 := textOf_size _
              clear hr2 hn0'
              go_wp2_with (first | (go_at_call 23; (with_reducible refine (HR8.out _ (hxwb.trans (Ext.trans hxrb2 (by repeat (first | (with_reducible exact Ext.refl _) | (with_reducible assumption) | (with_reducible refine Ext.drewN ?_ _) | (with_reducible refine Ext.drew ?_) | (with_reducible refine Ext.alloc ?_ _) | ((with_reducible refine Ext.setCell ?_ ?_ _); rotate_left; focus (first | (simp; done) | (simp; omega) | omega)) | (with_reducible refine Ext.trans ?_ (by with_reducible assumption))))))).mono ?_); rintro e w8 ⟨rfl, rfl⟩) | (go_at_call 22; (with_reducible refine (laws_r8Symbol z _ (by omega) (by omega)).mono ?_); rintro e w8 ⟨rfl, rfl⟩))
              exact ⟨⟨i + 1, xs ++ [z], hlt2, by go_num, by rw [text_app], by rw [HSn.out], by rw [Hid, List.length_append, HXl.out]; rfl, by rw [Hid]; exact all_snoc HXd.out hz, (by repeat (first | (with_reducible exact Ext.refl _) | (with_reducible assumption) | (with_reducible refine Ext.drewN ?_ _) | (with_reducible refine Ext.drew ?_) | (with_reducible refine Ext.alloc ?_ _) | ((with_reducible refine Ext.setCell ?_ ?_ _); rotate_left; focus (first | (simp; done) | (simp; omega) | omega)) | (with_reducible refine Ext.trans ?_ (by with_reducible assumption))))⟩, by simp [intOf]; omega⟩
            · obtain rfl : i = p := by omega
              have h36' : Dig36 xs := dig36_of hokc.out.b36 HXd.out
              have HSz := Lib.hid (show (textOf xs).size = i by rw [textOf_size, HXl.out])
              have HRun := Lib.hid (runOk_text HEo.out HEv1.out (HEd.out xs HXd.out) (by rw [HXl.out, HEl.out.2.2.2]))
              have HRr := Lib.hid (show runRes E (textOf xs) = runS E 0 C.start xs by rw [runRes, HRun.out, if_pos rfl, runEnd_text h36', HEl.out.2.2.1])
              have HRC := Lib.hid (fun W (h : Ext wc W) => impl_RunChain E ae 1 ce be i de (textOf xs) W (HCE.out.ext h) (by rw [HSz.out]; omega))
              rw [HRun.out, HRr.out] at HRC
              go_wp2_with (go_at_call 25; (with_reducible refine (HRC.out _ (by repeat (first | (with_reducible exact Ext.refl _) | (with_reducible assumption) | (with_reducible refine Ext.drewN ?_ _) | (with_reducible refine Ext.drew ?_) | (with_reducible refine Ext.alloc ?_ _) | ((with_reducible refine Ext.setCell ?_ ?_ _); rotate_left; focus (first | (simp; done) | (simp; omega) | omega)) | (with_reducible refine Ext.trans ?_ (by with_reducible assumption))))).mono ?_); rintro e w8 ⟨rfl, hy8⟩; have hx8 : Ext wc w8 := Ext.trans (by repeat (first | (with_reducible exact Ext.refl _) | (with_reducible assumption) | (with_reducible refine Ext.drewN ?_ _) | (with_reducible refine Ext.drew ?_) | (with_reducible refine Ext.alloc ?_ _) | ((with_reducible refine Ext.setCell ?_ ?_ _); rotate_left; focus (first | (simp; done) | (simp; omega) | omega)) | (with_reducible refine Ext.trans ?_ (by with_reducible assumption)))) hy8; clear hy8)
              go_ret
              exact ⟨rfl, hxwb.trans (hxcb.trans hx8)⟩
  · have HJ := Lib.hid (fun W (h : Ext wd W) => impl_JoinNo C D ca cx cc cb p cd da dx dc db dd W (HICd.out.ext h) (HID.out.ext h) hokc.out hokd.out HFb.out (by omega) hvc.out hvd.out)
    go_wp2_with (go_at_call 27; (with_reducible refine (HJ.out _ (by repeat (first | (with_reducible exact Ext.refl _) | (with_reducible assumption) | (with_reducible refine Ext.drewN ?_ _) | (with_reducible refine Ext.drew ?_) | (with_reducible refine Ext.alloc ?_ _) | ((with_reducible refine Ext.setCell ?_ ?_ _); rotate_left; focus (first | (simp; done) | (simp; omega) | omega)) | (with_reducible refine Ext.trans ?_ (by with_reducible assumption))))).mono ?_); rintro e w3 ⟨rfl, hy3⟩; have hx3b : Ext wb w3 := hxbd.trans hy3; have hx3 : Ext wd w3 := hy3; clear hy3)
    obtain ⟨wt, hwt⟩ : ∃ wt, wt = w3 := ⟨_, rfl⟩
    subst hwt
    have hxtt : Ext wt wt := Ext.refl _
    have hlb0 : b0 < wb.heap.size := World.block_lt_of_cell? wb ⟨b0, off0, none⟩ (f2 wb (Ext.refl _))
    have KX := Lib.hid (fun W (h : Ext wt W) => (show Ext wt W ∧ W.cell? ⟨qC, 4, none⟩ = some (.slice ca cx cc) ∧ W.cell? ⟨b0, off0, none⟩ = some (.slice a0 n0 c0) ∧ W.cell? ⟨qC, 5, none⟩ = some (.slice cb p cd) ∧ W.cell? ⟨qC, 2, none⟩ = some (.int .i64 C.start) ∧ W.cell? ⟨qC, 3, none⟩ = some (.int .i64 C.fin) from ⟨h, k4 W (hx3b.trans h), f2 W (hx3b.trans h), k5 W (hx3b.trans h), k2 W (hx3b.trans h), k3 W (hx3b.trans h)⟩))
    go_cut [17, 18] from 102 to 116 (fun s17 s18 wx => EvCut E p wt s17 s18 wx)
    case first =>
      go_region_held3 (fun w' => Ext wt w' ∧ w'.cell? ⟨qC, 4, none⟩ = some (.slice ca cx cc) ∧ w'.cell? ⟨b0, off0, none⟩ = some (.slice a0 n0 c0) ∧ w'.cell? ⟨qC, 5, none⟩ = some (.slice cb p cd) ∧ w'.cell? ⟨qC, 2, none⟩ = some (.int .i64 C.start) ∧ w'.cell? ⟨qC, 3, none⟩ = some (.int .i64 C.fin)) ((exact KX.out _ (by repeat (first | (with_reducible exact Ext.refl _) | (with_reducible assumption) | (with_reducible refine Ext.drewN ?_ _) | (with_reducible refine Ext.drew ?_) | (with_reducible refine Ext.alloc ?_ _) | ((with_reducible refine Ext.setCell ?_ ?_ _); rotate_left; focus (first | (simp; done) | (simp; omega) | omega)) | (with_reducible refine Ext.trans ?_ (by with_reducible assumption)))))) ((go_at_call 28; (with_reducible refine (HEv.out _ (Ext.trans hx3b (by repeat (first | (with_reducible exact Ext.refl _) | (with_reducible assumption) | (with_reducible refine Ext.drewN ?_ _) | (with_reducible refine Ext.drew ?_) | (with_reducible refine Ext.alloc ?_ _) | ((with_reducible refine Ext.setCell ?_ ?_ _); rotate_left; focus (first | (simp; done) | (simp; omega) | omega)) | (with_reducible refine Ext.trans ?_ (by with_reducible assumption)))))).mono ?_); rintro e w7 ⟨ae, ce, be, de, rfl, hk7, hz7⟩; have hx7 : Ext wt w7 := Ext.trans (by repeat (first | (with_reducible exact Ext.refl _) | (with_reducible assumption) | (with_reducible refine Ext.drewN ?_ _) | (with_reducible refine Ext.drew ?_) | (with_reducible refine Ext.alloc ?_ _) | ((with_reducible refine Ext.setCell ?_ ?_ _); rotate_left; focus (first | (simp; done) | (simp; omega) | omega)) | (with_reducible refine Ext.trans ?_ (by with_reducible assumption)))) hz7; obtain ⟨hc7, hf7⟩ := bcell hz7; have hle7 := hx7.le; have hsz7 := hz7.le; simp at hsz7; (try (have hlt7 : wt.heap.size < w7.heap.size := by omega))))
      all_goals (go_wp2_with fail; go_meet)
      all_goals
        clear hc7 hf7
        apply ev_leaf
        · repeat (first | ((with_reducible refine SAt.new' _ _ _ ?_) <;> (first | (simp; done) | (simp; omega))) | (with_reducible refine SAt.alloc ?_ _) | (with_reducible refine SAt.drew ?_) | (with_reducible refine SAt.six (z0 := .int .i64 0) (z1 := .int .i64 0) (z2 := .int .i64 0) (z3 := .int .i64 0) (z4 := .slice none 0 0) (z5 := .slice none 0 0) ?_ _ _ _ _ _ _) | (with_reducible refine SAt.ext ?_ hz7))
        · exact hk7 _ (KeepB.chg (lo' := wt.heap.size) (hi' := _) (by repeat (first | (with_reducible exact Chg.refl _ _ _) | (with_reducible assumption) | (with_reducible refine Chg.drewQ ?_) | (with_reducible refine Chg.allocQ ?_ _) | ((with_reducible refine Chg.setQ ?_ _ _ ?_ ?_); rotate_left; (focus (first | (simp; done) | (simp; omega) | omega)); (focus (first | (simp; done) | (simp; omega) | omega))))) (Nat.le_refl _) (.inl (Nat.le_refl _)))
        · exact (by repeat (first | (with_reducible exact Ext.refl _) | (with_reducible assumption) | (with_reducible refine Ext.drewN ?_ _) | (with_reducible refine Ext.drew ?_) | (with_reducible refine Ext.alloc ?_ _) | ((with_reducible refine Ext.setCell ?_ ?_ _); rotate_left; focus (first | (simp; done) | (simp; omega) | omega)) | (with_reducible refine Ext.trans ?_ (by with_reducible assumption))))
    case rest =>
      obtain ⟨g, ae, ce, be, de, rfl, rfl, hS, hCE, hxc⟩ := hcut
      have HCE := Lib.hid hCE
      have hxcb : Ext wb wc := hx3b.trans hxc
      have e0 := fun W (h : Ext wc W) => (hS.ext h).cell 0 (by simp)
      have e1 := fun W (h : Ext wc W) => (hS.ext h).cell 1 (by simp)
      have e2 := fun W (h : Ext wc W) => (hS.ext h).cell 2 (by simp)
      have e3 := fun W (h : Ext wc W) => (hS.ext h).cell 3 (by simp)
      have e4 := fun W (h : Ext wc W) => (hS.ext h).cell 4 (by simp)
      have e5 := fun W (h : Ext wc W) => (hS.ext h).cell 5 (by simp)
      try simp only [List.getElem_toArray, List.getElem_cons_succ, List.getElem_cons_zero] at e0 e1 e2 e3 e4 e5
      clear hS hCE KX HEv
      have hxcc : Ext wc wc := Ext.refl _
      go_wp2_with fail
      go_loopw [19, 20, 21, 22] (fun wd st ii _ wr => ∃ (i : Nat) (xs : List Int), i ≤ p ∧ ii = .int .i64 i ∧ wd = .string (textOf xs) ∧ st = .int .i64 (runS E 0 C.start xs) ∧ Hid (xs.length = i) ∧ Hid (DigC C xs) ∧ Ext wc wr) (fun _ _ ii _ _ => p - (intOf ii).toNat)
      case atStart => exact ⟨0, [], Nat.zero_le _, rfl, rfl, rfl, rfl, (fun d hd => by cases hd), (by repeat (first | (with_reducible exact Ext.refl _) | (with_reducible assumption) | (with_reducible refine Ext.drewN ?_ _) | (with_reducible refine Ext.drew ?_) | (with_reducible refine Ext.alloc ?_ _) | ((with_reducible refine Ext.setCell ?_ ?_ _); rotate_left; focus (first | (simp; done) | (simp; omega) | omega)) | (with_reducible refine Ext.trans ?_ (by with_reducible assumption))))⟩
      case round =>
        obtain ⟨i, xs, hi, rfl, rfl, rfl, HXl, HXd, hx⟩ := hrel
        have hxrb2 : Ext wb wr := hxcb.trans hx
        have hxr2 : Ext wc wr := hx
        have hsb := runS_bd HEo.out xs 0 C.start (HEd.out xs HXd.out) (by omega) (by rw [HXl.out, HEl.out.2.2.2]; omega) (by rw [← HEl.out.2.2.1]; exact HEo.out.st0) (by rw [← HEl.out.2.2.1]; exact HEo.out.st1)
        rw [HEl.out.2.1] at hsb
        by_cases hlt2 : i < p
        · have hz := r8_bd l' ((i : Int) + 20) C.base (by omega)
          have HR8 := Lib.hid (fun W (h : Ext w W) => laws_r8 a' n' c' l' ((i : Int) + 20) C.base W (HB'.out.ext h) (by omega) (by omega) (by omega))
          generalize r8 l' ((i : Int) + 20) C.base = z at *
          have HSn := Lib.hid (show runS E 0 C.start (xs ++ [z]) = gi (gl (gm C.tabs 0) (runS E 0 C.start xs).toNat) z.toNat by
            rw [runS_snoc, HXl.out, show (0 : Int) + (i : Int) = (i : Int) by omega]
            exact HEn.out i _ _ hlt2)
          generalize runS E 0 C.start xs = s at *
          have hn0' := HN0.out
          obtain ⟨b2, o2, a2, n2, c2, ⟨f3, f4⟩, hr2⟩ := HR0.out.one (P := Try.prog) 43 25 und_rows cell_row1 s (by omega) (by omega)
          obtain ⟨b3, o3, f5, f6⟩ := hr2.one (P := Try.prog) 25 2 und_int64s cell_int64 z (by omega) (by
            have h1 := hokc.out.rl 0 (by have := hokc.out.t1; omega) s.toNat (by have := HR0.out.len; omega)
            rw [hr2.len] at h1; omega)
          have hs1 : (textOf xs).size = i := by rw [textOf_size, HXl.out]
          have hs2 : (textOf [z]).size = 1 := textOf_size _
          clear hr2 hn0'
          go_wp2_with (first | (go_at_call 23; (with_reducible refine (HR8.out _ (hxwb.trans (Ext.trans hxrb2 (by repeat (first | (with_reducible exact Ext.refl _) | (with_reducible assumption) | (with_reducible refine Ext.drewN ?_ _) | (with_reducible refine Ext.drew ?_) | (with_reducible refine Ext.alloc ?_ _) | ((with_reducible refine Ext.setCell ?_ ?_ _); rotate_left; focus (first | (simp; done) | (simp; omega) | omega)) | (with_reducible refine Ext.trans ?_ (by with_reducible assumption))))))).mono ?_); rintro e w8 ⟨rfl, rfl⟩) | (go_at_call 22; (with_reducible refine (laws_r8Symbol z _ (by omega) (by omega)).mono ?_); rintro e w8 ⟨rfl, rfl⟩))
          exact ⟨⟨i + 1, xs ++ [z], hlt2, by go_num, by rw [text_app], by rw [HSn.out], by rw [Hid, List.length_append, HXl.out]; rfl, by rw [Hid]; exact all_snoc HXd.out hz, (by repeat (first | (with_reducible exact Ext.refl _) | (with_reducible assumption) | (with_reducible refine Ext.drewN ?_ _) | (with_reducible refine Ext.drew ?_) | (with_reducible refine Ext.alloc ?_ _) | ((with_reducible refine Ext.setCell ?_ ?_ _); rotate_left; focus (first | (simp; done) | (simp; omega) | omega)) | (with_reducible refine Ext.trans ?_ (by with_reducible assumption))))⟩, by simp [intOf]; omega⟩
        · obtain rfl : i = p := by omega
          have h36' : Dig36 xs := dig36_of hokc.out.b36 HXd.out
          have HSz := Lib.hid (show (textOf xs).size = i by rw [textOf_size, HXl.out])
          have HRun := Lib.hid (runOk_text HEo.out HEv1.out (HEd.out xs HXd.out) (by rw [HXl.out, HEl.out.2.2.2]))
          have HRr := Lib.hid (show runRes E (textOf xs) = runS E 0 C.start xs by rw [runRes, HRun.out, if_pos rfl, runEnd_text h36', HEl.out.2.2.1])
          have HRC := Lib.hid (fun W (h : Ext wc W) => impl_RunChain E ae 1 ce be i de (textOf xs) W (HCE.out.ext h) (by rw [HSz.out]; omega))
          rw [HRun.out, HRr.out] at HRC
          go_wp2_with (go_at_call 25; (with_reducible refine (HRC.out _ (by repeat (first | (with_reducible exact Ext.refl _) | (with_reducible assumption) | (with_reducible refine Ext.drewN ?_ _) | (with_reducible refine Ext.drew ?_) | (with_reducible refine Ext.alloc ?_ _) | ((with_reducible refine Ext.setCell ?_ ?_ _); rotate_left; focus (first | (simp; done) | (simp; omega) | omega)) | (with_reducible refine Ext.trans ?_ (by with_reducible assumption))))).mono ?_); rintro e w8 ⟨rfl, hy8⟩; have hx8 : Ext wc w8 := Ext.trans (by repeat (first | (with_reducible exact Ext.refl _) | (with_reducible assumption) | (with_reducible refine Ext.drewN ?_ _) | (with_reducible refine Ext.drew ?_) | (with_reducible refine Ext.alloc ?_ _) | ((with_reducible refine Ext.setCell ?_ ?_ _); rotate_left; focus (first | (simp; done) | (simp; omega) | omega)) | (with_reducible refine Ext.trans ?_ (by with_reducible assumption)))) hy8; clear hy8)
          go_ret
          exact ⟨rfl, hxwb.trans (hxcb.trans hx8)⟩
end Go.Proofs.Ytaiieodllhoelaa
