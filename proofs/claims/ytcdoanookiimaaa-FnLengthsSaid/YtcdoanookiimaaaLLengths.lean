/- The law on the lengths of words: walked. -/
import Derived.Test.YtcdoanookiimaaaR8C
import Derived.Test.YtcdoanookiimaaaR8
import Derived.Test.YtcdoanookiimaaaCount
import Derived.Test.YtcdoanookiimaaaLenP
import Derived.Test.YtcdoanookiimaaaEdD
namespace Go.Proofs.Ytcdoanookiimaaa
set_option maxRecDepth 100000
open Go.RowKit

set_option maxHeartbeats 8000000 in
theorem lawLengths (a : Option Addr) (n c : Nat) (l : List UInt8) (a' : Option Addr) (n' c' : Nat) (l' : List UInt8) (w : World) (hv : Bytes w a n c l) (hn : n ≤ 9223372036854775807) (hv' : Bytes w a' n' c' l') (hn' : n' ≤ 9223372036854775807) :
    Calls Try.prog 6 #[.slice a n c, .slice a' n' c'] w (Ret (.bool true) w) := by
  have HLong := Lib.hid (laws_r8Long a a' n c n' c' w hn hn')
  have HB := Lib.hid hv
  have HB' := Lib.hid hv'
  clear hv hv'
  by_cases hlong : 48 < n ∨ 48 < n'
  · rw [decide_eq_true hlong] at HLong
    clear hlong
    go_enter Try.func6, Try.ntmps6
    go_wp2_with (refine HLong.out.mono ?_; rintro e w1 ⟨rfl, rfl⟩)
    go_ret
    exact ⟨rfl, Ext.refl _⟩
  rw [decide_eq_false hlong] at HLong
  have hn48 : n ≤ 48 ∧ n' ≤ 48 := by omega
  clear hlong
  go_enter Try.func6, Try.ntmps6
  go_wp2_with (first | (go_at_call 11; refine HLong.out.mono ?_; rintro e w1 ⟨rfl, rfl⟩) | (go_at_call 30; refine (spec_R8Chain a n c l w HB.out (by omega)).mono ?_; rintro e w1 ⟨D, ad, x, cc, pd, p, pc, rfl, hdr, hfew, hp, hx3, hch, hx1⟩))
  have Hval := Lib.hid hdr.valid
  have Hok := Lib.hid (validCh_ok hdr.valid)
  have hb2 := hdr.b2
  have hb10 := hdr.b36
  have hp5 := hdr.p5
  have hp1 := hdr.p1
  rw [hp] at hp5 hp1
  have HP := Lib.hid hp
  have HI1 := Lib.hid hch
  have hN := few_words Hok.out hfew
  obtain ⟨wb, hwb⟩ : ∃ wb, wb = w1.alloc (.cells #[.int .i64 D.base, .int .i64 D.states, .int .i64 D.start, .int .i64 D.fin, .slice ad x cc, .slice pd p pc] 27) := ⟨_, rfl⟩
  have hx1b : Ext w1 wb := by rw [hwb]; exact (by repeat (first | (with_reducible exact Ext.refl _) | (with_reducible refine Ext.drewN ?_ _) | (with_reducible refine Ext.drew ?_) | (with_reducible refine Ext.alloc ?_ _) | ((with_reducible refine Ext.setCell ?_ ?_ _); rotate_left; focus (first | (simp; done) | (simp; omega) | omega)) | assumption | (with_reducible refine Ext.trans ?_ (by assumption))))
  have HA := Lib.hid (show ChAt wb w1.heap.size D ad x cc pd p pc by rw [hwb]; exact hch.box _)
  have hxwb : Ext w wb := hx1.trans hx1b
  have HI := Lib.hid (hch.ext hx1b)
  rw [← hwb]
  obtain ⟨q, hq⟩ : ∃ q, q = w1.heap.size := ⟨_, rfl⟩
  rw [← hq] at HA ⊢
  obtain ⟨k0, k1, k2, k3, k4, k5, _, _⟩ := HA.out
  clear hwb hq hdr hfew hp hch HLong hx1 hx1b HB
  have HWA := Lib.hid (fun r W (h : Ext wb W) => impl_WordAt D ad x cc pd p pc r W (HI.out.ext h) Hval.out)
  have HCt := Lib.hid (fun W (h : Ext wb W) => impl_CountWords D ad x cc pd p pc W (HI.out.ext h) Hval.out)
  have HCm := Lib.hid (fun s W (hs : s.size ≤ 1048576) (h : Ext wb W) => impl_Completions D ad x cc pd p pc s W (HI.out.ext h) hs)
  have HSh := Lib.hid (fun s W (hs : s.size ≤ 1048576) (h : Ext wb W) => impl_Shortenings D ad x cc pd p pc s W (HI.out.ext h) hs)
  have HIC := Lib.hid (fun s W (hs : s.size ≤ 1048576) (h : Ext wb W) => impl_IsChecked D ad x cc pd p pc s W (HI.out.ext h) hs)
  obtain ⟨N, hNe⟩ : ∃ N, N = (wordsA D).length := ⟨_, rfl⟩
  rw [← hNe] at HCt hN
  have HNe := Lib.hid hNe
  clear hNe
  have hxbb : Ext wb wb := Ext.refl _
  by_cases h0 : N = 0
  · have HW0 := Lib.hid (show watB D 0 = false from by unfold watB; rw [decide_eq_false_iff_not, ← HNe.out]; omega)
    subst h0
    go_wp2_with (first | (go_at_call 28; (with_reducible refine (HCt.out _ (by repeat (first | (with_reducible exact Ext.refl _) | (with_reducible assumption) | (with_reducible refine Ext.drewN ?_ _) | (with_reducible refine Ext.drew ?_) | (with_reducible refine Ext.alloc ?_ _) | ((with_reducible refine Ext.setCell ?_ ?_ _); rotate_left; focus (first | (simp; done) | (simp; omega) | omega)) | (with_reducible refine Ext.trans ?_ (by with_reducible assumption))))).mono ?_); rintro e w2 ⟨rfl, hy2⟩; have hx2 : Ext wb w2 := Ext.trans (by repeat (first | (with_reducible exact Ext.refl _) | (with_reducible assumption) | (with_reducible refine Ext.drewN ?_ _) | (with_reducible refine Ext.drew ?_) | (with_reducible refine Ext.alloc ?_ _) | ((with_reducible refine Ext.setCell ?_ ?_ _); rotate_left; focus (first | (simp; done) | (simp; omega) | omega)) | (with_reducible refine Ext.trans ?_ (by with_reducible assumption)))) hy2; clear hy2) | (go_at_call 27; (with_reducible refine (HWA.out 0 _ (by repeat (first | (with_reducible exact Ext.refl _) | (with_reducible assumption) | (with_reducible refine Ext.drewN ?_ _) | (with_reducible refine Ext.drew ?_) | (with_reducible refine Ext.alloc ?_ _) | ((with_reducible refine Ext.setCell ?_ ?_ _); rotate_left; focus (first | (simp; done) | (simp; omega) | omega)) | (with_reducible refine Ext.trans ?_ (by with_reducible assumption))))).mono ?_); rintro e w3 ⟨rfl, hy3⟩; rw [HW0.out]; have hx3 : Ext wb w3 := Ext.trans (by repeat (first | (with_reducible exact Ext.refl _) | (with_reducible assumption) | (with_reducible refine Ext.drewN ?_ _) | (with_reducible refine Ext.drew ?_) | (with_reducible refine Ext.alloc ?_ _) | ((with_reducible refine Ext.setCell ?_ ?_ _); rotate_left; focus (first | (simp; done) | (simp; omega) | omega)) | (with_reducible refine Ext.trans ?_ (by with_reducible assumption)))) hy3; clear hy3))
    go_ret
    exact ⟨rfl, hxwb.trans (by repeat (first | (with_reducible exact Ext.refl _) | (with_reducible refine Ext.drewN ?_ _) | (with_reducible refine Ext.drew ?_) | (with_reducible refine Ext.alloc ?_ _) | ((with_reducible refine Ext.setCell ?_ ?_ _); rotate_left; focus (first | (simp; done) | (simp; omega) | omega)) | assumption | (with_reducible refine Ext.trans ?_ (by assumption))))⟩
  · have hz := r8_bd l' 0 N (by omega)
    have HR0 := Lib.hid (fun W (h : Ext w W) => laws_r8 a' n' c' l' 0 (N : Int) W (HB'.out.ext h) (by omega) (by omega) (by omega))
    generalize r8 l' 0 N = r0 at *
    obtain ⟨r, rfl⟩ := Int.eq_ofNat_of_zero_le hz.1
    have hrN : r < N := by omega
    obtain ⟨ds, hds⟩ : ∃ ds, ds = (wordsA D).getD r [] := ⟨_, rfl⟩
    have hm := getD_mem' (l := wordsA D) (d := []) (k := r) (by rw [← HNe.out]; exact hrN)
    rw [← hds] at hm
    obtain ⟨hl, hd, hd36⟩ := wordsA_mem Hok.out hm
    have hck := (rk_wordR Hok.out Hval.out (r := r) (by rw [← HNe.out]; exact hrN)).1
    have HW1 := Lib.hid (show watB D (r : Nat) = true ∧ watT D (r : Nat) = textOf ds from by
      have h1 : watB D (r : Nat) = true := by unfold watB; rw [decide_eq_true_iff, ← HNe.out]; omega
      exact ⟨h1, by rw [watT, h1, hds]; rfl⟩)
    have hck2 : chkB D (textOf ds) = true := by rw [hds]; exact hck
    have hz1 := r8_bd l' 1 p (by omega)
    have HR1 := Lib.hid (fun W (h : Ext w W) => laws_r8 a' n' c' l' 1 (p : Int) W (HB'.out.ext h) (by omega) (by omega) (by omega))
    generalize r8 l' 1 p = r1 at *
    obtain ⟨i, rfl⟩ := Int.eq_ofNat_of_zero_le hz1.1
    have hip : i < p := by omega
    have hz2 := r8_bd l' 2 D.base (by omega)
    have HR2 := Lib.hid (fun W (h : Ext w W) => laws_r8 a' n' c' l' 2 D.base W (HB'.out.ext h) (by omega) (by omega) (by omega))
    generalize r8 l' 2 D.base = z at *
    have hlp : ds.length = p := by rw [hl]; exact HP.out
    have HC1 := Lib.hid (cut_yes Hok.out Hval.out hd hl (i := i) (by omega))
    have HC2 := Lib.hid (cut_has Hok.out Hval.out hd hl (i := i) hck2 (by omega))
    have HI1s := Lib.hid (ins_yes Hok.out Hval.out hd hl (i := i) (by omega) (by rw [HP.out]; omega) hz2.1 hz2.2)
    have HI2s := Lib.hid (ins_has Hok.out Hval.out hd hl (i := i) hck2 (by omega) (by rw [HP.out]; omega) hz2.1 hz2.2)
    have hsz : (textOf ds).size = p := by rw [textOf_size, hlp]
    obtain ⟨s, hs⟩ : ∃ s, s = textOf ds := ⟨_, rfl⟩
    rw [← hs] at HW1 HC1 HC2 HI1s HI2s hsz
    have hcs : (cutAt s i).size + 1 = p := by rw [cutAt_size (by omega)]; exact hsz
    have his : (insAt s i z).size = p + 1 := by rw [insAt_size (by omega), hsz]
    have HLc := Lib.hid (cmpL_len D (cutAt s i))
    have HLs := Lib.hid (shoL_len D (insAt s i z))
    have HNc := Lib.hid (cmp_near HC1.out)
    have HNs := Lib.hid (sho_near HI1s.out)
    have HWc := Lib.hid (show wordB (cutAt s i).data.toList 36 20 = true from by
      have h1 := HC1.out
      unfold cmpB at h1
      simp only [Bool.and_eq_true] at h1
      exact wordB_up h1.2.1)
    have HWs := Lib.hid (show wordB (insAt s i z).data.toList 36 20 = true from by
      have h1 := HI1s.out
      unfold shoB at h1
      simp only [Bool.and_eq_true] at h1
      exact wordB_up h1.2.1)
    have HCmp := Lib.hid (fun W (h : Ext wb W) => HCm.out (cutAt s i) W (by omega) h)
    have HSho := Lib.hid (fun W (h : Ext wb W) => HSh.out (insAt s i z) W (by omega) h)
    rw [HC1.out] at HCmp
    rw [HI1s.out] at HSho
    obtain ⟨L1, hL1⟩ : ∃ L1, L1 = cmpL D (cutAt s i) := ⟨_, rfl⟩
    obtain ⟨L2, hL2⟩ : ∃ L2, L2 = shoL D (insAt s i z) := ⟨_, rfl⟩
    have hLc := HLc.out
    have hLs := HLs.out
    rw [← hL1] at hLc HC2 HNc HCmp
    rw [← hL2] at hLs HI2s HNs HSho
    have HCut := Lib.hid (show s.extract 0 i ++ s.extract (i + 1) p = cutAt s i from by unfold cutAt; rw [hsz])
    have HIns := Lib.hid (show s.extract 0 i ++ textOf [z] ++ s.extract i p = insAt s i z from by unfold insAt; rw [hsz])
    clear hL1 hL2 HLc HLs
    have HSy := Lib.hid (fun W => laws_r8Symbol z W hz2.1 (by omega))
    rw [← hs] at hck2
    have Hhm := Lib.hid hm; clear hm; have Hhd := Lib.hid hd; clear hd; have Hhd36 := Lib.hid hd36; clear hd36; have Hhck := Lib.hid hck; clear hck; have Hhck2 := Lib.hid hck2; clear hck2; have Hhl := Lib.hid hl; clear hl; have Hhlp := Lib.hid hlp; clear hlp
    clear hds hs HCm HSh
    go_wp2_with (first | (go_at_call 28; (with_reducible refine (HCt.out _ (by repeat (first | (with_reducible exact Ext.refl _) | (with_reducible assumption) | (with_reducible refine Ext.drewN ?_ _) | (with_reducible refine Ext.drew ?_) | (with_reducible refine Ext.alloc ?_ _) | ((with_reducible refine Ext.setCell ?_ ?_ _); rotate_left; focus (first | (simp; done) | (simp; omega) | omega)) | (with_reducible refine Ext.trans ?_ (by with_reducible assumption))))).mono ?_); rintro e w2 ⟨rfl, hy2⟩; have hx2 : Ext wb w2 := Ext.trans (by repeat (first | (with_reducible exact Ext.refl _) | (with_reducible assumption) | (with_reducible refine Ext.drewN ?_ _) | (with_reducible refine Ext.drew ?_) | (with_reducible refine Ext.alloc ?_ _) | ((with_reducible refine Ext.setCell ?_ ?_ _); rotate_left; focus (first | (simp; done) | (simp; omega) | omega)) | (with_reducible refine Ext.trans ?_ (by with_reducible assumption)))) hy2; clear hy2))
    have hxw2 : Ext w w2 := hxwb.trans hx2
    (refine wp_region_from w2 (by repeat (first | (with_reducible exact Ext.refl _) | (with_reducible refine Ext.drewN ?_ _) | (with_reducible refine Ext.drew ?_) | (with_reducible refine Ext.alloc ?_ _) | ((with_reducible refine Ext.setCell ?_ ?_ _); rotate_left; focus (first | (simp; done) | (simp; omega) | omega)) | assumption | (with_reducible refine Ext.trans ?_ (by assumption)))) (by kernel_rfl) (by kernel_rfl) (by kernel_rfl) ?_; (repeat (first | (refine mix_q rfl ?_; go_big_quiet_step (fail); refine wpQuiet_nil ?_; show wpMix _ _ _ _ _ _ _) | (refine mix_s rfl ?_; go_wp2_with (first | (go_at_call 13; (with_reducible refine (HR0.out _ (by repeat (first | (with_reducible exact Ext.refl _) | (with_reducible assumption) | (with_reducible refine Ext.drewN ?_ _) | (with_reducible refine Ext.drew ?_) | (with_reducible refine Ext.alloc ?_ _) | ((with_reducible refine Ext.setCell ?_ ?_ _); rotate_left; focus (first | (simp; done) | (simp; omega) | omega)) | (with_reducible refine Ext.trans ?_ (by with_reducible assumption))))).mono ?_); rintro e w3 ⟨rfl, rfl⟩) | (go_at_call 27; (with_reducible refine (HWA.out (r : Nat) _ (by repeat (first | (with_reducible exact Ext.refl _) | (with_reducible assumption) | (with_reducible refine Ext.drewN ?_ _) | (with_reducible refine Ext.drew ?_) | (with_reducible refine Ext.alloc ?_ _) | ((with_reducible refine Ext.setCell ?_ ?_ _); rotate_left; focus (first | (simp; done) | (simp; omega) | omega)) | (with_reducible refine Ext.trans ?_ (by with_reducible assumption))))).mono ?_); rintro e w4 ⟨rfl, hy4⟩; rw [HW1.out.1, HW1.out.2]; have hx4 : Ext w2 w4 := Ext.trans (by repeat (first | (with_reducible exact Ext.refl _) | (with_reducible assumption) | (with_reducible refine Ext.drewN ?_ _) | (with_reducible refine Ext.drew ?_) | (with_reducible refine Ext.alloc ?_ _) | ((with_reducible refine Ext.setCell ?_ ?_ _); rotate_left; focus (first | (simp; done) | (simp; omega) | omega)) | (with_reducible refine Ext.trans ?_ (by with_reducible assumption)))) hy4; clear hy4)); first | refine ⟨up_of (by repeat (first | (with_reducible exact Ext.refl _) | (with_reducible refine Ext.drewN ?_ _) | (with_reducible refine Ext.drew ?_) | (with_reducible refine Ext.alloc ?_ _) | ((with_reducible refine Ext.setCell ?_ ?_ _); rotate_left; focus (first | (simp; done) | (simp; omega) | omega)) | assumption | (with_reducible refine Ext.trans ?_ (by assumption)))), ?_⟩ | refine ⟨rfl, rfl, up_of (by repeat (first | (with_reducible exact Ext.refl _) | (with_reducible refine Ext.drewN ?_ _) | (with_reducible refine Ext.drew ?_) | (with_reducible refine Ext.alloc ?_ _) | ((with_reducible refine Ext.setCell ?_ ?_ _); rotate_left; focus (first | (simp; done) | (simp; omega) | omega)) | assumption | (with_reducible refine Ext.trans ?_ (by assumption)))), ?_⟩))); refine mix_nil ?_)
    have hxw4 : Ext w w4 := hxw2.trans hx4
    have hxb4 : Ext wb w4 := hx2.trans hx4
    go_wp2_with (first | (go_at_call 13; (with_reducible refine (HR1.out _ (by repeat (first | (with_reducible exact Ext.refl _) | (with_reducible assumption) | (with_reducible refine Ext.drewN ?_ _) | (with_reducible refine Ext.drew ?_) | (with_reducible refine Ext.alloc ?_ _) | ((with_reducible refine Ext.setCell ?_ ?_ _); rotate_left; focus (first | (simp; done) | (simp; omega) | omega)) | (with_reducible refine Ext.trans ?_ (by with_reducible assumption))))).mono ?_); rintro e w5 ⟨rfl, rfl⟩) | (go_at_call 31; (with_reducible refine (HCmp.out _ (by repeat (first | (with_reducible exact Ext.refl _) | (with_reducible assumption) | (with_reducible refine Ext.drewN ?_ _) | (with_reducible refine Ext.drew ?_) | (with_reducible refine Ext.alloc ?_ _) | ((with_reducible refine Ext.setCell ?_ ?_ _); rotate_left; focus (first | (simp; done) | (simp; omega) | omega)) | (with_reducible refine Ext.trans ?_ (by with_reducible assumption))))).mono ?_); rintro e w6 ⟨g6, c6, rfl, ho6, hy6⟩; have hx6 : Ext w4 w6 := Ext.trans (by repeat (first | (with_reducible exact Ext.refl _) | (with_reducible assumption) | (with_reducible refine Ext.drewN ?_ _) | (with_reducible refine Ext.drew ?_) | (with_reducible refine Ext.alloc ?_ _) | ((with_reducible refine Ext.setCell ?_ ?_ _); rotate_left; focus (first | (simp; done) | (simp; omega) | omega)) | (with_reducible refine Ext.trans ?_ (by with_reducible assumption)))) hy6; clear hy6))
    (refine wp_region_from w4 (by repeat (first | (with_reducible exact Ext.refl _) | (with_reducible refine Ext.drewN ?_ _) | (with_reducible refine Ext.drew ?_) | (with_reducible refine Ext.alloc ?_ _) | ((with_reducible refine Ext.setCell ?_ ?_ _); rotate_left; focus (first | (simp; done) | (simp; omega) | omega)) | assumption | (with_reducible refine Ext.trans ?_ (by assumption)))) (by kernel_rfl) (by kernel_rfl) (by kernel_rfl) ?_; (repeat (first | (refine mix_q rfl ?_; go_big_quiet_step (fail); refine wpQuiet_nil ?_; show wpMix _ _ _ _ _ _ _) | (refine mix_s rfl ?_; go_wp2_with (go_at_call 31; rw [HCut.out]; (with_reducible refine (HCmp.out _ (by repeat (first | (with_reducible exact Ext.refl _) | (with_reducible assumption) | (with_reducible refine Ext.drewN ?_ _) | (with_reducible refine Ext.drew ?_) | (with_reducible refine Ext.alloc ?_ _) | ((with_reducible refine Ext.setCell ?_ ?_ _); rotate_left; focus (first | (simp; done) | (simp; omega) | omega)) | (with_reducible refine Ext.trans ?_ (by with_reducible assumption))))).mono ?_); rintro e w6 ⟨a6, c6, rfl, ho6, hy6⟩; have hx6 : Ext w4 w6 := Ext.trans (by repeat (first | (with_reducible exact Ext.refl _) | (with_reducible assumption) | (with_reducible refine Ext.drewN ?_ _) | (with_reducible refine Ext.drew ?_) | (with_reducible refine Ext.alloc ?_ _) | ((with_reducible refine Ext.setCell ?_ ?_ _); rotate_left; focus (first | (simp; done) | (simp; omega) | omega)) | (with_reducible refine Ext.trans ?_ (by with_reducible assumption)))) hy6; clear hy6); first | refine ⟨up_of (by repeat (first | (with_reducible exact Ext.refl _) | (with_reducible refine Ext.drewN ?_ _) | (with_reducible refine Ext.drew ?_) | (with_reducible refine Ext.alloc ?_ _) | ((with_reducible refine Ext.setCell ?_ ?_ _); rotate_left; focus (first | (simp; done) | (simp; omega) | omega)) | assumption | (with_reducible refine Ext.trans ?_ (by assumption)))), ?_⟩ | refine ⟨rfl, rfl, up_of (by repeat (first | (with_reducible exact Ext.refl _) | (with_reducible refine Ext.drewN ?_ _) | (with_reducible refine Ext.drew ?_) | (with_reducible refine Ext.alloc ?_ _) | ((with_reducible refine Ext.setCell ?_ ?_ _); rotate_left; focus (first | (simp; done) | (simp; omega) | omega)) | assumption | (with_reducible refine Ext.trans ?_ (by assumption)))), ?_⟩))); refine mix_nil ?_)
    have hxw6 : Ext w w6 := hxw4.trans hx6
    have hxb6 : Ext wb w6 := hxb4.trans hx6
    have HO6 := Lib.hid (show Strs w6 a6 L1.length c6 L1 from ho6.sl)
    clear ho6
    have hsd : (textOf [z]).size = 1 := textOf_size _
    try go_wp2_with fail
    (refine wp_region_from w6 (by repeat (first | (with_reducible exact Ext.refl _) | (with_reducible refine Ext.drewN ?_ _) | (with_reducible refine Ext.drew ?_) | (with_reducible refine Ext.alloc ?_ _) | ((with_reducible refine Ext.setCell ?_ ?_ _); rotate_left; focus (first | (simp; done) | (simp; omega) | omega)) | assumption | (with_reducible refine Ext.trans ?_ (by assumption)))) (by kernel_rfl) (by kernel_rfl) (by kernel_rfl) ?_; (repeat (first | (refine mix_q rfl ?_; go_big_quiet_step (fail); refine wpQuiet_nil ?_; show wpMix _ _ _ _ _ _ _) | (refine mix_s rfl ?_; go_wp2_with ((first | (go_at_call 13; (with_reducible refine (HR2.out _ (by repeat (first | (with_reducible exact Ext.refl _) | (with_reducible assumption) | (with_reducible refine Ext.drewN ?_ _) | (with_reducible refine Ext.drew ?_) | (with_reducible refine Ext.alloc ?_ _) | ((with_reducible refine Ext.setCell ?_ ?_ _); rotate_left; focus (first | (simp; done) | (simp; omega) | omega)) | (with_reducible refine Ext.trans ?_ (by with_reducible assumption))))).mono ?_); rintro e w7 ⟨rfl, rfl⟩) | (go_at_call 24; (with_reducible refine (HSy.out _).mono ?_); rintro e w8 ⟨rfl, rfl⟩))); first | refine ⟨up_of (by repeat (first | (with_reducible exact Ext.refl _) | (with_reducible refine Ext.drewN ?_ _) | (with_reducible refine Ext.drew ?_) | (with_reducible refine Ext.alloc ?_ _) | ((with_reducible refine Ext.setCell ?_ ?_ _); rotate_left; focus (first | (simp; done) | (simp; omega) | omega)) | assumption | (with_reducible refine Ext.trans ?_ (by assumption)))), ?_⟩ | refine ⟨rfl, rfl, up_of (by repeat (first | (with_reducible exact Ext.refl _) | (with_reducible refine Ext.drewN ?_ _) | (with_reducible refine Ext.drew ?_) | (with_reducible refine Ext.alloc ?_ _) | ((with_reducible refine Ext.setCell ?_ ?_ _); rotate_left; focus (first | (simp; done) | (simp; omega) | omega)) | assumption | (with_reducible refine Ext.trans ?_ (by assumption)))), ?_⟩))); refine mix_nil ?_)
    rw [HIns.out]
    go_wp2_with (first | (go_at_call 32; (with_reducible refine (HSho.out _ (by repeat (first | (with_reducible exact Ext.refl _) | (with_reducible assumption) | (with_reducible refine Ext.drewN ?_ _) | (with_reducible refine Ext.drew ?_) | (with_reducible refine Ext.alloc ?_ _) | ((with_reducible refine Ext.setCell ?_ ?_ _); rotate_left; focus (first | (simp; done) | (simp; omega) | omega)) | (with_reducible refine Ext.trans ?_ (by with_reducible assumption))))).mono ?_); rintro e w9 ⟨a9, c9, rfl, ho9, hy9⟩; have hx9 : Ext w6 w9 := Ext.trans (by repeat (first | (with_reducible exact Ext.refl _) | (with_reducible assumption) | (with_reducible refine Ext.drewN ?_ _) | (with_reducible refine Ext.drew ?_) | (with_reducible refine Ext.alloc ?_ _) | ((with_reducible refine Ext.setCell ?_ ?_ _); rotate_left; focus (first | (simp; done) | (simp; omega) | omega)) | (with_reducible refine Ext.trans ?_ (by with_reducible assumption)))) hy9; clear hy9; have HO9 := Lib.hid (show Strs w9 a9 L2.length c9 L2 from ho9.sl); clear ho9) | (go_at_call 33; first | ((with_reducible refine (laws_hasText a6 L1.length c6 L1 s _ (Strs.ext HO6.out (by repeat (first | (with_reducible exact Ext.refl _) | (with_reducible assumption) | (with_reducible refine Ext.drewN ?_ _) | (with_reducible refine Ext.drew ?_) | (with_reducible refine Ext.alloc ?_ _) | ((with_reducible refine Ext.setCell ?_ ?_ _); rotate_left; focus (first | (simp; done) | (simp; omega) | omega)) | (with_reducible refine Ext.trans ?_ (by with_reducible assumption))))) hLc HC2.out).mono ?_); rintro e w10 ⟨rfl, hy10⟩; have hx10 : Ext w9 w10 := Ext.trans (by repeat (first | (with_reducible exact Ext.refl _) | (with_reducible assumption) | (with_reducible refine Ext.drewN ?_ _) | (with_reducible refine Ext.drew ?_) | (with_reducible refine Ext.alloc ?_ _) | ((with_reducible refine Ext.setCell ?_ ?_ _); rotate_left; focus (first | (simp; done) | (simp; omega) | omega)) | (with_reducible refine Ext.trans ?_ (by with_reducible assumption)))) hy10; clear hy10) | ((with_reducible refine (laws_hasText a9 L2.length c9 L2 s _ (Strs.ext HO9.out (by repeat (first | (with_reducible exact Ext.refl _) | (with_reducible assumption) | (with_reducible refine Ext.drewN ?_ _) | (with_reducible refine Ext.drew ?_) | (with_reducible refine Ext.alloc ?_ _) | ((with_reducible refine Ext.setCell ?_ ?_ _); rotate_left; focus (first | (simp; done) | (simp; omega) | omega)) | (with_reducible refine Ext.trans ?_ (by with_reducible assumption))))) hLs HI2s.out).mono ?_); rintro e w11 ⟨rfl, hy11⟩; have hx11 : Ext w9 w11 := Ext.trans (by repeat (first | (with_reducible exact Ext.refl _) | (with_reducible assumption) | (with_reducible refine Ext.drewN ?_ _) | (with_reducible refine Ext.drew ?_) | (with_reducible refine Ext.alloc ?_ _) | ((with_reducible refine Ext.setCell ?_ ?_ _); rotate_left; focus (first | (simp; done) | (simp; omega) | omega)) | (with_reducible refine Ext.trans ?_ (by with_reducible assumption)))) hy11; clear hy11)))
    have hxb9 : Ext wb w9 := hxb6.trans hx9
    have hx611 : Ext w6 w11 := hx9.trans hx11
    obtain ⟨b1, o1, hix1, hcell1⟩ := Sl.ix (P := Try.prog) HO6.out 28 9 und_strs cell_str
    go_loopw [18, 19, 20] (fun kk dd ss wr => ∃ k : Nat, k ≤ L1.length ∧ kk = .int .i64 k ∧ Ext w11 wr) (fun kk _ _ _ => L1.length - (intOf kk).toNat)
    case atStart => exact ⟨0, Nat.zero_le _, rfl, (by repeat (first | (with_reducible exact Ext.refl _) | (with_reducible refine Ext.drewN ?_ _) | (with_reducible refine Ext.drew ?_) | (with_reducible refine Ext.alloc ?_ _) | ((with_reducible refine Ext.setCell ?_ ?_ _); rotate_left; focus (first | (simp; done) | (simp; omega) | omega)) | assumption | (with_reducible refine Ext.trans ?_ (by assumption))))⟩
    case round =>
      obtain ⟨k, hk, rfl, hx⟩ := hrel
      have hxr : Ext w11 wr := hx
      have hxr6 : Ext w6 wr := hx611.trans hx
      have hxrb : Ext wb wr := hxb6.trans hxr6
      by_cases hlt : k < L1.length
      · have hmem : gs L1 k ∈ L1 := by rw [gs_get hlt]; exact List.getElem_mem hlt
        obtain ⟨hq1, hq2, hq3, hq4⟩ := HNc.out _ hmem
        have HEd := Lib.hid (fun W => impl_EditDistance (gs L1 k) (cutAt s i) W (by omega) (by omega) hq2 HWc.out)
        rw [hq4, show ((1 : Nat) : Int) = 1 from rfl] at HEd
        have HICk := Lib.hid (fun W (h : Ext wb W) => HIC.out (gs L1 k) W (by omega) h)
        rw [hq3] at HICk
        clear hq2 hq3 hq4 hmem
        have hgk := gv_St (l := L1) hlt
        go_wp2_with fail
        (refine wp_region_from wr (by repeat (first | (with_reducible exact Ext.refl _) | (with_reducible refine Ext.drewN ?_ _) | (with_reducible refine Ext.drew ?_) | (with_reducible refine Ext.alloc ?_ _) | ((with_reducible refine Ext.setCell ?_ ?_ _); rotate_left; focus (first | (simp; done) | (simp; omega) | omega)) | assumption | (with_reducible refine Ext.trans ?_ (by assumption)))) (by kernel_rfl) (by kernel_rfl) (by kernel_rfl) ?_; (repeat (first | (refine mix_q rfl ?_; go_big_quiet_step (fail); refine wpQuiet_nil ?_; show wpMix _ _ _ _ _ _ _) | (refine mix_s rfl ?_; go_wp2_with ((go_at_call 26; rw [HCut.out]; (with_reducible refine (HEd.out _).mono ?_); rintro e w12 ⟨rfl, hy12⟩; have hx12 : Ext wr w12 := Ext.trans (by repeat (first | (with_reducible exact Ext.refl _) | (with_reducible assumption) | (with_reducible refine Ext.drewN ?_ _) | (with_reducible refine Ext.drew ?_) | (with_reducible refine Ext.alloc ?_ _) | ((with_reducible refine Ext.setCell ?_ ?_ _); rotate_left; focus (first | (simp; done) | (simp; omega) | omega)) | (with_reducible refine Ext.trans ?_ (by with_reducible assumption)))) hy12; clear hy12)); first | refine ⟨up_of (by repeat (first | (with_reducible exact Ext.refl _) | (with_reducible refine Ext.drewN ?_ _) | (with_reducible refine Ext.drew ?_) | (with_reducible refine Ext.alloc ?_ _) | ((with_reducible refine Ext.setCell ?_ ?_ _); rotate_left; focus (first | (simp; done) | (simp; omega) | omega)) | assumption | (with_reducible refine Ext.trans ?_ (by assumption)))), ?_⟩ | refine ⟨rfl, rfl, up_of (by repeat (first | (with_reducible exact Ext.refl _) | (with_reducible refine Ext.drewN ?_ _) | (with_reducible refine Ext.drew ?_) | (with_reducible refine Ext.alloc ?_ _) | ((with_reducible refine Ext.setCell ?_ ?_ _); rotate_left; focus (first | (simp; done) | (simp; omega) | omega)) | assumption | (with_reducible refine Ext.trans ?_ (by assumption)))), ?_⟩))); refine mix_nil ?_)
        have hxb12 : Ext wb w12 := hxrb.trans hx12
        have hxc12 : Ext w6 w12 := hxr6.trans hx12
        go_wp2_with fail
        (refine wp_region_from w12 (by repeat (first | (with_reducible exact Ext.refl _) | (with_reducible refine Ext.drewN ?_ _) | (with_reducible refine Ext.drew ?_) | (with_reducible refine Ext.alloc ?_ _) | ((with_reducible refine Ext.setCell ?_ ?_ _); rotate_left; focus (first | (simp; done) | (simp; omega) | omega)) | assumption | (with_reducible refine Ext.trans ?_ (by assumption)))) (by kernel_rfl) (by kernel_rfl) (by kernel_rfl) ?_; (repeat (first | (refine mix_q rfl ?_; go_big_quiet_step (fail); refine wpQuiet_nil ?_; show wpMix _ _ _ _ _ _ _) | (refine mix_s rfl ?_; go_wp2_with ((go_at_call 34; (with_reducible refine (HICk.out _ (by repeat (first | (with_reducible exact Ext.refl _) | (with_reducible assumption) | (with_reducible refine Ext.drewN ?_ _) | (with_reducible refine Ext.drew ?_) | (with_reducible refine Ext.alloc ?_ _) | ((with_reducible refine Ext.setCell ?_ ?_ _); rotate_left; focus (first | (simp; done) | (simp; omega) | omega)) | (with_reducible refine Ext.trans ?_ (by with_reducible assumption))))).mono ?_); rintro e w13 ⟨rfl, hy13⟩; have hx13 : Ext w12 w13 := Ext.trans (by repeat (first | (with_reducible exact Ext.refl _) | (with_reducible assumption) | (with_reducible refine Ext.drewN ?_ _) | (with_reducible refine Ext.drew ?_) | (with_reducible refine Ext.alloc ?_ _) | ((with_reducible refine Ext.setCell ?_ ?_ _); rotate_left; focus (first | (simp; done) | (simp; omega) | omega)) | (with_reducible refine Ext.trans ?_ (by with_reducible assumption)))) hy13; clear hy13)); first | refine ⟨up_of (by repeat (first | (with_reducible exact Ext.refl _) | (with_reducible refine Ext.drewN ?_ _) | (with_reducible refine Ext.drew ?_) | (with_reducible refine Ext.alloc ?_ _) | ((with_reducible refine Ext.setCell ?_ ?_ _); rotate_left; focus (first | (simp; done) | (simp; omega) | omega)) | assumption | (with_reducible refine Ext.trans ?_ (by assumption)))), ?_⟩ | refine ⟨rfl, rfl, up_of (by repeat (first | (with_reducible exact Ext.refl _) | (with_reducible refine Ext.drewN ?_ _) | (with_reducible refine Ext.drew ?_) | (with_reducible refine Ext.alloc ?_ _) | ((with_reducible refine Ext.setCell ?_ ?_ _); rotate_left; focus (first | (simp; done) | (simp; omega) | omega)) | assumption | (with_reducible refine Ext.trans ?_ (by assumption)))), ?_⟩))); refine mix_nil ?_)
        have hxr13 : Ext w11 w13 := hxr.trans (hx12.trans hx13)
        go_wp2
        exact ⟨⟨k + 1, hlt, by go_num, (by repeat (first | (with_reducible exact Ext.refl _) | (with_reducible assumption) | (with_reducible refine Ext.drewN ?_ _) | (with_reducible refine Ext.drew ?_) | (with_reducible refine Ext.alloc ?_ _) | ((with_reducible refine Ext.setCell ?_ ?_ _); rotate_left; focus (first | (simp; done) | (simp; omega) | omega)) | (with_reducible refine Ext.trans ?_ (by with_reducible assumption))))⟩, by simp [intOf]; omega⟩
      · obtain rfl : k = L1.length := by omega
        go_wp2_with fail
        obtain ⟨b2, o2, hix2, hcell2⟩ := Sl.ix (P := Try.prog) HO9.out 28 9 und_strs cell_str
        go_loopw [21, 22, 23] (fun kk dd ss wr => ∃ k : Nat, k ≤ L2.length ∧ kk = .int .i64 k ∧ Ext w11 wr) (fun kk _ _ _ => L2.length - (intOf kk).toNat)
        case atStart => exact ⟨0, Nat.zero_le _, rfl, hxr⟩
        case round =>
          obtain ⟨k, hk, rfl, hx⟩ := hrel
          have hxv : Ext w11 wr := hx
          have hxv9 : Ext w9 wr := hx11.trans hx
          have hxvb : Ext wb wr := hxb9.trans hxv9
          by_cases hlt : k < L2.length
          · have hmem : gs L2 k ∈ L2 := by rw [gs_get hlt]; exact List.getElem_mem hlt
            obtain ⟨hq1, hq2, hq3, hq4⟩ := HNs.out _ hmem
            have HEd := Lib.hid (fun W => impl_EditDistance (gs L2 k) (insAt s i z) W (by omega) (by omega) hq2 HWs.out)
            rw [hq4, show ((1 : Nat) : Int) = 1 from rfl] at HEd
            have HICk := Lib.hid (fun W (h : Ext wb W) => HIC.out (gs L2 k) W (by omega) h)
            rw [hq3] at HICk
            clear hq2 hq3 hq4 hmem
            have hgk := gv_St (l := L2) hlt
            go_wp2_with (go_at_call 26; (with_reducible refine (HEd.out _).mono ?_); rintro e w12 ⟨rfl, hy12⟩; have hx12 : Ext wr w12 := Ext.trans (by repeat (first | (with_reducible exact Ext.refl _) | (with_reducible assumption) | (with_reducible refine Ext.drewN ?_ _) | (with_reducible refine Ext.drew ?_) | (with_reducible refine Ext.alloc ?_ _) | ((with_reducible refine Ext.setCell ?_ ?_ _); rotate_left; focus (first | (simp; done) | (simp; omega) | omega)) | (with_reducible refine Ext.trans ?_ (by with_reducible assumption)))) hy12; have hxb12 : Ext wb w12 := hxvb.trans hx12; have hxc12 : Ext w9 w12 := hxv9.trans hx12; clear hy12)
            (refine wp_region_from w12 (by repeat (first | (with_reducible exact Ext.refl _) | (with_reducible refine Ext.drewN ?_ _) | (with_reducible refine Ext.drew ?_) | (with_reducible refine Ext.alloc ?_ _) | ((with_reducible refine Ext.setCell ?_ ?_ _); rotate_left; focus (first | (simp; done) | (simp; omega) | omega)) | assumption | (with_reducible refine Ext.trans ?_ (by assumption)))) (by kernel_rfl) (by kernel_rfl) (by kernel_rfl) ?_; (repeat (first | (refine mix_q rfl ?_; go_big_quiet_step (fail); refine wpQuiet_nil ?_; show wpMix _ _ _ _ _ _ _) | (refine mix_s rfl ?_; go_wp2_with ((go_at_call 34; (with_reducible refine (HICk.out _ (by repeat (first | (with_reducible exact Ext.refl _) | (with_reducible assumption) | (with_reducible refine Ext.drewN ?_ _) | (with_reducible refine Ext.drew ?_) | (with_reducible refine Ext.alloc ?_ _) | ((with_reducible refine Ext.setCell ?_ ?_ _); rotate_left; focus (first | (simp; done) | (simp; omega) | omega)) | (with_reducible refine Ext.trans ?_ (by with_reducible assumption))))).mono ?_); rintro e w13 ⟨rfl, hy13⟩; have hx13 : Ext w12 w13 := Ext.trans (by repeat (first | (with_reducible exact Ext.refl _) | (with_reducible assumption) | (with_reducible refine Ext.drewN ?_ _) | (with_reducible refine Ext.drew ?_) | (with_reducible refine Ext.alloc ?_ _) | ((with_reducible refine Ext.setCell ?_ ?_ _); rotate_left; focus (first | (simp; done) | (simp; omega) | omega)) | (with_reducible refine Ext.trans ?_ (by with_reducible assumption)))) hy13; clear hy13)); first | refine ⟨up_of (by repeat (first | (with_reducible exact Ext.refl _) | (with_reducible refine Ext.drewN ?_ _) | (with_reducible refine Ext.drew ?_) | (with_reducible refine Ext.alloc ?_ _) | ((with_reducible refine Ext.setCell ?_ ?_ _); rotate_left; focus (first | (simp; done) | (simp; omega) | omega)) | assumption | (with_reducible refine Ext.trans ?_ (by assumption)))), ?_⟩ | refine ⟨rfl, rfl, up_of (by repeat (first | (with_reducible exact Ext.refl _) | (with_reducible refine Ext.drewN ?_ _) | (with_reducible refine Ext.drew ?_) | (with_reducible refine Ext.alloc ?_ _) | ((with_reducible refine Ext.setCell ?_ ?_ _); rotate_left; focus (first | (simp; done) | (simp; omega) | omega)) | assumption | (with_reducible refine Ext.trans ?_ (by assumption)))), ?_⟩))); refine mix_nil ?_)
            have hxr13 : Ext w11 w13 := hxv.trans (hx12.trans hx13)
            go_wp2
            exact ⟨⟨k + 1, hlt, by go_num, (by repeat (first | (with_reducible exact Ext.refl _) | (with_reducible assumption) | (with_reducible refine Ext.drewN ?_ _) | (with_reducible refine Ext.drew ?_) | (with_reducible refine Ext.alloc ?_ _) | ((with_reducible refine Ext.setCell ?_ ?_ _); rotate_left; focus (first | (simp; done) | (simp; omega) | omega)) | (with_reducible refine Ext.trans ?_ (by with_reducible assumption))))⟩, by simp [intOf]; omega⟩
          · obtain rfl : k = L2.length := by omega
            go_wp2_with fail
            go_ret
            exact ⟨rfl, hxwb.trans (hxvb.trans (by repeat (first | (with_reducible exact Ext.refl _) | (with_reducible assumption) | (with_reducible refine Ext.drewN ?_ _) | (with_reducible refine Ext.drew ?_) | (with_reducible refine Ext.alloc ?_ _) | ((with_reducible refine Ext.setCell ?_ ?_ _); rotate_left; focus (first | (simp; done) | (simp; omega) | omega)) | (with_reducible refine Ext.trans ?_ (by with_reducible assumption)))))⟩
end Go.Proofs.Ytcdoanookiimaaa
