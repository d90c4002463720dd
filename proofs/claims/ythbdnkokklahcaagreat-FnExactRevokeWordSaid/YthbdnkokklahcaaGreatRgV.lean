/- Walks: registries: ValidRegistry, on both sides. -/
import Derived.Test.YthbdnkokklahcaaGreatRgAt
namespace Go.Proofs.YthbdnkokklahcaaGreat
set_option maxRecDepth 100000
open Go.RowKit

theorem takeS_all (l : List ByteArray) (f : ByteArray → Bool) : ∀ k, k ≤ l.length → (l.take k).all f = (List.range k).all fun j => f (gs l j)
  | 0, _ => by simp
  | k + 1, h => by
    rw [take_gs (by omega), List.all_append, takeS_all l f k (by omega), List.range_succ, List.all_append]
    simp
theorem valid_no0 {D : Rg} (h : headRg D = false) : validRg D = false := by rw [validRg, h]; rfl
theorem valid_no1 {D : Rg} {k : Nat} (hk : k < D.issued.length) (h : issB D k = false) : validRg D = false := by
  have : issAll D = false := rangeAll_no hk h
  rw [validRg, this]; simp
theorem valid_no2 {D : Rg} {k : Nat} (hk : k < D.revoked.length) (h : revB D k = false) : validRg D = false := by
  have : revAll D = false := rangeAll_no hk h
  rw [validRg, this]; simp
theorem valid_yes {D : Rg} (h : headRg D = true) (h1 : ∀ k, k < D.issued.length → issB D k = true) (h2 : ∀ k, k < D.revoked.length → revB D k = true) : validRg D = true := by
  have e1 : issAll D = true := rangeAll_yes h1
  have e2 : revAll D = true := rangeAll_yes h2
  rw [validRg, h, e1, e2]; rfl
theorem upto {p : Nat → Bool} {k : Nat} (h : ∀ j, j < k → p j = true) (hk : p k = true) : ∀ j, j < k + 1 → p j = true := fun j hj => by
  by_cases e : j < k
  · exact h j e
  · obtain rfl : j = k := by omega
    exact hk

set_option maxHeartbeats 4000000 in
theorem impl_ValidRegistry (D : Rg) (a : Option Addr) (n c : Nat) (b : Option Addr) (m d : Nat) (ia : Option Addr) (im ic : Nat) (ra : Option Addr) (rm rc : Nat) (w : World) (hv : RgIn w D a n c b m d ia im ic ra rm rc) : Calls Tryz.prog 22 #[.agg #[.int .i64 D.ch.base, .int .i64 D.ch.states, .int .i64 D.ch.start, .int .i64 D.ch.fin, .slice a n c, .slice b m d, .int .i64 D.apart, .slice ia im ic, .slice ra rm rc]] w (Ret (.bool (validRg D)) w) := by
  have HB := Lib.hid (hv.box 32)
  have HN := Lib.hid hv
  have HVal := Lib.hid (fun W h => impl_ValidChain D.ch a n c b m d W (Cube.ext hv.ch.ts h) (hv.ch.ps.ext h) hv.ch.hn hv.ch.hn' hv.ch.sm)
  have HCk := Lib.hid (fun s W h hs => impl_IsChecked D.ch a n c b m d s W (ChIn.ext hv.ch h) hs)
  have HIn := Lib.hid (impl_in D.apart 1 6)
  have HIl := Lib.hid hv.is.len
  have HRl := Lib.hid hv.rs.len
  have him := hv.hi
  have hrm := hv.hr
  have HSz := Lib.hid (fun k (h : k < im) => hv.sz _ (gs_mem (l := D.issued) (k := k) (by rw [hv.is.len]; exact h)))
  obtain ⟨y, hy⟩ : ∃ y, y = validRg D := ⟨_, rfl⟩
  rw [← hy]
  have HNo0 := Lib.hid (fun h => hy.trans (valid_no0 (D := D) h))
  have HNo1 := Lib.hid (fun k (hk : k < im) h => hy.trans (valid_no1 (D := D) (k := k) (by rw [hv.is.len]; exact hk) h))
  have HNo2 := Lib.hid (fun k (hk : k < rm) h => hy.trans (valid_no2 (D := D) (k := k) (by rw [hv.rs.len]; exact hk) h))
  have HYes := Lib.hid (fun h (h1 : ∀ k, k < im → issB D k = true) (h2 : ∀ k, k < rm → revB D k = true) => hy.trans (valid_yes (D := D) h (by rw [hv.is.len]; exact h1) (by rw [hv.rs.len]; exact h2)))
  have HHd := Lib.hid (show headRg D = (validCh D.ch && (inB D.apart 1 6 && decide (im ≤ 40))) by rw [headRg, hv.is.len])
  obtain ⟨bi, oi, hix, hcell⟩ := hv.is.ix (P := Tryz.prog) 26 9 und_strs cell_str
  obtain ⟨bj, oj, jix, jcell⟩ := hv.rs.ix (P := Tryz.prog) 23 2 und_int64s cell_int64
  clear hv hy
  cases hval : validCh D.ch
  · rw [hval] at HVal
    have HX := Lib.hid (HNo0.out (by rw [HHd.out, hval]; rfl))
    clear hval
    go_enter Tryz.func22, Tryz.ntmps22
    go_wp2_with (refine (HVal.out _ ((Ext.refl w).alloc _)).mono ?_; rintro e w1 ⟨rfl, hx1⟩)
    go_ret
    exact ⟨rb HX.out.symm, ((Ext.refl w).alloc _).trans hx1⟩
  have hok := validCh_ok hval
  rw [hval] at HVal HHd
  have Hhok := Lib.hid hok; clear hok; have Hhval := Lib.hid hval; clear hval
  cases hap : inB D.apart 1 6
  · rw [hap] at HIn
    have HX := Lib.hid (HNo0.out (by rw [HHd.out, hap]; rfl))
    clear hap
    go_enter Tryz.func22, Tryz.ntmps22
    go_wp2_with fail
    obtain ⟨wb, hwb⟩ : ∃ wb, wb = w.alloc (.cells #[.int .i64 D.ch.base, .int .i64 D.ch.states, .int .i64 D.ch.start, .int .i64 D.ch.fin, .slice a n c, .slice b m d, .int .i64 D.apart, .slice ia im ic, .slice ra rm rc] 32) := ⟨_, rfl⟩
    have hxb : Ext w wb := by rw [hwb]; exact (by repeat (first | (with_reducible exact Ext.refl _) | (with_reducible refine Ext.drewN ?_ _) | (with_reducible refine Ext.drew ?_) | (with_reducible refine Ext.alloc ?_ _) | ((with_reducible refine Ext.setCell ?_ ?_ _); rotate_left; focus (first | (simp; done) | (simp; omega) | omega)) | assumption | (with_reducible refine Ext.trans ?_ (by assumption))))
    rw [← hwb] at HB ⊢
    generalize w.heap.size = q at *
    clear hwb
    obtain ⟨_, k6, k7, k8, _, _⟩ := HB.out
    refine (HVal.out _ hxb).mono ?_
    rintro e w1 ⟨rfl, hx1⟩
    have hx1' : Ext wb w1 := hx1
    go_wp2_with (refine (HIn.out _).mono ?_; rintro e w2 ⟨rfl, rfl⟩)
    go_ret
    exact ⟨rb HX.out.symm, hxb.trans hx1⟩
  have ha := inB_t.1 hap
  rw [hap] at HIn HHd
  have Hhap := Lib.hid hap; clear hap
  by_cases h40 : im ≤ 40
  rotate_left
  · have HX := Lib.hid (HNo0.out (by rw [HHd.out]; simpa using h40))
    go_enter Tryz.func22, Tryz.ntmps22
    go_wp2_with fail
    obtain ⟨wb, hwb⟩ : ∃ wb, wb = w.alloc (.cells #[.int .i64 D.ch.base, .int .i64 D.ch.states, .int .i64 D.ch.start, .int .i64 D.ch.fin, .slice a n c, .slice b m d, .int .i64 D.apart, .slice ia im ic, .slice ra rm rc] 32) := ⟨_, rfl⟩
    have hxb : Ext w wb := by rw [hwb]; exact (by repeat (first | (with_reducible exact Ext.refl _) | (with_reducible refine Ext.drewN ?_ _) | (with_reducible refine Ext.drew ?_) | (with_reducible refine Ext.alloc ?_ _) | ((with_reducible refine Ext.setCell ?_ ?_ _); rotate_left; focus (first | (simp; done) | (simp; omega) | omega)) | assumption | (with_reducible refine Ext.trans ?_ (by assumption))))
    rw [← hwb] at HB ⊢
    generalize w.heap.size = q at *
    clear hwb
    obtain ⟨_, k6, k7, k8, _, _⟩ := HB.out
    refine (HVal.out _ hxb).mono ?_
    rintro e w1 ⟨rfl, hx1⟩
    have hx1' : Ext wb w1 := hx1
    go_wp2_with (refine (HIn.out _).mono ?_; rintro e w2 ⟨rfl, rfl⟩)
    go_ret
    exact ⟨rb HX.out.symm, hxb.trans hx1⟩
  have HHt := Lib.hid (show headRg D = true by rw [HHd.out]; simpa using h40)
  go_enter Tryz.func22, Tryz.ntmps22
  go_wp2_with fail
  obtain ⟨wb, hwb⟩ : ∃ wb, wb = w.alloc (.cells #[.int .i64 D.ch.base, .int .i64 D.ch.states, .int .i64 D.ch.start, .int .i64 D.ch.fin, .slice a n c, .slice b m d, .int .i64 D.apart, .slice ia im ic, .slice ra rm rc] 32) := ⟨_, rfl⟩
  have hxb : Ext w wb := by rw [hwb]; exact (by repeat (first | (with_reducible exact Ext.refl _) | (with_reducible refine Ext.drewN ?_ _) | (with_reducible refine Ext.drew ?_) | (with_reducible refine Ext.alloc ?_ _) | ((with_reducible refine Ext.setCell ?_ ?_ _); rotate_left; focus (first | (simp; done) | (simp; omega) | omega)) | assumption | (with_reducible refine Ext.trans ?_ (by assumption))))
  rw [← hwb] at HB ⊢
  generalize w.heap.size = q at *
  clear hwb
  obtain ⟨⟨k0, k1, k2, k3, k4, k5, _, _⟩, k6, k7, k8, _, _⟩ := HB.out
  refine (HVal.out _ hxb).mono ?_
  rintro e w1 ⟨rfl, hx1⟩
  have hxw1 : Ext wb w1 := hx1
  go_wp2_with (refine (HIn.out _).mono ?_; rintro e w2 ⟨rfl, rfl⟩)
  go_loopw [3, 4, 26] (fun _ _ i wr => ∃ k : Nat, k ≤ im ∧ i = .int .i64 k ∧ (∀ j, j < k → issB D j = true) ∧ Ext wb wr) (fun _ _ i _ => im - (intOf i).toNat)
  case atStart => exact ⟨0, Nat.zero_le _, rfl, (fun j hj => by omega), hx1⟩
  case round =>
    obtain ⟨k, hk, rfl, hp, hx⟩ := hrel
    have hxr : Ext wb wr := hx
    have hxq : Ext w wr := hxb.trans hx
    have Hhp := Lib.hid hp; clear hp
    by_cases hlt : k < im
    · have hs := HSz.out k hlt
      have HCk1 := Lib.hid (fun W h => HCk.out (gs D.issued k) W h hs)
      have HIs := Lib.hid (show issB D k = (chkB D.ch (gs D.issued k) && (List.range k).all (farR D k)) from rfl)
      cases hck : chkB D.ch (gs D.issued k)
      · have HX := Lib.hid (HNo1.out k hlt (by rw [HIs.out, hck]; rfl))
        rw [hck] at HCk1
        have Hhck := Lib.hid hck; clear hck; have Hhs := Lib.hid hs; clear hs
        go_wp2
        (refine wp_region_from wb (by repeat (first | (with_reducible exact Ext.refl _) | (with_reducible refine Ext.drewN ?_ _) | (with_reducible refine Ext.drew ?_) | (with_reducible refine Ext.alloc ?_ _) | ((with_reducible refine Ext.setCell ?_ ?_ _); rotate_left; focus (first | (simp; done) | (simp; omega) | omega)) | assumption | (with_reducible refine Ext.trans ?_ (by assumption)))) (by kernel_rfl) (by kernel_rfl) (seqB_of (by kernel_rfl)) ?_; (repeat (first | (refine mix_q rfl ?_; go_big_quiet_step (fail); refine wpQuiet_nil ?_; show wpMix _ _ _ _ _ _ _) | (refine mix_s rfl ?_; go_wp2_with (((with_reducible refine (HCk1.out _ (hxb.trans (by repeat (first | (with_reducible exact Ext.refl _) | (with_reducible refine Ext.drewN ?_ _) | (with_reducible refine Ext.drew ?_) | (with_reducible refine Ext.alloc ?_ _) | ((with_reducible refine Ext.setCell ?_ ?_ _); rotate_left; focus (first | (simp; done) | (simp; omega) | omega)) | assumption | (with_reducible refine Ext.trans ?_ (by assumption)))))).mono ?_); rintro e w3 ⟨rfl, hy3⟩; have hxw3 : Ext wb w3 := Ext.trans (by repeat (first | (with_reducible exact Ext.refl _) | (with_reducible refine Ext.drewN ?_ _) | (with_reducible refine Ext.drew ?_) | (with_reducible refine Ext.alloc ?_ _) | ((with_reducible refine Ext.setCell ?_ ?_ _); rotate_left; focus (first | (simp; done) | (simp; omega) | omega)) | assumption | (with_reducible refine Ext.trans ?_ (by assumption)))) hy3; have hz3 := hy3; clear hy3)); first | refine ⟨up_of (by repeat (first | (with_reducible exact Ext.refl _) | (with_reducible refine Ext.drewN ?_ _) | (with_reducible refine Ext.drew ?_) | (with_reducible refine Ext.alloc ?_ _) | ((with_reducible refine Ext.setCell ?_ ?_ _); rotate_left; focus (first | (simp; done) | (simp; omega) | omega)) | assumption | (with_reducible refine Ext.trans ?_ (by assumption)))), ?_⟩ | refine ⟨rfl, rfl, up_of (by repeat (first | (with_reducible exact Ext.refl _) | (with_reducible refine Ext.drewN ?_ _) | (with_reducible refine Ext.drew ?_) | (with_reducible refine Ext.alloc ?_ _) | ((with_reducible refine Ext.setCell ?_ ?_ _); rotate_left; focus (first | (simp; done) | (simp; omega) | omega)) | assumption | (with_reducible refine Ext.trans ?_ (by assumption)))), ?_⟩))); refine mix_nil ?_)
        go_wp2
        go_ret
        exact ⟨rb HX.out.symm, hxb.trans (by repeat (first | (with_reducible exact Ext.refl _) | (with_reducible refine Ext.drewN ?_ _) | (with_reducible refine Ext.drew ?_) | (with_reducible refine Ext.alloc ?_ _) | ((with_reducible refine Ext.setCell ?_ ?_ _); rotate_left; focus (first | (simp; done) | (simp; omega) | omega)) | assumption | (with_reducible refine Ext.trans ?_ (by assumption))))⟩
      · rw [hck] at HCk1 HIs
        have hs20 := (chk_size hck).2
        have Hhck := Lib.hid hck; clear hck; have Hhs := Lib.hid hs; clear hs
        obtain ⟨a9, hsl, hpre⟩ := HN.out.is.pre (P := Tryz.prog) 26 9 und_strs cell_str elem_strs k hk
        have HAp := Lib.hid (fun W h => impl_apartFrom (gs D.issued k) a9 k ic (D.issued.take k) D.apart W (Strs.ext hpre h) (by omega) (by omega) (fun v hv => by
          obtain ⟨j, hj, rfl⟩ := List.mem_take_iff_getElem.1 hv
          have h1 := Hhp.out j (by omega)
          have h2 : chkB D.ch (gs D.issued j) = true := by unfold issB at h1; simp only [Bool.and_eq_true] at h1; exact h1.1
          have h3 := (chk_size h2).2
          rw [gs_get (by omega)] at h3
          omega))
        have he : (D.issued.take k).all (fun v => !decide ((distS (gs D.issued k) v : Int) < D.apart)) = (List.range k).all (farR D k) := takeS_all _ _ k (by rw [HIl.out]; exact hk)
        rw [he] at HAp
        clear he hpre
        cases hfr : (List.range k).all (farR D k)
        · have HX := Lib.hid (HNo1.out k hlt (by rw [HIs.out, hfr]; rfl))
          rw [hfr] at HAp
          have Hhfr := Lib.hid hfr; clear hfr
          go_wp2
          (refine wp_region_from wb (by repeat (first | (with_reducible exact Ext.refl _) | (with_reducible refine Ext.drewN ?_ _) | (with_reducible refine Ext.drew ?_) | (with_reducible refine Ext.alloc ?_ _) | ((with_reducible refine Ext.setCell ?_ ?_ _); rotate_left; focus (first | (simp; done) | (simp; omega) | omega)) | assumption | (with_reducible refine Ext.trans ?_ (by assumption)))) (by kernel_rfl) (by kernel_rfl) (seqB_of (by kernel_rfl)) ?_; (repeat (first | (refine mix_q rfl ?_; go_big_quiet_step (fail); refine wpQuiet_nil ?_; show wpMix _ _ _ _ _ _ _) | (refine mix_s rfl ?_; go_wp2_with (first | (go_at_call 48; (with_reducible refine (HCk1.out _ (hxb.trans (by repeat (first | (with_reducible exact Ext.refl _) | (with_reducible refine Ext.drewN ?_ _) | (with_reducible refine Ext.drew ?_) | (with_reducible refine Ext.alloc ?_ _) | ((with_reducible refine Ext.setCell ?_ ?_ _); rotate_left; focus (first | (simp; done) | (simp; omega) | omega)) | assumption | (with_reducible refine Ext.trans ?_ (by assumption)))))).mono ?_); rintro e w3 ⟨rfl, hy3⟩; have hxw3 : Ext wb w3 := Ext.trans (by repeat (first | (with_reducible exact Ext.refl _) | (with_reducible refine Ext.drewN ?_ _) | (with_reducible refine Ext.drew ?_) | (with_reducible refine Ext.alloc ?_ _) | ((with_reducible refine Ext.setCell ?_ ?_ _); rotate_left; focus (first | (simp; done) | (simp; omega) | omega)) | assumption | (with_reducible refine Ext.trans ?_ (by assumption)))) hy3; have hz3 := hy3; clear hy3) | (go_at_call 49; (with_reducible refine (HAp.out _ (hxb.trans (by repeat (first | (with_reducible exact Ext.refl _) | (with_reducible refine Ext.drewN ?_ _) | (with_reducible refine Ext.drew ?_) | (with_reducible refine Ext.alloc ?_ _) | ((with_reducible refine Ext.setCell ?_ ?_ _); rotate_left; focus (first | (simp; done) | (simp; omega) | omega)) | assumption | (with_reducible refine Ext.trans ?_ (by assumption)))))).mono ?_); rintro e w4 ⟨rfl, hy4⟩; have hxw4 : Ext wb w4 := Ext.trans (by repeat (first | (with_reducible exact Ext.refl _) | (with_reducible refine Ext.drewN ?_ _) | (with_reducible refine Ext.drew ?_) | (with_reducible refine Ext.alloc ?_ _) | ((with_reducible refine Ext.setCell ?_ ?_ _); rotate_left; focus (first | (simp; done) | (simp; omega) | omega)) | assumption | (with_reducible refine Ext.trans ?_ (by assumption)))) hy4; have hz4 := hy4; clear hy4)); first | refine ⟨up_of (by repeat (first | (with_reducible exact Ext.refl _) | (with_reducible refine Ext.drewN ?_ _) | (with_reducible refine Ext.drew ?_) | (with_reducible refine Ext.alloc ?_ _) | ((with_reducible refine Ext.setCell ?_ ?_ _); rotate_left; focus (first | (simp; done) | (simp; omega) | omega)) | assumption | (with_reducible refine Ext.trans ?_ (by assumption)))), ?_⟩ | refine ⟨rfl, rfl, up_of (by repeat (first | (with_reducible exact Ext.refl _) | (with_reducible refine Ext.drewN ?_ _) | (with_reducible refine Ext.drew ?_) | (with_reducible refine Ext.alloc ?_ _) | ((with_reducible refine Ext.setCell ?_ ?_ _); rotate_left; focus (first | (simp; done) | (simp; omega) | omega)) | assumption | (with_reducible refine Ext.trans ?_ (by assumption)))), ?_⟩))); refine mix_nil ?_)
          go_wp2
          go_ret
          exact ⟨rb HX.out.symm, hxb.trans (by repeat (first | (with_reducible exact Ext.refl _) | (with_reducible refine Ext.drewN ?_ _) | (with_reducible refine Ext.drew ?_) | (with_reducible refine Ext.alloc ?_ _) | ((with_reducible refine Ext.setCell ?_ ?_ _); rotate_left; focus (first | (simp; done) | (simp; omega) | omega)) | assumption | (with_reducible refine Ext.trans ?_ (by assumption))))⟩
        · have HX := Lib.hid (upto Hhp.out (by rw [HIs.out, hfr]; rfl))
          rw [hfr] at HAp
          have Hhfr := Lib.hid hfr; clear hfr
          go_wp2
          (refine wp_region_from wb (by repeat (first | (with_reducible exact Ext.refl _) | (with_reducible refine Ext.drewN ?_ _) | (with_reducible refine Ext.drew ?_) | (with_reducible refine Ext.alloc ?_ _) | ((with_reducible refine Ext.setCell ?_ ?_ _); rotate_left; focus (first | (simp; done) | (simp; omega) | omega)) | assumption | (with_reducible refine Ext.trans ?_ (by assumption)))) (by kernel_rfl) (by kernel_rfl) (seqB_of (by kernel_rfl)) ?_; (repeat (first | (refine mix_q rfl ?_; go_big_quiet_step (fail); refine wpQuiet_nil ?_; show wpMix _ _ _ _ _ _ _) | (refine mix_s rfl ?_; go_wp2_with (first | (go_at_call 48; (with_reducible refine (HCk1.out _ (hxb.trans (by repeat (first | (with_reducible exact Ext.refl _) | (with_reducible refine Ext.drewN ?_ _) | (with_reducible refine Ext.drew ?_) | (with_reducible refine Ext.alloc ?_ _) | ((with_reducible refine Ext.setCell ?_ ?_ _); rotate_left; focus (first | (simp; done) | (simp; omega) | omega)) | assumption | (with_reducible refine Ext.trans ?_ (by assumption)))))).mono ?_); rintro e w3 ⟨rfl, hy3⟩; have hxw3 : Ext wb w3 := Ext.trans (by repeat (first | (with_reducible exact Ext.refl _) | (with_reducible refine Ext.drewN ?_ _) | (with_reducible refine Ext.drew ?_) | (with_reducible refine Ext.alloc ?_ _) | ((with_reducible refine Ext.setCell ?_ ?_ _); rotate_left; focus (first | (simp; done) | (simp; omega) | omega)) | assumption | (with_reducible refine Ext.trans ?_ (by assumption)))) hy3; have hz3 := hy3; clear hy3) | (go_at_call 49; (with_reducible refine (HAp.out _ (hxb.trans (by repeat (first | (with_reducible exact Ext.refl _) | (with_reducible refine Ext.drewN ?_ _) | (with_reducible refine Ext.drew ?_) | (with_reducible refine Ext.alloc ?_ _) | ((with_reducible refine Ext.setCell ?_ ?_ _); rotate_left; focus (first | (simp; done) | (simp; omega) | omega)) | assumption | (with_reducible refine Ext.trans ?_ (by assumption)))))).mono ?_); rintro e w4 ⟨rfl, hy4⟩; have hxw4 : Ext wb w4 := Ext.trans (by repeat (first | (with_reducible exact Ext.refl _) | (with_reducible refine Ext.drewN ?_ _) | (with_reducible refine Ext.drew ?_) | (with_reducible refine Ext.alloc ?_ _) | ((with_reducible refine Ext.setCell ?_ ?_ _); rotate_left; focus (first | (simp; done) | (simp; omega) | omega)) | assumption | (with_reducible refine Ext.trans ?_ (by assumption)))) hy4; have hz4 := hy4; clear hy4)); first | refine ⟨up_of (by repeat (first | (with_reducible exact Ext.refl _) | (with_reducible refine Ext.drewN ?_ _) | (with_reducible refine Ext.drew ?_) | (with_reducible refine Ext.alloc ?_ _) | ((with_reducible refine Ext.setCell ?_ ?_ _); rotate_left; focus (first | (simp; done) | (simp; omega) | omega)) | assumption | (with_reducible refine Ext.trans ?_ (by assumption)))), ?_⟩ | refine ⟨rfl, rfl, up_of (by repeat (first | (with_reducible exact Ext.refl _) | (with_reducible refine Ext.drewN ?_ _) | (with_reducible refine Ext.drew ?_) | (with_reducible refine Ext.alloc ?_ _) | ((with_reducible refine Ext.setCell ?_ ?_ _); rotate_left; focus (first | (simp; done) | (simp; omega) | omega)) | assumption | (with_reducible refine Ext.trans ?_ (by assumption)))), ?_⟩))); refine mix_nil ?_)
          go_wp2
          exact ⟨⟨k + 1, by omega, by go_num, HX.out, (by repeat (first | (with_reducible exact Ext.refl _) | (with_reducible refine Ext.drewN ?_ _) | (with_reducible refine Ext.drew ?_) | (with_reducible refine Ext.alloc ?_ _) | ((with_reducible refine Ext.setCell ?_ ?_ _); rotate_left; focus (first | (simp; done) | (simp; omega) | omega)) | assumption | (with_reducible refine Ext.trans ?_ (by assumption))))⟩, by simp [intOf]; omega⟩
    · obtain rfl : k = im := by omega
      go_wp2
      go_loopw [5, 6, 51] (fun _ _ i wr => ∃ k : Nat, k ≤ rm ∧ i = .int .i64 k ∧ (∀ j, j < k → revB D j = true) ∧ Ext wb wr) (fun _ _ i _ => rm - (intOf i).toNat)
      case atStart => exact ⟨0, Nat.zero_le _, rfl, (fun j hj => by omega), hx⟩
      case round =>
        obtain ⟨j, hj, rfl, hp, hx⟩ := hrel
        have hxr : Ext wb wr := hx
        have hxq : Ext w wr := hxb.trans hx
        have Hhq := Lib.hid hp
        clear hp
        by_cases hlt2 : j < rm
        · have HI2 := Lib.hid (impl_in (gi D.revoked j) 0 ((k : Int) - 1))
          have HBj := Lib.hid (show revB D j = (inB (gi D.revoked j) 0 ((k : Int) - 1) && (decide (j = 0) || decide (gi D.revoked (j - 1) < gi D.revoked j))) by rw [revB, HIl.out])
          cases hin : inB (gi D.revoked j) 0 ((k : Int) - 1)
          · rw [hin] at HI2 HBj
            have HX := Lib.hid (HNo2.out j hlt2 HBj.out)
            clear hin
            go_wp2_with ((with_reducible refine (HI2.out _).mono ?_); rintro e w9 ⟨rfl, rfl⟩)
            go_ret
            exact ⟨rb HX.out.symm, hxq⟩
          rw [hin, Bool.true_and] at HBj
          rw [hin] at HI2
          clear hin
          rcases Nat.eq_zero_or_pos j with hj0 | hj0
          · have HX := Lib.hid (upto Hhq.out (by rw [HBj.out]; simp [hj0]))
            have h0 : ¬ 0 < j := by omega
            clear hj0
            go_wp2_with ((with_reducible refine (HI2.out _).mono ?_); rintro e w9 ⟨rfl, rfl⟩)
            exact ⟨⟨j + 1, by omega, by go_num, HX.out, hx⟩, by simp [intOf]; omega⟩
          · have hz : (decide (j = 0)) = false := by simp; omega
            rw [hz, Bool.false_or] at HBj
            obtain ⟨b1, o1, x1, x2⟩ := HN.out.rs.one (P := Tryz.prog) 23 2 und_int64s cell_int64 ((j : Int) - 1) (by omega) (by omega)
            rw [show ((j : Int) - 1).toNat = j - 1 by omega] at x2
            clear hz
            by_cases hup : gi D.revoked (j - 1) < gi D.revoked j
            · have HX := Lib.hid (upto Hhq.out (by rw [HBj.out]; simpa using hup))
              generalize gi D.revoked (j - 1) = z at *
              go_wp2_with ((with_reducible refine (HI2.out _).mono ?_); rintro e w9 ⟨rfl, rfl⟩)
              exact ⟨⟨j + 1, by omega, by go_num, HX.out, hx⟩, by simp [intOf]; omega⟩
            · have HX := Lib.hid (HNo2.out j hlt2 (by rw [HBj.out]; simpa using hup))
              generalize gi D.revoked (j - 1) = z at *
              go_wp2_with ((with_reducible refine (HI2.out _).mono ?_); rintro e w9 ⟨rfl, rfl⟩)
              go_ret
              exact ⟨rb HX.out.symm, hxq⟩
        · obtain rfl : j = rm := by omega
          go_wp2
          go_ret
          exact ⟨rb (HYes.out HHt.out Hhp.out Hhq.out).symm, hxb.trans hx⟩
end Go.Proofs.YthbdnkokklahcaaGreat

/- Walks: registries: ValidRegistry of the reference. -/
namespace Go.Proofs.YthbdnkokklahcaaGreat
set_option maxRecDepth 100000
open Go.RowKit

theorem valid_no3 {D : Rg} (h : validCh D.ch = false) : validRg D = false := valid_no0 (by rw [headRg, h]; rfl)
theorem valid_no4 {D : Rg} (h : inB D.apart 1 6 = false) : validRg D = false := valid_no0 (by rw [headRg, h]; simp)
theorem valid_no5 {D : Rg} (h : ¬ D.issued.length ≤ 40) : validRg D = false := valid_no0 (by rw [headRg]; simp [h])
theorem revAll_rise (D : Rg) : (List.range D.revoked.length).all (riseB D.revoked 0 ((D.issued.length : Int) - 1)) = revAll D := rfl
set_option maxHeartbeats 4000000 in
theorem spec_l10Is (D : Rg) (q : Nat) (a : Option Addr) (n c : Nat) (b : Option Addr) (m d : Nat) (ia : Option Addr) (im ic : Nat) (ra : Option Addr) (rm rc : Nat) (w : World) (hv : RgAt w q D a n c b m d ia im ic ra rm rc) (hin : RgIn w D a n c b m d ia im ic ra rm rc) : Calls Tryz.prog 14 #[.pointer (some ⟨q, 0, none⟩)] w (Ret (.bool (validRg D)) w) := by
  have HB := Lib.hid hv
  have HN := Lib.hid hin
  have HVal := Lib.hid (fun W h => spec_l02Is D.ch a n c b m d q W (ChAt.ext hv.ch h) hin.ch.hn hin.ch.hn' hin.ch.sm)
  have HCk := Lib.hid (fun s W h hs => spec_l02Checked D.ch q a n c b m d s W (ChAt.ext hv.ch h) hin.ch.hn hin.ch.hn' hin.ch.sm hs)
  have HIn := Lib.hid (spec_in D.apart 1 6)
  have HIl := Lib.hid hin.is.len
  have HRl := Lib.hid hin.rs.len
  have him := hin.hi
  have hrm := hin.hr
  have HRi := Lib.hid (fun W h => spec_rises ra rm rc D.revoked 0 ((im : Int) - 1) W (Ints.ext hin.rs h) hin.hr)
  have HSz := Lib.hid (fun k (h : k < im) => hin.sz _ (gs_mem (l := D.issued) (k := k) (by rw [hin.is.len]; exact h)))
  obtain ⟨y, hy⟩ : ∃ y, y = validRg D := ⟨_, rfl⟩
  rw [← hy]
  have HNo3 := Lib.hid (fun h => hy.trans (valid_no3 (D := D) h))
  have HNo4 := Lib.hid (fun h => hy.trans (valid_no4 (D := D) h))
  have HNo5 := Lib.hid (fun h => hy.trans (valid_no5 (D := D) (by rw [hin.is.len]; exact h)))
  have HNo1 := Lib.hid (fun k (hk : k < im) h => hy.trans (valid_no1 (D := D) (k := k) (by rw [hin.is.len]; exact hk) h))
  have HRe := Lib.hid (show (List.range rm).all (riseB D.revoked 0 ((im : Int) - 1)) = revAll D by rw [← revAll_rise, hin.is.len, hin.rs.len])
  rw [HRe.out] at HRi
  have HNo6 := Lib.hid (fun (h : revAll D = false) => hy.trans (show validRg D = false by rw [validRg, h]; simp))
  have HYes := Lib.hid (fun (h : validCh D.ch = true) (h2 : inB D.apart 1 6 = true) (h3 : im ≤ 40) (h4 : revAll D = true) (h1 : ∀ k, k < im → issB D k = true) => hy.trans (show validRg D = true by
    have e1 : issAll D = true := rangeAll_yes (by rw [hin.is.len]; exact h1)
    rw [validRg, headRg, h, h2, h4, e1, hin.is.len]; simpa using h3))
  obtain ⟨bi, oi, hix, hcell⟩ := hin.is.ix (P := Tryz.prog) 26 9 und_strs cell_str
  obtain ⟨_, k6, k7, k8, _, _⟩ := hv
  clear hin hy
  cases hval : validCh D.ch
  · rw [hval] at HVal
    have HX := Lib.hid (HNo3.out hval)
    clear hval
    go_enter Tryz.func14, Tryz.ntmps14
    go_wp2
    (refine wp_region_from w (by repeat (first | (with_reducible exact Ext.refl _) | (with_reducible refine Ext.drewN ?_ _) | (with_reducible refine Ext.drew ?_) | (with_reducible refine Ext.alloc ?_ _) | ((with_reducible refine Ext.setCell ?_ ?_ _); rotate_left; focus (first | (simp; done) | (simp; omega) | omega)) | assumption | (with_reducible refine Ext.trans ?_ (by assumption)))) (by kernel_rfl) (by kernel_rfl) (seqB_of (by kernel_rfl)) ?_; (repeat (first | (refine mix_q rfl ?_; go_big_quiet_step (fail); refine wpQuiet_nil ?_; show wpMix _ _ _ _ _ _ _) | (refine mix_s rfl ?_; go_wp2_with (first | (go_at_call 38; (with_reducible refine (HVal.out _ (by repeat (first | (with_reducible exact Ext.refl _) | (with_reducible refine Ext.drewN ?_ _) | (with_reducible refine Ext.drew ?_) | (with_reducible refine Ext.alloc ?_ _) | ((with_reducible refine Ext.setCell ?_ ?_ _); rotate_left; focus (first | (simp; done) | (simp; omega) | omega)) | assumption | (with_reducible refine Ext.trans ?_ (by assumption))))).mono ?_); rintro e w1 ⟨rfl, hy1⟩; have hxw1 : Ext w w1 := Ext.trans (by repeat (first | (with_reducible exact Ext.refl _) | (with_reducible refine Ext.drewN ?_ _) | (with_reducible refine Ext.drew ?_) | (with_reducible refine Ext.alloc ?_ _) | ((with_reducible refine Ext.setCell ?_ ?_ _); rotate_left; focus (first | (simp; done) | (simp; omega) | omega)) | assumption | (with_reducible refine Ext.trans ?_ (by assumption)))) hy1; have hz1 := hy1; clear hy1) | (go_at_call 39; (with_reducible refine (HIn.out _).mono ?_); rintro e w2 ⟨rfl, rfl⟩) | (go_at_call 40; (with_reducible refine (HRi.out _ (by repeat (first | (with_reducible exact Ext.refl _) | (with_reducible refine Ext.drewN ?_ _) | (with_reducible refine Ext.drew ?_) | (with_reducible refine Ext.alloc ?_ _) | ((with_reducible refine Ext.setCell ?_ ?_ _); rotate_left; focus (first | (simp; done) | (simp; omega) | omega)) | assumption | (with_reducible refine Ext.trans ?_ (by assumption))))).mono ?_); rintro e w3 ⟨rfl, hy3⟩; have hxw3 : Ext w w3 := Ext.trans (by repeat (first | (with_reducible exact Ext.refl _) | (with_reducible refine Ext.drewN ?_ _) | (with_reducible refine Ext.drew ?_) | (with_reducible refine Ext.alloc ?_ _) | ((with_reducible refine Ext.setCell ?_ ?_ _); rotate_left; focus (first | (simp; done) | (simp; omega) | omega)) | assumption | (with_reducible refine Ext.trans ?_ (by assumption)))) hy3; have hz3 := hy3; clear hy3)); first | refine ⟨up_of (by repeat (first | (with_reducible exact Ext.refl _) | (with_reducible refine Ext.drewN ?_ _) | (with_reducible refine Ext.drew ?_) | (with_reducible refine Ext.alloc ?_ _) | ((with_reducible refine Ext.setCell ?_ ?_ _); rotate_left; focus (first | (simp; done) | (simp; omega) | omega)) | assumption | (with_reducible refine Ext.trans ?_ (by assumption)))), ?_⟩ | refine ⟨rfl, rfl, up_of (by repeat (first | (with_reducible exact Ext.refl _) | (with_reducible refine Ext.drewN ?_ _) | (with_reducible refine Ext.drew ?_) | (with_reducible refine Ext.alloc ?_ _) | ((with_reducible refine Ext.setCell ?_ ?_ _); rotate_left; focus (first | (simp; done) | (simp; omega) | omega)) | assumption | (with_reducible refine Ext.trans ?_ (by assumption)))), ?_⟩))); refine mix_nil ?_)
    go_wp2
    go_ret
    exact ⟨rb HX.out.symm, (by repeat (first | (with_reducible exact Ext.refl _) | (with_reducible refine Ext.drewN ?_ _) | (with_reducible refine Ext.drew ?_) | (with_reducible refine Ext.alloc ?_ _) | ((with_reducible refine Ext.setCell ?_ ?_ _); rotate_left; focus (first | (simp; done) | (simp; omega) | omega)) | assumption | (with_reducible refine Ext.trans ?_ (by assumption))))⟩
  have hok := validCh_ok hval
  rw [hval] at HVal
  have Hhok := Lib.hid hok; clear hok; have Hhval := Lib.hid hval; clear hval
  cases hap : inB D.apart 1 6
  · rw [hap] at HIn
    have HX := Lib.hid (HNo4.out hap)
    clear hap
    go_enter Tryz.func14, Tryz.ntmps14
    go_wp2
    (refine wp_region_from w (by repeat (first | (with_reducible exact Ext.refl _) | (with_reducible refine Ext.drewN ?_ _) | (with_reducible refine Ext.drew ?_) | (with_reducible refine Ext.alloc ?_ _) | ((with_reducible refine Ext.setCell ?_ ?_ _); rotate_left; focus (first | (simp; done) | (simp; omega) | omega)) | assumption | (with_reducible refine Ext.trans ?_ (by assumption)))) (by kernel_rfl) (by kernel_rfl) (seqB_of (by kernel_rfl)) ?_; (repeat (first | (refine mix_q rfl ?_; go_big_quiet_step (fail); refine wpQuiet_nil ?_; show wpMix _ _ _ _ _ _ _) | (refine mix_s rfl ?_; go_wp2_with (first | (go_at_call 38; (with_reducible refine (HVal.out _ (by repeat (first | (with_reducible exact Ext.refl _) | (with_reducible refine Ext.drewN ?_ _) | (with_reducible refine Ext.drew ?_) | (with_reducible refine Ext.alloc ?_ _) | ((with_reducible refine Ext.setCell ?_ ?_ _); rotate_left; focus (first | (simp; done) | (simp; omega) | omega)) | assumption | (with_reducible refine Ext.trans ?_ (by assumption))))).mono ?_); rintro e w1 ⟨rfl, hy1⟩; have hxw1 : Ext w w1 := Ext.trans (by repeat (first | (with_reducible exact Ext.refl _) | (with_reducible refine Ext.drewN ?_ _) | (with_reducible refine Ext.drew ?_) | (with_reducible refine Ext.alloc ?_ _) | ((with_reducible refine Ext.setCell ?_ ?_ _); rotate_left; focus (first | (simp; done) | (simp; omega) | omega)) | assumption | (with_reducible refine Ext.trans ?_ (by assumption)))) hy1; have hz1 := hy1; clear hy1) | (go_at_call 39; (with_reducible refine (HIn.out _).mono ?_); rintro e w2 ⟨rfl, rfl⟩) | (go_at_call 40; (with_reducible refine (HRi.out _ (by repeat (first | (with_reducible exact Ext.refl _) | (with_reducible refine Ext.drewN ?_ _) | (with_reducible refine Ext.drew ?_) | (with_reducible refine Ext.alloc ?_ _) | ((with_reducible refine Ext.setCell ?_ ?_ _); rotate_left; focus (first | (simp; done) | (simp; omega) | omega)) | assumption | (with_reducible refine Ext.trans ?_ (by assumption))))).mono ?_); rintro e w3 ⟨rfl, hy3⟩; have hxw3 : Ext w w3 := Ext.trans (by repeat (first | (with_reducible exact Ext.refl _) | (with_reducible refine Ext.drewN ?_ _) | (with_reducible refine Ext.drew ?_) | (with_reducible refine Ext.alloc ?_ _) | ((with_reducible refine Ext.setCell ?_ ?_ _); rotate_left; focus (first | (simp; done) | (simp; omega) | omega)) | assumption | (with_reducible refine Ext.trans ?_ (by assumption)))) hy3; have hz3 := hy3; clear hy3)); first | refine ⟨up_of (by repeat (first | (with_reducible exact Ext.refl _) | (with_reducible refine Ext.drewN ?_ _) | (with_reducible refine Ext.drew ?_) | (with_reducible refine Ext.alloc ?_ _) | ((with_reducible refine Ext.setCell ?_ ?_ _); rotate_left; focus (first | (simp; done) | (simp; omega) | omega)) | assumption | (with_reducible refine Ext.trans ?_ (by assumption)))), ?_⟩ | refine ⟨rfl, rfl, up_of (by repeat (first | (with_reducible exact Ext.refl _) | (with_reducible refine Ext.drewN ?_ _) | (with_reducible refine Ext.drew ?_) | (with_reducible refine Ext.alloc ?_ _) | ((with_reducible refine Ext.setCell ?_ ?_ _); rotate_left; focus (first | (simp; done) | (simp; omega) | omega)) | assumption | (with_reducible refine Ext.trans ?_ (by assumption)))), ?_⟩))); refine mix_nil ?_)
    go_wp2
    go_ret
    exact ⟨rb HX.out.symm, (by repeat (first | (with_reducible exact Ext.refl _) | (with_reducible refine Ext.drewN ?_ _) | (with_reducible refine Ext.drew ?_) | (with_reducible refine Ext.alloc ?_ _) | ((with_reducible refine Ext.setCell ?_ ?_ _); rotate_left; focus (first | (simp; done) | (simp; omega) | omega)) | assumption | (with_reducible refine Ext.trans ?_ (by assumption))))⟩
  have ha := inB_t.1 hap
  rw [hap] at HIn
  have Hhap := Lib.hid hap; clear hap
  by_cases h40 : im ≤ 40
  rotate_left
  · have HX := Lib.hid (HNo5.out h40)
    have h41 : 40 < im := by omega
    have h42 : (40 : Int) < im := by omega
    go_enter Tryz.func14, Tryz.ntmps14
    go_wp2
    (refine wp_region_from w (by repeat (first | (with_reducible exact Ext.refl _) | (with_reducible refine Ext.drewN ?_ _) | (with_reducible refine Ext.drew ?_) | (with_reducible refine Ext.alloc ?_ _) | ((with_reducible refine Ext.setCell ?_ ?_ _); rotate_left; focus (first | (simp; done) | (simp; omega) | omega)) | assumption | (with_reducible refine Ext.trans ?_ (by assumption)))) (by kernel_rfl) (by kernel_rfl) (seqB_of (by kernel_rfl)) ?_; (repeat (first | (refine mix_q rfl ?_; go_big_quiet_step (fail); refine wpQuiet_nil ?_; show wpMix _ _ _ _ _ _ _) | (refine mix_s rfl ?_; go_wp2_with (first | (go_at_call 38; (with_reducible refine (HVal.out _ (by repeat (first | (with_reducible exact Ext.refl _) | (with_reducible refine Ext.drewN ?_ _) | (with_reducible refine Ext.drew ?_) | (with_reducible refine Ext.alloc ?_ _) | ((with_reducible refine Ext.setCell ?_ ?_ _); rotate_left; focus (first | (simp; done) | (simp; omega) | omega)) | assumption | (with_reducible refine Ext.trans ?_ (by assumption))))).mono ?_); rintro e w1 ⟨rfl, hy1⟩; have hxw1 : Ext w w1 := Ext.trans (by repeat (first | (with_reducible exact Ext.refl _) | (with_reducible refine Ext.drewN ?_ _) | (with_reducible refine Ext.drew ?_) | (with_reducible refine Ext.alloc ?_ _) | ((with_reducible refine Ext.setCell ?_ ?_ _); rotate_left; focus (first | (simp; done) | (simp; omega) | omega)) | assumption | (with_reducible refine Ext.trans ?_ (by assumption)))) hy1; have hz1 := hy1; clear hy1) | (go_at_call 39; (with_reducible refine (HIn.out _).mono ?_); rintro e w2 ⟨rfl, rfl⟩) | (go_at_call 40; (with_reducible refine (HRi.out _ (by repeat (first | (with_reducible exact Ext.refl _) | (with_reducible refine Ext.drewN ?_ _) | (with_reducible refine Ext.drew ?_) | (with_reducible refine Ext.alloc ?_ _) | ((with_reducible refine Ext.setCell ?_ ?_ _); rotate_left; focus (first | (simp; done) | (simp; omega) | omega)) | assumption | (with_reducible refine Ext.trans ?_ (by assumption))))).mono ?_); rintro e w3 ⟨rfl, hy3⟩; have hxw3 : Ext w w3 := Ext.trans (by repeat (first | (with_reducible exact Ext.refl _) | (with_reducible refine Ext.drewN ?_ _) | (with_reducible refine Ext.drew ?_) | (with_reducible refine Ext.alloc ?_ _) | ((with_reducible refine Ext.setCell ?_ ?_ _); rotate_left; focus (first | (simp; done) | (simp; omega) | omega)) | assumption | (with_reducible refine Ext.trans ?_ (by assumption)))) hy3; have hz3 := hy3; clear hy3)); first | refine ⟨up_of (by repeat (first | (with_reducible exact Ext.refl _) | (with_reducible refine Ext.drewN ?_ _) | (with_reducible refine Ext.drew ?_) | (with_reducible refine Ext.alloc ?_ _) | ((with_reducible refine Ext.setCell ?_ ?_ _); rotate_left; focus (first | (simp; done) | (simp; omega) | omega)) | assumption | (with_reducible refine Ext.trans ?_ (by assumption)))), ?_⟩ | refine ⟨rfl, rfl, up_of (by repeat (first | (with_reducible exact Ext.refl _) | (with_reducible refine Ext.drewN ?_ _) | (with_reducible refine Ext.drew ?_) | (with_reducible refine Ext.alloc ?_ _) | ((with_reducible refine Ext.setCell ?_ ?_ _); rotate_left; focus (first | (simp; done) | (simp; omega) | omega)) | assumption | (with_reducible refine Ext.trans ?_ (by assumption)))), ?_⟩))); refine mix_nil ?_)
    go_wp2
    go_ret
    exact ⟨rb HX.out.symm, (by repeat (first | (with_reducible exact Ext.refl _) | (with_reducible refine Ext.drewN ?_ _) | (with_reducible refine Ext.drew ?_) | (with_reducible refine Ext.alloc ?_ _) | ((with_reducible refine Ext.setCell ?_ ?_ _); rotate_left; focus (first | (simp; done) | (simp; omega) | omega)) | assumption | (with_reducible refine Ext.trans ?_ (by assumption))))⟩
  have h41 : ¬ 40 < im := by omega
  have h42 : ¬ (40 : Int) < im := by omega
  have h43 : decide ((40 : Int) < im) = false := by simp; omega
  cases hre : revAll D
  · rw [hre] at HRi
    have HX := Lib.hid (HNo6.out hre)
    clear hre
    go_enter Tryz.func14, Tryz.ntmps14
    go_wp2
    (refine wp_region_from w (by repeat (first | (with_reducible exact Ext.refl _) | (with_reducible refine Ext.drewN ?_ _) | (with_reducible refine Ext.drew ?_) | (with_reducible refine Ext.alloc ?_ _) | ((with_reducible refine Ext.setCell ?_ ?_ _); rotate_left; focus (first | (simp; done) | (simp; omega) | omega)) | assumption | (with_reducible refine Ext.trans ?_ (by assumption)))) (by kernel_rfl) (by kernel_rfl) (seqB_of (by kernel_rfl)) ?_; (repeat (first | (refine mix_q rfl ?_; go_big_quiet_step (fail); refine wpQuiet_nil ?_; show wpMix _ _ _ _ _ _ _) | (refine mix_s rfl ?_; go_wp2_with (first | (go_at_call 38; (with_reducible refine (HVal.out _ (by repeat (first | (with_reducible exact Ext.refl _) | (with_reducible refine Ext.drewN ?_ _) | (with_reducible refine Ext.drew ?_) | (with_reducible refine Ext.alloc ?_ _) | ((with_reducible refine Ext.setCell ?_ ?_ _); rotate_left; focus (first | (simp; done) | (simp; omega) | omega)) | assumption | (with_reducible refine Ext.trans ?_ (by assumption))))).mono ?_); rintro e w1 ⟨rfl, hy1⟩; have hxw1 : Ext w w1 := Ext.trans (by repeat (first | (with_reducible exact Ext.refl _) | (with_reducible refine Ext.drewN ?_ _) | (with_reducible refine Ext.drew ?_) | (with_reducible refine Ext.alloc ?_ _) | ((with_reducible refine Ext.setCell ?_ ?_ _); rotate_left; focus (first | (simp; done) | (simp; omega) | omega)) | assumption | (with_reducible refine Ext.trans ?_ (by assumption)))) hy1; have hz1 := hy1; clear hy1) | (go_at_call 39; (with_reducible refine (HIn.out _).mono ?_); rintro e w2 ⟨rfl, rfl⟩) | (go_at_call 40; (with_reducible refine (HRi.out _ (by repeat (first | (with_reducible exact Ext.refl _) | (with_reducible refine Ext.drewN ?_ _) | (with_reducible refine Ext.drew ?_) | (with_reducible refine Ext.alloc ?_ _) | ((with_reducible refine Ext.setCell ?_ ?_ _); rotate_left; focus (first | (simp; done) | (simp; omega) | omega)) | assumption | (with_reducible refine Ext.trans ?_ (by assumption))))).mono ?_); rintro e w3 ⟨rfl, hy3⟩; have hxw3 : Ext w w3 := Ext.trans (by repeat (first | (with_reducible exact Ext.refl _) | (with_reducible refine Ext.drewN ?_ _) | (with_reducible refine Ext.drew ?_) | (with_reducible refine Ext.alloc ?_ _) | ((with_reducible refine Ext.setCell ?_ ?_ _); rotate_left; focus (first | (simp; done) | (simp; omega) | omega)) | assumption | (with_reducible refine Ext.trans ?_ (by assumption)))) hy3; have hz3 := hy3; clear hy3)); first | refine ⟨up_of (by repeat (first | (with_reducible exact Ext.refl _) | (with_reducible refine Ext.drewN ?_ _) | (with_reducible refine Ext.drew ?_) | (with_reducible refine Ext.alloc ?_ _) | ((with_reducible refine Ext.setCell ?_ ?_ _); rotate_left; focus (first | (simp; done) | (simp; omega) | omega)) | assumption | (with_reducible refine Ext.trans ?_ (by assumption)))), ?_⟩ | refine ⟨rfl, rfl, up_of (by repeat (first | (with_reducible exact Ext.refl _) | (with_reducible refine Ext.drewN ?_ _) | (with_reducible refine Ext.drew ?_) | (with_reducible refine Ext.alloc ?_ _) | ((with_reducible refine Ext.setCell ?_ ?_ _); rotate_left; focus (first | (simp; done) | (simp; omega) | omega)) | assumption | (with_reducible refine Ext.trans ?_ (by assumption)))), ?_⟩))); refine mix_nil ?_)
    go_wp2
    go_ret
    exact ⟨rb HX.out.symm, (by repeat (first | (with_reducible exact Ext.refl _) | (with_reducible refine Ext.drewN ?_ _) | (with_reducible refine Ext.drew ?_) | (with_reducible refine Ext.alloc ?_ _) | ((with_reducible refine Ext.setCell ?_ ?_ _); rotate_left; focus (first | (simp; done) | (simp; omega) | omega)) | assumption | (with_reducible refine Ext.trans ?_ (by assumption))))⟩
  rw [hre] at HRi
  have Hhre := Lib.hid hre; clear hre
  go_enter Tryz.func14, Tryz.ntmps14
  go_wp2
  (refine wp_region_from w (by repeat (first | (with_reducible exact Ext.refl _) | (with_reducible refine Ext.drewN ?_ _) | (with_reducible refine Ext.drew ?_) | (with_reducible refine Ext.alloc ?_ _) | ((with_reducible refine Ext.setCell ?_ ?_ _); rotate_left; focus (first | (simp; done) | (simp; omega) | omega)) | assumption | (with_reducible refine Ext.trans ?_ (by assumption)))) (by kernel_rfl) (by kernel_rfl) (seqB_of (by kernel_rfl)) ?_; (repeat (first | (refine mix_q rfl ?_; go_big_quiet_step (fail); refine wpQuiet_nil ?_; show wpMix _ _ _ _ _ _ _) | (refine mix_s rfl ?_; go_wp2_with (first | (go_at_call 38; (with_reducible refine (HVal.out _ (by repeat (first | (with_reducible exact Ext.refl _) | (with_reducible refine Ext.drewN ?_ _) | (with_reducible refine Ext.drew ?_) | (with_reducible refine Ext.alloc ?_ _) | ((with_reducible refine Ext.setCell ?_ ?_ _); rotate_left; focus (first | (simp; done) | (simp; omega) | omega)) | assumption | (with_reducible refine Ext.trans ?_ (by assumption))))).mono ?_); rintro e w1 ⟨rfl, hy1⟩; have hxw1 : Ext w w1 := Ext.trans (by repeat (first | (with_reducible exact Ext.refl _) | (with_reducible refine Ext.drewN ?_ _) | (with_reducible refine Ext.drew ?_) | (with_reducible refine Ext.alloc ?_ _) | ((with_reducible refine Ext.setCell ?_ ?_ _); rotate_left; focus (first | (simp; done) | (simp; omega) | omega)) | assumption | (with_reducible refine Ext.trans ?_ (by assumption)))) hy1; have hz1 := hy1; clear hy1) | (go_at_call 39; (with_reducible refine (HIn.out _).mono ?_); rintro e w2 ⟨rfl, rfl⟩) | (go_at_call 40; (with_reducible refine (HRi.out _ (by repeat (first | (with_reducible exact Ext.refl _) | (with_reducible refine Ext.drewN ?_ _) | (with_reducible refine Ext.drew ?_) | (with_reducible refine Ext.alloc ?_ _) | ((with_reducible refine Ext.setCell ?_ ?_ _); rotate_left; focus (first | (simp; done) | (simp; omega) | omega)) | assumption | (with_reducible refine Ext.trans ?_ (by assumption))))).mono ?_); rintro e w3 ⟨rfl, hy3⟩; have hxw3 : Ext w w3 := Ext.trans (by repeat (first | (with_reducible exact Ext.refl _) | (with_reducible refine Ext.drewN ?_ _) | (with_reducible refine Ext.drew ?_) | (with_reducible refine Ext.alloc ?_ _) | ((with_reducible refine Ext.setCell ?_ ?_ _); rotate_left; focus (first | (simp; done) | (simp; omega) | omega)) | assumption | (with_reducible refine Ext.trans ?_ (by assumption)))) hy3; have hz3 := hy3; clear hy3)); first | refine ⟨up_of (by repeat (first | (with_reducible exact Ext.refl _) | (with_reducible refine Ext.drewN ?_ _) | (with_reducible refine Ext.drew ?_) | (with_reducible refine Ext.alloc ?_ _) | ((with_reducible refine Ext.setCell ?_ ?_ _); rotate_left; focus (first | (simp; done) | (simp; omega) | omega)) | assumption | (with_reducible refine Ext.trans ?_ (by assumption)))), ?_⟩ | refine ⟨rfl, rfl, up_of (by repeat (first | (with_reducible exact Ext.refl _) | (with_reducible refine Ext.drewN ?_ _) | (with_reducible refine Ext.drew ?_) | (with_reducible refine Ext.alloc ?_ _) | ((with_reducible refine Ext.setCell ?_ ?_ _); rotate_left; focus (first | (simp; done) | (simp; omega) | omega)) | assumption | (with_reducible refine Ext.trans ?_ (by assumption)))), ?_⟩))); refine mix_nil ?_)
  go_wp2
  go_loopw [3, 4] (fun i _ wr => ∃ k : Nat, k ≤ im ∧ i = .int .i64 k ∧ (∀ j, j < k → issB D j = true) ∧ Ext w wr) (fun i _ _ => im - (intOf i).toNat)
  case atStart => exact ⟨0, Nat.zero_le _, rfl, (fun j hj => by omega), (by repeat (first | (with_reducible exact Ext.refl _) | (with_reducible refine Ext.drewN ?_ _) | (with_reducible refine Ext.drew ?_) | (with_reducible refine Ext.alloc ?_ _) | ((with_reducible refine Ext.setCell ?_ ?_ _); rotate_left; focus (first | (simp; done) | (simp; omega) | omega)) | assumption | (with_reducible refine Ext.trans ?_ (by assumption))))⟩
  case round =>
    obtain ⟨k, hk, rfl, hp, hx⟩ := hrel
    have hxr : Ext w wr := hx
    have Hhp := Lib.hid hp; clear hp
    by_cases hlt : k < im
    · have hs := HSz.out k hlt
      have HCk1 := Lib.hid (fun W h => HCk.out (gs D.issued k) W h hs)
      have HIs := Lib.hid (show issB D k = (chkB D.ch (gs D.issued k) && (List.range k).all (farR D k)) from rfl)
      cases hck : chkB D.ch (gs D.issued k)
      · have HX := Lib.hid (HNo1.out k hlt (by rw [HIs.out, hck]; rfl))
        rw [hck] at HCk1
        have Hhck := Lib.hid hck; clear hck; have Hhs := Lib.hid hs; clear hs
        go_wp2
        (refine wp_region_from w (by repeat (first | (with_reducible exact Ext.refl _) | (with_reducible refine Ext.drewN ?_ _) | (with_reducible refine Ext.drew ?_) | (with_reducible refine Ext.alloc ?_ _) | ((with_reducible refine Ext.setCell ?_ ?_ _); rotate_left; focus (first | (simp; done) | (simp; omega) | omega)) | assumption | (with_reducible refine Ext.trans ?_ (by assumption)))) (by kernel_rfl) (by kernel_rfl) (seqB_of (by kernel_rfl)) ?_; (repeat (first | (refine mix_q rfl ?_; go_big_quiet_step (fail); refine wpQuiet_nil ?_; show wpMix _ _ _ _ _ _ _) | (refine mix_s rfl ?_; go_wp2_with (((with_reducible refine (HCk1.out _ (by repeat (first | (with_reducible exact Ext.refl _) | (with_reducible refine Ext.drewN ?_ _) | (with_reducible refine Ext.drew ?_) | (with_reducible refine Ext.alloc ?_ _) | ((with_reducible refine Ext.setCell ?_ ?_ _); rotate_left; focus (first | (simp; done) | (simp; omega) | omega)) | assumption | (with_reducible refine Ext.trans ?_ (by assumption))))).mono ?_); rintro e w4 ⟨rfl, hy4⟩; have hxw4 : Ext w w4 := Ext.trans (by repeat (first | (with_reducible exact Ext.refl _) | (with_reducible refine Ext.drewN ?_ _) | (with_reducible refine Ext.drew ?_) | (with_reducible refine Ext.alloc ?_ _) | ((with_reducible refine Ext.setCell ?_ ?_ _); rotate_left; focus (first | (simp; done) | (simp; omega) | omega)) | assumption | (with_reducible refine Ext.trans ?_ (by assumption)))) hy4; have hz4 := hy4; clear hy4)); first | refine ⟨up_of (by repeat (first | (with_reducible exact Ext.refl _) | (with_reducible refine Ext.drewN ?_ _) | (with_reducible refine Ext.drew ?_) | (with_reducible refine Ext.alloc ?_ _) | ((with_reducible refine Ext.setCell ?_ ?_ _); rotate_left; focus (first | (simp; done) | (simp; omega) | omega)) | assumption | (with_reducible refine Ext.trans ?_ (by assumption)))), ?_⟩ | refine ⟨rfl, rfl, up_of (by repeat (first | (with_reducible exact Ext.refl _) | (with_reducible refine Ext.drewN ?_ _) | (with_reducible refine Ext.drew ?_) | (with_reducible refine Ext.alloc ?_ _) | ((with_reducible refine Ext.setCell ?_ ?_ _); rotate_left; focus (first | (simp; done) | (simp; omega) | omega)) | assumption | (with_reducible refine Ext.trans ?_ (by assumption)))), ?_⟩))); refine mix_nil ?_)
        go_wp2
        go_ret
        exact ⟨rb HX.out.symm, (by repeat (first | (with_reducible exact Ext.refl _) | (with_reducible refine Ext.drewN ?_ _) | (with_reducible refine Ext.drew ?_) | (with_reducible refine Ext.alloc ?_ _) | ((with_reducible refine Ext.setCell ?_ ?_ _); rotate_left; focus (first | (simp; done) | (simp; omega) | omega)) | assumption | (with_reducible refine Ext.trans ?_ (by assumption))))⟩
      · rw [hck] at HCk1 HIs
        have hs20 := (chk_size hck).2
        have Hhck := Lib.hid hck; clear hck; have Hhs := Lib.hid hs; clear hs
        go_wp2
        (refine wp_region_from w (by repeat (first | (with_reducible exact Ext.refl _) | (with_reducible refine Ext.drewN ?_ _) | (with_reducible refine Ext.drew ?_) | (with_reducible refine Ext.alloc ?_ _) | ((with_reducible refine Ext.setCell ?_ ?_ _); rotate_left; focus (first | (simp; done) | (simp; omega) | omega)) | assumption | (with_reducible refine Ext.trans ?_ (by assumption)))) (by kernel_rfl) (by kernel_rfl) (seqB_of (by kernel_rfl)) ?_; (repeat (first | (refine mix_q rfl ?_; go_big_quiet_step (fail); refine wpQuiet_nil ?_; show wpMix _ _ _ _ _ _ _) | (refine mix_s rfl ?_; go_wp2_with (((with_reducible refine (HCk1.out _ (by repeat (first | (with_reducible exact Ext.refl _) | (with_reducible refine Ext.drewN ?_ _) | (with_reducible refine Ext.drew ?_) | (with_reducible refine Ext.alloc ?_ _) | ((with_reducible refine Ext.setCell ?_ ?_ _); rotate_left; focus (first | (simp; done) | (simp; omega) | omega)) | assumption | (with_reducible refine Ext.trans ?_ (by assumption))))).mono ?_); rintro e w4 ⟨rfl, hy4⟩; have hxw4 : Ext w w4 := Ext.trans (by repeat (first | (with_reducible exact Ext.refl _) | (with_reducible refine Ext.drewN ?_ _) | (with_reducible refine Ext.drew ?_) | (with_reducible refine Ext.alloc ?_ _) | ((with_reducible refine Ext.setCell ?_ ?_ _); rotate_left; focus (first | (simp; done) | (simp; omega) | omega)) | assumption | (with_reducible refine Ext.trans ?_ (by assumption)))) hy4; have hz4 := hy4; clear hy4)); first | refine ⟨up_of (by repeat (first | (with_reducible exact Ext.refl _) | (with_reducible refine Ext.drewN ?_ _) | (with_reducible refine Ext.drew ?_) | (with_reducible refine Ext.alloc ?_ _) | ((with_reducible refine Ext.setCell ?_ ?_ _); rotate_left; focus (first | (simp; done) | (simp; omega) | omega)) | assumption | (with_reducible refine Ext.trans ?_ (by assumption)))), ?_⟩ | refine ⟨rfl, rfl, up_of (by repeat (first | (with_reducible exact Ext.refl _) | (with_reducible refine Ext.drewN ?_ _) | (with_reducible refine Ext.drew ?_) | (with_reducible refine Ext.alloc ?_ _) | ((with_reducible refine Ext.setCell ?_ ?_ _); rotate_left; focus (first | (simp; done) | (simp; omega) | omega)) | assumption | (with_reducible refine Ext.trans ?_ (by assumption)))), ?_⟩))); refine mix_nil ?_)
        go_wp2
        go_loopw [4] (fun i wr => ∃ j : Nat, j ≤ k ∧ i = .int .i64 j ∧ (∀ i, i < j → farR D k i = true) ∧ Ext w wr) (fun i _ => k - (intOf i).toNat)
        case atStart => exact ⟨0, Nat.zero_le _, rfl, (fun j hj => by omega), (by repeat (first | (with_reducible exact Ext.refl _) | (with_reducible refine Ext.drewN ?_ _) | (with_reducible refine Ext.drew ?_) | (with_reducible refine Ext.alloc ?_ _) | ((with_reducible refine Ext.setCell ?_ ?_ _); rotate_left; focus (first | (simp; done) | (simp; omega) | omega)) | assumption | (with_reducible refine Ext.trans ?_ (by assumption))))⟩
        case round =>
          obtain ⟨j, hj, rfl, hp2, hx⟩ := hrel
          have hxr : Ext w wr := hx
          have Hhp2 := Lib.hid hp2
          clear hp2
          by_cases hlt2 : j < k
          · have hji : j < im := by omega
            have hsj : (gs D.issued j).size ≤ 20 := by
              have h1 := Hhp.out j hlt2
              have h2 : chkB D.ch (gs D.issued j) = true := by unfold issB at h1; simp only [Bool.and_eq_true] at h1; exact h1.1
              exact (chk_size h2).2
            have HFr := Lib.hid (farR_comm D k j)
            have HFa := Lib.hid (fun W => spec_l10Far (gs D.issued j) (gs D.issued k) W (by omega) (by omega))
            by_cases hfr : (distS (gs D.issued j) (gs D.issued k) : Int) < D.apart
            · have HX := Lib.hid (HNo1.out k hlt (by rw [HIs.out, Bool.true_and]; exact rangeAll_no hlt2 (by rw [HFr.out]; simpa using hfr)))
              generalize distS (gs D.issued j) (gs D.issued k) = z at *
              go_wp2
              (refine wp_region_from w (by repeat (first | (with_reducible exact Ext.refl _) | (with_reducible refine Ext.drewN ?_ _) | (with_reducible refine Ext.drew ?_) | (with_reducible refine Ext.alloc ?_ _) | ((with_reducible refine Ext.setCell ?_ ?_ _); rotate_left; focus (first | (simp; done) | (simp; omega) | omega)) | assumption | (with_reducible refine Ext.trans ?_ (by assumption)))) (by kernel_rfl) (by kernel_rfl) (seqB_of (by kernel_rfl)) ?_; (repeat (first | (refine mix_q rfl ?_; go_big_quiet_step (fail); refine wpQuiet_nil ?_; show wpMix _ _ _ _ _ _ _) | (refine mix_s rfl ?_; go_wp2_with (((with_reducible refine (HFa.out _).mono ?_); rintro e w5 ⟨rfl, hy5⟩; have hxw5 : Ext w w5 := Ext.trans (by repeat (first | (with_reducible exact Ext.refl _) | (with_reducible refine Ext.drewN ?_ _) | (with_reducible refine Ext.drew ?_) | (with_reducible refine Ext.alloc ?_ _) | ((with_reducible refine Ext.setCell ?_ ?_ _); rotate_left; focus (first | (simp; done) | (simp; omega) | omega)) | assumption | (with_reducible refine Ext.trans ?_ (by assumption)))) hy5; have hz5 := hy5; clear hy5)); first | refine ⟨up_of (by repeat (first | (with_reducible exact Ext.refl _) | (with_reducible refine Ext.drewN ?_ _) | (with_reducible refine Ext.drew ?_) | (with_reducible refine Ext.alloc ?_ _) | ((with_reducible refine Ext.setCell ?_ ?_ _); rotate_left; focus (first | (simp; done) | (simp; omega) | omega)) | assumption | (with_reducible refine Ext.trans ?_ (by assumption)))), ?_⟩ | refine ⟨rfl, rfl, up_of (by repeat (first | (with_reducible exact Ext.refl _) | (with_reducible refine Ext.drewN ?_ _) | (with_reducible refine Ext.drew ?_) | (with_reducible refine Ext.alloc ?_ _) | ((with_reducible refine Ext.setCell ?_ ?_ _); rotate_left; focus (first | (simp; done) | (simp; omega) | omega)) | assumption | (with_reducible refine Ext.trans ?_ (by assumption)))), ?_⟩))); refine mix_nil ?_)
              go_wp2
              go_ret
              exact ⟨rb HX.out.symm, (by repeat (first | (with_reducible exact Ext.refl _) | (with_reducible refine Ext.drewN ?_ _) | (with_reducible refine Ext.drew ?_) | (with_reducible refine Ext.alloc ?_ _) | ((with_reducible refine Ext.setCell ?_ ?_ _); rotate_left; focus (first | (simp; done) | (simp; omega) | omega)) | assumption | (with_reducible refine Ext.trans ?_ (by assumption))))⟩
            · have HX := Lib.hid (upto Hhp2.out (by rw [HFr.out]; simpa using hfr))
              generalize distS (gs D.issued j) (gs D.issued k) = z at *
              go_wp2
              (refine wp_region_from w (by repeat (first | (with_reducible exact Ext.refl _) | (with_reducible refine Ext.drewN ?_ _) | (with_reducible refine Ext.drew ?_) | (with_reducible refine Ext.alloc ?_ _) | ((with_reducible refine Ext.setCell ?_ ?_ _); rotate_left; focus (first | (simp; done) | (simp; omega) | omega)) | assumption | (with_reducible refine Ext.trans ?_ (by assumption)))) (by kernel_rfl) (by kernel_rfl) (seqB_of (by kernel_rfl)) ?_; (repeat (first | (refine mix_q rfl ?_; go_big_quiet_step (fail); refine wpQuiet_nil ?_; show wpMix _ _ _ _ _ _ _) | (refine mix_s rfl ?_; go_wp2_with (((with_reducible refine (HFa.out _).mono ?_); rintro e w5 ⟨rfl, hy5⟩; have hxw5 : Ext w w5 := Ext.trans (by repeat (first | (with_reducible exact Ext.refl _) | (with_reducible refine Ext.drewN ?_ _) | (with_reducible refine Ext.drew ?_) | (with_reducible refine Ext.alloc ?_ _) | ((with_reducible refine Ext.setCell ?_ ?_ _); rotate_left; focus (first | (simp; done) | (simp; omega) | omega)) | assumption | (with_reducible refine Ext.trans ?_ (by assumption)))) hy5; have hz5 := hy5; clear hy5)); first | refine ⟨up_of (by repeat (first | (with_reducible exact Ext.refl _) | (with_reducible refine Ext.drewN ?_ _) | (with_reducible refine Ext.drew ?_) | (with_reducible refine Ext.alloc ?_ _) | ((with_reducible refine Ext.setCell ?_ ?_ _); rotate_left; focus (first | (simp; done) | (simp; omega) | omega)) | assumption | (with_reducible refine Ext.trans ?_ (by assumption)))), ?_⟩ | refine ⟨rfl, rfl, up_of (by repeat (first | (with_reducible exact Ext.refl _) | (with_reducible refine Ext.drewN ?_ _) | (with_reducible refine Ext.drew ?_) | (with_reducible refine Ext.alloc ?_ _) | ((with_reducible refine Ext.setCell ?_ ?_ _); rotate_left; focus (first | (simp; done) | (simp; omega) | omega)) | assumption | (with_reducible refine Ext.trans ?_ (by assumption)))), ?_⟩))); refine mix_nil ?_)
              go_wp2
              exact ⟨⟨j + 1, by omega, by go_num, HX.out, (by repeat (first | (with_reducible exact Ext.refl _) | (with_reducible refine Ext.drewN ?_ _) | (with_reducible refine Ext.drew ?_) | (with_reducible refine Ext.alloc ?_ _) | ((with_reducible refine Ext.setCell ?_ ?_ _); rotate_left; focus (first | (simp; done) | (simp; omega) | omega)) | assumption | (with_reducible refine Ext.trans ?_ (by assumption))))⟩, by simp [intOf]; omega⟩
          · obtain rfl : j = k := by omega
            have HX := Lib.hid (upto Hhp.out (by rw [HIs.out, Bool.true_and]; exact rangeAll_yes Hhp2.out))
            go_wp2
            exact ⟨⟨j + 1, by omega, by go_num, HX.out, hx⟩, by simp [intOf]; omega⟩
    · obtain rfl : k = im := by omega
      go_wp2
      go_ret
      exact ⟨rb (HYes.out Hhval.out Hhap.out h40 Hhre.out Hhp.out).symm, hx⟩
end Go.Proofs.YthbdnkokklahcaaGreat
