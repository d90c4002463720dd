/- Walks: RankOfWord. -/
import Derived.Test.YtaiieodllhoelaaChW
import Derived.Test.YtaiieodllhoelaaEnds
namespace Go.Proofs.Ytaiieodllhoelaa
set_option maxRecDepth 100000
open Go.RowKit

def rankTo (D : Ch) (ds : List Int) (k : Nat) : Int := ((List.range k).map fun (i : Nat) => partS D (D.places.length - i - 1) (i : Int) (runS D 0 D.start (ds.take i)) (gi ds i).toNat).sum
theorem rankTo_succ (D : Ch) (ds : List Int) (k : Nat) : rankTo D ds (k + 1) = rankTo D ds k + partS D (D.places.length - k - 1) (k : Int) (runS D 0 D.start (ds.take k)) (gi ds k).toNat := by
  unfold rankTo; rw [List.range_succ, List.map_append, List.sum_append]; simp
theorem rankTo_bd {D : Ch} (hok : OkCh D) {ds : List Int} (hd : DigC D ds) : ∀ k, k ≤ ds.length → k ≤ D.places.length → 0 ≤ rankTo D ds k ∧ rankTo D ds k ≤ k * 1000000000000000
  | 0, _, _ => by simp [rankTo]
  | k + 1, h1, h2 => by
    have ih := rankTo_bd hok hd k (by omega) (by omega)
    have h3 := hd.at (k := k) (by omega)
    have h4 := hok.part (f := D.places.length - k - 1) (by omega) (k : Int) (runS D 0 D.start (ds.take k)) (gi ds k).toNat (by omega)
    rw [rankTo_succ]
    omega
def rkRes (D : Ch) (s : ByteArray) : Int := if chkB D s then rankTo D (digC s) s.size else 0
theorem chk_parts {D : Ch} {s : ByteArray} (h : chkB D s = true) : OkCh D ∧ wordCh D s = true := by
  unfold chkB runOk at h
  simp only [Bool.and_eq_true] at h
  exact ⟨validCh_ok h.1.1, h.1.2⟩
set_option maxHeartbeats 4000000 in
theorem impl_RankOfWord (D : Ch) (a : Option Addr) (n c : Nat) (a' : Option Addr) (n' c' : Nat) (s : ByteArray) (w : World) (hv : ChIn w D a n c a' n' c') (hs : s.size ≤ 1048576) :
    Calls Try.prog 20 #[.agg #[.int .i64 D.base, .int .i64 D.states, .int .i64 D.start, .int .i64 D.fin, .slice a n c, .slice a' n' c'], .string s] w (Ret2 (.int .i64 (rkRes D s)) (.bool (chkB D s)) w) := by
  have HB := Lib.hid (hv.box 27)
  have HCk := Lib.hid (fun W h => impl_IsChecked D a n c a' n' c' s W (ChIn.ext hv h) hs)
  have HDl := Lib.hid (digC_len s)
  clear hv
  cases hc : chkB D s
  · rw [hc] at HCk
    have HF := Lib.hid hc
    clear hc
    go_enter Try.func20, Try.ntmps20
    go_wp2_with (refine (HCk.out _ ((Ext.refl w).alloc _)).mono ?_; rintro e w1 ⟨rfl, hx1⟩)
    go_ret2
    exact ⟨by rw [rkRes, HF.out]; rfl, ((Ext.refl w).alloc _).trans hx1⟩
  obtain ⟨hok, hw⟩ := chk_parts hc
  obtain ⟨hdg, hdl, hd20⟩ := wordCh_t hw
  rw [hc] at HCk
  have HR := Lib.hid (show rkRes D s = rankTo D (digC s) s.size by rw [rkRes, hc]; rfl)
  have b36 := hok.b36
  have s36 := hok.s36
  have Hhok := Lib.hid hok; clear hok; have Hhdg := Lib.hid hdg; clear hdg; have Hhdl := Lib.hid hdl; clear hdl; have Hhw := Lib.hid hw; clear hw
  clear hc
  go_enter Try.func20, Try.ntmps20
  go_wp2_with fail
  obtain ⟨wb, hwb⟩ : ∃ wb, wb = w.alloc (.cells #[.int .i64 D.base, .int .i64 D.states, .int .i64 D.start, .int .i64 D.fin, .slice a n c, .slice a' n' c'] 27) := ⟨_, rfl⟩
  have hxb : Ext w wb := by rw [hwb]; exact (by repeat (first | (with_reducible exact Ext.refl _) | (with_reducible refine Ext.drewN ?_ _) | (with_reducible refine Ext.drew ?_) | (with_reducible refine Ext.alloc ?_ _) | ((with_reducible refine Ext.setCell ?_ ?_ _); rotate_left; focus (first | (simp; done) | (simp; omega) | omega)) | assumption | (with_reducible refine Ext.trans ?_ (by assumption))))
  rw [← hwb] at HB ⊢
  generalize w.heap.size = q at *
  clear hwb
  refine (HCk.out _ hxb).mono ?_
  rintro e w1 ⟨rfl, hx1⟩
  have HW := Lib.hid (impl_chWord D q a n c a' n' c' s w1 (HB.out.ext hx1) hs)
  rw [Hhw.out] at HW
  obtain ⟨k0, k1, k2, k3, k4, k5, _, _⟩ := HB.out
  go_wp2_with fail
  refine HW.out.mono ?_
  rintro e w2 ⟨a2, n2, c2', rfl, hx2, ho2⟩
  have ho := ho2 rfl
  have hl : s.size = n2 := by have := ho.len; rw [I_len] at this; rw [← HDl.out]; exact this
  have hx12 : Ext wb w2 := hx1.trans hx2
  rw [hl] at HR hd20
  have HPl := Lib.hid (show D.places.length = n2 by rw [← hl]; exact Hhdl.out.symm)
  have HDl2 := Lib.hid (show (digC s).length = n2 by rw [HDl.out, hl])
  obtain ⟨b, off, hix, hcell⟩ := ho.ints.ix (P := Try.prog) 25 2 und_int64s cell_int64
  have Hhl := Lib.hid hl; clear hl
  clear ho2 HW ho
  generalize digC s = ds at *
  have HEn := Lib.hid (fun W (h : Ext w2 W) => impl_ends D q a n c a' n' c' W (HB.out.ext (hx12.trans h)) Hhok.out)
  go_wp2
  (refine wp_region_from w2 (by repeat (first | (with_reducible exact Ext.refl _) | (with_reducible refine Ext.drewN ?_ _) | (with_reducible refine Ext.drew ?_) | (with_reducible refine Ext.alloc ?_ _) | ((with_reducible refine Ext.setCell ?_ ?_ _); rotate_left; focus (first | (simp; done) | (simp; omega) | omega)) | assumption | (with_reducible refine Ext.trans ?_ (by assumption)))) (by kernel_rfl) (by kernel_rfl) (by kernel_rfl) ?_; (repeat (first | (refine mix_q rfl ?_; go_big_quiet_step (fail); refine wpQuiet_nil ?_; show wpMix _ _ _ _ _ _ _) | (refine mix_s rfl ?_; go_wp2_with (((with_reducible refine (HEn.out _ (by repeat (first | (with_reducible exact Ext.refl _) | (with_reducible refine Ext.drewN ?_ _) | (with_reducible refine Ext.drew ?_) | (with_reducible refine Ext.alloc ?_ _) | ((with_reducible refine Ext.setCell ?_ ?_ _); rotate_left; focus (first | (simp; done) | (simp; omega) | omega)) | assumption | (with_reducible refine Ext.trans ?_ (by assumption))))).mono ?_); rintro e w3 ⟨a3, c3, F, G, C, rfl, hg3, hr3, hy3⟩; have hxw3 : Ext w2 w3 := Ext.trans (by repeat (first | (with_reducible exact Ext.refl _) | (with_reducible refine Ext.drewN ?_ _) | (with_reducible refine Ext.drew ?_) | (with_reducible refine Ext.alloc ?_ _) | ((with_reducible refine Ext.setCell ?_ ?_ _); rotate_left; focus (first | (simp; done) | (simp; omega) | omega)) | assumption | (with_reducible refine Ext.trans ?_ (by assumption)))) hy3; have hz3 := hy3; clear hy3; rw [HPl.out] at hg3 hr3 ⊢; have HG3 := Lib.hid hg3; have HR3 := Lib.hid hr3; clear hg3 hr3)); first | refine ⟨up_of (by repeat (first | (with_reducible exact Ext.refl _) | (with_reducible refine Ext.drewN ?_ _) | (with_reducible refine Ext.drew ?_) | (with_reducible refine Ext.alloc ?_ _) | ((with_reducible refine Ext.setCell ?_ ?_ _); rotate_left; focus (first | (simp; done) | (simp; omega) | omega)) | assumption | (with_reducible refine Ext.trans ?_ (by assumption)))), ?_⟩ | refine ⟨rfl, rfl, up_of (by repeat (first | (with_reducible exact Ext.refl _) | (with_reducible refine Ext.drewN ?_ _) | (with_reducible refine Ext.drew ?_) | (with_reducible refine Ext.alloc ?_ _) | ((with_reducible refine Ext.setCell ?_ ?_ _); rotate_left; focus (first | (simp; done) | (simp; omega) | omega)) | assumption | (with_reducible refine Ext.trans ?_ (by assumption)))), ?_⟩))); refine mix_nil ?_)
  go_wp2
  have hx3 : Ext wb w3 := hx12.trans hxw3
  obtain ⟨S, hS⟩ := Int.eq_ofNat_of_zero_le (show 0 ≤ D.states by have := Hhok.out.s1; omega)
  have HSn := Lib.hid (show D.states.toNat = S by omega)
  rw [HSn.out] at HG3 HR3
  have HhS := Lib.hid hS; clear hS
  go_loopw [9, 10, 11, 12, 28] (fun r st _ _ i wr => ∃ (k : Nat) (R x : Int), k ≤ n2 ∧ i = .int .i64 k ∧ r = .int .i64 R ∧ st = .int .i64 x ∧ Hid (R = rankTo D ds k) ∧ Hid (x = runS D 0 D.start (ds.take k)) ∧ Ext w3 wr) (fun _ _ _ _ i _ => n2 - (intOf i).toNat)
  case atStart => exact ⟨0, 0, D.start, Nat.zero_le _, rfl, rfl, rfl, Lib.hid rfl, Lib.hid rfl, (by repeat (first | (with_reducible exact Ext.refl _) | (with_reducible refine Ext.drewN ?_ _) | (with_reducible refine Ext.drew ?_) | (with_reducible refine Ext.alloc ?_ _) | ((with_reducible refine Ext.setCell ?_ ?_ _); rotate_left; focus (first | (simp; done) | (simp; omega) | omega)) | assumption | (with_reducible refine Ext.trans ?_ (by assumption))))⟩
  case round =>
    obtain ⟨k, R, x, hk, rfl, rfl, rfl, HRk, HX, hx⟩ := hrel
    have hxr : Ext w3 wr := hx
    have hx2r : Ext w2 wr := hxw3.trans hx
    have hbr : Ext wb wr := hx3.trans hx
    by_cases hlt : k < n2
    · obtain ⟨d0, d1⟩ := Hhdg.out.at (k := k) (by rw [HDl2.out]; exact hlt)
      have hx01 : 0 ≤ x ∧ x < D.states := by
        rw [HX.out]
        exact runS_bd Hhok.out (ds.take k) 0 D.start (Hhdg.out.take k) (by omega) (by rw [List.length_take, HDl2.out, HPl.out]; omega) Hhok.out.st0 Hhok.out.st1
      obtain ⟨x0, x1⟩ := hx01
      have hRb := rankTo_bd Hhok.out Hhdg.out k (by rw [HDl2.out]; omega) (by rw [HPl.out]; omega)
      rw [← HRk.out] at hRb
      obtain ⟨R0, R1⟩ := hRb
      obtain ⟨dk, hdk⟩ := Int.eq_ofNat_of_zero_le d0
      have HDk := Lib.hid hdk
      have hcd : ∀ w', Ext w2 w' → w'.cell? ⟨b, off + k, none⟩ = some (.int .i64 (dk : Int)) := fun w' h => by rw [hcell k w' hlt h, HDk.out]
      have hdk36 : dk ≤ 36 := by omega
      rw [hdk] at d1
      have HSt := Lib.hid (rankTo_succ D ds k)
      have HXs := Lib.hid (runS_step D (ds := ds) (k := k) (by rw [HDl2.out]; exact hlt) 0 D.start)
      have HNx := Lib.hid (fun W (h : Ext wb W) => impl_next D q a n c a' n' c' (k : Int) x (dk : Int) W (HB.out.ext h) Hhok.out (by omega) (by have := HPl.out; omega) x0 x1 (by omega) d1)
      clear hdk d0
      clear hcell
      go_wp2
      go_loopw [9, 13, 34] (fun r _ i wr => ∃ (d : Nat) (R' : Int), d ≤ dk ∧ i = .int .i64 d ∧ r = .int .i64 R' ∧ Hid (R' = R + partS D (n2 - k - 1) (k : Int) x d) ∧ Ext w3 wr) (fun _ _ i _ => dk - (intOf i).toNat)
      case atStart => exact ⟨0, R, Nat.zero_le _, rfl, rfl, Lib.hid (by rw [part_zero]; omega), hx⟩
      case round =>
        obtain ⟨d, R', hdd, rfl, rfl, HR', hx⟩ := hrel
        have hxr : Ext w3 wr := hx
        have hbr : Ext wb wr := hx3.trans hx
        by_cases hld : d < dk
        · obtain ⟨y0, y1⟩ := Hhok.out.next (p := (k : Int)) (x := x) (d := (d : Int)) (by omega) (by have := HPl.out; omega) x0 x1 (by omega) (by omega)
          obtain ⟨y, hy⟩ := Int.eq_ofNat_of_zero_le y0
          have hyS : y < S := by have := HhS.out; omega
          have HCN := Lib.hid (fun W (h : Ext wb W) => impl_next D q a n c a' n' c' (k : Int) x (d : Int) W (HB.out.ext h) Hhok.out (by omega) (by have := HPl.out; omega) x0 x1 (by omega) (by omega))
          have HY := Lib.hid hy
          rw [hy] at HCN
          clear y0 y1 hy
          obtain ⟨b2', o2, g1, g2, g3, g4, _⟩ := HG3.out.one (P := Try.prog) 88 25 und_grid cell_row1 und_int64s cell_int64 (i := k + 1) (x := y) (by omega) hyS
          have g1' : ∀ (K : IntKind) (w' : World), (Instr.indexAt 88 (.slice a3 (n2 + 1) c3) (.int K ((k : Int) + 1))).run Try.prog w' = .ok (.pointer (some ⟨b2', o2, none⟩)) w' := g1
          have hFe := HR3.out.hi (k + 1) (by omega) (by omega) y hyS
          have hv2 : 0 ≤ F (k + 1) y ∧ F (k + 1) y ≤ 1000000000000000 := by
            rw [hFe]
            exact Hhok.out.ends (by rw [HPl.out]; omega) _ _
          have hpb := Hhok.out.part (f := n2 - k - 1) (by rw [HPl.out]; omega) (k : Int) x d (by omega)
          have hRb2 : 0 ≤ R' ∧ R' ≤ 21000000000000000 := by rw [HR'.out]; omega
          have HFe := Lib.hid hFe
          have HPs := Lib.hid (part_succ D (n2 - k - 1) (k : Int) x d)
          obtain ⟨u3, u4⟩ := hv2
          obtain ⟨u5, u6⟩ := hRb2
          clear g1 hFe hpb
          go_wp2
          (refine wp_region_from w3 (by repeat (first | (with_reducible exact Ext.refl _) | (with_reducible refine Ext.drewN ?_ _) | (with_reducible refine Ext.drew ?_) | (with_reducible refine Ext.alloc ?_ _) | ((with_reducible refine Ext.setCell ?_ ?_ _); rotate_left; focus (first | (simp; done) | (simp; omega) | omega)) | assumption | (with_reducible refine Ext.trans ?_ (by assumption)))) (by kernel_rfl) (by kernel_rfl) (by kernel_rfl) ?_; (repeat (first | (refine mix_q rfl ?_; go_big_quiet_step (fail); refine wpQuiet_nil ?_; show wpMix _ _ _ _ _ _ _) | (refine mix_s rfl ?_; go_wp2_with (((with_reducible refine (HCN.out _ (Ext.trans hbr (by repeat (first | (with_reducible exact Ext.refl _) | (with_reducible refine Ext.drewN ?_ _) | (with_reducible refine Ext.drew ?_) | (with_reducible refine Ext.alloc ?_ _) | ((with_reducible refine Ext.setCell ?_ ?_ _); rotate_left; focus (first | (simp; done) | (simp; omega) | omega)) | assumption | (with_reducible refine Ext.trans ?_ (by assumption)))))).mono ?_); rintro e w4 ⟨rfl, hy4⟩; have hxw4 : Ext w3 w4 := Ext.trans (by repeat (first | (with_reducible exact Ext.refl _) | (with_reducible refine Ext.drewN ?_ _) | (with_reducible refine Ext.drew ?_) | (with_reducible refine Ext.alloc ?_ _) | ((with_reducible refine Ext.setCell ?_ ?_ _); rotate_left; focus (first | (simp; done) | (simp; omega) | omega)) | assumption | (with_reducible refine Ext.trans ?_ (by assumption)))) hy4; have hz4 := hy4; clear hy4)); first | refine ⟨up_of (by repeat (first | (with_reducible exact Ext.refl _) | (with_reducible refine Ext.drewN ?_ _) | (with_reducible refine Ext.drew ?_) | (with_reducible refine Ext.alloc ?_ _) | ((with_reducible refine Ext.setCell ?_ ?_ _); rotate_left; focus (first | (simp; done) | (simp; omega) | omega)) | assumption | (with_reducible refine Ext.trans ?_ (by assumption)))), ?_⟩ | refine ⟨rfl, rfl, up_of (by repeat (first | (with_reducible exact Ext.refl _) | (with_reducible refine Ext.drewN ?_ _) | (with_reducible refine Ext.drew ?_) | (with_reducible refine Ext.alloc ?_ _) | ((with_reducible refine Ext.setCell ?_ ?_ _); rotate_left; focus (first | (simp; done) | (simp; omega) | omega)) | assumption | (with_reducible refine Ext.trans ?_ (by assumption)))), ?_⟩))); refine mix_nil ?_)
          go_wp2
          exact ⟨⟨d + 1, R' + F (k + 1) y, by omega, by go_num, rfl, Lib.hid (by rw [HPs.out, HY.out, HR'.out, HFe.out, show n2 - (k + 1) = n2 - k - 1 by omega, show ((k + 1 : Nat) : Int) = (k : Int) + 1 from rfl]; omega), hxw4⟩, by simp [intOf]; omega⟩
        · obtain rfl : d = dk := by omega
          have HRn := Lib.hid (show R' = rankTo D ds (k + 1) by rw [HSt.out, HR'.out, HRk.out, HX.out, HPl.out, HDk.out]; rfl)
          have HXn := Lib.hid (show nextS D (k : Int) x (d : Int) = runS D 0 D.start (ds.take (k + 1)) by rw [HXs.out, HX.out, HDk.out]; simp)
          go_wp2_with (refine (HNx.out _ (by repeat (first | (with_reducible exact Ext.refl _) | (with_reducible refine Ext.drewN ?_ _) | (with_reducible refine Ext.drew ?_) | (with_reducible refine Ext.alloc ?_ _) | ((with_reducible refine Ext.setCell ?_ ?_ _); rotate_left; focus (first | (simp; done) | (simp; omega) | omega)) | assumption | (with_reducible refine Ext.trans ?_ (by assumption))))).mono ?_; rintro e w6 ⟨rfl, hy6⟩)
          exact ⟨⟨k + 1, R', nextS D (k : Int) x (d : Int), by omega, by go_num, rfl, rfl, HRn, HXn, hx.trans hy6⟩, by simp [intOf]; omega⟩
    · obtain rfl : k = n2 := by omega
      go_wp2
      go_ret2
      exact ⟨by rw [HR.out, HRk.out]; rfl, (hxb.trans hx3).trans hx⟩
set_option maxHeartbeats 4000000 in
theorem spec_RankOfWord (D : Ch) (a : Option Addr) (n c : Nat) (a' : Option Addr) (n' c' : Nat) (s : ByteArray) (w : World) (hv : ChIn w D a n c a' n' c') (hs : s.size ≤ 1048576) :
    Calls Try.prog 35 #[.agg #[.int .i64 D.base, .int .i64 D.states, .int .i64 D.start, .int .i64 D.fin, .slice a n c, .slice a' n' c'], .string s] w (Ret2 (.int .i64 (rkRes D s)) (.bool (chkB D s)) w) := by
  have HB := Lib.hid (hv.box 27)
  have HCk := Lib.hid (spec_l02Checked D w.heap.size a n c a' n' c' s _ HB.out hv.hn hv.hn' hv.sm hs)
  have HDl := Lib.hid (digC_len s)
  clear hv
  cases hc : chkB D s
  · rw [hc] at HCk
    have HF := Lib.hid hc
    clear hc
    go_enter Try.func35, Try.ntmps35
    go_wp2_with (refine HCk.out.mono ?_; rintro e w1 ⟨rfl, hx1⟩)
    go_ret2
    exact ⟨by rw [rkRes, HF.out]; rfl, ((Ext.refl w).alloc _).trans hx1⟩
  obtain ⟨hok, hw⟩ := chk_parts hc
  obtain ⟨hdg, hdl, hd20⟩ := wordCh_t hw
  rw [hc] at HCk
  have HR := Lib.hid (show rkRes D s = rankTo D (digC s) s.size by rw [rkRes, hc]; rfl)
  have b36 := hok.b36
  have s36 := hok.s36
  have Hhok := Lib.hid hok; clear hok; have Hhdg := Lib.hid hdg; clear hdg; have Hhdl := Lib.hid hdl; clear hdl; have Hhw := Lib.hid hw; clear hw
  clear hc
  go_enter Try.func35, Try.ntmps35
  go_wp2_with fail
  obtain ⟨wb, hwb⟩ : ∃ wb, wb = w.alloc (.cells #[.int .i64 D.base, .int .i64 D.states, .int .i64 D.start, .int .i64 D.fin, .slice a n c, .slice a' n' c'] 27) := ⟨_, rfl⟩
  have hxb : Ext w wb := by rw [hwb]; exact (by repeat (first | (with_reducible exact Ext.refl _) | (with_reducible refine Ext.drewN ?_ _) | (with_reducible refine Ext.drew ?_) | (with_reducible refine Ext.alloc ?_ _) | ((with_reducible refine Ext.setCell ?_ ?_ _); rotate_left; focus (first | (simp; done) | (simp; omega) | omega)) | assumption | (with_reducible refine Ext.trans ?_ (by assumption))))
  rw [← hwb] at HB HCk ⊢
  generalize w.heap.size = q at *
  clear hwb
  refine HCk.out.mono ?_
  rintro e w1 ⟨rfl, hx1⟩
  have hxw1 : Ext wb w1 := hx1
  obtain ⟨k0, k1, k2, k3, k4, k5, _, _⟩ := HB.out
  have HPl0 := Lib.hid (show D.places.length = s.size from Hhdl.out.symm)
  have HEn := Lib.hid (spec_l02Ends D q a n c a' n' c' w1 (HB.out.ext hx1) Hhok.out)
  go_wp2_with fail
  refine HEn.out.mono ?_
  rintro e w3 ⟨a3, c3, F, G, C, rfl, hg3, hr3, hy3⟩
  rw [HPl0.out] at hg3 hr3 ⊢
  have HG3 := Lib.hid hg3
  have HR3 := Lib.hid hr3
  have hx3b : Ext wb w3 := hx1.trans hy3
  clear hg3 hr3
  have HDg := Lib.hid (spec_digits s w3 (by omega))
  go_wp2_with fail
  refine HDg.out.mono ?_
  rintro e w2 ⟨a2, c2', rfl, ho, hy2⟩
  rw [show digs s.data.toList = digC s from rfl, I_len, HDl.out] at ho ⊢
  obtain ⟨b, off, hix, hcell⟩ := ho.ints.ix (P := Try.prog) 25 2 und_int64s cell_int64
  have hx32 : Ext w3 w2 := hy2
  have hx3 : Ext wb w2 := hx3b.trans hy2
  have HG2 := Lib.hid (HG3.out.ext hx32)
  clear HG3 hy2 hy3 ho
  have HG3 := HG2
  clear HG2
  have HPl := HPl0
  have HDl2 := HDl
  clear HPl0 HDl
  have hxw3 : Ext w2 w2 := Ext.refl _
  generalize digC s = ds at *
  obtain ⟨n2, hn2⟩ : ∃ n2, n2 = s.size := ⟨_, rfl⟩
  rw [← hn2] at HG3 HR3 HPl HDl2 HR hd20 hix hcell ⊢
  have Hhn2 := Lib.hid hn2; clear hn2
  go_wp2
  obtain ⟨S, hS⟩ := Int.eq_ofNat_of_zero_le (show 0 ≤ D.states by have := Hhok.out.s1; omega)
  have HSn := Lib.hid (show D.states.toNat = S by omega)
  rw [HSn.out] at HG3 HR3
  have HhS := Lib.hid hS; clear hS
  go_loopw [8, 9, 10] (fun r st i wr => ∃ (k : Nat) (R x : Int), k ≤ n2 ∧ i = .int .i64 k ∧ r = .int .i64 R ∧ st = .int .i64 x ∧ Hid (R = rankTo D ds k) ∧ Hid (x = runS D 0 D.start (ds.take k)) ∧ Ext w2 wr) (fun _ _ i _ => n2 - (intOf i).toNat)
  case atStart => exact ⟨0, 0, D.start, Nat.zero_le _, rfl, rfl, rfl, Lib.hid rfl, Lib.hid rfl, (by repeat (first | (with_reducible exact Ext.refl _) | (with_reducible refine Ext.drewN ?_ _) | (with_reducible refine Ext.drew ?_) | (with_reducible refine Ext.alloc ?_ _) | ((with_reducible refine Ext.setCell ?_ ?_ _); rotate_left; focus (first | (simp; done) | (simp; omega) | omega)) | assumption | (with_reducible refine Ext.trans ?_ (by assumption))))⟩
  case round =>
    obtain ⟨k, R, x, hk, rfl, rfl, rfl, HRk, HX, hx⟩ := hrel
    have hxr : Ext w2 wr := hx
    have hx2r : Ext w2 wr := hxw3.trans hx
    have hbr : Ext wb wr := hx3.trans hx
    by_cases hlt : k < n2
    · obtain ⟨d0, d1⟩ := Hhdg.out.at (k := k) (by rw [HDl2.out]; exact hlt)
      have hx01 : 0 ≤ x ∧ x < D.states := by
        rw [HX.out]
        exact runS_bd Hhok.out (ds.take k) 0 D.start (Hhdg.out.take k) (by omega) (by rw [List.length_take, HDl2.out, HPl.out]; omega) Hhok.out.st0 Hhok.out.st1
      obtain ⟨x0, x1⟩ := hx01
      have hRb := rankTo_bd Hhok.out Hhdg.out k (by rw [HDl2.out]; omega) (by rw [HPl.out]; omega)
      rw [← HRk.out] at hRb
      obtain ⟨R0, R1⟩ := hRb
      obtain ⟨dk, hdk⟩ := Int.eq_ofNat_of_zero_le d0
      have HDk := Lib.hid hdk
      have hcd : ∀ w', Ext w2 w' → w'.cell? ⟨b, off + k, none⟩ = some (.int .i64 (dk : Int)) := fun w' h => by rw [hcell k w' hlt h, HDk.out]
      have hdk36 : dk ≤ 36 := by omega
      rw [hdk] at d1
      have HSt := Lib.hid (rankTo_succ D ds k)
      have HXs := Lib.hid (runS_step D (ds := ds) (k := k) (by rw [HDl2.out]; exact hlt) 0 D.start)
      have HNx := Lib.hid (fun W (h : Ext wb W) => spec_next D q a n c a' n' c' (k : Int) x (dk : Int) W (HB.out.ext h) Hhok.out (by omega) (by have := HPl.out; omega) x0 x1 (by omega) d1)
      clear hdk d0
      clear hcell
      go_wp2
      go_loopw [8, 11] (fun r i wr => ∃ (d : Nat) (R' : Int), d ≤ dk ∧ i = .int .i64 d ∧ r = .int .i64 R' ∧ Hid (R' = R + partS D (n2 - k - 1) (k : Int) x d) ∧ Ext w2 wr) (fun _ i _ => dk - (intOf i).toNat)
      case atStart => exact ⟨0, R, Nat.zero_le _, rfl, rfl, Lib.hid (by rw [part_zero]; omega), hx⟩
      case round =>
        obtain ⟨d, R', hdd, rfl, rfl, HR', hx⟩ := hrel
        have hxr : Ext w2 wr := hx
        have hbr : Ext wb wr := hx3.trans hx
        by_cases hld : d < dk
        · obtain ⟨y0, y1⟩ := Hhok.out.next (p := (k : Int)) (x := x) (d := (d : Int)) (by omega) (by have := HPl.out; omega) x0 x1 (by omega) (by omega)
          obtain ⟨y, hy⟩ := Int.eq_ofNat_of_zero_le y0
          have hyS : y < S := by have := HhS.out; omega
          have HCN := Lib.hid (fun W (h : Ext wb W) => spec_next D q a n c a' n' c' (k : Int) x (d : Int) W (HB.out.ext h) Hhok.out (by omega) (by have := HPl.out; omega) x0 x1 (by omega) (by omega))
          have HY := Lib.hid hy
          rw [hy] at HCN
          clear y0 y1 hy
          obtain ⟨b2', o2, g1, g2, g3, g4, _⟩ := HG3.out.one (P := Try.prog) 43 25 und_rows cell_row1 und_int64s cell_int64 (i := k + 1) (x := y) (by omega) hyS
          have g1' : ∀ (K : IntKind) (w' : World), (Instr.indexAt 43 (.slice a3 (n2 + 1) c3) (.int K ((k : Int) + 1))).run Try.prog w' = .ok (.pointer (some ⟨b2', o2, none⟩)) w' := g1
          have hFe := HR3.out.hi (k + 1) (by omega) (by omega) y hyS
          have hv2 : 0 ≤ F (k + 1) y ∧ F (k + 1) y ≤ 1000000000000000 := by
            rw [hFe]
            exact Hhok.out.ends (by rw [HPl.out]; omega) _ _
          have hpb := Hhok.out.part (f := n2 - k - 1) (by rw [HPl.out]; omega) (k : Int) x d (by omega)
          have hRb2 : 0 ≤ R' ∧ R' ≤ 21000000000000000 := by rw [HR'.out]; omega
          have HFe := Lib.hid hFe
          have HPs := Lib.hid (part_succ D (n2 - k - 1) (k : Int) x d)
          obtain ⟨u3, u4⟩ := hv2
          obtain ⟨u5, u6⟩ := hRb2
          clear g1 hFe hpb
          go_wp2
          (refine wp_region_from w2 (by repeat (first | (with_reducible exact Ext.refl _) | (with_reducible refine Ext.drewN ?_ _) | (with_reducible refine Ext.drew ?_) | (with_reducible refine Ext.alloc ?_ _) | ((with_reducible refine Ext.setCell ?_ ?_ _); rotate_left; focus (first | (simp; done) | (simp; omega) | omega)) | assumption | (with_reducible refine Ext.trans ?_ (by assumption)))) (by kernel_rfl) (by kernel_rfl) (by kernel_rfl) ?_; (repeat (first | (refine mix_q rfl ?_; go_big_quiet_step (fail); refine wpQuiet_nil ?_; show wpMix _ _ _ _ _ _ _) | (refine mix_s rfl ?_; go_wp2_with (((with_reducible refine (HCN.out _ (Ext.trans hbr (by repeat (first | (with_reducible exact Ext.refl _) | (with_reducible refine Ext.drewN ?_ _) | (with_reducible refine Ext.drew ?_) | (with_reducible refine Ext.alloc ?_ _) | ((with_reducible refine Ext.setCell ?_ ?_ _); rotate_left; focus (first | (simp; done) | (simp; omega) | omega)) | assumption | (with_reducible refine Ext.trans ?_ (by assumption)))))).mono ?_); rintro e w4 ⟨rfl, hy4⟩; have hxw4 : Ext w2 w4 := Ext.trans (by repeat (first | (with_reducible exact Ext.refl _) | (with_reducible refine Ext.drewN ?_ _) | (with_reducible refine Ext.drew ?_) | (with_reducible refine Ext.alloc ?_ _) | ((with_reducible refine Ext.setCell ?_ ?_ _); rotate_left; focus (first | (simp; done) | (simp; omega) | omega)) | assumption | (with_reducible refine Ext.trans ?_ (by assumption)))) hy4; have hz4 := hy4; clear hy4)); first | refine ⟨up_of (by repeat (first | (with_reducible exact Ext.refl _) | (with_reducible refine Ext.drewN ?_ _) | (with_reducible refine Ext.drew ?_) | (with_reducible refine Ext.alloc ?_ _) | ((with_reducible refine Ext.setCell ?_ ?_ _); rotate_left; focus (first | (simp; done) | (simp; omega) | omega)) | assumption | (with_reducible refine Ext.trans ?_ (by assumption)))), ?_⟩ | refine ⟨rfl, rfl, up_of (by repeat (first | (with_reducible exact Ext.refl _) | (with_reducible refine Ext.drewN ?_ _) | (with_reducible refine Ext.drew ?_) | (with_reducible refine Ext.alloc ?_ _) | ((with_reducible refine Ext.setCell ?_ ?_ _); rotate_left; focus (first | (simp; done) | (simp; omega) | omega)) | assumption | (with_reducible refine Ext.trans ?_ (by assumption)))), ?_⟩))); refine mix_nil ?_)
          go_wp2
          exact ⟨⟨d + 1, R' + F (k + 1) y, by omega, by go_num, rfl, Lib.hid (by rw [HPs.out, HY.out, HR'.out, HFe.out, show n2 - (k + 1) = n2 - k - 1 by omega, show ((k + 1 : Nat) : Int) = (k : Int) + 1 from rfl]; omega), hxw4⟩, by simp [intOf]; omega⟩
        · obtain rfl : d = dk := by omega
          have HRn := Lib.hid (show R' = rankTo D ds (k + 1) by rw [HSt.out, HR'.out, HRk.out, HX.out, HPl.out, HDk.out]; rfl)
          have HXn := Lib.hid (show nextS D (k : Int) x (d : Int) = runS D 0 D.start (ds.take (k + 1)) by rw [HXs.out, HX.out, HDk.out]; simp)
          go_wp2_with (refine (HNx.out _ (by repeat (first | (with_reducible exact Ext.refl _) | (with_reducible refine Ext.drewN ?_ _) | (with_reducible refine Ext.drew ?_) | (with_reducible refine Ext.alloc ?_ _) | ((with_reducible refine Ext.setCell ?_ ?_ _); rotate_left; focus (first | (simp; done) | (simp; omega) | omega)) | assumption | (with_reducible refine Ext.trans ?_ (by assumption))))).mono ?_; rintro e w6 ⟨rfl, hy6⟩)
          exact ⟨⟨k + 1, R', nextS D (k : Int) x (d : Int), by omega, by go_num, rfl, rfl, HRn, HXn, hx.trans hy6⟩, by simp [intOf]; omega⟩
    · obtain rfl : k = n2 := by omega
      go_wp2
      go_ret2
      exact ⟨by rw [HR.out, HRk.out]; rfl, (hxb.trans hx3).trans hx⟩
end Go.Proofs.Ytaiieodllhoelaa
