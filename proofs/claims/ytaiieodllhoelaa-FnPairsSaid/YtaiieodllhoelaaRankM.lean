/- Walks: RankOfWord. -/
import Derived.Test.YtaiieodllhoelaaChW
import Derived.Test.YtaiieodllhoelaaEnds
import Derived.Test.YtaiieodllhoelaaDigA
namespace Go.Proofs.Ytaiieodllhoelaa
set_option maxRecDepth 100000
open Go.RowKit

def rankTo (D : Ch) (ds : List Int) (k : Nat) : Int := ((List.range k).map fun (i : Nat) => partS D (D.places.length - i - 1) (i : Int) (runS D 0 D.start (ds.take i)) (gi ds i).toNat).sum
theorem rankTo_succ (D : Ch) (ds : List Int) (k : Nat) : rankTo D ds (k + 1) = rankTo D ds k + partS D (D.places.length - k - 1) (k : Int) (runS D 0 D.start (ds.take k)) (gi ds k).toNat := by
  unfold rankTo; rw [List.range_succ, List.map_append, List.sum_append]; simp
theorem rankTo_bd {D : Ch} (hok : OkCh D) {ds : List Int} (hd : DigC D ds) : ∀ k, k ≤ ds.length → k ≤ D.places.length → 0 ≤ rankTo D ds k ∧ rankTo D ds k ≤ k * 1000000000000000
  | 0, _, _ => by simp [rankTo]
  | k + 1, h1, h2 => by
    have ih := rankTo_bd hok hd k (by omega) (by omega)
    have h3 := hd.at (k := k) (by omega)
    have h4 := hok.part (f := D.places.length - k - 1) (by omega) (k : Int) (runS D 0 D.start (ds.take k)) (gi ds k).toNat (by omega)
    rw [rankTo_succ]
    omega
def rkRes (D : Ch) (s : ByteArray) : Int := if chkB D s then rankTo D (digC s) s.size else 0
theorem chk_parts {D : Ch} {s : ByteArray} (h : chkB D s = true) : OkCh D ∧ wordCh D s = true := by
  unfold chkB runOk at h
  simp only [Bool.and_eq_true] at h
  exact ⟨validCh_ok h.1.1, h.1.2⟩
set_option maxHeartbeats 4000000 in
theorem impl_RankOfWord (D : Ch) (a : Option Addr) (n c : Nat) (a' : Option Addr) (n' c' : Nat) (s : ByteArray) (w : World) (hv : ChIn w D a n c a' n' c') (hs : s.size ≤ 1048576) :
    Calls Try.prog 20 #[.agg #[.int .i64 D.base, .int .i64 D.states, .int .i64 D.start, .int .i64 D.fin, .slice a n c, .slice a' n' c'], .string s] w (Ret2 (.int .i64 (rkRes D s)) (.bool (chkB D s)) w) := by
  have HB := Lib.hid (hv.box 27)
  have HCk := Lib.hid (fun W h => impl_IsChecked D a n c a' n' c' s W (ChIn.ext hv h) hs)
  have HDl := Lib.hid (digC_len s)
  clear hv
  cases hc : chkB D s
  · rw [hc] at HCk
    have HF := Lib.hid hc
    clear hc
    go_enter Try.func20, Try.ntmps20
    go_wp2_with (refine (HCk.out _ ((Ext.refl w).alloc _)).mono ?_; rintro e w1 ⟨rfl, hx1⟩)
    go_ret2
    exact ⟨by rw [rkRes, HF.out]; rfl, ((Ext.refl w).alloc _).trans hx1⟩
  obtain ⟨hok, hw⟩ := chk_parts hc
  obtain ⟨hdg, hdl, hd20⟩ := wordCh_t hw
  rw [hc] at HCk
  have HR := Lib.hid (show rkRes D s = rankTo D (digC s) s.size by rw [rkRes, hc]; rfl)
  have b36 := hok.b36
  have s36 := hok.s36
  have Hhok := Lib.hid hok; clear hok; have Hhdg := Lib.hid hdg; clear hdg; have Hhdl := Lib.hid hdl; clear hdl; have Hhw := Lib.hid hw; clear hw
  clear hc
  go_enter Try.func20, Try.ntmps20
  go_wp2_with fail
  obtain ⟨wb, hwb⟩ : ∃ wb, wb = w.alloc (.cells #[.int .i64 D.base, .int .i64 D.states, .int .i64 D.start, .int .i64 D.fin, .slice a n c, .slice a' n' c'] 27) := ⟨_, rfl⟩
  have hxb : Ext w wb := by rw [hwb]; exact (by repeat (first | (with_reducible exact Ext.refl _) | (with_reducible refine Ext.drewN ?_ _) | (with_reducible refine Ext.drew ?_) | (with_reducible refine Ext.alloc ?_ _) | ((with_reducible refine Ext.setCell ?_ ?_ _); rotate_left; focus (first | (simp; done) | (simp; omega) | omega)) | assumption | (with_reducible refine Ext.trans ?_ (by assumption))))
  rw [← hwb] at HB ⊢
  generalize w.heap.size = q at *
  clear hwb
  refine (HCk.out _ hxb).mono ?_
  rintro e w1 ⟨rfl, hx1⟩
  have HW := Lib.hid (impl_chWord D q a n c a' n' c' s w1 (HB.out.ext hx1) hs)
  rw [Hhw.out] at HW
  obtain ⟨k0, k1, k2, k3, k4, k5, _, _⟩ := HB.out
  go_wp2_with fail
  refine HW.out.mono ?_
  rintro e w2 ⟨a2, n2, c2', rfl, hx2, ho2⟩
  have ho := ho2 rfl
  have hl : s.size = n2 := by have := ho.len; rw [I_len] at this; rw [← HDl.out]; exact this
  have hx12 : Ext wb w2 := hx1.trans hx2
  rw [hl] at HR hd20
  have HPl := Lib.hid (show D.places.length = n2 by rw [← hl]; exact Hhdl.out.symm)
  have HDl2 := Lib.hid (show (digC s).length = n2 by rw [HDl.out, hl])
  obtain ⟨b, off, hix, hcell⟩ := ho.ints.ix (P := Try.prog) 25 2 und_int64s cell_int64
  have Hhl := Lib.hid hl; clear hl
  clear ho2 HW ho
  generalize digC s = ds at *
  have HEn := Lib.hid (fun W (h : Ext w2 W) => impl_ends D q a n c a' n' c' W (HB.out.ext (hx12.trans h)) Hhok.out)
  go_wp2
  (refine wp_region_from w2 (by repeat (first | (with_reducible exact Ext.refl _) | (with_reducible refine Ext.drewN ?_ _) | (with_reducible refine Ext.drew ?_) | (with_reducible refine Ext.alloc ?_ _) | ((with_reducible refine Ext.setCell ?_ ?_ _); rotate_left; focus (first | (simp; done) | (simp; omega) | omega)) | assumption | (with_reducible refine Ext.trans ?_ (by assumption)))) (by kernel_rfl) (by kernel_rfl) (by kernel_rfl) ?_; (repeat (first | (refine mix_q rfl ?_; go_big_quiet_step (fail); refine wpQuiet_nil ?_; show wpMix _ _ _ _ _ _ _) | (refine mix_s rfl ?_; go_wp2_with (((with_reducible refine (HEn.out _ (by repeat (first | (with_reducible exact Ext.refl _) | (with_reducible refine Ext.drewN ?_ _) | (with_reducible refine Ext.drew ?_) | (with_reducible refine Ext.alloc ?_ _) | ((with_reducible refine Ext.setCell ?_ ?_ _); rotate_left; focus (first | (simp; done) | (simp; omega) | omega)) | assumption | (with_reducible refine Ext.trans ?_ (by assumption))))).mono ?_); rintro e w3 ⟨a3, c3, F, G, C, rfl, hg3, hr3, hy3⟩; have hxw3 : Ext w2 w3 := Ext.trans (by repeat (first | (with_reducible exact Ext.refl _) | (with_reducible refine Ext.drewN ?_ _) | (with_reducible refine Ext.drew ?_) | (with_reducible refine Ext.alloc ?_ _) | ((with_reducible refine Ext.setCell ?_ ?_ _); rotate_left; focus (first | (simp; done) | (simp; omega) | omega)) | assumption | (with_reducible refine Ext.trans ?_ (by assumption)))) hy3; have hz3 := hy3; clear hy3; rw [HPl.out] at hg3 hr3 ⊢; have HG3 := Lib.hid hg3; have HR3 := Lib.hid hr3; clear hg3 hr3)); first | refine ⟨up_of (by repeat (first | (with_reducible exact Ext.refl _) | (with_reducible refine Ext.drewN ?_ _) | (with_reducible refine Ext.drew ?_) | (with_reducible refine Ext.alloc ?_ _) | ((with_reducible refine Ext.setCell ?_ ?_ _); rotate_left; focus (first | (simp; done) | (simp; omega) | omega)) | assumption | (with_reducible refine Ext.trans ?_ (by assumption)))), ?_⟩ | refine ⟨rfl, rfl, up_of (by repeat (first | (with_reducible exact Ext.refl _) | (with_reducible refine Ext.drewN ?_ _) | (with_reducible refine Ext.drew ?_) | (with_reducible refine Ext.alloc ?_ _) | ((with_reducible refine Ext.setCell ?_ ?_ _); rotate_left; focus (first | (simp; done) | (simp; omega) | omega)) | assumption | (with_reducible refine Ext.trans ?_ (by assumption)))), ?_⟩))); refine mix_nil ?_)
  go_wp2
  have hx3 : Ext wb w3 := hx12.trans hxw3
  obtain ⟨S, hS⟩ := Int.eq_ofNat_of_zero_le (show 0 ≤ D.states by have := Hhok.out.s1; omega)
  have HSn := Lib.hid (show D.states.toNat = S by omega)
  rw [HSn.out] at HG3 HR3
  have HhS := Lib.hid hS; clear hS
  go_loopw [9, 10, 11, 12, 28] (fun r st _ _ i wr => ∃ (k : Nat) (R x : Int), k ≤ n2 ∧ i = .int .i64 k ∧ r = .int .i64 R ∧ st = .int .i64 x ∧ Hid (R = rankTo D ds k) ∧ Hid (x = runS D 0 D.start (ds.take k)) ∧ Ext w3 wr) (fun _ _ _ _ i _ => n2 - (intOf i).toNat)
  case atStart => exact ⟨0, 0, D.start, Nat.zero_le _, rfl, rfl, rfl, Lib.hid rfl, Lib.hid rfl, (by repeat (first | (with_reducible exact Ext.refl _) | (with_reducible refine Ext.drewN ?_ _) | (with_reducible refine Ext.drew ?_) | (with_reducible refine Ext.alloc ?_ _) | ((with_reducible refine Ext.setCell ?_ ?_ _); rotate_left; focus (first | (simp; done) | (simp; omega) | omega)) | assumption | (with_reducible refine Ext.trans ?_ (by assumption))))⟩
  case round =>
    obtain ⟨k, R, x, hk, rfl, rfl, rfl, HRk, HX, hx⟩ := hrel
    have hxr : Ext w3 wr := hx
    have hx2r : Ext w2 wr := hxw3.trans hx
    have hbr : Ext wb wr := hx3.trans hx
    by_cases hlt : k < n2
    · obtain ⟨d0, d1⟩ := Hhdg.out.at (k := k) (by rw [HDl2.out]; exact hlt)
      have hx01 : 0 ≤ x ∧ x < D.states := by
        rw [HX.out]
        exact runS_bd Hhok.out (ds.take k) 0 D.start (Hhdg.out.take k) (by omega) (by rw [List.length_take, HDl2.out, HPl.out]; omega) Hhok.out.st0 Hhok.out.st1
      obtain ⟨x0, x1⟩ := hx01
      have hRb := rankTo_bd Hhok.out Hhdg.out k (by rw [HDl2.out]; omega) (by rw [HPl.out]; omega)
      rw [← HRk.out] at hRb
      obtain ⟨R0, R1⟩ := hRb
      obtain ⟨dk, hdk⟩ := Int.eq_ofNat_of_zero_le d0
      have HDk := Lib.hid hdk
      have hcd : ∀ w', Ext w2 w' → w'.cell? ⟨b, off + k, none⟩ = some (.int .i64 (dk : Int)) := fun w' h => by rw [hcell k w' hlt h, HDk.out]
      have hdk36 : dk ≤ 36 := by omega
      rw [hdk] at d1
      have HSt := Lib.hid (rankTo_succ D ds k)
      have HXs := Lib.hid (runS_step D (ds := ds) (k := k) (by rw [HDl2.out]; exact hlt) 0 D.start)
      have HNx := Lib.hid (fun W (h : Ext wb W) => impl_next D q a n c a' n' c' (k : Int) x (dk : Int) W (HB.out.ext h) Hhok.out (by omega) (by have := HPl.out; omega) x0 x1 (by omega) d1)
      clear hdk d0
      clear hcell
      go_wp2
      go_loopw [9, 13, 34] (fun r _ i wr => ∃ (d : Nat) (R' : Int), d ≤ dk ∧ i = .int .i64 d ∧ r = .int .i64 R' ∧ Hid (R' = R + partS D (n2 - k - 1) (k : Int) x d) ∧ Ext w3 wr) (fun _ _ i _ => dk - (intOf i).toNat)
      case atStart => exact ⟨0, R, Nat.zero_le _, rfl, rfl, Lib.hid (by rw [part_zero]; omega), hx⟩
      case round =>
        obtain ⟨d, R', hdd, rfl, rfl, HR', hx⟩ := hrel
        have hxr : Ext w3 wr := hx
        have hbr : Ext wb wr := hx3.trans hx
        by_cases hld : d < dk
        · obtain ⟨y0, y1⟩ := Hhok.out.next (p := (k : Int)) (x := x) (d := (d : Int)) (by omega) (by have := HPl.out; omega) x0 x1 (by omega) (by omega)
          obtain ⟨y, hy⟩ := Int.eq_ofNat_of_zero_le y0
          have hyS : y < S := by have := HhS.out; omega
          have HCN := Lib.hid (fun W (h : Ext wb W) => impl_next D q a n c a' n' c' (k : Int) x (d : Int) W (HB.out.ext h) Hhok.out (by omega) (by have := HPl.out; omega) x0 x1 (by omega) (by omega))
          have HY := Lib.hid hy
          rw [hy] at HCN
          clear y0 y1 hy
          obtain ⟨b2', o2, g1, g2, g3, g4, _⟩ := HG3.out.one (P := Try.prog) 88 25 und_grid cell_row1 und_int64s cell_int64 (i := k + 1) (x := y) (by omega) hyS
          have g1' : ∀ (K : IntKind) (w' : World), (Instr.indexAt 88 (.slice a3 (n2 + 1) c3) (.int K ((k : Int) + 1))).run Try.prog w' = .ok (.pointer (some ⟨b2', o2, none⟩)) w' := g1
          have hFe := HR3.out.hi (k + 1) (by omega) (by omega) y hyS
          have hv2 : 0 ≤ F (k + 1) y ∧ F (k + 1) y ≤ 1000000000000000 := by
            rw [hFe]
            exact Hhok.out.ends (by rw [HPl.out]; omega) _ _
          have hpb := Hhok.out.part (f := n2 - k - 1) (by rw [HPl.out]; omega) (k : Int) x d (by omega)
          have hRb2 : 0 ≤ R' ∧ R' ≤ 21000000000000000 := by rw [HR'.out]; omega
          have HFe := Lib.hid hFe
          have HPs := Lib.hid (part_succ D (n2 - k - 1) (k : Int) x d)
          obtain ⟨u3, u4⟩ := hv2
          obtain ⟨u5, u6⟩ := hRb2
          clear g1 hFe hpb
          go_wp2
          (refine wp_region_from w3 (by repeat (first | (with_reducible exact Ext.refl _) | (with_reducible refine Ext.drewN ?_ _) | (with_reducible refine Ext.drew ?_) | (with_reducible refine Ext.alloc ?_ _) | ((with_reducible refine Ext.setCell ?_ ?_ _); rotate_left; focus (first | (simp; done) | (simp; omega) | omega)) | assumption | (with_reducible refine Ext.trans ?_ (by assumption)))) (by kernel_rfl) (by kernel_rfl) (by kernel_rfl) ?_; (repeat (first | (refine mix_q rfl ?_; go_big_quiet_step (fail); refine wpQuiet_nil ?_; show wpMix _ _ _ _ _ _ _) | (refine mix_s rfl ?_; go_wp2_with (((with_reducible refine (HCN.out _ (Ext.trans hbr (by repeat (first | (with_reducible exact Ext.refl _) | (with_reducible refine Ext.drewN ?_ _) | (with_reducible refine Ext.drew ?_) | (with_reducible refine Ext.alloc ?_ _) | ((with_reducible refine Ext.setCell ?_ ?_ _); rotate_left; focus (first | (simp; done) | (simp; omega) | omega)) | assumption | (with_reducible refine Ext.trans ?_ (by assumption)))))).mono ?_); rintro e w4 ⟨rfl, hy4⟩; have hxw4 : Ext w3 w4 := Ext.trans (by repeat (first | (with_reducible exact Ext.refl _) | (with_reducible refine Ext.drewN ?_ _) | (with_reducible refine Ext.drew ?_) | (with_reducible refine Ext.alloc ?_ _) | ((with_reducible refine Ext.setCell ?_ ?_ _); rotate_left; focus (first | (simp; done) | (simp; omega) | omega)) | assumption | (with_reducible refine Ext.trans ?_ (by assumption)))) hy4; have hz4 := hy4; clear hy4)); first | refine ⟨up_of (by repeat (first | (with_reducible exact Ext.refl _) | (with_reducible refine Ext.drewN ?_ _) | (with_reducible refine Ext.drew ?_) | (with_reducible refine Ext.alloc ?_ _) | ((with_reducible refine Ext.setCell ?_ ?_ _); rotate_left; focus (first | (simp; done) | (simp; omega) | omega)) | assumption | (with_reducible refine Ext.trans ?_ (by assumption)))), ?_⟩ | refine ⟨rfl, rfl, up_of (by repeat (first | (with_reducible exact Ext.refl _) | (with_reducible refine Ext.drewN ?_ _) | (with_reducible refine Ext.drew ?_) | (with_reducible refine Ext.alloc ?_ _) | ((with_reducible refine Ext.setCell ?_ ?_ _); rotate_left; focus (first | (simp; done) | (simp; omega) | omega)) | assumption | (with_reducible refine Ext.trans ?_ (by assumption)))), ?_⟩))); refine mix_nil ?_)
          go_wp2
          exact ⟨⟨d + 1, R' + F (k + 1) y, by omega, by go_num, rfl, Lib.hid (by rw [HPs.out, HY.out, HR'.out, HFe.out, show n2 - (k + 1) = n2 - k - 1 by omega, show ((k + 1 : Nat) : Int) = (k : Int) + 1 from rfl]; omega), hxw4⟩, by simp [intOf]; omega⟩
        · obtain rfl : d = dk := by omega
          have HRn := Lib.hid (show R' = rankTo D ds (k + 1) by rw [HSt.out, HR'.out, HRk.out, HX.out, HPl.out, HDk.out]; rfl)
          have HXn := Lib.hid (show nextS D (k : Int) x (d : Int) = runS D 0 D.start (ds.take (k + 1)) by rw [HXs.out, HX.out, HDk.out]; simp)
          go_wp2_with (refine (HNx.out _ (by repeat (first | (with_reducible exact Ext.refl _) | (with_reducible refine Ext.drewN ?_ _) | (with_reducible refine Ext.drew ?_) | (with_reducible refine Ext.alloc ?_ _) | ((with_reducible refine Ext.setCell ?_ ?_ _); rotate_left; focus (first | (simp; done) | (simp; omega) | omega)) | assumption | (with_reducible refine Ext.trans ?_ (by assumption))))).mono ?_; rintro e w6 ⟨rfl, hy6⟩)
          exact ⟨⟨k + 1, R', nextS D (k : Int) x (d : Int), by omega, by go_num, rfl, rfl, HRn, HXn, hx.trans hy6⟩, by simp [intOf]; omega⟩
    · obtain rfl : k = n2 := by omega
      go_wp2
      go_ret2
      exact ⟨by rw [HR.out, HRk.out]; rfl, (hxb.trans hx3).trans hx⟩
set_option maxHeartbeats 4000000 in
theorem spec_RankOfWord (D : Ch) (a : Option Addr) (n c : Nat) (a' : Option Addr) (n' c' : Nat) (s : ByteArray) (w : World) (hv : ChIn w D a n c a' n' c') (hs : s.size ≤ 1048576) :
    Calls Try.prog 35 #[.agg #[.int .i64 D.base, .int .i64 D.states, .int .i64 D.start, .int .i64 D.fin, .slice a n c, .slice a' n' c'], .string s] w (Ret2 (.int .i64 (rkRes D s)) (.bool (chkB D s)) w) := by
  have HB := Lib.hid (hv.box 27)
  have HCk := Lib.hid (spec_l02Checked D w.heap.size a n c a' n' c' s _ HB.out hv.hn hv.hn' hv.sm hs)
  have HDl := Lib.hid (digC_len s)
  clear hv
  cases hc : chkB D s
  · rw [hc] at HCk
    have HF := Lib.hid hc
    clear hc
    go_enter Try.func35, Try.ntmps35
    go_wp2_with (refine HCk.out.mono ?_; rintro e w1 ⟨rfl, hx1⟩)
    go_ret2
    exact ⟨by rw [rkRes, HF.out]; rfl, ((Ext.refl w).alloc _).trans hx1⟩
  obtain ⟨hok, hw⟩ := chk_parts hc
  obtain ⟨hdg, hdl, hd20⟩ := wordCh_t hw
  rw [hc] at HCk
  have HR := Lib.hid (show rkRes D s = rankTo D (digC s) s.size by rw [rkRes, hc]; rfl)
  have b36 := hok.b36
  have s36 := hok.s36
  have Hhok := Lib.hid hok; clear hok; have Hhdg := Lib.hid hdg; clear hdg; have Hhdl := Lib.hid hdl; clear hdl; have Hhw := Lib.hid hw; clear hw
  clear hc
  go_enter Try.func35, Try.ntmps35
  go_wp2_with fail
  obtain ⟨wb, hwb⟩ : ∃ wb, wb = w.alloc (.cells #[.int .i64 D.base, .int .i64 D.states, .int .i64 D.start, .int .i64 D.fin, .slice a n c, .slice a' n' c'] 27) := ⟨_, rfl⟩
  have hxb : Ext w wb := by rw [hwb]; exact (by repeat (first | (with_reducible exact Ext.refl _) | (with_reducible refine Ext.drewN ?_ _) | (with_reducible refine Ext.drew ?_) | (with_reducible refine Ext.alloc ?_ _) | ((with_reducible refine Ext.setCell ?_ ?_ _); rotate_left; focus (first | (simp; done) | (simp; omega) | omega)) | assumption | (with_reducible refine Ext.trans ?_ (by assumption))))
  rw [← hwb] at HB HCk ⊢
  generalize w.heap.size = q at *
  clear hwb
  refine HCk.out.mono ?_
  rintro e w1 ⟨rfl, hx1⟩
  have hxw1 : Ext wb w1 := hx1
  obtain ⟨k0, k1, k2, k3, k4, k5, _, _⟩ := HB.out
  have HPl0 := Lib.hid (show D.places.length = s.size from Hhdl.out.symm)
  have HEn := Lib.hid (spec_l02Ends D q a n c a' n' c' w1 (HB.out.ext hx1) Hhok.out)
  go_wp2_with fail
  refine HEn.out.mono ?_
  rintro e w3 ⟨a3, c3, F, G, C, rfl, hg3, hr3, hy3⟩
  rw [HPl0.out] at hg3 hr3 ⊢
  have HG3 := Lib.hid hg3
  have HR3 := Lib.hid hr3
  have hx3b : Ext wb w3 := hx1.trans hy3
  clear hg3 hr3
  have HDg := Lib.hid (spec_digits s w3 (by omega))
  go_wp2_with fail
  refine HDg.out.mono ?_
  rintro e w2 ⟨a2, c2', rfl, ho, hy2⟩
  rw [show digs s.data.toList = digC s from rfl, I_len, HDl.out] at ho ⊢
  obtain ⟨b, off, hix, hcell⟩ := ho.ints.ix (P := Try.prog) 25 2 und_int64s cell_int64
  have hx32 : Ext w3 w2 := hy2
  have hx3 : Ext wb w2 := hx3b.trans hy2
  have HG2 := Lib.hid (HG3.out.ext hx32)
  clear HG3 hy2 hy3 ho
  have HG3 := HG2
  clear HG2
  have HPl := HPl0
  have HDl2 := HDl
  clear HPl0 HDl
  have hxw3 : Ext w2 w2 := Ext.refl _
  generalize digC s = ds at *
  obtain ⟨n2, hn2⟩ : ∃ n2, n2 = s.size := ⟨_, rfl⟩
  rw [← hn2] at HG3 HR3 HPl HDl2 HR hd20 hix hcell ⊢
  have Hhn2 := Lib.hid hn2; clear hn2
  go_wp2
  obtain ⟨S, hS⟩ := Int.eq_ofNat_of_zero_le (show 0 ≤ D.states by have := Hhok.out.s1; omega)
  have HSn := Lib.hid (show D.states.toNat = S by omega)
  rw [HSn.out] at HG3 HR3
  have HhS := Lib.hid hS; clear hS
  go_loopw [8, 9, 10] (fun r st i wr => ∃ (k : Nat) (R x : Int), k ≤ n2 ∧ i = .int .i64 k ∧ r = .int .i64 R ∧ st = .int .i64 x ∧ Hid (R = rankTo D ds k) ∧ Hid (x = runS D 0 D.start (ds.take k)) ∧ Ext w2 wr) (fun _ _ i _ => n2 - (intOf i).toNat)
  case atStart => exact ⟨0, 0, D.start, Nat.zero_le _, rfl, rfl, rfl, Lib.hid rfl, Lib.hid rfl, (by repeat (first | (with_reducible exact Ext.refl _) | (with_reducible refine Ext.drewN ?_ _) | (with_reducible refine Ext.drew ?_) | (with_reducible refine Ext.alloc ?_ _) | ((with_reducible refine Ext.setCell ?_ ?_ _); rotate_left; focus (first | (simp; done) | (simp; omega) | omega)) | assumption | (with_reducible refine Ext.trans ?_ (by assumption))))⟩
  case round =>
    obtain ⟨k, R, x, hk, rfl, rfl, rfl, HRk, HX, hx⟩ := hrel
    have hxr : Ext w2 wr := hx
    have hx2r : Ext w2 wr := hxw3.trans hx
    have hbr : Ext wb wr := hx3.trans hx
    by_cases hlt : k < n2
    · obtain ⟨d0, d1⟩ := Hhdg.out.at (k := k) (by rw [HDl2.out]; exact hlt)
      have hx01 : 0 ≤ x ∧ x < D.states := by
        rw [HX.out]
        exact runS_bd Hhok.out (ds.take k) 0 D.start (Hhdg.out.take k) (by omega) (by rw [List.length_take, HDl2.out, HPl.out]; omega) Hhok.out.st0 Hhok.out.st1
      obtain ⟨x0, x1⟩ := hx01
      have hRb := rankTo_bd Hhok.out Hhdg.out k (by rw [HDl2.out]; omega) (by rw [HPl.out]; omega)
      rw [← HRk.out] at hRb
      obtain ⟨R0, R1⟩ := hRb
      obtain ⟨dk, hdk⟩ := Int.eq_ofNat_of_zero_le d0
      have HDk := Lib.hid hdk
      have hcd : ∀ w', Ext w2 w' → w'.cell? ⟨b, off + k, none⟩ = some (.int .i64 (dk : Int)) := fun w' h => by rw [hcell k w' hlt h, HDk.out]
      have hdk36 : dk ≤ 36 := by omega
      rw [hdk] at d1
      have HSt := Lib.hid (rankTo_succ D ds k)
      have HXs := Lib.hid (runS_step D (ds := ds) (k := k) (by rw [HDl2.out]; exact hlt) 0 D.start)
      have HNx := Lib.hid (fun W (h : Ext wb W) => spec_next D q a n c a' n' c' (k : Int) x (dk : Int) W (HB.out.ext h) Hhok.out (by omega) (by have := HPl.out; omega) x0 x1 (by omega) d1)
      clear hdk d0
      clear hcell
      go_wp2
      go_loopw [8, 11] (fun r i wr => ∃ (d : Nat) (R' : Int), d ≤ dk ∧ i = .int .i64 d ∧ r = .int .i64 R' ∧ Hid (R' = R + partS D (n2 - k - 1) (k : Int) x d) ∧ Ext w2 wr) (fun _ i _ => dk - (intOf i).toNat)
      case atStart => exact ⟨0, R, Nat.zero_le _, rfl, rfl, Lib.hid (by rw [part_zero]; omega), hx⟩
      case round =>
        obtain ⟨d, R', hdd, rfl, rfl, HR', hx⟩ := hrel
        have hxr : Ext w2 wr := hx
        have hbr : Ext wb wr := hx3.trans hx
        by_cases hld : d < dk
        · obtain ⟨y0, y1⟩ := Hhok.out.next (p := (k : Int)) (x := x) (d := (d : Int)) (by omega) (by have := HPl.out; omega) x0 x1 (by omega) (by omega)
          obtain ⟨y, hy⟩ := Int.eq_ofNat_of_zero_le y0
          have hyS : y < S := by have := HhS.out; omega
          have HCN := Lib.hid (fun W (h : Ext wb W) => spec_next D q a n c a' n' c' (k : Int) x (d : Int) W (HB.out.ext h) Hhok.out (by omega) (by have := HPl.out; omega) x0 x1 (by omega) (by omega))
          have HY := Lib.hid hy
          rw [hy] at HCN
          clear y0 y1 hy
          obtain ⟨b2', o2, g1, g2, g3, g4, _⟩ := HG3.out.one (P := Try.prog) 43 25 und_rows cell_row1 und_int64s cell_int64 (i := k + 1) (x := y) (by omega) hyS
          have g1' : ∀ (K : IntKind) (w' : World), (Instr.indexAt 43 (.slice a3 (n2 + 1) c3) (.int K ((k : Int) + 1))).run Try.prog w' = .ok (.pointer (some ⟨b2', o2, none⟩)) w' := g1
          have hFe := HR3.out.hi (k + 1) (by omega) (by omega) y hyS
          have hv2 : 0 ≤ F (k + 1) y ∧ F (k + 1) y ≤ 1000000000000000 := by
            rw [hFe]
            exact Hhok.out.ends (by rw [HPl.out]; omega) _ _
          have hpb := Hhok.out.part (f := n2 - k - 1) (by rw [HPl.out]; omega) (k : Int) x d (by omega)
          have hRb2 : 0 ≤ R' ∧ R' ≤ 21000000000000000 := by rw [HR'.out]; omega
          have HFe := Lib.hid hFe
          have HPs := Lib.hid (part_succ D (n2 - k - 1) (k : Int) x d)
          obtain ⟨u3, u4⟩ := hv2
          obtain ⟨u5, u6⟩ := hRb2
          clear g1 hFe hpb
          go_wp2
          (refine wp_region_from w2 (by repeat (first | (with_reducible exact Ext.refl _) | (with_reducible refine Ext.drewN ?_ _) | (with_reducible refine Ext.drew ?_) | (with_reducible refine Ext.alloc ?_ _) | ((with_reducible refine Ext.setCell ?_ ?_ _); rotate_left; focus (first | (simp; done) | (simp; omega) | omega)) | assumption | (with_reducible refine Ext.trans ?_ (by assumption)))) (by kernel_rfl) (by kernel_rfl) (by kernel_rfl) ?_; (repeat (first | (refine mix_q rfl ?_; go_big_quiet_step (fail); refine wpQuiet_nil ?_; show wpMix _ _ _ _ _ _ _) | (refine mix_s rfl ?_; go_wp2_with (((with_reducible refine (HCN.out _ (Ext.trans hbr (by repeat (first | (with_reducible exact Ext.refl _) | (with_reducible refine Ext.drewN ?_ _) | (with_reducible refine Ext.drew ?_) | (with_reducible refine Ext.alloc ?_ _) | ((with_reducible refine Ext.setCell ?_ ?_ _); rotate_left; focus (first | (simp; done) | (simp; omega) | omega)) | assumption | (with_reducible refine Ext.trans ?_ (by assumption)))))).mono ?_); rintro e w4 ⟨rfl, hy4⟩; have hxw4 : Ext w2 w4 := Ext.trans (by repeat (first | (with_reducible exact Ext.refl _) | (with_reducible refine Ext.drewN ?_ _) | (with_reducible refine Ext.drew ?_) | (with_reducible refine Ext.alloc ?_ _) | ((with_reducible refine Ext.setCell ?_ ?_ _); rotate_left; focus (first | (simp; done) | (simp; omega) | omega)) | assumption | (with_reducible refine Ext.trans ?_ (by assumption)))) hy4; have hz4 := hy4; clear hy4)); first | refine ⟨up_of (by repeat (first | (with_reducible exact Ext.refl _) | (with_reducible refine Ext.drewN ?_ _) | (with_reducible refine Ext.drew ?_) | (with_reducible refine Ext.alloc ?_ _) | ((with_reducible refine Ext.setCell ?_ ?_ _); rotate_left; focus (first | (simp; done) | (simp; omega) | omega)) | assumption | (with_reducible refine Ext.trans ?_ (by assumption)))), ?_⟩ | refine ⟨rfl, rfl, up_of (by repeat (first | (with_reducible exact Ext.refl _) | (with_reducible refine Ext.drewN ?_ _) | (with_reducible refine Ext.drew ?_) | (with_reducible refine Ext.alloc ?_ _) | ((with_reducible refine Ext.setCell ?_ ?_ _); rotate_left; focus (first | (simp; done) | (simp; omega) | omega)) | assumption | (with_reducible refine Ext.trans ?_ (by assumption)))), ?_⟩))); refine mix_nil ?_)
          go_wp2
          exact ⟨⟨d + 1, R' + F (k + 1) y, by omega, by go_num, rfl, Lib.hid (by rw [HPs.out, HY.out, HR'.out, HFe.out, show n2 - (k + 1) = n2 - k - 1 by omega, show ((k + 1 : Nat) : Int) = (k : Int) + 1 from rfl]; omega), hxw4⟩, by simp [intOf]; omega⟩
        · obtain rfl : d = dk := by omega
          have HRn := Lib.hid (show R' = rankTo D ds (k + 1) by rw [HSt.out, HR'.out, HRk.out, HX.out, HPl.out, HDk.out]; rfl)
          have HXn := Lib.hid (show nextS D (k : Int) x (d : Int) = runS D 0 D.start (ds.take (k + 1)) by rw [HXs.out, HX.out, HDk.out]; simp)
          go_wp2_with (refine (HNx.out _ (by repeat (first | (with_reducible exact Ext.refl _) | (with_reducible refine Ext.drewN ?_ _) | (with_reducible refine Ext.drew ?_) | (with_reducible refine Ext.alloc ?_ _) | ((with_reducible refine Ext.setCell ?_ ?_ _); rotate_left; focus (first | (simp; done) | (simp; omega) | omega)) | assumption | (with_reducible refine Ext.trans ?_ (by assumption))))).mono ?_; rintro e w6 ⟨rfl, hy6⟩)
          exact ⟨⟨k + 1, R', nextS D (k : Int) x (d : Int), by omega, by go_num, rfl, rfl, HRn, HXn, hx.trans hy6⟩, by simp [intOf]; omega⟩
    · obtain rfl : k = n2 := by omega
      go_wp2
      go_ret2
      exact ⟨by rw [HR.out, HRk.out]; rfl, (hxb.trans hx3).trans hx⟩
end Go.Proofs.Ytaiieodllhoelaa

/- Plain: the rank of a checked word; the words rise; a symbol more or another one in a text. -/
namespace Go.Proofs.Ytaiieodllhoelaa
set_option maxRecDepth 100000
open Go.RowKit

/-- the rank of a word among those that lead from x to the end -/
def rkS (D : Ch) : Nat → Int → Int → List Int → Int
  | f + 1, p, x, d :: ds => partS D f p x d.toNat + rkS D f (p + 1) (nextS D p x d) ds
  | _, _, _, _ => 0
theorem tail_rank {D : Ch} {f : Nat} {p x : Int} (ih : ∀ (p x : Int) (r : Nat), r < (wordsS D f p x).length → rkS D f p x ((wordsS D f p x).getD r []) = (r : Int)) :
    ∀ (k d r : Nat), D.base.toNat - d = k → r < (tailS D f p x d).length → rkS D (f + 1) p x ((tailS D f p x d).getD r []) = partS D f p x d + r
  | 0, d, r, hk, hr => by rw [tailS_end D f p x d (by omega)] at hr; simp at hr
  | k + 1, d, r, hk, hr => by
    have hd : d < D.base.toNat := by omega
    have h2 := words_len D f (p + 1) (nextS D p x (d : Int))
    by_cases hlt : (r : Int) < endsS D f (p + 1) (nextS D p x (d : Int))
    · rw [tail_get_lt hd hlt, rkS, ih _ _ r (by omega), Int.toNat_natCast]
    · have h3 := tail_len (D := D) (f := f) (p := p) (x := x) hd
      rw [tail_get_ge hd (by omega), tail_rank ih k (d + 1) _ (by omega) (by omega), part_succ]
      omega
theorem rank_at {D : Ch} : ∀ (f : Nat) (p x : Int) (r : Nat), r < (wordsS D f p x).length → rkS D f p x ((wordsS D f p x).getD r []) = (r : Int)
  | 0, p, x, r, h => by
    unfold wordsS at h
    split at h
    · simp at h; subst h; simp [rkS]
    · simp at h
  | f + 1, p, x, r, h => by
    rw [words_succ] at h ⊢
    rw [tail_rank (fun p x r h => rank_at f p x r h) _ 0 r rfl h, part_zero]
    omega
theorem rk_sum {D : Ch} : ∀ (f : Nat) (p x : Int) (ds : List Int), ds.length = f → rkS D f p x ds = ((List.range f).map fun (i : Nat) => partS D (f - i - 1) (p + i) (runS D p x (ds.take i)) (gi ds i).toNat).sum
  | 0, p, x, ds, h => by simp [rkS]
  | f + 1, p, x, [], h => by simp at h
  | f + 1, p, x, d :: ds, h => by
    rw [rkS, rk_sum f (p + 1) (nextS D p x d) ds (by simpa using h), List.range_succ_eq_map, List.map_cons, List.sum_cons, List.map_map]
    congr 1
    · simp [gi, runS]
    · congr 1
      apply List.map_congr_left
      intro i _
      show partS D (f - i - 1) (p + 1 + i) (runS D (p + 1) (nextS D p x d) (ds.take i)) (gi ds i).toNat = partS D (f + 1 - (i + 1) - 1) (p + ((i + 1 : Nat) : Int)) (runS D p x ((d :: ds).take (i + 1))) (gi (d :: ds) (i + 1)).toNat
      rw [show f + 1 - (i + 1) - 1 = f - i - 1 by omega, show p + ((i + 1 : Nat) : Int) = p + 1 + i by omega, List.take_succ_cons, runS]
      simp [gi]
theorem rankTo_words {D : Ch} (hok : OkCh D) {r : Nat} (h : r < (wordsA D).length) : rankTo D ((wordsA D).getD r []) D.places.length = (r : Int) := by
  obtain ⟨h1, _, _⟩ := wordsA_mem hok (getD_mem' (l := wordsA D) (d := []) h)
  have h2 : rkS D D.places.length 0 D.start ((wordsA D).getD r []) = (r : Int) := rank_at (D := D) D.places.length 0 D.start r h
  rw [rk_sum _ _ _ _ h1] at h2
  unfold rankTo
  rw [← h2]
  congr 1
  apply List.map_congr_left
  intro i _
  show partS D (D.places.length - i - 1) (i : Int) (runS D 0 D.start (((wordsA D).getD r []).take i)) _ = partS D (D.places.length - i - 1) (0 + (i : Int)) (runS D 0 D.start ((wordsS D D.places.length 0 D.start).getD r [] |>.take i)) _
  rw [Int.zero_add]
  rfl

/-! ### texts -/
theorem all_mapD (l : List UInt8) (p : Int → Bool) : (l.all fun c => p (dig c)) = (digs l).all p := by
  unfold digs; rw [List.all_map]; rfl
theorem wordB_text {ds : List Int} {b : Int} (hb : 2 ≤ b ∧ b ≤ 36) (hd : ∀ d ∈ ds, 0 ≤ d ∧ d < b) (hl : ds.length ≤ 20) : wordB (textOf ds).data.toList b 20 = true := by
  have hd36 : Dig36 ds := fun d h => by have := hd d h; omega
  refine wordB_yes ?_ (inB_t.2 hb) ?_
  · rw [all_mapD _ (fun x => inB x 0 (b - 1)), show digs (textOf ds).data.toList = ds from digC_text hd36, List.all_eq_true]
    intro d h
    have := hd d h
    exact inB_t.2 ⟨by omega, by omega⟩
  · have : (textOf ds).data.toList.length = ds.length := by rw [Array.length_toList]; exact textOf_size ds
    rw [this]; omega
theorem wordCh_text {D : Ch} (hok : OkCh D) {ds : List Int} (hd : DigC D ds) (hl : ds.length = D.places.length) : wordCh D (textOf ds) = true := by
  have h20 := hok.p20
  rw [wordCh, wordB_text ⟨hok.b2, hok.b36⟩ hd (by omega), textOf_size, hl]
  simp
theorem runOk_text {D : Ch} (hok : OkCh D) (hv : validCh D = true) {ds : List Int} (hd : DigC D ds) (hl : ds.length = D.places.length) : runOk D (textOf ds) = true := by
  rw [runOk, hv, wordCh_text hok hd hl]; rfl
theorem runEnd_text {D : Ch} {ds : List Int} (hd : Dig36 ds) : runEnd D (textOf ds) = runS D 0 D.start ds := by rw [runEnd, digC_text hd]
theorem chkB_text {D : Ch} (hok : OkCh D) (hv : validCh D = true) {ds : List Int} (hd : DigC D ds) (hl : ds.length = D.places.length) : chkB D (textOf ds) = decide (runS D 0 D.start ds = D.fin) := by
  rw [chkB, runOk_text hok hv hd hl, runEnd_text (dig36_of hok.b36 hd)]; rfl
theorem rk_wordR {D : Ch} (hok : OkCh D) (hv : validCh D = true) {r : Nat} (h : r < (wordsA D).length) : chkB D (wordR D (r + 1)) = true ∧ rkRes D (wordR D (r + 1)) = (r : Int) := by
  have hm := getD_mem' (l := wordsA D) (d := []) h
  obtain ⟨h1, h2, h3⟩ := wordsA_mem hok hm
  have hr := ((mem_words (by have := hok.b2; omega) _ _ _ _).1 hm).2.2
  have hc : chkB D (wordR D (r + 1)) = true := by
    show chkB D (textOf _) = true
    rw [chkB_text hok hv h2 h1, hr]; simp
  refine ⟨hc, ?_⟩
  rw [rkRes, if_pos hc, wordR_len hok h]
  show rankTo D (digC (textOf _)) _ = _
  rw [digC_text h3, rankTo_words hok h]

/-! ### the words rise -/
theorem words_rise (D : Ch) : ∀ (f : Nat) (p x : Int), (wordsS D f p x).Pairwise (· < ·)
  | 0, p, x => by unfold wordsS; split <;> simp
  | f + 1, p, x => by
    unfold wordsS
    rw [List.pairwise_flatMap]
    refine ⟨fun d _ => ?_, ?_⟩
    · rw [List.pairwise_map]
      exact (words_rise D f _ _).imp fun {a b} h => List.cons_lt_cons_iff.2 (.inr ⟨rfl, h⟩)
    · refine List.pairwise_lt_range.imp fun {a b} h u hu v hv => ?_
      obtain ⟨u', _, rfl⟩ := List.mem_map.1 hu
      obtain ⟨v', _, rfl⟩ := List.mem_map.1 hv
      exact List.cons_lt_cons_iff.2 (.inl (by omega))
def symU (d : Int) : UInt8 := UInt8.ofNat (sym d).toNat
theorem text_data (ds : List Int) : (textOf ds).data.toList = ds.map symU := by
  rw [textOf, strOfNums_data, List.map_map]; rfl
theorem symU_lt_all : ∀ a b : Fin 36, a.val < b.val → symU (a.val : Int) < symU (b.val : Int) := by decide +kernel
theorem symU_lt {a b : Int} (ha : 0 ≤ a) (hb : b ≤ 35) (h : a < b) : symU a < symU b := by
  have := symU_lt_all ⟨a.toNat, by omega⟩ ⟨b.toNat, by omega⟩ (by simp only; omega)
  simp only [Int.toNat_of_nonneg ha, Int.toNat_of_nonneg (show 0 ≤ b by omega)] at this
  exact this
theorem text_lt : ∀ {ds es : List Int}, Dig36 ds → Dig36 es → ds < es → ds.map symU < es.map symU
  | _, [], _, _, h => absurd h (List.not_lt_nil _)
  | [], e :: es, _, _, _ => List.nil_lt_cons _ _
  | d :: ds, e :: es, hd, he, h => by
    rw [List.map_cons, List.map_cons]
    have h1 := hd d (List.mem_cons_self ..)
    have h2 := he e (List.mem_cons_self ..)
    rcases List.cons_lt_cons_iff.1 h with h' | ⟨rfl, h'⟩
    · exact List.cons_lt_cons_iff.2 (.inl (symU_lt h1.1 h2.2 h'))
    · exact List.cons_lt_cons_iff.2 (.inr ⟨rfl, text_lt (fun x hx => hd x (List.mem_cons_of_mem _ hx)) (fun x hx => he x (List.mem_cons_of_mem _ hx)) h'⟩)
theorem wordR_lt {D : Ch} (hok : OkCh D) {i j : Nat} (hij : i < j) (h : j < (wordsA D).length) : (wordR D (i + 1)).data.toList < (wordR D (j + 1)).data.toList := by
  have hp := List.pairwise_iff_getElem.1 (words_rise D D.places.length 0 D.start) i j (by show i < (wordsA D).length; omega) h hij
  obtain ⟨_, _, h3⟩ := wordsA_mem hok (getD_mem' (l := wordsA D) (d := []) (k := i) (by omega))
  obtain ⟨_, _, h3'⟩ := wordsA_mem hok (getD_mem' (l := wordsA D) (d := []) (k := j) h)
  show (textOf _).data.toList < (textOf _).data.toList
  rw [text_data, text_data]
  refine text_lt h3 h3' ?_
  rw [List.getD_eq_getElem?_getD, List.getD_eq_getElem?_getD, List.getElem?_eq_getElem h, List.getElem?_eq_getElem (show i < (wordsA D).length by omega)]
  exact hp
/-! ### pieces of texts -/
theorem ba_ext' {a b : ByteArray} (h : a.data.toList = b.data.toList) : a = b := ByteArray.ext (Array.toList_inj.1 h)
theorem text_app (a b : List Int) : textOf (a ++ b) = textOf a ++ textOf b := by
  apply ba_ext'
  rw [text_data, ByteArray.data_append, Array.toList_append, text_data, text_data, List.map_append]
theorem text_cut (ds : List Int) (i j : Nat) : (textOf ds).extract i j = textOf ((ds.take j).drop i) := by
  apply ba_ext'
  rw [ByteArray.data_extract, Array.toList_extract, List.extract_eq_take_drop, text_data, text_data, List.map_drop, List.map_take, List.drop_take]
theorem text_inj {ds es : List Int} (hd : Dig36 ds) (he : Dig36 es) (h : textOf ds = textOf es) : ds = es := by
  rw [← digC_text hd, h, digC_text he]
end Go.Proofs.Ytaiieodllhoelaa
