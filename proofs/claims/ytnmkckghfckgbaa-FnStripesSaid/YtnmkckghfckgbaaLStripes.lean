/- The law on stripes: walked. -/
import Derived.Test.YtnmkckghfckgbaaStpP
import Derived.Test.YtnmkckghfckgbaaDir
namespace Go.Proofs.Ytnmkckghfckgbaa
set_option maxRecDepth 100000
open Go.RowKit

/-- a word of a few digits below N, chosen -/
def RetPrinted (N : Nat) (w : World) (e : Ending) (w' : World) : Prop := ∃ ds : List Int, e = .returned (.string (textOf ds)) ∧ ds.length ≤ 5 ∧ (∀ d ∈ ds, 0 ≤ d ∧ d < N) ∧ Ext w w'
set_option maxHeartbeats 2000000 in
theorem spec_R8Printed (a : Option Addr) (n c : Nat) (l : List UInt8) (N : Nat) (w : World) (h : Bytes w a n c l) (hn : n ≤ 1048576) (hN : 1 ≤ N) (hN2 : N ≤ 36) :
    Calls Try.prog 44 #[.slice a n c, .int .i64 N] w (RetPrinted N w) := by
  have HB := Lib.hid h
  clear h
  go_enter Try.func44, Try.ntmps44
  go_wp2_with fail
  refine (from_b a n c l w HB.out (by omega)).mono ?_
  rintro e w1 ⟨rfl, hs1, hx1, hz1⟩
  obtain ⟨g, hg⟩ : ∃ g, g = w.heap.size := ⟨_, rfl⟩
  rw [← hg] at hs1 hz1 ⊢
  have HS1 := Lib.hid hs1
  have hgw : w.heap.size ≤ g := by omega
  have HZ1 := Lib.hid hz1
  clear hs1 hg hz1 HB
  go_wp2_with fail
  have HSa := Lib.hid (HS1.out.ext ((Ext.refl w1).alloc (.cells #[] 2)))
  refine (pick_b g a n c l 0 6 _ HSa.out (by omega) (by omega) (by omega)).mono ?_
  rintro e w2 ⟨x, k2, rfl, hx0, hx1', hs2, hk2, hk2', ht2⟩
  obtain ⟨R, rfl⟩ := Int.eq_ofNat_of_zero_le hx0
  have hR5 : R ≤ 5 := by omega
  have HS2 := Lib.hid hs2
  have hx2 : Ext w w2 := (hx1.trans ((Ext.refl w1).alloc _)).touch ht2 hgw
  have HO2 := Lib.hid (show Own w2 (g + 1) 2 (some ⟨w1.heap.size, 0, none⟩) 0 0 (I []) from ((Own.lit0 w1 2).mono (by rw [HZ1.out]; exact Nat.le_refl _)).touchNe ht2 (Nat.lt_succ_self g))
  clear hs2 ht2 HSa HS1 hx1 hx1' hx0
  go_wp2
  go_loopw [6, 7] (fun v6 v7 wr => ∃ (j r : Nat) (ad : Option Addr) (cc : Nat) (ds : List Int) (kk : Int), j + r ≤ 5 ∧ v7 = .int .i64 r ∧ v6 = .slice ad j cc ∧ Hid (ds.length = j) ∧ Hid (∀ d ∈ ds, 0 ≤ d ∧ d < (N : Int)) ∧ Hid (Own wr (g + 1) 2 ad j cc (I ds)) ∧ Hid (SrcB wr g a n c l kk) ∧ 0 ≤ kk ∧ kk ≤ 2 + 2 * j ∧ Ext w wr) (fun _ v7 _ => (intOf v7).toNat)
  case atStart => exact ⟨0, R, _, 0, [], k2, by omega, rfl, rfl, rfl, (fun d hd => by cases hd), HO2.out, HS2.out, by omega, by omega, hx2⟩
  case round =>
    obtain ⟨j, r, ad, cc, ds, kk, hjr, rfl, rfl, HL, HD, HO, HS, hk0, hk1, hx⟩ := hrel
    by_cases hr : 0 < r
    · have HP := Lib.hid (pick_b g a n c l kk (N : Int) wr HS.out (by omega) (by omega) (by omega))
      go_wp2_with fail
      refine HP.out.mono ?_
      rintro e w3 ⟨y, k3, rfl, hy0, hy1, hs3, hk3, hk3', ht3⟩
      have hyN : 0 ≤ y ∧ y < (N : Int) := by omega
      have HO3 := Lib.hid (HO.out.touchNe ht3 (Nat.lt_succ_self g))
      have HS3 := Lib.hid hs3
      have hx3 : Ext w w3 := hx.touch ht3 hgw
      have hg3 : g + 1 ≤ w3.heap.size := HS3.out.g
      clear hs3 ht3 HP HO HS hy0 hy1
      go_wp2_with (at_builtin; refine law_append1 _ rfl _ _ 36 rfl 2 (.int .i64 0) 8 und_int64s info_int64 rfl (g + 1) ad j cc _ _ rfl rfl rfl HO3.out hg3 (by omega) (by omega) ?_; intro ad' cc' w4 ho4 hb4 _)
      exact ⟨⟨j + 1, r - 1, ad', cc', ds ++ [y], k3, by omega, by go_num, rfl, by rw [Hid, List.length_append, HL.out, List.length_singleton], by rw [Hid]; exact all_snocB HD.out hyN, by rw [Hid, I_append]; exact ho4, HS3.out.below hb4 (Nat.lt_succ_self g), by omega, by omega, hx3.below (hb4.mono (by omega))⟩, by simp [intOf]; omega⟩
    · have HF := Lib.hid (spec_from ad j cc ds wr HO.out.ints (fun d hd => by have := HD.out d hd; omega) (by omega))
      go_wp2_with (refine HF.out.mono ?_; rintro e w5 ⟨rfl, hy5⟩)
      go_ret
      exact ⟨ds, rfl, by rw [HL.out]; omega, HD.out, hx.trans hy5⟩
set_option maxHeartbeats 8000000 in
theorem lawStripes (a : Option Addr) (n c : Nat) (l : List UInt8) (a' : Option Addr) (n' c' : Nat) (l' : List UInt8) (w : World) (hv : Bytes w a n c l) (hn : n ≤ 9223372036854775807) (hv' : Bytes w a' n' c' l') (hn' : n' ≤ 9223372036854775807) :
    Calls Try.prog 12 #[.slice a n c, .slice a' n' c'] w (Ret (.bool true) w) := by
  have HLong := Lib.hid (laws_r8Long a a' n c n' c' w hn hn')
  have HB := Lib.hid hv
  have HB' := Lib.hid hv'
  clear hv hv'
  by_cases hlong : 48 < n ∨ 48 < n'
  · rw [decide_eq_true hlong] at HLong
    clear hlong
    go_enter Try.func12, Try.ntmps12
    go_wp2_with (refine HLong.out.mono ?_; rintro e w1 ⟨rfl, rfl⟩)
    go_ret
    exact ⟨rfl, Ext.refl _⟩
  rw [decide_eq_false hlong] at HLong
  have hn48 : n ≤ 48 ∧ n' ≤ 48 := by omega
  clear hlong
  go_enter Try.func12, Try.ntmps12
  go_wp2_with (first | (go_at_call 19; refine HLong.out.mono ?_; rintro e w1 ⟨rfl, rfl⟩) | (go_at_call 20; refine (spec_R8Barcode a n c l w HB.out (by omega)).mono ?_; rintro e w1 ⟨D, ad, m, cc, rfl, hval, hm, hst, hx1⟩))
  have hok := validBc_ok hval
  have HOK := Lib.hid hok
  have HV := Lib.hid hval
  have HS := Lib.hid hst
  have hm1 : 1 ≤ m ∧ m ≤ 36 := by have h1 := hok.n1; have h2 := hok.n36; omega
  have hp10 : ∀ p ∈ D.pats, p.size ≤ 1048576 := fun p hp => by
    obtain ⟨i, hi, rfl⟩ := List.mem_iff_getElem.1 hp
    have h1 := hok.size i hi
    rw [gs_get hi] at h1
    have := hok.s10
    omega
  have hs10 := (patB_t hok.start).2.2.1
  have ht10 := (patB_t hok.stop).2.2.1
  have HSt := Lib.hid (fun s W (hs : s.size ≤ 1048576) (h : Ext w1 W) => impl_StripesOf D ad m cc s W (HS.out.ext h) (by omega) (by omega) (by omega) hp10 hs)
  have HRd := Lib.hid (fun b z d ls W (h : Ext w1 W) (hw : Ints W b z d ls) (hz : z ≤ 1048576) => impl_ReadStripes D ad m cc b z d ls W (HS.out.ext h) (by omega) (by omega) (by omega) hp10 hw hz)
  have HSs := Lib.hid (fun b z d ls W (h : Ext w1 W) (hw : Ints W b z d ls) (hz : z ≤ 1048576) => ScanStripes1 D ad m cc b z d ls W (HS.out.ext h) (by omega) (by omega) (by omega) hp10 hw hz)
  have HVa := Lib.hid (fun W (h : Ext w1 W) => impl_ValidBarcode D ad m cc W (HS.out.ext h) (by omega) (by omega) (by omega) hp10)
  rw [HV.out] at HVa
  have HDi := Lib.hid (fun W (h : Ext w1 W) => impl_IsDirected D ad m cc W (HS.out.ext h) (by omega) (by omega) (by omega) hp10)
  obtain ⟨wb, hwb⟩ : ∃ wb, wb = w1.alloc (.cells #[.string D.start, .string D.stop, .slice ad m cc, .int .i64 D.gap] 28) := ⟨_, rfl⟩
  have HBx := Lib.hid (show BcAt wb w1.heap.size D ad m cc from by rw [hwb]; exact bc_box w1 D ad m cc _ HS.out)
  have hx1b : Ext w1 wb := by rw [hwb]; exact (by repeat (first | (with_reducible exact Ext.refl _) | (with_reducible refine Ext.drewN ?_ _) | (with_reducible refine Ext.drew ?_) | (with_reducible refine Ext.alloc ?_ _) | ((with_reducible refine Ext.setCell ?_ ?_ _); rotate_left; focus (first | (simp; done) | (simp; omega) | omega)) | assumption | (with_reducible refine Ext.trans ?_ (by assumption))))
  have hxwb : Ext w wb := hx1.trans hx1b
  rw [← hwb]
  obtain ⟨q, hq⟩ : ∃ q, q = w1.heap.size := ⟨_, rfl⟩
  rw [← hq] at HBx ⊢
  obtain ⟨k0, k1, k2, k3, hps⟩ := HBx.out
  obtain ⟨b0, o0, hix, hcell⟩ := hps.ix (P := Try.prog) 22 9 und_strings cell_string
  clear hwb hq hps HLong hok hval hst
  have hxbb : Ext wb wb := Ext.refl _
  have HPr := Lib.hid (spec_R8Printed a' n' c' l' m wb (HB'.out.ext hxwb) (by omega) (by omega) (by omega))
  have hz1 := r8_bd l' 40 50 (by omega)
  have HR1 := Lib.hid (fun W (h : Ext w W) => laws_r8 a' n' c' l' 40 50 W (HB'.out.ext h) (by omega) (by omega) (by omega))
  generalize r8 l' 40 50 = r1 at *
  obtain ⟨B, hB⟩ : ∃ B, 1 + r1 = B := ⟨_, rfl⟩
  have hB50 : 1 ≤ B ∧ B ≤ 50 := by omega
  go_wp2_with fail
  refine HPr.out.mono ?_
  rintro e w2 ⟨ds, rfl, hds5, hdb, hx2⟩
  have HD := Lib.hid (show DigB D ds from fun d hd => by have := hdb d hd; rw [hm]; omega)
  have hsz : (textOf ds).size = ds.length := textOf_size ds
  have HDg := Lib.hid (digs_text (digB_36 HOK.out HD.out))
  obtain ⟨L1, hL1⟩ : ∃ L1, L1 = stripesL D ds := ⟨_, rfl⟩
  have HSo := Lib.hid (stripes_word HV.out HD.out (by omega))
  have HSt1 := Lib.hid (fun W (h : Ext w1 W) => HSt.out (textOf ds) W (by omega) h)
  rw [HSo.out, HDg.out, ← hL1] at HSt1
  obtain ⟨hr1, hr2⟩ := read_stripes HV.out HD.out (by omega)
  rw [← hL1] at hr1 hr2
  have hs1 : listB L1 = true := by rw [hL1]; exact stripes_listB HOK.out HD.out (by omega)
  have hbd1 : ∀ x ∈ L1, 1 ≤ x ∧ x ≤ 4 := by rw [hL1]; exact stripes_bd4 HOK.out HD.out
  have hL400 : L1.length ≤ 400 := by
    unfold listB at hs1
    simp only [Bool.and_eq_true, decide_eq_true_eq] at hs1
    exact hs1.2.2
  have hs2 : listB (remL (scaleF B) L1) = true := remL_listB hs1 fun i x hx => by
    have h1 := hbd1 x hx
    have h3 : x * 1 ≤ x * B := Int.mul_le_mul_of_nonneg_left hB50.1 (by omega)
    have h4 : x * B ≤ 4 * 50 := Int.mul_le_mul h1.2 hB50.2 (by omega) (by omega)
    unfold scaleF
    omega
  have HSc := Lib.hid (fun a c W (h : Ints W a L1.length c L1) => impl_Scale a L1.length c L1 B W h hs1 (inB_t.2 (by omega)) hs2)
  obtain ⟨hc1, hc2⟩ := scan_stripes HOK.out HD.out (by omega) hB50.1
  rw [← hL1] at hc1 hc2
  rw [wide_rem] at HSc hs2
  have hWl : (wideL B L1).length = L1.length := wideL_len _ _
  obtain ⟨W1, hW1⟩ : ∃ W1, W1 = wideL B L1 := ⟨_, rfl⟩
  rw [← hW1] at HSc hs2 hc1 hc2 hWl
  have hlr := listB_rev hs2
  have HRd1 := Lib.hid (fun b d W (h : Ext w1 W) (hw : Ints W b L1.length d L1) => HRd.out b L1.length d L1 W h hw (by omega))
  rw [hr1, hr2] at HRd1
  have HRdR := Lib.hid (fun b d W (h : Ext w1 W) (hw : Ints W b L1.length d L1.reverse) => HRd.out b L1.length d L1.reverse W h hw (by omega))
  have HSs1 := Lib.hid (fun b d W (h : Ext w1 W) (hw : Ints W b W1.length d W1) => HSs.out b W1.length d W1 W h hw (by omega))
  have HSsR := Lib.hid (fun b d W (h : Ext w1 W) (hw : Ints W b W1.length d W1.reverse) => HSs.out b W1.length d W1.reverse W h hw (by omega))
  have HDir := Lib.hid (fun (h1 : ds.length ≤ 1) (h2 : dirB D = true) => dir_stripes HV.out HD.out h1 h2)
  rw [← hL1] at HDir
  have HW1 := Lib.hid hWl
  have HOk1 := Lib.hid (show ssOk D W1 = !scanB D W1.reverse from by rw [ssOk, HV.out, hs2, hc1]; cases scanB D W1.reverse <;> rfl)
  have HOk2 := Lib.hid (show ssOk D W1.reverse = !scanB D W1.reverse from by rw [ssOk, HV.out, hlr, List.reverse_reverse, hc1]; cases scanB D W1.reverse <;> rfl)
  have HYes := Lib.hid (show scanB D W1.reverse = false → (ssOk D W1 = true ∧ ssFw D W1 = true ∧ ssT D W1 = textOf ds) ∧ ssOk D W1.reverse = true ∧ ssFw D W1.reverse = false ∧ ssT D W1.reverse = textOf ds from fun h => by
    have o1 : ssOk D W1 = true := by rw [HOk1.out, h]; rfl
    have o2 : ssOk D W1.reverse = true := by rw [HOk2.out, h]; rfl
    refine ⟨⟨o1, by rw [ssFw, o1, hc1]; rfl, by rw [ssT, o1, hc1, if_pos rfl, if_pos rfl, hc2]⟩, o2, by rw [ssFw, o2, h]; rfl, by rw [ssT, o2, if_pos rfl, h, if_neg (by decide), List.reverse_reverse, hc2]⟩)
  have hx12 : Ext w1 w2 := hx1b.trans hx2
  have hxw2 : Ext w w2 := hxwb.trans hx2
  obtain ⟨T, hT⟩ : ∃ T, T = textOf ds := ⟨_, rfl⟩
  rw [← hT] at hsz HYes HRd1 HSt1 ⊢
  have HLT := Lib.hid hsz
  have hTsz : T.size ≤ 5 := by omega
  clear hr1 hr2 hs1 hs2 hbd1 hc1 hc2 hlr hL1 hW1 hWl hT hdb HSo HDg HPr HSt HRd HSs hs10 ht10 hp10 hm
  have hWe : ((W1.length : Int) != (L1.length : Int)) = false := by rw [HW1.out]; simp
  have hW400 : W1.length ≤ 400 := by rw [HW1.out]; omega
  go_wp2_with (first | (go_at_call 21; (with_reducible refine (HR1.out _ (by repeat (first | (with_reducible exact Ext.refl _) | (with_reducible assumption) | (with_reducible refine Ext.drewN ?_ _) | (with_reducible refine Ext.drew ?_) | (with_reducible refine Ext.alloc ?_ _) | ((with_reducible refine Ext.setCell ?_ ?_ _); rotate_left; focus (first | (simp; done) | (simp; omega) | omega)) | (with_reducible refine Ext.trans ?_ (by with_reducible assumption))))).mono ?_); rintro e w3 ⟨rfl, rfl⟩) | (go_at_call 32; (with_reducible refine (HSt1.out _ (by repeat (first | (with_reducible exact Ext.refl _) | (with_reducible assumption) | (with_reducible refine Ext.drewN ?_ _) | (with_reducible refine Ext.drew ?_) | (with_reducible refine Ext.alloc ?_ _) | ((with_reducible refine Ext.setCell ?_ ?_ _); rotate_left; focus (first | (simp; done) | (simp; omega) | omega)) | (with_reducible refine Ext.trans ?_ (by with_reducible assumption))))).mono ?_); rintro e w8 ⟨a8, m8, c8, rfl, hy8, ho8⟩; have hx8 : Ext w1 w8 := Ext.trans (by repeat (first | (with_reducible exact Ext.refl _) | (with_reducible assumption) | (with_reducible refine Ext.drewN ?_ _) | (with_reducible refine Ext.drew ?_) | (with_reducible refine Ext.alloc ?_ _) | ((with_reducible refine Ext.setCell ?_ ?_ _); rotate_left; focus (first | (simp; done) | (simp; omega) | omega)) | (with_reducible refine Ext.trans ?_ (by with_reducible assumption)))) hy8; have hxb8 : Ext wb w8 := Ext.trans (by repeat (first | (with_reducible exact Ext.refl _) | (with_reducible assumption) | (with_reducible refine Ext.drewN ?_ _) | (with_reducible refine Ext.drew ?_) | (with_reducible refine Ext.alloc ?_ _) | ((with_reducible refine Ext.setCell ?_ ?_ _); rotate_left; focus (first | (simp; done) | (simp; omega) | omega)) | (with_reducible refine Ext.trans ?_ (by with_reducible assumption)))) hy8; have hxw8 : Ext w w8 := Ext.trans (by repeat (first | (with_reducible exact Ext.refl _) | (with_reducible assumption) | (with_reducible refine Ext.drewN ?_ _) | (with_reducible refine Ext.drew ?_) | (with_reducible refine Ext.alloc ?_ _) | ((with_reducible refine Ext.setCell ?_ ?_ _); rotate_left; focus (first | (simp; done) | (simp; omega) | omega)) | (with_reducible refine Ext.trans ?_ (by with_reducible assumption)))) hy8; obtain rfl : L1.length = m8 := (by have h := ho8.len; rwa [if_pos rfl, I_len] at h); rw [if_pos rfl] at ho8; have HO8 := Lib.hid ho8; clear hy8 ho8) | (go_at_call 41; (with_reducible refine (HRd1.out _ _ _ (by repeat (first | (with_reducible exact Ext.refl _) | (with_reducible assumption) | (with_reducible refine Ext.drewN ?_ _) | (with_reducible refine Ext.drew ?_) | (with_reducible refine Ext.alloc ?_ _) | ((with_reducible refine Ext.setCell ?_ ?_ _); rotate_left; focus (first | (simp; done) | (simp; omega) | omega)) | (with_reducible refine Ext.trans ?_ (by with_reducible assumption)))) (HO8.out.ints.ext (by repeat (first | (with_reducible exact Ext.refl _) | (with_reducible assumption) | (with_reducible refine Ext.drewN ?_ _) | (with_reducible refine Ext.drew ?_) | (with_reducible refine Ext.alloc ?_ _) | ((with_reducible refine Ext.setCell ?_ ?_ _); rotate_left; focus (first | (simp; done) | (simp; omega) | omega)) | (with_reducible refine Ext.trans ?_ (by with_reducible assumption)))))).mono ?_); rintro e w9 ⟨rfl, hy9⟩; have hx9 : Ext w8 w9 := Ext.trans (by repeat (first | (with_reducible exact Ext.refl _) | (with_reducible assumption) | (with_reducible refine Ext.drewN ?_ _) | (with_reducible refine Ext.drew ?_) | (with_reducible refine Ext.alloc ?_ _) | ((with_reducible refine Ext.setCell ?_ ?_ _); rotate_left; focus (first | (simp; done) | (simp; omega) | omega)) | (with_reducible refine Ext.trans ?_ (by with_reducible assumption)))) hy9; clear hy9) | (go_at_call 37; (with_reducible refine (HSc.out _ _ _ (HO8.out.ints.ext (by repeat (first | (with_reducible exact Ext.refl _) | (with_reducible assumption) | (with_reducible refine Ext.drewN ?_ _) | (with_reducible refine Ext.drew ?_) | (with_reducible refine Ext.alloc ?_ _) | ((with_reducible refine Ext.setCell ?_ ?_ _); rotate_left; focus (first | (simp; done) | (simp; omega) | omega)) | (with_reducible refine Ext.trans ?_ (by with_reducible assumption)))))).mono ?_); rintro e w10 ⟨a10, _, c10, rfl, rfl, ho10, hy10⟩; have hx10 : Ext w8 w10 := Ext.trans (by repeat (first | (with_reducible exact Ext.refl _) | (with_reducible assumption) | (with_reducible refine Ext.drewN ?_ _) | (with_reducible refine Ext.drew ?_) | (with_reducible refine Ext.alloc ?_ _) | ((with_reducible refine Ext.setCell ?_ ?_ _); rotate_left; focus (first | (simp; done) | (simp; omega) | omega)) | (with_reducible refine Ext.trans ?_ (by with_reducible assumption)))) hy10; have hx110 : Ext w1 w10 := hx8.trans hx10; have hxb10 : Ext wb w10 := hxb8.trans hx10; have HO10 := Lib.hid ho10; clear hy10 ho10) | (go_at_call 45; (with_reducible refine (HVa.out _ (by repeat (first | (with_reducible exact Ext.refl _) | (with_reducible assumption) | (with_reducible refine Ext.drewN ?_ _) | (with_reducible refine Ext.drew ?_) | (with_reducible refine Ext.alloc ?_ _) | ((with_reducible refine Ext.setCell ?_ ?_ _); rotate_left; focus (first | (simp; done) | (simp; omega) | omega)) | (with_reducible refine Ext.trans ?_ (by with_reducible assumption))))).mono ?_); rintro e w11 ⟨rfl, hy11⟩; have hx11 : Ext w10 w11 := Ext.trans (by repeat (first | (with_reducible exact Ext.refl _) | (with_reducible assumption) | (with_reducible refine Ext.drewN ?_ _) | (with_reducible refine Ext.drew ?_) | (with_reducible refine Ext.alloc ?_ _) | ((with_reducible refine Ext.setCell ?_ ?_ _); rotate_left; focus (first | (simp; done) | (simp; omega) | omega)) | (with_reducible refine Ext.trans ?_ (by with_reducible assumption)))) hy11; have hx111 : Ext w1 w11 := hx110.trans hx11; have hxb11 : Ext wb w11 := hxb10.trans hx11; clear hy11))
  obtain ⟨yes, hyes⟩ : ∃ yes, yes = !scanB D W1.reverse := ⟨_, rfl⟩
  have HYs := Lib.hid (show yes = true → T = ssT D W1 ∧ true = ssFw D W1 ∧ T = ssT D W1.reverse ∧ false = ssFw D W1.reverse from fun h => by
    have hr : scanB D W1.reverse = false := by rw [hyes] at h; simpa using h
    obtain ⟨⟨_, y2, y3⟩, _, y5, y6⟩ := HYes.out hr
    exact ⟨y3.symm, y2.symm, y6.symm, y5.symm⟩)
  rw [HOk1.out, ← hyes] at HSs1
  rw [HOk2.out, ← hyes] at HSsR
  generalize ssFw D W1 = fw1 at *
  generalize ssT D W1 = T1 at *
  generalize ssFw D W1.reverse = fw2 at *
  generalize ssT D W1.reverse = T2 at *
  clear hyes HYes HOk1 HOk2
  have hxW8 : Ext w8 w10 := hx10
  have hx8w : Ext w8 w11 := hx10.trans hx11
  go_wp2_with (go_at_call 46; (with_reducible refine (HSs1.out _ _ _ (by repeat (first | (with_reducible exact Ext.refl _) | (with_reducible assumption) | (with_reducible refine Ext.drewN ?_ _) | (with_reducible refine Ext.drew ?_) | (with_reducible refine Ext.alloc ?_ _) | ((with_reducible refine Ext.setCell ?_ ?_ _); rotate_left; focus (first | (simp; done) | (simp; omega) | omega)) | (with_reducible refine Ext.trans ?_ (by with_reducible assumption)))) (HO10.out.ints.ext (by repeat (first | (with_reducible exact Ext.refl _) | (with_reducible assumption) | (with_reducible refine Ext.drewN ?_ _) | (with_reducible refine Ext.drew ?_) | (with_reducible refine Ext.alloc ?_ _) | ((with_reducible refine Ext.setCell ?_ ?_ _); rotate_left; focus (first | (simp; done) | (simp; omega) | omega)) | (with_reducible refine Ext.trans ?_ (by with_reducible assumption)))))).mono ?_); rintro e w12 ⟨rfl, hy12⟩; have hx12b : Ext w11 w12 := hy12; clear hy12)
  have hxqS : Ext w10 w12 := hx11.trans hx12b
  have hxbq : Ext wb w12 := hxb11.trans hx12b
  have hx8q : Ext w8 w12 := hx8w.trans hx12b
  obtain ⟨bW, oW, hixW, hcellW⟩ := HO10.out.ints.ix (P := Try.prog) 36 2 und_int64s cell_int64
  go_loopw [16, 17] (fun v16 v17 wr => ∃ (j : Nat) (z : Int) (ax : Option Addr) (cx : Nat), z + 1 + j = (W1.length : Int) ∧ -1 ≤ z ∧ v17 = .int .i64 z ∧ v16 = .slice ax j cx ∧ Hid (Own wr w12.heap.size 2 ax j cx (I (W1.reverse.take j))) ∧ Ext w12 wr) (fun _ v17 _ => (intOf v17 + 1).toNat)
  case atStart => exact ⟨0, (W1.length : Int) - 1, _, _, by omega, by omega, rfl, rfl, Own.lit0 _ _, (Ext.refl _).alloc _⟩
  case round =>
    obtain ⟨j, z, ax, cx, hz, hz1', rfl, rfl, HO, hx⟩ := hrel
    have hxr : Ext w12 wr := hx
    have hxW : Ext w10 wr := hxqS.trans hx
    have hxbr : Ext wb wr := hxbq.trans hx
    have hx1r : Ext w1 wr := hx1b.trans hxbr
    have hxwr : Ext w wr := hxwb.trans hxbr
    clear hx
    by_cases hzp : 0 ≤ z
    · obtain ⟨i, rfl⟩ := Int.eq_ofNat_of_zero_le hzp
      have hil : i < W1.length := by omega
      have HN := Lib.hid (rev_step (l := W1) (k := j) (by omega))
      rw [show W1.length - 1 - j = i by omega] at HN
      have HZ := Lib.hid hz
      clear hz
      go_wp2_with (at_builtin; refine law_append1 _ rfl _ _ 36 rfl 2 (.int .i64 0) 8 und_int64s info_int64 rfl w12.heap.size ax j cx _ _ rfl rfl rfl HO.out hxr.le (by have := HZ.out; omega) (by omega) ?_; intro ax' cx' w9' ho9 hb9 _; have hxq9 : Ext w12 w9' := Ext.below hxr hb9)
      exact ⟨⟨j + 1, (i : Int) - 1, ax', cx', by have := HZ.out; omega, by omega, rfl, rfl, by rw [Hid, HN.out, I_append]; exact ho9, hxq9⟩, by simp [intOf]⟩
    obtain rfl : z = -1 := by omega
    obtain rfl : j = W1.length := by omega
    have HR := Lib.hid (show Own wr w12.heap.size 2 ax W1.length cx (I W1.reverse) from by have h := HO.out; rwa [take_full (by rw [List.length_reverse]; exact Nat.le_refl _)] at h)
    clear hz hzp HO hixW hcellW
    cases yes
    · clear HYs
      go_wp2_with (go_at_call 46; (with_reducible refine (HSsR.out _ _ _ (by repeat (first | (with_reducible exact Ext.refl _) | (with_reducible assumption) | (with_reducible refine Ext.drewN ?_ _) | (with_reducible refine Ext.drew ?_) | (with_reducible refine Ext.alloc ?_ _) | ((with_reducible refine Ext.setCell ?_ ?_ _); rotate_left; focus (first | (simp; done) | (simp; omega) | omega)) | (with_reducible refine Ext.trans ?_ (by with_reducible assumption)))) HR.out.ints).mono ?_); rintro e w13 ⟨rfl, hy13⟩; have hx13 : Ext wr w13 := hy13; have hx113 : Ext w1 w13 := hx1r.trans hy13; have hxw13 : Ext w w13 := hxwr.trans hy13; have hxb13 : Ext wb w13 := hxbr.trans hy13; clear hy13)
      go_ret
      exact ⟨rfl, hxw13⟩
    obtain ⟨rfl, rfl, rfl, rfl⟩ := HYs.out rfl
    clear HYs
    by_cases hd1 : ds.length ≤ 1
    rotate_left
    · have hT1 : (1 : Int) < (T.size : Int) := by omega
      clear hd1 HDir hsz
      go_wp2_with (go_at_call 46; (with_reducible refine (HSsR.out _ _ _ (by repeat (first | (with_reducible exact Ext.refl _) | (with_reducible assumption) | (with_reducible refine Ext.drewN ?_ _) | (with_reducible refine Ext.drew ?_) | (with_reducible refine Ext.alloc ?_ _) | ((with_reducible refine Ext.setCell ?_ ?_ _); rotate_left; focus (first | (simp; done) | (simp; omega) | omega)) | (with_reducible refine Ext.trans ?_ (by with_reducible assumption)))) HR.out.ints).mono ?_); rintro e w13 ⟨rfl, hy13⟩; have hx13 : Ext wr w13 := hy13; have hx113 : Ext w1 w13 := hx1r.trans hy13; have hxw13 : Ext w w13 := hxwr.trans hy13; have hxb13 : Ext wb w13 := hxbr.trans hy13; clear hy13)
      go_ret
      exact ⟨rfl, hxw13⟩
    have hT1 : ¬ (1 : Int) < (T.size : Int) := by omega
    cases hdir : dirB D
    · rw [hdir] at HDi
      clear hdir HDir hd1 hsz
      go_wp2_with (first | (go_at_call 46; (with_reducible refine (HSsR.out _ _ _ (by repeat (first | (with_reducible exact Ext.refl _) | (with_reducible assumption) | (with_reducible refine Ext.drewN ?_ _) | (with_reducible refine Ext.drew ?_) | (with_reducible refine Ext.alloc ?_ _) | ((with_reducible refine Ext.setCell ?_ ?_ _); rotate_left; focus (first | (simp; done) | (simp; omega) | omega)) | (with_reducible refine Ext.trans ?_ (by with_reducible assumption)))) HR.out.ints).mono ?_); rintro e w13 ⟨rfl, hy13⟩; have hx13 : Ext wr w13 := hy13; have hx113 : Ext w1 w13 := hx1r.trans hy13; have hxw13 : Ext w w13 := hxwr.trans hy13; have hxb13 : Ext wb w13 := hxbr.trans hy13; clear hy13) | (go_at_call 43; (with_reducible refine (HDi.out _ (by repeat (first | (with_reducible exact Ext.refl _) | (with_reducible assumption) | (with_reducible refine Ext.drewN ?_ _) | (with_reducible refine Ext.drew ?_) | (with_reducible refine Ext.alloc ?_ _) | ((with_reducible refine Ext.setCell ?_ ?_ _); rotate_left; focus (first | (simp; done) | (simp; omega) | omega)) | (with_reducible refine Ext.trans ?_ (by with_reducible assumption))))).mono ?_); rintro e w14 ⟨rfl, hy14⟩; have hx14 : Ext w13 w14 := hy14; have hxw14 : Ext w w14 := hxw13.trans hy14; have hx814 : Ext w8 w14 := hx8q.trans (hxr.trans (hx13.trans hy14)); have hx114 : Ext w1 w14 := hx113.trans hy14; have hxb14 : Ext wb w14 := hxb13.trans hy14; clear hy14))
      go_ret
      exact ⟨rfl, hxw14⟩
    rw [hdir] at HDi
    have HNo := Lib.hid (HDir.out hd1 hdir)
    rw [HNo.out] at HRdR
    generalize readOk D L1.reverse = tR at *
    clear hdir HDir hd1 hsz HNo
    go_wp2_with (first | (go_at_call 46; (with_reducible refine (HSsR.out _ _ _ (by repeat (first | (with_reducible exact Ext.refl _) | (with_reducible assumption) | (with_reducible refine Ext.drewN ?_ _) | (with_reducible refine Ext.drew ?_) | (with_reducible refine Ext.alloc ?_ _) | ((with_reducible refine Ext.setCell ?_ ?_ _); rotate_left; focus (first | (simp; done) | (simp; omega) | omega)) | (with_reducible refine Ext.trans ?_ (by with_reducible assumption)))) HR.out.ints).mono ?_); rintro e w13 ⟨rfl, hy13⟩; have hx13 : Ext wr w13 := hy13; have hx113 : Ext w1 w13 := hx1r.trans hy13; have hxw13 : Ext w w13 := hxwr.trans hy13; have hxb13 : Ext wb w13 := hxbr.trans hy13; clear hy13) | (go_at_call 43; (with_reducible refine (HDi.out _ (by repeat (first | (with_reducible exact Ext.refl _) | (with_reducible assumption) | (with_reducible refine Ext.drewN ?_ _) | (with_reducible refine Ext.drew ?_) | (with_reducible refine Ext.alloc ?_ _) | ((with_reducible refine Ext.setCell ?_ ?_ _); rotate_left; focus (first | (simp; done) | (simp; omega) | omega)) | (with_reducible refine Ext.trans ?_ (by with_reducible assumption))))).mono ?_); rintro e w14 ⟨rfl, hy14⟩; have hx14 : Ext w13 w14 := hy14; have hxw14 : Ext w w14 := hxw13.trans hy14; have hx814 : Ext w8 w14 := hx8q.trans (hxr.trans (hx13.trans hy14)); have hx114 : Ext w1 w14 := hx113.trans hy14; have hxb14 : Ext wb w14 := hxb13.trans hy14; clear hy14))
    obtain ⟨bW, oW, hixW, hcellW⟩ := HO8.out.ints.ix (P := Try.prog) 36 2 und_int64s cell_int64
    go_loopw [21, 22] (fun v21 v22 wr => ∃ (j : Nat) (z : Int) (ax : Option Addr) (cx : Nat), z + 1 + j = (L1.length : Int) ∧ -1 ≤ z ∧ v22 = .int .i64 z ∧ v21 = .slice ax j cx ∧ Hid (Own wr w14.heap.size 2 ax j cx (I (L1.reverse.take j))) ∧ Ext w14 wr) (fun _ v22 _ => (intOf v22 + 1).toNat)
    case atStart => exact ⟨0, (L1.length : Int) - 1, _, _, by omega, by omega, rfl, rfl, Own.lit0 _ _, (Ext.refl _).alloc _⟩
    case round =>
      obtain ⟨j, z, ay, cy, hz, hz1', rfl, rfl, HO, hx⟩ := hrel
      have hxv : Ext w14 wr := hx
      have hxW : Ext w8 wr := hx814.trans hx
      have hx1v : Ext w1 wr := hx114.trans hx
      have hxwv : Ext w wr := hxw14.trans hx
      have hxbv : Ext wb wr := hxb14.trans hx
      clear hx
      by_cases hzp : 0 ≤ z
      · obtain ⟨i, rfl⟩ := Int.eq_ofNat_of_zero_le hzp
        have hil : i < L1.length := by omega
        have HN := Lib.hid (rev_step (l := L1) (k := j) (by omega))
        rw [show L1.length - 1 - j = i by omega] at HN
        have HZ := Lib.hid hz
        clear hz
        go_wp2_with (at_builtin; refine law_append1 _ rfl _ _ 36 rfl 2 (.int .i64 0) 8 und_int64s info_int64 rfl w14.heap.size ay j cy _ _ rfl rfl rfl HO.out hxv.le (by have := HZ.out; omega) (by omega) ?_; intro ax' cx' w9' ho9 hb9 _; have hxq9 : Ext w14 w9' := Ext.below hxv hb9)
        exact ⟨⟨j + 1, (i : Int) - 1, ax', cx', by have := HZ.out; omega, by omega, rfl, rfl, by rw [Hid, HN.out, I_append]; exact ho9, hxq9⟩, by simp [intOf]⟩
      obtain rfl : z = -1 := by omega
      obtain rfl : j = L1.length := by omega
      have HR2 := Lib.hid (show Own wr w14.heap.size 2 ay L1.length cy (I L1.reverse) from by have h := HO.out; rwa [take_full (by rw [List.length_reverse]; exact Nat.le_refl _)] at h)
      clear hz hzp HO hixW hcellW
      go_wp2_with (go_at_call 41; (with_reducible refine (HRdR.out _ _ _ (by repeat (first | (with_reducible exact Ext.refl _) | (with_reducible assumption) | (with_reducible refine Ext.drewN ?_ _) | (with_reducible refine Ext.drew ?_) | (with_reducible refine Ext.alloc ?_ _) | ((with_reducible refine Ext.setCell ?_ ?_ _); rotate_left; focus (first | (simp; done) | (simp; omega) | omega)) | (with_reducible refine Ext.trans ?_ (by with_reducible assumption)))) HR2.out.ints).mono ?_); rintro e w20 ⟨rfl, hy20⟩)
      go_ret
      exact ⟨rfl, hxwv.trans hy20⟩
end Go.Proofs.Ytnmkckghfckgbaa
