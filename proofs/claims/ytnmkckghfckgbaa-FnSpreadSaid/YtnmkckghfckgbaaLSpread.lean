/- The law on spread patterns: walked. -/
import Derived.Test.YtnmkckghfckgbaaSprL
namespace Go.Proofs.Ytnmkckghfckgbaa
set_option maxRecDepth 100000
open Go.RowKit

set_option maxHeartbeats 8000000 in
theorem lawSpread (a : Option Addr) (n c : Nat) (l : List UInt8) (a' : Option Addr) (n' c' : Nat) (l' : List UInt8) (w : World) (hv : Bytes w a n c l) (hn : n ≤ 9223372036854775807) (hv' : Bytes w a' n' c' l') (hn' : n' ≤ 9223372036854775807) :
    Calls Try.prog 9 #[.slice a n c, .slice a' n' c'] w (Ret (.bool true) w) := by
  have HLong := Lib.hid (laws_r8Long a a' n c n' c' w hn hn')
  have HB := Lib.hid hv
  have HB' := Lib.hid hv'
  clear hv hv'
  by_cases hlong : 48 < n ∨ 48 < n'
  · rw [decide_eq_true hlong] at HLong
    clear hlong
    go_enter Try.func9, Try.ntmps9
    go_wp2_with (refine HLong.out.mono ?_; rintro e w1 ⟨rfl, rfl⟩)
    go_ret
    exact ⟨rfl, Ext.refl _⟩
  rw [decide_eq_false hlong] at HLong
  have hn48 : n ≤ 48 ∧ n' ≤ 48 := by omega
  clear hlong
  go_enter Try.func9, Try.ntmps9
  go_wp2_with (first | (go_at_call 19; refine HLong.out.mono ?_; rintro e w1 ⟨rfl, rfl⟩) | (go_at_call 20; refine (spec_R8Barcode a n c l w HB.out (by omega)).mono ?_; rintro e w1 ⟨D, ad, m, cc, rfl, hval, hm, hst, hx1⟩))
  have hok := validBc_ok hval
  have HOK := Lib.hid hok
  have HV := Lib.hid hval
  have HS := Lib.hid hst
  have hm1 : 1 ≤ m ∧ m ≤ 36 := by have h1 := hok.n1; have h2 := hok.n36; omega
  have hp10 : ∀ p ∈ D.pats, p.size ≤ 1048576 := fun p hp => by
    obtain ⟨i, hi, rfl⟩ := List.mem_iff_getElem.1 hp
    have h1 := hok.size i hi
    rw [gs_get hi] at h1
    have := hok.s10
    omega
  have hs10 := (patB_t hok.start).2.2.1
  have ht10 := (patB_t hok.stop).2.2.1
  have HHe := Lib.hid (fun W (h : Ext w1 W) => impl_HasEdges D ad m cc W (HS.out.ext h) (by omega) (by omega) (by omega) hp10)
  have HMs := Lib.hid (fun b z d ws W (h : Ext w1 W) (hw : Ints W b z d ws) (hz : z ≤ 1048576) => impl_MeasureEdges D ad m cc b z d ws W (HS.out.ext h) (by omega) (by omega) (by omega) hp10 hw hz)
  have HSt := Lib.hid (fun W (h : Ext w1 W) => impl_StripesOf D ad m cc ⟨#[]⟩ W (HS.out.ext h) (by omega) (by omega) (by omega) hp10 (by decide))
  obtain ⟨wb, hwb⟩ : ∃ wb, wb = w1.alloc (.cells #[.string D.start, .string D.stop, .slice ad m cc, .int .i64 D.gap] 28) := ⟨_, rfl⟩
  have HBx := Lib.hid (show BcAt wb w1.heap.size D ad m cc from by rw [hwb]; exact bc_box w1 D ad m cc _ HS.out)
  have hx1b : Ext w1 wb := by rw [hwb]; exact (by repeat (first | (with_reducible exact Ext.refl _) | (with_reducible refine Ext.drewN ?_ _) | (with_reducible refine Ext.drew ?_) | (with_reducible refine Ext.alloc ?_ _) | ((with_reducible refine Ext.setCell ?_ ?_ _); rotate_left; focus (first | (simp; done) | (simp; omega) | omega)) | assumption | (with_reducible refine Ext.trans ?_ (by assumption))))
  have hxwb : Ext w wb := hx1.trans hx1b
  rw [← hwb]
  obtain ⟨q, hq⟩ : ∃ q, q = w1.heap.size := ⟨_, rfl⟩
  rw [← hq] at HBx ⊢
  obtain ⟨k0, k1, k2, k3, hps⟩ := HBx.out
  obtain ⟨b0, o0, hix, hcell⟩ := hps.ix (P := Try.prog) 22 9 und_strings cell_string
  clear hwb hq hps HLong hok hval hst
  have hxbb : Ext wb wb := Ext.refl _
  have hz0 := r8_bd l' 0 m (by omega)
  have HR0 := Lib.hid (fun W (h : Ext w W) => laws_r8 a' n' c' l' 0 (m : Int) W (HB'.out.ext h) (by omega) (by omega) (by omega))
  generalize r8 l' 0 m = r0 at *
  obtain ⟨k, rfl⟩ := Int.eq_ofNat_of_zero_le hz0.1
  have hkm : k < m := by omega
  have hz1 := r8_bd l' 1 40 (by omega)
  have HR1 := Lib.hid (fun W (h : Ext w W) => laws_r8 a' n' c' l' 1 40 W (HB'.out.ext h) (by omega) (by omega) (by omega))
  generalize r8 l' 1 40 = r1 at *
  have hz3 := r8_bd l' 2 15 (by omega)
  have HR2 := Lib.hid (fun W (h : Ext w W) => laws_r8 a' n' c' l' 2 15 W (HB'.out.ext h) (by omega) (by omega) (by omega))
  generalize r8 l' 2 15 = r2 at *
  obtain ⟨P, hP⟩ : ∃ P, P = gs D.pats k := ⟨_, rfl⟩
  have hPs : P.size = (gs D.pats 0).size := by rw [hP]; exact HOK.out.size k (by omega)
  have hP10 : P.size ≤ 10 := by rw [hPs]; exact HOK.out.s10
  have hP1 : 1 ≤ P.size := by rw [hPs]; exact HOK.out.s1
  have HPc := Lib.hid (show charsB P.data.toList = true from by rw [hP]; exact HOK.out.chars k (by omega))
  have hcellP : ∀ w', Ext wb w' → w'.cell? ⟨b0, o0 + k, none⟩ = some (.string P) := fun w' h => by rw [hP]; exact hcell k w' hkm h
  have HEl := Lib.hid (show elsL P.data.toList = elD D k from by rw [hP]; rfl)
  have HPat := Lib.hid (show patB P.data.toList = true from by
    have h1 := HOK.out.sum k (by omega)
    have h2 := HOK.out.m20
    unfold patB
    rw [HPc.out, Bool.true_and]
    simp only [Bool.and_eq_true, inB_t, decide_eq_true_eq, size_eq]
    rw [hP] at hP10 hP1 ⊢
    exact ⟨by omega, by omega⟩)
  have HEdg := Lib.hid (fun W => impl_EdgesOf P W HPat.out)
  obtain ⟨B, hB⟩ : ∃ B, 8 + r1 = B := ⟨_, rfl⟩
  have hB8 : 8 ≤ B ∧ B ≤ 47 := by omega
  obtain ⟨wd, hwd⟩ : ∃ wd, r2 - 7 = wd := ⟨_, rfl⟩
  have hwd7 : -7 ≤ wd ∧ wd ≤ 7 := by omega
  have HMe := Lib.hid (fun (h1 : P.size % 2 = 0) (h2 : hasEdgesB D = true) => spread_meas HV.out h2 (k := k) (by omega) hB8.1 hB8.2 hwd7 (by rw [← hPs]; exact h1))
  -- the stripes
  have HDn := Lib.hid (show DigB D [] from fun d hd => by cases hd)
  obtain ⟨L1, hL1⟩ : ∃ L1, L1 = stripesL D [] := ⟨_, rfl⟩
  have HSo := Lib.hid (show stripesOkB D ⟨#[]⟩ = true from by rw [stripesOkB, HV.out]; rfl)
  rw [HSo.out, show stripesL D (digs (⟨#[]⟩ : ByteArray).data.toList) = L1 from by rw [hL1]; rfl] at HSt
  have hs1 : listB L1 = true := by rw [hL1]; exact stripes_listB HOK.out HDn.out (by simp)
  have hbd1 : ∀ x ∈ L1, 1 ≤ x ∧ x ≤ 4 := by rw [hL1]; exact stripes_bd4 HOK.out HDn.out
  have hF1 : ∀ (i : Nat) (x : Int), x ∈ L1 → 8 ≤ scaleF B i x ∧ scaleF B i x ≤ 188 := fun i x hx => by
    have h1 := hbd1 x hx
    have h3 : x * 8 ≤ x * B := Int.mul_le_mul_of_nonneg_left hB8.1 (by omega)
    have h4 : x * B ≤ 4 * 47 := Int.mul_le_mul h1.2 hB8.2 (by omega) (by omega)
    unfold scaleF
    omega
  have hs2 : listB (remL (scaleF B) L1) = true := remL_listB hs1 fun i x hx => by have := hF1 i x hx; omega
  have hbd2 : ∀ x ∈ remL (scaleF B) L1, 8 ≤ x ∧ x ≤ 188 := fun x hx => by
    obtain ⟨i, hi, rfl⟩ := remL_mem hx
    exact hF1 i _ (gi_mem hi)
  have hs3 : listB (remL (spreadF wd) (remL (scaleF B) L1)) = true := remL_listB hs2 fun i x hx => by
    have := hbd2 x hx
    unfold spreadF
    split <;> omega
  have hs4 := spread_back wd (remL (scaleF B) L1)
  have hiB : inB B (-100000) 100000 = true := inB_t.2 (by omega)
  have hiw : inB wd (-100000) 100000 = true := inB_t.2 (by omega)
  have hiw2 : inB (-wd) (-100000) 100000 = true := inB_t.2 (by omega)
  have HSc := Lib.hid (fun a c W (h : Ints W a L1.length c L1) => impl_Scale a L1.length c L1 B W h hs1 hiB hs2)
  obtain ⟨L2, hL2⟩ : ∃ L2, L2 = remL (scaleF B) L1 := ⟨_, rfl⟩
  rw [← hL2] at hs2 hs3 hs4 HSc
  have HSp := Lib.hid (fun a c W (h : Ints W a L2.length c L2) => impl_Spread a L2.length c L2 wd W h hs2 hiw hs3)
  have HSq := Lib.hid (fun a c W (h : Ints W a (remL (spreadF wd) L2).length c (remL (spreadF wd) L2)) => impl_Spread a (remL (spreadF wd) L2).length c (remL (spreadF wd) L2) (-wd) W h hs3 hiw2 (by rw [hs4]; exact hs2))
  rw [hs4] at HSq
  obtain ⟨L3, hL3⟩ : ∃ L3, L3 = remL (spreadF wd) L2 := ⟨_, rfl⟩
  rw [← hL3] at HSp HSq
  have hL2n : L2.length ≤ 400 := by
    unfold listB at hs2
    simp only [Bool.and_eq_true, decide_eq_true_eq] at hs2
    exact hs2.2.2
  have hne1 : (((P.size - 1 : Nat) : Int) != (P.size : Int) - 1) = false := by simp; omega
  have hPsz : P.size ≤ 1048576 := by omega
  clear hP hm hs10 ht10 hp10 HS hcell hPs hs1 hbd1 hF1 hs2 hbd2 hs3 hs4 hiB hiw hiw2 hL1 hL2 hL3 HSo HDn HPat
  go_wp2_with (first | (go_at_call 21; first | ((with_reducible refine (HR0.out _ (by repeat (first | (with_reducible exact Ext.refl _) | (with_reducible assumption) | (with_reducible refine Ext.drewN ?_ _) | (with_reducible refine Ext.drew ?_) | (with_reducible refine Ext.alloc ?_ _) | ((with_reducible refine Ext.setCell ?_ ?_ _); rotate_left; focus (first | (simp; done) | (simp; omega) | omega)) | (with_reducible refine Ext.trans ?_ (by with_reducible assumption))))).mono ?_); rintro e w2 ⟨rfl, rfl⟩) | ((with_reducible refine (HR1.out _ (by repeat (first | (with_reducible exact Ext.refl _) | (with_reducible assumption) | (with_reducible refine Ext.drewN ?_ _) | (with_reducible refine Ext.drew ?_) | (with_reducible refine Ext.alloc ?_ _) | ((with_reducible refine Ext.setCell ?_ ?_ _); rotate_left; focus (first | (simp; done) | (simp; omega) | omega)) | (with_reducible refine Ext.trans ?_ (by with_reducible assumption))))).mono ?_); rintro e w2 ⟨rfl, rfl⟩) | ((with_reducible refine (HR2.out _ (by repeat (first | (with_reducible exact Ext.refl _) | (with_reducible assumption) | (with_reducible refine Ext.drewN ?_ _) | (with_reducible refine Ext.drew ?_) | (with_reducible refine Ext.alloc ?_ _) | ((with_reducible refine Ext.setCell ?_ ?_ _); rotate_left; focus (first | (simp; done) | (simp; omega) | omega)) | (with_reducible refine Ext.trans ?_ (by with_reducible assumption))))).mono ?_); rintro e w2 ⟨rfl, rfl⟩)))
  go_loopw [9, 10, 11] (fun v9 v10 _ wr => ∃ (i : Nat) (ax : Option Addr) (cx : Nat), i ≤ P.size ∧ v9 = .slice ax i cx ∧ v10 = .int .i64 i ∧ Hid (Own wr wb.heap.size 2 ax i cx (I (sprR B wd true (elsL (P.data.toList.take i))))) ∧ Ext wb wr) (fun _ v10 _ _ => P.size - (intOf v10).toNat)
  case atStart => exact ⟨0, _, _, Nat.zero_le _, rfl, rfl, Own.lit0 _ _, (Ext.refl _).alloc _⟩
  case round =>
    obtain ⟨i, ax, cx, hi, rfl, rfl, HO, hx⟩ := hrel
    have hxr : Ext wb wr := hx
    have hxwr : Ext w wr := hxwb.trans hx
    clear hx
    by_cases hlt : i < P.size
    · have hg : goodC P[i] = true := by
        have h1 := HPc.out
        unfold charsB at h1
        exact List.all_eq_true.1 h1 _ (by rw [byte_at _ _ hlt]; exact getD_mem _ _ _ (by simpa using hlt))
      have hb := goodC_bd hg
      have HN := Lib.hid (elsL_snoc P i hlt)
      obtain ⟨x, hxe⟩ : ∃ x : Int, x = (P[i].toNat : Int) - 48 := ⟨_, rfl⟩
      have hx4 : 1 ≤ x ∧ x ≤ 4 := by omega
      have HX := Lib.hid (show elC P[i] = x from by rw [hxe]; rfl)
      have hw8 : IntKind.u8.wrap ((P[i].toNat : Int) - 48) = x := by rw [u8_sub48 hb.1, hxe]
      have hBx : 0 ≤ B * x ∧ B * x ≤ 47 * 4 := ⟨Int.mul_nonneg (by omega) (by omega), Int.mul_le_mul hB8.2 hx4.2 (by omega) (by omega)⟩
      have hln : (elsL (P.data.toList.take i)).length = i := by rw [elsL_len, List.length_take]; simp; omega
      have HSn := Lib.hid (sprR_snoc B wd x (elsL (P.data.toList.take i)))
      rw [hln] at HSn
      clear hxe hg hln
      by_cases hpar : i % 2 = 1
      · have hpi : (i : Int) % 2 = 1 := by omega
        have HPar := Lib.hid hpar
        clear hpar
        go_wp2_with (at_builtin; refine law_append1 _ rfl _ _ 36 rfl 2 (.int .i64 0) 8 und_int64s info_int64 rfl wb.heap.size ax i cx _ _ rfl rfl rfl HO.out hxr.le (by omega) (by omega) ?_; intro ax' cx' w9 ho9 hb9 _; have hxb9 : Ext wb w9 := Ext.below hxr hb9)
        refine ⟨⟨i + 1, ax', cx', by omega, rfl, by go_num, ?_, hxb9⟩, by simp [intOf]; omega⟩
        rw [Hid, HN.out, HX.out, HSn.out, I_append, if_neg (by have := HPar.out; omega), show B * x + -wd = B * x + wd - 2 * wd by omega]
        exact ho9
      · have hpi : (i : Int) % 2 = 0 := by omega
        have HPar := Lib.hid (show i % 2 = 0 by omega)
        clear hpar
        go_wp2_with (at_builtin; refine law_append1 _ rfl _ _ 36 rfl 2 (.int .i64 0) 8 und_int64s info_int64 rfl wb.heap.size ax i cx _ _ rfl rfl rfl HO.out hxr.le (by omega) (by omega) ?_; intro ax' cx' w9 ho9 hb9 _; have hxb9 : Ext wb w9 := Ext.below hxr hb9)
        refine ⟨⟨i + 1, ax', cx', by omega, rfl, by go_num, ?_, hxb9⟩, by simp [intOf]; omega⟩
        rw [Hid, HN.out, HX.out, HSn.out, I_append, if_pos HPar.out]
        exact ho9
    · obtain rfl : i = P.size := by omega
      have HW := HO.out.ints
      rw [take_full (by simp), HEl.out] at HW
      have HM := Lib.hid (HMs.out ax P.size cx _ wr (hx1b.trans hxr) HW (by omega))
      clear HW
      have HMe2 := Lib.hid HMe.out
      generalize measOkB D (sprR B wd true (elD D k)) edgesL = ok1 at *
      generalize measRes D (sprR B wd true (elD D k)) edgesL = rs1 at *
      generalize hasEdgesB D = he at *
      have hx1r : Ext w1 wr := hx1b.trans hxr
      by_cases hev : P.size % 2 = 0
      · have hevi : (P.size : Int) % 2 = 0 := by omega
        cases he
        · clear HMe HMe2 hev
          go_wp2_with (first | (go_at_call 30; (with_reducible refine HM.out.mono ?_); rintro e w5 ⟨rfl, hy5⟩; have hx5 : Ext wr w5 := hy5; have hxb5 : Ext wb w5 := hxr.trans hy5; clear hy5) | (go_at_call 36; (with_reducible refine (HEdg.out _).mono ?_); rintro e w6 ⟨a6, _, c6, rfl, rfl, hy6⟩; have hx6 : Ext wr w6 := Ext.trans (by repeat (first | (with_reducible exact Ext.refl _) | (with_reducible assumption) | (with_reducible refine Ext.drewN ?_ _) | (with_reducible refine Ext.drew ?_) | (with_reducible refine Ext.alloc ?_ _) | ((with_reducible refine Ext.setCell ?_ ?_ _); rotate_left; focus (first | (simp; done) | (simp; omega) | omega)) | (with_reducible refine Ext.trans ?_ (by with_reducible assumption)))) hy6; have hxb6 : Ext wb w6 := hxr.trans hx6; have hx16 : Ext w1 w6 := hx1r.trans hx6; clear hy6) | (go_at_call 25; (with_reducible refine (HHe.out _ (by repeat (first | (with_reducible exact Ext.refl _) | (with_reducible assumption) | (with_reducible refine Ext.drewN ?_ _) | (with_reducible refine Ext.drew ?_) | (with_reducible refine Ext.alloc ?_ _) | ((with_reducible refine Ext.setCell ?_ ?_ _); rotate_left; focus (first | (simp; done) | (simp; omega) | omega)) | (with_reducible refine Ext.trans ?_ (by with_reducible assumption))))).mono ?_); rintro e w7 ⟨rfl, hy7⟩; have hx7 : Ext wr w7 := Ext.trans (by repeat (first | (with_reducible exact Ext.refl _) | (with_reducible assumption) | (with_reducible refine Ext.drewN ?_ _) | (with_reducible refine Ext.drew ?_) | (with_reducible refine Ext.alloc ?_ _) | ((with_reducible refine Ext.setCell ?_ ?_ _); rotate_left; focus (first | (simp; done) | (simp; omega) | omega)) | (with_reducible refine Ext.trans ?_ (by with_reducible assumption)))) hy7; have hxb7 : Ext wb w7 := hxr.trans hx7; have hx17 : Ext w1 w7 := hx1r.trans hx7; clear hy7) | (go_at_call 32; (with_reducible refine (HSt.out _ (by repeat (first | (with_reducible exact Ext.refl _) | (with_reducible assumption) | (with_reducible refine Ext.drewN ?_ _) | (with_reducible refine Ext.drew ?_) | (with_reducible refine Ext.alloc ?_ _) | ((with_reducible refine Ext.setCell ?_ ?_ _); rotate_left; focus (first | (simp; done) | (simp; omega) | omega)) | (with_reducible refine Ext.trans ?_ (by with_reducible assumption))))).mono ?_); rintro e w8 ⟨a8, m8, c8, rfl, hy8, ho8⟩; have hx8 : Ext wr w8 := Ext.trans (by repeat (first | (with_reducible exact Ext.refl _) | (with_reducible assumption) | (with_reducible refine Ext.drewN ?_ _) | (with_reducible refine Ext.drew ?_) | (with_reducible refine Ext.alloc ?_ _) | ((with_reducible refine Ext.setCell ?_ ?_ _); rotate_left; focus (first | (simp; done) | (simp; omega) | omega)) | (with_reducible refine Ext.trans ?_ (by with_reducible assumption)))) hy8; obtain rfl : L1.length = m8 := (by have h := ho8.len; rwa [if_pos rfl, I_len] at h); rw [if_pos rfl] at ho8; have HO8 := Lib.hid ho8; clear hy8 ho8) | (go_at_call 37; (with_reducible refine (HSc.out _ _ _ HO8.out.ints).mono ?_); rintro e w9 ⟨a9, _, c9, rfl, rfl, ho9, hy9⟩; have hx9 : Ext wr w9 := Ext.trans (by repeat (first | (with_reducible exact Ext.refl _) | (with_reducible assumption) | (with_reducible refine Ext.drewN ?_ _) | (with_reducible refine Ext.drew ?_) | (with_reducible refine Ext.alloc ?_ _) | ((with_reducible refine Ext.setCell ?_ ?_ _); rotate_left; focus (first | (simp; done) | (simp; omega) | omega)) | (with_reducible refine Ext.trans ?_ (by with_reducible assumption)))) hy9; have HO9 := Lib.hid ho9; clear hy9 ho9) | (go_at_call 38; first | ((with_reducible refine (HSp.out _ _ _ HO9.out.ints).mono ?_); rintro e w10 ⟨a10, _, c10, rfl, rfl, ho10, hy10⟩; have hx10 : Ext wr w10 := Ext.trans (by repeat (first | (with_reducible exact Ext.refl _) | (with_reducible assumption) | (with_reducible refine Ext.drewN ?_ _) | (with_reducible refine Ext.drew ?_) | (with_reducible refine Ext.alloc ?_ _) | ((with_reducible refine Ext.setCell ?_ ?_ _); rotate_left; focus (first | (simp; done) | (simp; omega) | omega)) | (with_reducible refine Ext.trans ?_ (by with_reducible assumption)))) hy10; have hz10 : Ext w9 w10 := hy10; have HO10 := Lib.hid ho10; clear hy10 ho10) | ((with_reducible refine (HSq.out _ _ _ HO10.out.ints).mono ?_); rintro e w11 ⟨a11, _, c11, rfl, rfl, ho11, hy11⟩; have hx11 : Ext wr w11 := Ext.trans (by repeat (first | (with_reducible exact Ext.refl _) | (with_reducible assumption) | (with_reducible refine Ext.drewN ?_ _) | (with_reducible refine Ext.drew ?_) | (with_reducible refine Ext.alloc ?_ _) | ((with_reducible refine Ext.setCell ?_ ?_ _); rotate_left; focus (first | (simp; done) | (simp; omega) | omega)) | (with_reducible refine Ext.trans ?_ (by with_reducible assumption)))) hy11; have hz11 : Ext w9 w11 := hz10.trans hy11; have HO11 := Lib.hid ho11; clear hy11 ho11)) | (go_at_call 39; (with_reducible refine (laws_r8Same _ _ _ _ _ L2 _ HO11.out.ints (HO9.out.ints.ext hz11) (by omega)).mono ?_); rintro e w12 ⟨rfl, hy12⟩; have hx12 : Ext wr w12 := Ext.trans (by repeat (first | (with_reducible exact Ext.refl _) | (with_reducible assumption) | (with_reducible refine Ext.drewN ?_ _) | (with_reducible refine Ext.drew ?_) | (with_reducible refine Ext.alloc ?_ _) | ((with_reducible refine Ext.setCell ?_ ?_ _); rotate_left; focus (first | (simp; done) | (simp; omega) | omega)) | (with_reducible refine Ext.trans ?_ (by with_reducible assumption)))) hy12; clear hy12))
          go_ret
          exact ⟨rfl, hxwr.trans (by repeat (first | (with_reducible exact Ext.refl _) | (with_reducible assumption) | (with_reducible refine Ext.drewN ?_ _) | (with_reducible refine Ext.drew ?_) | (with_reducible refine Ext.alloc ?_ _) | ((with_reducible refine Ext.setCell ?_ ?_ _); rotate_left; focus (first | (simp; done) | (simp; omega) | omega)) | (with_reducible refine Ext.trans ?_ (by with_reducible assumption))))⟩
        · obtain ⟨rfl, rfl⟩ := HMe2.out hev rfl
          clear HMe HMe2 hev
          go_wp2_with (first | (go_at_call 30; (with_reducible refine HM.out.mono ?_); rintro e w5 ⟨rfl, hy5⟩; have hx5 : Ext wr w5 := hy5; have hxb5 : Ext wb w5 := hxr.trans hy5; clear hy5) | (go_at_call 36; (with_reducible refine (HEdg.out _).mono ?_); rintro e w6 ⟨a6, _, c6, rfl, rfl, hy6⟩; have hx6 : Ext wr w6 := Ext.trans (by repeat (first | (with_reducible exact Ext.refl _) | (with_reducible assumption) | (with_reducible refine Ext.drewN ?_ _) | (with_reducible refine Ext.drew ?_) | (with_reducible refine Ext.alloc ?_ _) | ((with_reducible refine Ext.setCell ?_ ?_ _); rotate_left; focus (first | (simp; done) | (simp; omega) | omega)) | (with_reducible refine Ext.trans ?_ (by with_reducible assumption)))) hy6; have hxb6 : Ext wb w6 := hxr.trans hx6; have hx16 : Ext w1 w6 := hx1r.trans hx6; clear hy6) | (go_at_call 25; (with_reducible refine (HHe.out _ (by repeat (first | (with_reducible exact Ext.refl _) | (with_reducible assumption) | (with_reducible refine Ext.drewN ?_ _) | (with_reducible refine Ext.drew ?_) | (with_reducible refine Ext.alloc ?_ _) | ((with_reducible refine Ext.setCell ?_ ?_ _); rotate_left; focus (first | (simp; done) | (simp; omega) | omega)) | (with_reducible refine Ext.trans ?_ (by with_reducible assumption))))).mono ?_); rintro e w7 ⟨rfl, hy7⟩; have hx7 : Ext wr w7 := Ext.trans (by repeat (first | (with_reducible exact Ext.refl _) | (with_reducible assumption) | (with_reducible refine Ext.drewN ?_ _) | (with_reducible refine Ext.drew ?_) | (with_reducible refine Ext.alloc ?_ _) | ((with_reducible refine Ext.setCell ?_ ?_ _); rotate_left; focus (first | (simp; done) | (simp; omega) | omega)) | (with_reducible refine Ext.trans ?_ (by with_reducible assumption)))) hy7; have hxb7 : Ext wb w7 := hxr.trans hx7; have hx17 : Ext w1 w7 := hx1r.trans hx7; clear hy7) | (go_at_call 32; (with_reducible refine (HSt.out _ (by repeat (first | (with_reducible exact Ext.refl _) | (with_reducible assumption) | (with_reducible refine Ext.drewN ?_ _) | (with_reducible refine Ext.drew ?_) | (with_reducible refine Ext.alloc ?_ _) | ((with_reducible refine Ext.setCell ?_ ?_ _); rotate_left; focus (first | (simp; done) | (simp; omega) | omega)) | (with_reducible refine Ext.trans ?_ (by with_reducible assumption))))).mono ?_); rintro e w8 ⟨a8, m8, c8, rfl, hy8, ho8⟩; have hx8 : Ext wr w8 := Ext.trans (by repeat (first | (with_reducible exact Ext.refl _) | (with_reducible assumption) | (with_reducible refine Ext.drewN ?_ _) | (with_reducible refine Ext.drew ?_) | (with_reducible refine Ext.alloc ?_ _) | ((with_reducible refine Ext.setCell ?_ ?_ _); rotate_left; focus (first | (simp; done) | (simp; omega) | omega)) | (with_reducible refine Ext.trans ?_ (by with_reducible assumption)))) hy8; obtain rfl : L1.length = m8 := (by have h := ho8.len; rwa [if_pos rfl, I_len] at h); rw [if_pos rfl] at ho8; have HO8 := Lib.hid ho8; clear hy8 ho8) | (go_at_call 37; (with_reducible refine (HSc.out _ _ _ HO8.out.ints).mono ?_); rintro e w9 ⟨a9, _, c9, rfl, rfl, ho9, hy9⟩; have hx9 : Ext wr w9 := Ext.trans (by repeat (first | (with_reducible exact Ext.refl _) | (with_reducible assumption) | (with_reducible refine Ext.drewN ?_ _) | (with_reducible refine Ext.drew ?_) | (with_reducible refine Ext.alloc ?_ _) | ((with_reducible refine Ext.setCell ?_ ?_ _); rotate_left; focus (first | (simp; done) | (simp; omega) | omega)) | (with_reducible refine Ext.trans ?_ (by with_reducible assumption)))) hy9; have HO9 := Lib.hid ho9; clear hy9 ho9) | (go_at_call 38; first | ((with_reducible refine (HSp.out _ _ _ HO9.out.ints).mono ?_); rintro e w10 ⟨a10, _, c10, rfl, rfl, ho10, hy10⟩; have hx10 : Ext wr w10 := Ext.trans (by repeat (first | (with_reducible exact Ext.refl _) | (with_reducible assumption) | (with_reducible refine Ext.drewN ?_ _) | (with_reducible refine Ext.drew ?_) | (with_reducible refine Ext.alloc ?_ _) | ((with_reducible refine Ext.setCell ?_ ?_ _); rotate_left; focus (first | (simp; done) | (simp; omega) | omega)) | (with_reducible refine Ext.trans ?_ (by with_reducible assumption)))) hy10; have hz10 : Ext w9 w10 := hy10; have HO10 := Lib.hid ho10; clear hy10 ho10) | ((with_reducible refine (HSq.out _ _ _ HO10.out.ints).mono ?_); rintro e w11 ⟨a11, _, c11, rfl, rfl, ho11, hy11⟩; have hx11 : Ext wr w11 := Ext.trans (by repeat (first | (with_reducible exact Ext.refl _) | (with_reducible assumption) | (with_reducible refine Ext.drewN ?_ _) | (with_reducible refine Ext.drew ?_) | (with_reducible refine Ext.alloc ?_ _) | ((with_reducible refine Ext.setCell ?_ ?_ _); rotate_left; focus (first | (simp; done) | (simp; omega) | omega)) | (with_reducible refine Ext.trans ?_ (by with_reducible assumption)))) hy11; have hz11 : Ext w9 w11 := hz10.trans hy11; have HO11 := Lib.hid ho11; clear hy11 ho11)) | (go_at_call 39; (with_reducible refine (laws_r8Same _ _ _ _ _ L2 _ HO11.out.ints (HO9.out.ints.ext hz11) (by omega)).mono ?_); rintro e w12 ⟨rfl, hy12⟩; have hx12 : Ext wr w12 := Ext.trans (by repeat (first | (with_reducible exact Ext.refl _) | (with_reducible assumption) | (with_reducible refine Ext.drewN ?_ _) | (with_reducible refine Ext.drew ?_) | (with_reducible refine Ext.alloc ?_ _) | ((with_reducible refine Ext.setCell ?_ ?_ _); rotate_left; focus (first | (simp; done) | (simp; omega) | omega)) | (with_reducible refine Ext.trans ?_ (by with_reducible assumption)))) hy12; clear hy12))
          go_ret
          exact ⟨rfl, hxwr.trans (by repeat (first | (with_reducible exact Ext.refl _) | (with_reducible assumption) | (with_reducible refine Ext.drewN ?_ _) | (with_reducible refine Ext.drew ?_) | (with_reducible refine Ext.alloc ?_ _) | ((with_reducible refine Ext.setCell ?_ ?_ _); rotate_left; focus (first | (simp; done) | (simp; omega) | omega)) | (with_reducible refine Ext.trans ?_ (by with_reducible assumption))))⟩
      · have hevi : (P.size : Int) % 2 = 1 := by omega
        clear HMe HMe2 hev
        go_wp2_with (first | (go_at_call 30; (with_reducible refine HM.out.mono ?_); rintro e w5 ⟨rfl, hy5⟩; have hx5 : Ext wr w5 := hy5; have hxb5 : Ext wb w5 := hxr.trans hy5; clear hy5) | (go_at_call 36; (with_reducible refine (HEdg.out _).mono ?_); rintro e w6 ⟨a6, _, c6, rfl, rfl, hy6⟩; have hx6 : Ext wr w6 := Ext.trans (by repeat (first | (with_reducible exact Ext.refl _) | (with_reducible assumption) | (with_reducible refine Ext.drewN ?_ _) | (with_reducible refine Ext.drew ?_) | (with_reducible refine Ext.alloc ?_ _) | ((with_reducible refine Ext.setCell ?_ ?_ _); rotate_left; focus (first | (simp; done) | (simp; omega) | omega)) | (with_reducible refine Ext.trans ?_ (by with_reducible assumption)))) hy6; have hxb6 : Ext wb w6 := hxr.trans hx6; have hx16 : Ext w1 w6 := hx1r.trans hx6; clear hy6) | (go_at_call 25; (with_reducible refine (HHe.out _ (by repeat (first | (with_reducible exact Ext.refl _) | (with_reducible assumption) | (with_reducible refine Ext.drewN ?_ _) | (with_reducible refine Ext.drew ?_) | (with_reducible refine Ext.alloc ?_ _) | ((with_reducible refine Ext.setCell ?_ ?_ _); rotate_left; focus (first | (simp; done) | (simp; omega) | omega)) | (with_reducible refine Ext.trans ?_ (by with_reducible assumption))))).mono ?_); rintro e w7 ⟨rfl, hy7⟩; have hx7 : Ext wr w7 := Ext.trans (by repeat (first | (with_reducible exact Ext.refl _) | (with_reducible assumption) | (with_reducible refine Ext.drewN ?_ _) | (with_reducible refine Ext.drew ?_) | (with_reducible refine Ext.alloc ?_ _) | ((with_reducible refine Ext.setCell ?_ ?_ _); rotate_left; focus (first | (simp; done) | (simp; omega) | omega)) | (with_reducible refine Ext.trans ?_ (by with_reducible assumption)))) hy7; have hxb7 : Ext wb w7 := hxr.trans hx7; have hx17 : Ext w1 w7 := hx1r.trans hx7; clear hy7) | (go_at_call 32; (with_reducible refine (HSt.out _ (by repeat (first | (with_reducible exact Ext.refl _) | (with_reducible assumption) | (with_reducible refine Ext.drewN ?_ _) | (with_reducible refine Ext.drew ?_) | (with_reducible refine Ext.alloc ?_ _) | ((with_reducible refine Ext.setCell ?_ ?_ _); rotate_left; focus (first | (simp; done) | (simp; omega) | omega)) | (with_reducible refine Ext.trans ?_ (by with_reducible assumption))))).mono ?_); rintro e w8 ⟨a8, m8, c8, rfl, hy8, ho8⟩; have hx8 : Ext wr w8 := Ext.trans (by repeat (first | (with_reducible exact Ext.refl _) | (with_reducible assumption) | (with_reducible refine Ext.drewN ?_ _) | (with_reducible refine Ext.drew ?_) | (with_reducible refine Ext.alloc ?_ _) | ((with_reducible refine Ext.setCell ?_ ?_ _); rotate_left; focus (first | (simp; done) | (simp; omega) | omega)) | (with_reducible refine Ext.trans ?_ (by with_reducible assumption)))) hy8; obtain rfl : L1.length = m8 := (by have h := ho8.len; rwa [if_pos rfl, I_len] at h); rw [if_pos rfl] at ho8; have HO8 := Lib.hid ho8; clear hy8 ho8) | (go_at_call 37; (with_reducible refine (HSc.out _ _ _ HO8.out.ints).mono ?_); rintro e w9 ⟨a9, _, c9, rfl, rfl, ho9, hy9⟩; have hx9 : Ext wr w9 := Ext.trans (by repeat (first | (with_reducible exact Ext.refl _) | (with_reducible assumption) | (with_reducible refine Ext.drewN ?_ _) | (with_reducible refine Ext.drew ?_) | (with_reducible refine Ext.alloc ?_ _) | ((with_reducible refine Ext.setCell ?_ ?_ _); rotate_left; focus (first | (simp; done) | (simp; omega) | omega)) | (with_reducible refine Ext.trans ?_ (by with_reducible assumption)))) hy9; have HO9 := Lib.hid ho9; clear hy9 ho9) | (go_at_call 38; first | ((with_reducible refine (HSp.out _ _ _ HO9.out.ints).mono ?_); rintro e w10 ⟨a10, _, c10, rfl, rfl, ho10, hy10⟩; have hx10 : Ext wr w10 := Ext.trans (by repeat (first | (with_reducible exact Ext.refl _) | (with_reducible assumption) | (with_reducible refine Ext.drewN ?_ _) | (with_reducible refine Ext.drew ?_) | (with_reducible refine Ext.alloc ?_ _) | ((with_reducible refine Ext.setCell ?_ ?_ _); rotate_left; focus (first | (simp; done) | (simp; omega) | omega)) | (with_reducible refine Ext.trans ?_ (by with_reducible assumption)))) hy10; have hz10 : Ext w9 w10 := hy10; have HO10 := Lib.hid ho10; clear hy10 ho10) | ((with_reducible refine (HSq.out _ _ _ HO10.out.ints).mono ?_); rintro e w11 ⟨a11, _, c11, rfl, rfl, ho11, hy11⟩; have hx11 : Ext wr w11 := Ext.trans (by repeat (first | (with_reducible exact Ext.refl _) | (with_reducible assumption) | (with_reducible refine Ext.drewN ?_ _) | (with_reducible refine Ext.drew ?_) | (with_reducible refine Ext.alloc ?_ _) | ((with_reducible refine Ext.setCell ?_ ?_ _); rotate_left; focus (first | (simp; done) | (simp; omega) | omega)) | (with_reducible refine Ext.trans ?_ (by with_reducible assumption)))) hy11; have hz11 : Ext w9 w11 := hz10.trans hy11; have HO11 := Lib.hid ho11; clear hy11 ho11)) | (go_at_call 39; (with_reducible refine (laws_r8Same _ _ _ _ _ L2 _ HO11.out.ints (HO9.out.ints.ext hz11) (by omega)).mono ?_); rintro e w12 ⟨rfl, hy12⟩; have hx12 : Ext wr w12 := Ext.trans (by repeat (first | (with_reducible exact Ext.refl _) | (with_reducible assumption) | (with_reducible refine Ext.drewN ?_ _) | (with_reducible refine Ext.drew ?_) | (with_reducible refine Ext.alloc ?_ _) | ((with_reducible refine Ext.setCell ?_ ?_ _); rotate_left; focus (first | (simp; done) | (simp; omega) | omega)) | (with_reducible refine Ext.trans ?_ (by with_reducible assumption)))) hy12; clear hy12))
        go_ret
        exact ⟨rfl, hxwr.trans (by repeat (first | (with_reducible exact Ext.refl _) | (with_reducible assumption) | (with_reducible refine Ext.drewN ?_ _) | (with_reducible refine Ext.drew ?_) | (with_reducible refine Ext.alloc ?_ _) | ((with_reducible refine Ext.setCell ?_ ?_ _); rotate_left; focus (first | (simp; done) | (simp; omega) | omega)) | (with_reducible refine Ext.trans ?_ (by with_reducible assumption))))⟩
end Go.Proofs.Ytnmkckghfckgbaa
