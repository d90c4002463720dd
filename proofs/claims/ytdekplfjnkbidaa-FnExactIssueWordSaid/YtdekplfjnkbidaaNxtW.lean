/- Walks: the reference's next checked word: the walk. -/
import Derived.Test.YtdekplfjnkbidaaTrialM
import Derived.Test.YtdekplfjnkbidaaStrs
namespace Go.Proofs.Ytdekplfjnkbidaa
set_option maxRecDepth 100000
open Go.RowKit

set_option maxHeartbeats 16000000 in
theorem spec_l10Next (D : Ch) (q : Nat) (a : Option Addr) (n c : Nat) (a' : Option Addr) (n' c' : Nat) (ge : Option Addr) (gc : Nat) (s : ByteArray) (w : World) (hv : ChAt w q D a n c a' n' c') (hok : OkCh D)
    (hg : Mat w ge (n' + 1) gc (endsL D)) (hs : s.size ≠ 0 → s.size = n' ∧ DigC D (digC s)) :
    Calls Try.prog 114 #[.pointer (some ⟨q, 0, none⟩), .slice ge (n' + 1) gc, .string s] w (Ret2 (.string (nextT D s)) (.bool (!(nextL D s).isEmpty)) w) := by
  have HP := Lib.hid hv.ps.len
  have HV := Lib.hid hv
  have HOK := Lib.hid hok
  have HG := Lib.hid hg
  have HSn := Lib.hid hs
  obtain ⟨k0, k1, k2, k3, k4, k5, _, _⟩ := hv
  have p20 := hok.p20
  have p1 := hok.p1
  rw [HP.out] at p20 p1
  have b36 := hok.b36
  have b2 := hok.b2
  have s36 := hok.s36
  have hsz : s.size ≤ 20 := by
    by_cases e : s.size = 0
    · omega
    · have := (hs e).1; omega
  have HDg := Lib.hid (show DigC D (digC s) from by
    by_cases e : s.size = 0
    · rw [digs_emp e]; intro d hd; cases hd
    · exact (hs e).2)
  have HDl := Lib.hid (digC_len s)
  have HBs := Lib.hid (back_start (D := D) (n := n') (s := s) p1)
  have hst := hok.st0
  have hst1 := hok.st1
  have HE := Lib.hid (show s.toList = [] ↔ s.size = 0 by
    rw [ByteArray.toList_eq]
    constructor
    · intro h; have := congrArg List.length h; simpa using this
    · intro h; exact List.eq_nil_of_length_eq_zero (by simpa using h))
  clear hg hok hs
  go_enter Try.func114, Try.ntmps114
  go_wp2_with fail
  refine (spec_digits s _ (by omega)).mono ?_
  rintro e w1 ⟨ad, cd, rfl, hod, hx1⟩
  rw [I_len] at hod ⊢
  have hdd : (digs s.data.toList) = digC s := rfl
  rw [hdd] at hod ⊢
  rw [HDl.out] at hod ⊢
  obtain ⟨m, hm⟩ : ∃ m, m = s.size := ⟨_, rfl⟩
  rw [← hm] at hod hsz ⊢
  have Hhm := Lib.hid hm; clear hm
  have HD1 := Lib.hid hod
  have hxw1 : Ext w w1 := hx1
  clear hod
  go_wp2
  go_loopw [10, 11, 12, 13, 14, 15] (fun iv _ _ _ _ _ wr => ∃ (i0 : Nat) (z : Int), i0 ≤ n' ∧ z + 1 = i0 ∧ iv = .int .i64 z ∧ BackS D n' s i0 ∧ Ext w1 wr) (fun iv _ _ _ _ _ _ => (intOf iv + 1).toNat)
  case atStart => exact ⟨n', (n' : Int) - 1, Nat.le_refl _, by omega, rfl, HBs.out, (by repeat (first | (with_reducible exact Ext.refl _) | (with_reducible refine Ext.drewN ?_ _) | (with_reducible refine Ext.drew ?_) | (with_reducible refine Ext.alloc ?_ _) | ((with_reducible refine Ext.setCell ?_ ?_ _); rotate_left; focus (first | (simp; done) | (simp; omega) | omega)) | assumption | (with_reducible refine Ext.trans ?_ (by assumption))))⟩
  case round =>
    obtain ⟨i0, z, hi0, hz, rfl, hbk, hx⟩ := hrel
    have hxr : Ext w1 wr := hx
    have Hhbk := Lib.hid hbk; clear hbk
    by_cases hz0 : 0 ≤ z
    · obtain ⟨i, rfl⟩ := Int.eq_ofNat_of_zero_le hz0
      obtain rfl : i0 = i + 1 := by omega
      have hin : i < n' := by omega
      have Hd1i := Lib.hid HD1.out
      clear hz hz0 hi0
      by_cases hs0 : s.toList = []
      · have Hs0 := Lib.hid (HE.out.1 hs0)
        have hem : s.toList.isEmpty = true := by rw [hs0]; rfl
        by_cases hi1 : 0 < i
        · have HBn := Lib.hid (show BackS D n' s i from ⟨fun _ h => by omega, fun h => absurd Hs0.out h⟩)
          go_wp2
          exact ⟨⟨i, (i : Int) - 1, by omega, by omega, rfl, HBn.out, hx⟩, by simp [intOf]⟩
        · have Hi0 := Lib.hid (show i = 0 by omega)
          have H0i := Lib.hid (show s.size = 0 → i = 0 from fun _ => Hi0.out)
          have hils : i ≤ m := by omega
          have hpre := Hd1i.out.ints.pre (P := Try.prog) 23 2 und_int64s cell_int64 elem_int64s i hils
          obtain ⟨a9, hsl, hpre⟩ := hpre
          have HPre := Lib.hid hpre
          have HRun := Lib.hid (fun W h => spec_run D q a n c a' n' c' 0 D.start a9 i cd ((digC s).take i) W (HV.out.ext (hxw1.trans h)) HOK.out (by omega) hst hst1 (Ints.ext hpre h) (HDg.out.take i) (by rw [HP.out]; omega))
          obtain ⟨x0, x1⟩ := runS_bd HOK.out ((digC s).take i) 0 D.start (HDg.out.take i) (by omega) (by rw [List.length_take, HP.out]; omega) hst hst1
          have HBf := Lib.hid (fun u us => back_found (D := D) (n := n') (i := i) (s := s) (u := u) (us := us) HP.out hin (fun e => (HSn.out e).1) H0i.out Hhbk.out)
          have HBa := Lib.hid (back_at (D := D) (n := n') (i := i) (s := s) HP.out hin (fun e => (HSn.out e).1) H0i.out Hhbk.out)
          have hsd : (startD s i : Int) ≤ D.base := by
            unfold startD
            split
            · omega
            · rename_i hne
              have := HDg.out.at (k := i) (by rw [HDl.out, (HSn.out hne).1]; exact hin)
              omega
          generalize runS D 0 D.start ((digC s).take i) = x at *
          have hmin : min i m = i := Nat.min_eq_left hils
          have HLe := Lib.hid (fun W => spec_l10Least i m W)
          rw [hmin] at HLe
          clear hpre
          go_wp2
          (refine wp_region_from w1 (by repeat (first | (with_reducible exact Ext.refl _) | (with_reducible refine Ext.drewN ?_ _) | (with_reducible refine Ext.drew ?_) | (with_reducible refine Ext.alloc ?_ _) | ((with_reducible refine Ext.setCell ?_ ?_ _); rotate_left; focus (first | (simp; done) | (simp; omega) | omega)) | assumption | (with_reducible refine Ext.trans ?_ (by assumption)))) (by kernel_rfl) (by kernel_rfl) (seqB_of (by kernel_rfl)) ?_; (repeat (first | (refine mix_q rfl ?_; go_big_quiet_step (fail); refine wpQuiet_nil ?_; show wpMix _ _ _ _ _ _ _) | (refine mix_s rfl ?_; go_wp2_with (first | (go_at_call 135; (with_reducible refine (HLe.out _).mono ?_); rintro e w2 ⟨rfl, rfl⟩) | (go_at_call 118; (with_reducible refine (HRun.out _ (by repeat (first | (with_reducible exact Ext.refl _) | (with_reducible refine Ext.drewN ?_ _) | (with_reducible refine Ext.drew ?_) | (with_reducible refine Ext.alloc ?_ _) | ((with_reducible refine Ext.setCell ?_ ?_ _); rotate_left; focus (first | (simp; done) | (simp; omega) | omega)) | assumption | (with_reducible refine Ext.trans ?_ (by assumption))))).mono ?_); rintro e w3 ⟨rfl, hy3⟩; have hxw3 : Ext w1 w3 := Ext.trans (by repeat (first | (with_reducible exact Ext.refl _) | (with_reducible refine Ext.drewN ?_ _) | (with_reducible refine Ext.drew ?_) | (with_reducible refine Ext.alloc ?_ _) | ((with_reducible refine Ext.setCell ?_ ?_ _); rotate_left; focus (first | (simp; done) | (simp; omega) | omega)) | assumption | (with_reducible refine Ext.trans ?_ (by assumption)))) hy3; have hz3 := hy3; clear hy3)); first | refine ⟨up_of (by repeat (first | (with_reducible exact Ext.refl _) | (with_reducible refine Ext.drewN ?_ _) | (with_reducible refine Ext.drew ?_) | (with_reducible refine Ext.alloc ?_ _) | ((with_reducible refine Ext.setCell ?_ ?_ _); rotate_left; focus (first | (simp; done) | (simp; omega) | omega)) | assumption | (with_reducible refine Ext.trans ?_ (by assumption)))), ?_⟩ | refine ⟨rfl, rfl, up_of (by repeat (first | (with_reducible exact Ext.refl _) | (with_reducible refine Ext.drewN ?_ _) | (with_reducible refine Ext.drew ?_) | (with_reducible refine Ext.alloc ?_ _) | ((with_reducible refine Ext.setCell ?_ ?_ _); rotate_left; focus (first | (simp; done) | (simp; omega) | omega)) | assumption | (with_reducible refine Ext.trans ?_ (by assumption)))), ?_⟩))); refine mix_nil ?_)
          skip
          go_wp2
          obtain ⟨T, hT⟩ : ∃ T, T = tailS D (n' - i - 1) (i : Int) x (startD s i) := ⟨_, rfl⟩
          rw [← hT] at HBf HBa
          go_loopw [12] (fun dv wr => ∃ d : Nat, (d : Int) ≤ D.base ∧ dv = .int .i64 d ∧ Hid (tailS D (n' - i - 1) (i : Int) x d = T) ∧ Ext w1 wr) (fun dv _ => (D.base - intOf dv).toNat)
          case atStart => exact ⟨startD s i, hsd, (by rw [show startD s i = 0 by rw [startD, if_pos Hs0.out]]; rfl), Lib.hid hT.symm, (by repeat (first | (with_reducible exact Ext.refl _) | (with_reducible refine Ext.drewN ?_ _) | (with_reducible refine Ext.drew ?_) | (with_reducible refine Ext.alloc ?_ _) | ((with_reducible refine Ext.setCell ?_ ?_ _); rotate_left; focus (first | (simp; done) | (simp; omega) | omega)) | assumption | (with_reducible refine Ext.trans ?_ (by assumption))))⟩
          case round =>
            obtain ⟨d, hd, rfl, HT, hx⟩ := hrel
            have hxr : Ext w1 wr := hx
            have hxq : Ext w wr := hxw1.trans hx
            by_cases hdb : (d : Int) < D.base
            · have hdec : decide ((d : Int) < D.base) = true := by simpa using hdb
              have hne : ((d : Int) == D.base) = false := by simp; omega
              obtain ⟨y0, y1⟩ := HOK.out.next (p := (i : Int)) (x := x) (d := (d : Int)) (by omega) (by have := HP.out; omega) x0 x1 (by omega) hdb
              have HNx := Lib.hid (fun U (h : Ext w U) => spec_next D q a n c a' n' c' (i : Int) x (d : Int) U (HV.out.ext h) HOK.out (by omega) (by have := HP.out; omega) x0 x1 (by omega) hdb)
              obtain ⟨bb, oo, a1, n1, c1, b2', o2, ⟨g1, g2⟩, ⟨g3, g4⟩⟩ := endsL_at (HG.out.ext hxw1) HP.out 101 und_rows ((i : Int) + 1) (nextS D (i : Int) x (d : Int)) (by omega) (by omega) y0 y1
              rw [show n' - ((i : Int) + 1).toNat = n' - i - 1 by omega] at g4
              by_cases hz : endsS D (n' - i - 1) ((i : Int) + 1) (nextS D (i : Int) x (d : Int)) = 0
              · have HT2 := Lib.hid ((tailS_skip (by omega) hz).symm.trans HT.out)
                rw [hz] at g4
                clear hz
                generalize nextS D (i : Int) x (d : Int) = y at *
                go_wp2
                (refine wp_region_from w1 (by repeat (first | (with_reducible exact Ext.refl _) | (with_reducible refine Ext.drewN ?_ _) | (with_reducible refine Ext.drew ?_) | (with_reducible refine Ext.alloc ?_ _) | ((with_reducible refine Ext.setCell ?_ ?_ _); rotate_left; focus (first | (simp; done) | (simp; omega) | omega)) | assumption | (with_reducible refine Ext.trans ?_ (by assumption)))) (by kernel_rfl) (by kernel_rfl) (seqB_of (by kernel_rfl)) ?_; (repeat (first | (refine mix_q rfl ?_; go_big_quiet_step (fail); refine wpQuiet_nil ?_; show wpMix _ _ _ _ _ _ _) | (refine mix_s rfl ?_; go_wp2_with (((with_reducible refine (HNx.out _ (hxw1.trans (by repeat (first | (with_reducible exact Ext.refl _) | (with_reducible refine Ext.drewN ?_ _) | (with_reducible refine Ext.drew ?_) | (with_reducible refine Ext.alloc ?_ _) | ((with_reducible refine Ext.setCell ?_ ?_ _); rotate_left; focus (first | (simp; done) | (simp; omega) | omega)) | assumption | (with_reducible refine Ext.trans ?_ (by assumption)))))).mono ?_); rintro e w4 ⟨rfl, hy4⟩; have hxw4 : Ext w1 w4 := Ext.trans (by repeat (first | (with_reducible exact Ext.refl _) | (with_reducible refine Ext.drewN ?_ _) | (with_reducible refine Ext.drew ?_) | (with_reducible refine Ext.alloc ?_ _) | ((with_reducible refine Ext.setCell ?_ ?_ _); rotate_left; focus (first | (simp; done) | (simp; omega) | omega)) | assumption | (with_reducible refine Ext.trans ?_ (by assumption)))) hy4; have hz4 := hy4; clear hy4)); first | refine ⟨up_of (by repeat (first | (with_reducible exact Ext.refl _) | (with_reducible refine Ext.drewN ?_ _) | (with_reducible refine Ext.drew ?_) | (with_reducible refine Ext.alloc ?_ _) | ((with_reducible refine Ext.setCell ?_ ?_ _); rotate_left; focus (first | (simp; done) | (simp; omega) | omega)) | assumption | (with_reducible refine Ext.trans ?_ (by assumption)))), ?_⟩ | refine ⟨rfl, rfl, up_of (by repeat (first | (with_reducible exact Ext.refl _) | (with_reducible refine Ext.drewN ?_ _) | (with_reducible refine Ext.drew ?_) | (with_reducible refine Ext.alloc ?_ _) | ((with_reducible refine Ext.setCell ?_ ?_ _); rotate_left; focus (first | (simp; done) | (simp; omega) | omega)) | assumption | (with_reducible refine Ext.trans ?_ (by assumption)))), ?_⟩))); refine mix_nil ?_)
                go_wp2
                exact ⟨⟨d + 1, by omega, by go_num, HT2, (by repeat (first | (with_reducible exact Ext.refl _) | (with_reducible refine Ext.drewN ?_ _) | (with_reducible refine Ext.drew ?_) | (with_reducible refine Ext.alloc ?_ _) | ((with_reducible refine Ext.setCell ?_ ?_ _); rotate_left; focus (first | (simp; done) | (simp; omega) | omega)) | assumption | (with_reducible refine Ext.trans ?_ (by assumption))))⟩, by simp [intOf]; omega⟩
              · have hz2 : (endsS D (n' - i - 1) ((i : Int) + 1) (nextS D (i : Int) x (d : Int)) == 0) = false := by simpa using hz
                have HTn := Lib.hid (show T = hdS T :: T.tail by rw [← HT.out]; exact tail_ne (by omega) hz)
                have HTh := Lib.hid (show hdS T = (d : Int) :: hdS (wordsS D (n' - (i + 1)) (((i + 1 : Nat) : Int)) (nextS D (i : Int) x (d : Int))) by rw [← HT.out, hd_tail (by omega) hz, show n' - (i + 1) = n' - i - 1 by omega]; rfl)
                have HEn := Lib.hid (show endsS D (n' - (i + 1)) (((i + 1 : Nat) : Int)) (nextS D (i : Int) x (d : Int)) ≠ 0 by rw [show n' - (i + 1) = n' - i - 1 by omega]; exact hz)
                obtain ⟨vs, hvs⟩ := HBf.out _ _ HTn.out
                have HRes := Lib.hid hvs
                generalize nextS D (i : Int) x (d : Int) = y at *
                generalize endsS D (n' - i - 1) ((i : Int) + 1) y = ev at *
                clear hvs hz
                go_wp2
                (refine wp_region_from w1 (by repeat (first | (with_reducible exact Ext.refl _) | (with_reducible refine Ext.drewN ?_ _) | (with_reducible refine Ext.drew ?_) | (with_reducible refine Ext.alloc ?_ _) | ((with_reducible refine Ext.setCell ?_ ?_ _); rotate_left; focus (first | (simp; done) | (simp; omega) | omega)) | assumption | (with_reducible refine Ext.trans ?_ (by assumption)))) (by kernel_rfl) (by kernel_rfl) (seqB_of (by kernel_rfl)) ?_; (repeat (first | (refine mix_q rfl ?_; go_big_quiet_step (fail); refine wpQuiet_nil ?_; show wpMix _ _ _ _ _ _ _) | (refine mix_s rfl ?_; go_wp2_with (((with_reducible refine (HNx.out _ (hxw1.trans (by repeat (first | (with_reducible exact Ext.refl _) | (with_reducible refine Ext.drewN ?_ _) | (with_reducible refine Ext.drew ?_) | (with_reducible refine Ext.alloc ?_ _) | ((with_reducible refine Ext.setCell ?_ ?_ _); rotate_left; focus (first | (simp; done) | (simp; omega) | omega)) | assumption | (with_reducible refine Ext.trans ?_ (by assumption)))))).mono ?_); rintro e w4 ⟨rfl, hy4⟩; have hxw4 : Ext w1 w4 := Ext.trans (by repeat (first | (with_reducible exact Ext.refl _) | (with_reducible refine Ext.drewN ?_ _) | (with_reducible refine Ext.drew ?_) | (with_reducible refine Ext.alloc ?_ _) | ((with_reducible refine Ext.setCell ?_ ?_ _); rotate_left; focus (first | (simp; done) | (simp; omega) | omega)) | assumption | (with_reducible refine Ext.trans ?_ (by assumption)))) hy4; have hz4 := hy4; clear hy4)); first | refine ⟨up_of (by repeat (first | (with_reducible exact Ext.refl _) | (with_reducible refine Ext.drewN ?_ _) | (with_reducible refine Ext.drew ?_) | (with_reducible refine Ext.alloc ?_ _) | ((with_reducible refine Ext.setCell ?_ ?_ _); rotate_left; focus (first | (simp; done) | (simp; omega) | omega)) | assumption | (with_reducible refine Ext.trans ?_ (by assumption)))), ?_⟩ | refine ⟨rfl, rfl, up_of (by repeat (first | (with_reducible exact Ext.refl _) | (with_reducible refine Ext.drewN ?_ _) | (with_reducible refine Ext.drew ?_) | (with_reducible refine Ext.alloc ?_ _) | ((with_reducible refine Ext.setCell ?_ ?_ _); rotate_left; focus (first | (simp; done) | (simp; omega) | omega)) | assumption | (with_reducible refine Ext.trans ?_ (by assumption)))), ?_⟩))); refine mix_nil ?_)
                have hxq4 : Ext w w4 := hxw1.trans hxw4
                go_wp2_with ((with_reducible refine (HLe.out _).mono ?_); rintro e w5 ⟨rfl, rfl⟩)
                refine (spec_own a9 i cd ((digC s).take i) w4 (HPre.out.ext hxw4) (by omega)).mono ?_
                rintro e w6 ⟨a7, c7, rfl, ho7, hx7⟩
                have hli : (I ((digC s).take i)).length = i := by rw [I_len, List.length_take, HDl.out, ← Hhm.out, hmin]
                rw [hli] at ho7 ⊢
                have hxw6 : Ext w1 w6 := hxw4.trans hx7
                have HO7 := Lib.hid (ho7.mono (B' := w1.heap.size) hxw4.le)
                clear ho7 hli
                go_wp2_with (first | (at_builtin; refine law_append1 _ rfl _ _ 23 rfl 2 (.int .i64 0) 8 und_int64s info_int64 rfl w1.heap.size a7 i c7 _ _ rfl rfl rfl HO7.out hxw6.le (by omega) (by omega) ?_; intro a8 c8 wz hoz hbz hgz; have hxwz : Ext w1 wz := Ext.below hxw6 hbz) | ((with_reducible refine (HNx.out _ (hxw1.trans hxwz)).mono ?_); rintro e w8 ⟨rfl, hy8⟩))
                have HDd := Lib.hid (show DigC D [(d : Int)] from fun e he => by obtain rfl := List.mem_singleton.1 he; exact ⟨by omega, hdb⟩)
                clear g1 g2 g3 g4
                go_loopw [11, 13, 14, 15] (fun xv ov kv _ wr => ∃ (k : Nat) (x2 : Int) (ao : Option Addr) (co : Nat) (us : List Int), i < k ∧ k ≤ n' ∧ kv = .int .i64 k ∧ xv = .int .i64 x2 ∧ ov = .slice ao k co ∧ Own wr w1.heap.size 2 ao k co (I ((digC s).take i ++ us)) ∧ Hid (hdS T = us ++ hdS (wordsS D (n' - k) (k : Int) x2)) ∧ Hid (endsS D (n' - k) (k : Int) x2 ≠ 0) ∧ Hid (DigC D us) ∧ 0 ≤ x2 ∧ x2 < D.states ∧ Ext w1 wr) (fun _ _ kv _ _ => n' - (intOf kv).toNat)
                case atStart => exact ⟨i + 1, y, a8, c8, [(d : Int)], by omega, by omega, by go_num, rfl, rfl, by rw [I_append]; exact hoz.ext hy8, HTh, HEn, HDd, y0, y1, hxwz.trans hy8⟩
                case round =>
                  obtain ⟨k, x2, ao, co, us, hik, hk, rfl, rfl, rfl, ho, HH, HE2, HU, x20, x21, hx⟩ := hrel
                  have hxr : Ext w1 wr := hx
                  have hxq : Ext w wr := hxw1.trans hx
                  have HO := Lib.hid ho
                  clear ho
                  by_cases hkn : k < n'
                  · obtain ⟨T4, hT4⟩ : ∃ T4, T4 = tailS D (n' - k - 1) (k : Int) x2 0 := ⟨_, rfl⟩
                    have HW4 := Lib.hid (show wordsS D (n' - k) (k : Int) x2 = T4 by rw [hT4, show n' - k = (n' - k - 1) + 1 by omega, words_succ]; rfl)
                    have HN4 := Lib.hid (show T4 ≠ [] by obtain ⟨u, us', hu⟩ := words_some HE2.out; rw [← HW4.out, hu]; simp)
                    have HT4 := Lib.hid hT4
                    clear hT4
                    go_wp2
                    go_loopw [15] (fun ev wr => ∃ e : Nat, (e : Int) < D.base ∧ ev = .int .i64 e ∧ Hid (tailS D (n' - k - 1) (k : Int) x2 e = T4) ∧ Own wr w1.heap.size 2 ao k co (I ((digC s).take i ++ us)) ∧ Ext w1 wr) (fun ev _ => (D.base - intOf ev).toNat)
                    case atStart => exact ⟨0, by omega, rfl, Lib.hid HT4.out.symm, HO.out, hx⟩
                    case round =>
                      obtain ⟨e, heb, rfl, HTe, ho, hx⟩ := hrel
                      have hxr : Ext w1 wr := hx
                      have hxq : Ext w wr := hxw1.trans hx
                      have HOe := Lib.hid ho
                      clear ho
                      obtain ⟨v0, v1⟩ := HOK.out.next (p := (k : Int)) (x := x2) (d := (e : Int)) (by omega) (by have := HP.out; omega) x20 x21 (by omega) heb
                      have HNx2 := Lib.hid (fun U (h : Ext w U) => spec_next D q a n c a' n' c' (k : Int) x2 (e : Int) U (HV.out.ext h) HOK.out (by omega) (by have := HP.out; omega) x20 x21 (by omega) heb)
                      obtain ⟨bc, oc, a4, n4, c4, bd2, od2, ⟨g5, g6⟩, ⟨g7, g8⟩⟩ := endsL_at (HG.out.ext hxw1) HP.out 101 und_rows ((k : Int) + 1) (nextS D (k : Int) x2 (e : Int)) (by omega) (by omega) v0 v1
                      rw [show n' - ((k : Int) + 1).toNat = n' - k - 1 by omega] at g8
                      by_cases hz : endsS D (n' - k - 1) ((k : Int) + 1) (nextS D (k : Int) x2 (e : Int)) = 0
                      · have HT5 := Lib.hid ((tailS_skip (by omega) hz).symm.trans HTe.out)
                        have he1 : ((e + 1 : Nat) : Int) < D.base := by
                          have h1 : tailS D (n' - k - 1) (k : Int) x2 (e + 1) ≠ [] := by rw [HT5.out]; exact HN4.out
                          have := tail_ends h1
                          omega
                        rw [hz] at g8
                        clear hz
                        generalize nextS D (k : Int) x2 (e : Int) = v at *
                        go_wp2
                        (refine wp_region_from w1 (by repeat (first | (with_reducible exact Ext.refl _) | (with_reducible refine Ext.drewN ?_ _) | (with_reducible refine Ext.drew ?_) | (with_reducible refine Ext.alloc ?_ _) | ((with_reducible refine Ext.setCell ?_ ?_ _); rotate_left; focus (first | (simp; done) | (simp; omega) | omega)) | assumption | (with_reducible refine Ext.trans ?_ (by assumption)))) (by kernel_rfl) (by kernel_rfl) (seqB_of (by kernel_rfl)) ?_; (repeat (first | (refine mix_q rfl ?_; go_big_quiet_step (fail); refine wpQuiet_nil ?_; show wpMix _ _ _ _ _ _ _) | (refine mix_s rfl ?_; go_wp2_with (((with_reducible refine (HNx2.out _ (hxw1.trans (by repeat (first | (with_reducible exact Ext.refl _) | (with_reducible refine Ext.drewN ?_ _) | (with_reducible refine Ext.drew ?_) | (with_reducible refine Ext.alloc ?_ _) | ((with_reducible refine Ext.setCell ?_ ?_ _); rotate_left; focus (first | (simp; done) | (simp; omega) | omega)) | assumption | (with_reducible refine Ext.trans ?_ (by assumption)))))).mono ?_); rintro e w4 ⟨rfl, hy4⟩; have hxw4 : Ext w1 w4 := Ext.trans (by repeat (first | (with_reducible exact Ext.refl _) | (with_reducible refine Ext.drewN ?_ _) | (with_reducible refine Ext.drew ?_) | (with_reducible refine Ext.alloc ?_ _) | ((with_reducible refine Ext.setCell ?_ ?_ _); rotate_left; focus (first | (simp; done) | (simp; omega) | omega)) | assumption | (with_reducible refine Ext.trans ?_ (by assumption)))) hy4; have hz4 := hy4; clear hy4)); first | refine ⟨up_of (by repeat (first | (with_reducible exact Ext.refl _) | (with_reducible refine Ext.drewN ?_ _) | (with_reducible refine Ext.drew ?_) | (with_reducible refine Ext.alloc ?_ _) | ((with_reducible refine Ext.setCell ?_ ?_ _); rotate_left; focus (first | (simp; done) | (simp; omega) | omega)) | assumption | (with_reducible refine Ext.trans ?_ (by assumption)))), ?_⟩ | refine ⟨rfl, rfl, up_of (by repeat (first | (with_reducible exact Ext.refl _) | (with_reducible refine Ext.drewN ?_ _) | (with_reducible refine Ext.drew ?_) | (with_reducible refine Ext.alloc ?_ _) | ((with_reducible refine Ext.setCell ?_ ?_ _); rotate_left; focus (first | (simp; done) | (simp; omega) | omega)) | assumption | (with_reducible refine Ext.trans ?_ (by assumption)))), ?_⟩))); refine mix_nil ?_)
                        go_wp2
                        exact ⟨⟨e + 1, he1, by go_num, HT5, HOe.out.ext (show Ext wr _ from (by repeat (first | (with_reducible exact Ext.refl _) | (with_reducible refine Ext.drewN ?_ _) | (with_reducible refine Ext.drew ?_) | (with_reducible refine Ext.alloc ?_ _) | ((with_reducible refine Ext.setCell ?_ ?_ _); rotate_left; focus (first | (simp; done) | (simp; omega) | omega)) | assumption | (with_reducible refine Ext.trans ?_ (by assumption))))), (by repeat (first | (with_reducible exact Ext.refl _) | (with_reducible refine Ext.drewN ?_ _) | (with_reducible refine Ext.drew ?_) | (with_reducible refine Ext.alloc ?_ _) | ((with_reducible refine Ext.setCell ?_ ?_ _); rotate_left; focus (first | (simp; done) | (simp; omega) | omega)) | assumption | (with_reducible refine Ext.trans ?_ (by assumption))))⟩, by simp [intOf]; omega⟩
                      · have hz2 : (endsS D (n' - k - 1) ((k : Int) + 1) (nextS D (k : Int) x2 (e : Int)) == 0) = false := by simpa using hz
                        have HTh2 := Lib.hid (show hdS T = (us ++ [(e : Int)]) ++ hdS (wordsS D (n' - (k + 1)) (((k + 1 : Nat) : Int)) (nextS D (k : Int) x2 (e : Int))) by
                          rw [HH.out, HW4.out, ← HTe.out, hd_tail (by omega) hz, show n' - (k + 1) = n' - k - 1 by omega, List.append_assoc]; rfl)
                        have HEn2 := Lib.hid (show endsS D (n' - (k + 1)) (((k + 1 : Nat) : Int)) (nextS D (k : Int) x2 (e : Int)) ≠ 0 by rw [show n' - (k + 1) = n' - k - 1 by omega]; exact hz)
                        have HU2 := Lib.hid (show DigC D (us ++ [(e : Int)]) from fun d hd => by
                          rcases List.mem_append.1 hd with h | h
                          · exact HU.out d h
                          · obtain rfl := List.mem_singleton.1 h; exact ⟨by omega, heb⟩)
                        generalize nextS D (k : Int) x2 (e : Int) = v at *
                        generalize endsS D (n' - k - 1) ((k : Int) + 1) v = ev at *
                        clear hz
                        go_wp2
                        (refine wp_region_from w1 (by repeat (first | (with_reducible exact Ext.refl _) | (with_reducible refine Ext.drewN ?_ _) | (with_reducible refine Ext.drew ?_) | (with_reducible refine Ext.alloc ?_ _) | ((with_reducible refine Ext.setCell ?_ ?_ _); rotate_left; focus (first | (simp; done) | (simp; omega) | omega)) | assumption | (with_reducible refine Ext.trans ?_ (by assumption)))) (by kernel_rfl) (by kernel_rfl) (seqB_of (by kernel_rfl)) ?_; (repeat (first | (refine mix_q rfl ?_; go_big_quiet_step (fail); refine wpQuiet_nil ?_; show wpMix _ _ _ _ _ _ _) | (refine mix_s rfl ?_; go_wp2_with (((with_reducible refine (HNx2.out _ (hxw1.trans (by repeat (first | (with_reducible exact Ext.refl _) | (with_reducible refine Ext.drewN ?_ _) | (with_reducible refine Ext.drew ?_) | (with_reducible refine Ext.alloc ?_ _) | ((with_reducible refine Ext.setCell ?_ ?_ _); rotate_left; focus (first | (simp; done) | (simp; omega) | omega)) | assumption | (with_reducible refine Ext.trans ?_ (by assumption)))))).mono ?_); rintro e w4 ⟨rfl, hy4⟩; have hxw4 : Ext w1 w4 := Ext.trans (by repeat (first | (with_reducible exact Ext.refl _) | (with_reducible refine Ext.drewN ?_ _) | (with_reducible refine Ext.drew ?_) | (with_reducible refine Ext.alloc ?_ _) | ((with_reducible refine Ext.setCell ?_ ?_ _); rotate_left; focus (first | (simp; done) | (simp; omega) | omega)) | assumption | (with_reducible refine Ext.trans ?_ (by assumption)))) hy4; have hz4 := hy4; clear hy4)); first | refine ⟨up_of (by repeat (first | (with_reducible exact Ext.refl _) | (with_reducible refine Ext.drewN ?_ _) | (with_reducible refine Ext.drew ?_) | (with_reducible refine Ext.alloc ?_ _) | ((with_reducible refine Ext.setCell ?_ ?_ _); rotate_left; focus (first | (simp; done) | (simp; omega) | omega)) | assumption | (with_reducible refine Ext.trans ?_ (by assumption)))), ?_⟩ | refine ⟨rfl, rfl, up_of (by repeat (first | (with_reducible exact Ext.refl _) | (with_reducible refine Ext.drewN ?_ _) | (with_reducible refine Ext.drew ?_) | (with_reducible refine Ext.alloc ?_ _) | ((with_reducible refine Ext.setCell ?_ ?_ _); rotate_left; focus (first | (simp; done) | (simp; omega) | omega)) | assumption | (with_reducible refine Ext.trans ?_ (by assumption)))), ?_⟩))); refine mix_nil ?_)
                        have HO4 := Lib.hid (HOe.out.ext (show Ext wr w4 from (by repeat (first | (with_reducible exact Ext.refl _) | (with_reducible refine Ext.drewN ?_ _) | (with_reducible refine Ext.drew ?_) | (with_reducible refine Ext.alloc ?_ _) | ((with_reducible refine Ext.setCell ?_ ?_ _); rotate_left; focus (first | (simp; done) | (simp; omega) | omega)) | assumption | (with_reducible refine Ext.trans ?_ (by assumption))))))
                        go_wp2_with (first | (at_builtin; refine law_append1 _ rfl _ _ 23 rfl 2 (.int .i64 0) 8 und_int64s info_int64 rfl w1.heap.size ao k co _ _ rfl rfl rfl HO4.out hxw4.le (by omega) (by omega) ?_; intro a8 c8 wz hoz hbz hgz; have hxwz : Ext w1 wz := Ext.below hxw4 hbz) | ((with_reducible refine (HNx2.out _ (hxw1.trans hxwz)).mono ?_); rintro e w8 ⟨rfl, hy8⟩))
                        exact ⟨⟨k + 1, v, a8, c8, us ++ [(e : Int)], by omega, by omega, by go_num, rfl, rfl, by rw [← List.append_assoc, I_append]; exact hoz.ext hy8, HTh2, HEn2, HU2, v0, v1, hxwz.trans hy8⟩, by simp [intOf]; omega⟩
                  · obtain rfl : k = n' := by omega
                    have HTu := Lib.hid (show hdS T = us by
                      have h1 := HH.out
                      have h2 := HE2.out
                      rw [Nat.sub_self] at h1 h2
                      unfold endsS at h2
                      unfold wordsS at h1
                      by_cases e : x2 = D.fin
                      · rw [if_pos e] at h1; simpa [hdS] using h1
                      · rw [if_neg e] at h2; exact absurd rfl h2)
                    have HRn := Lib.hid (show nextL D s = ((digC s).take i ++ us) :: vs by rw [HRes.out, HTu.out])
                    have HRt := Lib.hid (show nextT D s = textOf ((digC s).take i ++ us) by rw [nextT, HRn.out])
                    have HFr := Lib.hid (spec_from ao k co ((digC s).take i ++ us) wr HO.out.ints (dig36_of b36 (fun d hd => by
                      rcases List.mem_append.1 hd with h | h
                      · exact HDg.out.take i d h
                      · exact HU.out d h)) (by omega))
                    go_wp2_with ((with_reducible refine HFr.out.mono ?_); rintro e w9 ⟨rfl, hy9⟩)
                    go_ret2
                    exact ⟨by rw [HRt.out, HRn.out]; rfl, (hxw1.trans hx).trans hy9⟩
            · have hbd : (d : Int) = D.base := by omega
              have hdec : decide ((d : Int) < D.base) = false := by simpa using hdb
              have heq : ((d : Int) == D.base) = true := by simpa using hbd
              have HB2 := Lib.hid (HBa.out (by rw [← HT.out]; exact tailS_end _ _ _ _ _ (by omega)))
              clear hbd
              go_wp2
              (refine wp_region_from w1 (by repeat (first | (with_reducible exact Ext.refl _) | (with_reducible refine Ext.drewN ?_ _) | (with_reducible refine Ext.drew ?_) | (with_reducible refine Ext.alloc ?_ _) | ((with_reducible refine Ext.setCell ?_ ?_ _); rotate_left; focus (first | (simp; done) | (simp; omega) | omega)) | assumption | (with_reducible refine Ext.trans ?_ (by assumption)))) (by kernel_rfl) (by kernel_rfl) (seqB_of (by kernel_rfl)) ?_; (repeat (first | (refine mix_q rfl ?_; go_big_quiet_step (fail); refine wpQuiet_nil ?_; show wpMix _ _ _ _ _ _ _) | (refine mix_s rfl ?_; go_wp2_with (fail); first | refine ⟨up_of (by repeat (first | (with_reducible exact Ext.refl _) | (with_reducible refine Ext.drewN ?_ _) | (with_reducible refine Ext.drew ?_) | (with_reducible refine Ext.alloc ?_ _) | ((with_reducible refine Ext.setCell ?_ ?_ _); rotate_left; focus (first | (simp; done) | (simp; omega) | omega)) | assumption | (with_reducible refine Ext.trans ?_ (by assumption)))), ?_⟩ | refine ⟨rfl, rfl, up_of (by repeat (first | (with_reducible exact Ext.refl _) | (with_reducible refine Ext.drewN ?_ _) | (with_reducible refine Ext.drew ?_) | (with_reducible refine Ext.alloc ?_ _) | ((with_reducible refine Ext.setCell ?_ ?_ _); rotate_left; focus (first | (simp; done) | (simp; omega) | omega)) | assumption | (with_reducible refine Ext.trans ?_ (by assumption)))), ?_⟩))); refine mix_nil ?_)
              go_wp2
              exact ⟨⟨i, (i : Int) - 1, by omega, by omega, rfl, HB2.out, (by repeat (first | (with_reducible exact Ext.refl _) | (with_reducible refine Ext.drewN ?_ _) | (with_reducible refine Ext.drew ?_) | (with_reducible refine Ext.alloc ?_ _) | ((with_reducible refine Ext.setCell ?_ ?_ _); rotate_left; focus (first | (simp; done) | (simp; omega) | omega)) | assumption | (with_reducible refine Ext.trans ?_ (by assumption))))⟩, by simp [intOf]⟩
      · have Hs0 := Lib.hid (fun h => hs0 (HE.out.2 h))
        have hem : s.toList.isEmpty = false := by simpa using hs0
        have H0i := Lib.hid (show s.size = 0 → i = 0 from fun h => absurd h Hs0.out)
        have hmn : m = n' := by rw [Hhm.out]; exact (HSn.out Hs0.out).1
        have hils : i ≤ m := by omega
        have him : i < m := by omega
        clear hmn
        have hpre := Hd1i.out.ints.pre (P := Try.prog) 23 2 und_int64s cell_int64 elem_int64s i hils
        obtain ⟨a9, hsl, hpre⟩ := hpre
        have HPre := Lib.hid hpre
        have HRun := Lib.hid (fun W h => spec_run D q a n c a' n' c' 0 D.start a9 i cd ((digC s).take i) W (HV.out.ext (hxw1.trans h)) HOK.out (by omega) hst hst1 (Ints.ext hpre h) (HDg.out.take i) (by rw [HP.out]; omega))
        obtain ⟨x0, x1⟩ := runS_bd HOK.out ((digC s).take i) 0 D.start (HDg.out.take i) (by omega) (by rw [List.length_take, HP.out]; omega) hst hst1
        have HBf := Lib.hid (fun u us => back_found (D := D) (n := n') (i := i) (s := s) (u := u) (us := us) HP.out hin (fun e => (HSn.out e).1) H0i.out Hhbk.out)
        have HBa := Lib.hid (back_at (D := D) (n := n') (i := i) (s := s) HP.out hin (fun e => (HSn.out e).1) H0i.out Hhbk.out)
        have hsd : (startD s i : Int) ≤ D.base := by
          unfold startD
          split
          · omega
          · rename_i hne
            have := HDg.out.at (k := i) (by rw [HDl.out, (HSn.out hne).1]; exact hin)
            omega
        generalize runS D 0 D.start ((digC s).take i) = x at *
        have hmin : min i m = i := Nat.min_eq_left hils
        have HLe := Lib.hid (fun W => spec_l10Least i m W)
        rw [hmin] at HLe
        clear hpre
        go_wp2
        (refine wp_region_from w1 (by repeat (first | (with_reducible exact Ext.refl _) | (with_reducible refine Ext.drewN ?_ _) | (with_reducible refine Ext.drew ?_) | (with_reducible refine Ext.alloc ?_ _) | ((with_reducible refine Ext.setCell ?_ ?_ _); rotate_left; focus (first | (simp; done) | (simp; omega) | omega)) | assumption | (with_reducible refine Ext.trans ?_ (by assumption)))) (by kernel_rfl) (by kernel_rfl) (seqB_of (by kernel_rfl)) ?_; (repeat (first | (refine mix_q rfl ?_; go_big_quiet_step (fail); refine wpQuiet_nil ?_; show wpMix _ _ _ _ _ _ _) | (refine mix_s rfl ?_; go_wp2_with (first | (go_at_call 135; (with_reducible refine (HLe.out _).mono ?_); rintro e w2 ⟨rfl, rfl⟩) | (go_at_call 118; (with_reducible refine (HRun.out _ (by repeat (first | (with_reducible exact Ext.refl _) | (with_reducible refine Ext.drewN ?_ _) | (with_reducible refine Ext.drew ?_) | (with_reducible refine Ext.alloc ?_ _) | ((with_reducible refine Ext.setCell ?_ ?_ _); rotate_left; focus (first | (simp; done) | (simp; omega) | omega)) | assumption | (with_reducible refine Ext.trans ?_ (by assumption))))).mono ?_); rintro e w3 ⟨rfl, hy3⟩; have hxw3 : Ext w1 w3 := Ext.trans (by repeat (first | (with_reducible exact Ext.refl _) | (with_reducible refine Ext.drewN ?_ _) | (with_reducible refine Ext.drew ?_) | (with_reducible refine Ext.alloc ?_ _) | ((with_reducible refine Ext.setCell ?_ ?_ _); rotate_left; focus (first | (simp; done) | (simp; omega) | omega)) | assumption | (with_reducible refine Ext.trans ?_ (by assumption)))) hy3; have hz3 := hy3; clear hy3)); first | refine ⟨up_of (by repeat (first | (with_reducible exact Ext.refl _) | (with_reducible refine Ext.drewN ?_ _) | (with_reducible refine Ext.drew ?_) | (with_reducible refine Ext.alloc ?_ _) | ((with_reducible refine Ext.setCell ?_ ?_ _); rotate_left; focus (first | (simp; done) | (simp; omega) | omega)) | assumption | (with_reducible refine Ext.trans ?_ (by assumption)))), ?_⟩ | refine ⟨rfl, rfl, up_of (by repeat (first | (with_reducible exact Ext.refl _) | (with_reducible refine Ext.drewN ?_ _) | (with_reducible refine Ext.drew ?_) | (with_reducible refine Ext.alloc ?_ _) | ((with_reducible refine Ext.setCell ?_ ?_ _); rotate_left; focus (first | (simp; done) | (simp; omega) | omega)) | assumption | (with_reducible refine Ext.trans ?_ (by assumption)))), ?_⟩))); refine mix_nil ?_)
        obtain ⟨bd, od, dix, dcell⟩ := Hd1i.out.ints.ix (P := Try.prog) 23 2 und_int64s cell_int64
        obtain ⟨d0, d1⟩ := HDg.out.at (k := i) (by rw [HDl.out, ← Hhm.out]; exact him)
        go_wp2
        obtain ⟨T, hT⟩ : ∃ T, T = tailS D (n' - i - 1) (i : Int) x (startD s i) := ⟨_, rfl⟩
        rw [← hT] at HBf HBa
        go_loopw [12] (fun dv wr => ∃ d : Nat, (d : Int) ≤ D.base ∧ dv = .int .i64 d ∧ Hid (tailS D (n' - i - 1) (i : Int) x d = T) ∧ Ext w1 wr) (fun dv _ => (D.base - intOf dv).toNat)
        case atStart => exact ⟨startD s i, hsd, (by rw [show (startD s i : Int) = gi (digC s) i + 1 by rw [startD, if_neg Hs0.out]; omega]), Lib.hid hT.symm, (by repeat (first | (with_reducible exact Ext.refl _) | (with_reducible refine Ext.drewN ?_ _) | (with_reducible refine Ext.drew ?_) | (with_reducible refine Ext.alloc ?_ _) | ((with_reducible refine Ext.setCell ?_ ?_ _); rotate_left; focus (first | (simp; done) | (simp; omega) | omega)) | assumption | (with_reducible refine Ext.trans ?_ (by assumption))))⟩
        case round =>
          obtain ⟨d, hd, rfl, HT, hx⟩ := hrel
          have hxr : Ext w1 wr := hx
          have hxq : Ext w wr := hxw1.trans hx
          by_cases hdb : (d : Int) < D.base
          · have hdec : decide ((d : Int) < D.base) = true := by simpa using hdb
            have hne : ((d : Int) == D.base) = false := by simp; omega
            obtain ⟨y0, y1⟩ := HOK.out.next (p := (i : Int)) (x := x) (d := (d : Int)) (by omega) (by have := HP.out; omega) x0 x1 (by omega) hdb
            have HNx := Lib.hid (fun U (h : Ext w U) => spec_next D q a n c a' n' c' (i : Int) x (d : Int) U (HV.out.ext h) HOK.out (by omega) (by have := HP.out; omega) x0 x1 (by omega) hdb)
            obtain ⟨bb, oo, a1, n1, c1, b2', o2, ⟨g1, g2⟩, ⟨g3, g4⟩⟩ := endsL_at (HG.out.ext hxw1) HP.out 101 und_rows ((i : Int) + 1) (nextS D (i : Int) x (d : Int)) (by omega) (by omega) y0 y1
            rw [show n' - ((i : Int) + 1).toNat = n' - i - 1 by omega] at g4
            by_cases hz : endsS D (n' - i - 1) ((i : Int) + 1) (nextS D (i : Int) x (d : Int)) = 0
            · have HT2 := Lib.hid ((tailS_skip (by omega) hz).symm.trans HT.out)
              rw [hz] at g4
              clear hz
              generalize nextS D (i : Int) x (d : Int) = y at *
              go_wp2
              (refine wp_region_from w1 (by repeat (first | (with_reducible exact Ext.refl _) | (with_reducible refine Ext.drewN ?_ _) | (with_reducible refine Ext.drew ?_) | (with_reducible refine Ext.alloc ?_ _) | ((with_reducible refine Ext.setCell ?_ ?_ _); rotate_left; focus (first | (simp; done) | (simp; omega) | omega)) | assumption | (with_reducible refine Ext.trans ?_ (by assumption)))) (by kernel_rfl) (by kernel_rfl) (seqB_of (by kernel_rfl)) ?_; (repeat (first | (refine mix_q rfl ?_; go_big_quiet_step (fail); refine wpQuiet_nil ?_; show wpMix _ _ _ _ _ _ _) | (refine mix_s rfl ?_; go_wp2_with (((with_reducible refine (HNx.out _ (hxw1.trans (by repeat (first | (with_reducible exact Ext.refl _) | (with_reducible refine Ext.drewN ?_ _) | (with_reducible refine Ext.drew ?_) | (with_reducible refine Ext.alloc ?_ _) | ((with_reducible refine Ext.setCell ?_ ?_ _); rotate_left; focus (first | (simp; done) | (simp; omega) | omega)) | assumption | (with_reducible refine Ext.trans ?_ (by assumption)))))).mono ?_); rintro e w4 ⟨rfl, hy4⟩; have hxw4 : Ext w1 w4 := Ext.trans (by repeat (first | (with_reducible exact Ext.refl _) | (with_reducible refine Ext.drewN ?_ _) | (with_reducible refine Ext.drew ?_) | (with_reducible refine Ext.alloc ?_ _) | ((with_reducible refine Ext.setCell ?_ ?_ _); rotate_left; focus (first | (simp; done) | (simp; omega) | omega)) | assumption | (with_reducible refine Ext.trans ?_ (by assumption)))) hy4; have hz4 := hy4; clear hy4)); first | refine ⟨up_of (by repeat (first | (with_reducible exact Ext.refl _) | (with_reducible refine Ext.drewN ?_ _) | (with_reducible refine Ext.drew ?_) | (with_reducible refine Ext.alloc ?_ _) | ((with_reducible refine Ext.setCell ?_ ?_ _); rotate_left; focus (first | (simp; done) | (simp; omega) | omega)) | assumption | (with_reducible refine Ext.trans ?_ (by assumption)))), ?_⟩ | refine ⟨rfl, rfl, up_of (by repeat (first | (with_reducible exact Ext.refl _) | (with_reducible refine Ext.drewN ?_ _) | (with_reducible refine Ext.drew ?_) | (with_reducible refine Ext.alloc ?_ _) | ((with_reducible refine Ext.setCell ?_ ?_ _); rotate_left; focus (first | (simp; done) | (simp; omega) | omega)) | assumption | (with_reducible refine Ext.trans ?_ (by assumption)))), ?_⟩))); refine mix_nil ?_)
              go_wp2
              exact ⟨⟨d + 1, by omega, by go_num, HT2, (by repeat (first | (with_reducible exact Ext.refl _) | (with_reducible refine Ext.drewN ?_ _) | (with_reducible refine Ext.drew ?_) | (with_reducible refine Ext.alloc ?_ _) | ((with_reducible refine Ext.setCell ?_ ?_ _); rotate_left; focus (first | (simp; done) | (simp; omega) | omega)) | assumption | (with_reducible refine Ext.trans ?_ (by assumption))))⟩, by simp [intOf]; omega⟩
            · have hz2 : (endsS D (n' - i - 1) ((i : Int) + 1) (nextS D (i : Int) x (d : Int)) == 0) = false := by simpa using hz
              have HTn := Lib.hid (show T = hdS T :: T.tail by rw [← HT.out]; exact tail_ne (by omega) hz)
              have HTh := Lib.hid (show hdS T = (d : Int) :: hdS (wordsS D (n' - (i + 1)) (((i + 1 : Nat) : Int)) (nextS D (i : Int) x (d : Int))) by rw [← HT.out, hd_tail (by omega) hz, show n' - (i + 1) = n' - i - 1 by omega]; rfl)
              have HEn := Lib.hid (show endsS D (n' - (i + 1)) (((i + 1 : Nat) : Int)) (nextS D (i : Int) x (d : Int)) ≠ 0 by rw [show n' - (i + 1) = n' - i - 1 by omega]; exact hz)
              obtain ⟨vs, hvs⟩ := HBf.out _ _ HTn.out
              have HRes := Lib.hid hvs
              generalize nextS D (i : Int) x (d : Int) = y at *
              generalize endsS D (n' - i - 1) ((i : Int) + 1) y = ev at *
              clear hvs hz
              go_wp2
              (refine wp_region_from w1 (by repeat (first | (with_reducible exact Ext.refl _) | (with_reducible refine Ext.drewN ?_ _) | (with_reducible refine Ext.drew ?_) | (with_reducible refine Ext.alloc ?_ _) | ((with_reducible refine Ext.setCell ?_ ?_ _); rotate_left; focus (first | (simp; done) | (simp; omega) | omega)) | assumption | (with_reducible refine Ext.trans ?_ (by assumption)))) (by kernel_rfl) (by kernel_rfl) (seqB_of (by kernel_rfl)) ?_; (repeat (first | (refine mix_q rfl ?_; go_big_quiet_step (fail); refine wpQuiet_nil ?_; show wpMix _ _ _ _ _ _ _) | (refine mix_s rfl ?_; go_wp2_with (((with_reducible refine (HNx.out _ (hxw1.trans (by repeat (first | (with_reducible exact Ext.refl _) | (with_reducible refine Ext.drewN ?_ _) | (with_reducible refine Ext.drew ?_) | (with_reducible refine Ext.alloc ?_ _) | ((with_reducible refine Ext.setCell ?_ ?_ _); rotate_left; focus (first | (simp; done) | (simp; omega) | omega)) | assumption | (with_reducible refine Ext.trans ?_ (by assumption)))))).mono ?_); rintro e w4 ⟨rfl, hy4⟩; have hxw4 : Ext w1 w4 := Ext.trans (by repeat (first | (with_reducible exact Ext.refl _) | (with_reducible refine Ext.drewN ?_ _) | (with_reducible refine Ext.drew ?_) | (with_reducible refine Ext.alloc ?_ _) | ((with_reducible refine Ext.setCell ?_ ?_ _); rotate_left; focus (first | (simp; done) | (simp; omega) | omega)) | assumption | (with_reducible refine Ext.trans ?_ (by assumption)))) hy4; have hz4 := hy4; clear hy4)); first | refine ⟨up_of (by repeat (first | (with_reducible exact Ext.refl _) | (with_reducible refine Ext.drewN ?_ _) | (with_reducible refine Ext.drew ?_) | (with_reducible refine Ext.alloc ?_ _) | ((with_reducible refine Ext.setCell ?_ ?_ _); rotate_left; focus (first | (simp; done) | (simp; omega) | omega)) | assumption | (with_reducible refine Ext.trans ?_ (by assumption)))), ?_⟩ | refine ⟨rfl, rfl, up_of (by repeat (first | (with_reducible exact Ext.refl _) | (with_reducible refine Ext.drewN ?_ _) | (with_reducible refine Ext.drew ?_) | (with_reducible refine Ext.alloc ?_ _) | ((with_reducible refine Ext.setCell ?_ ?_ _); rotate_left; focus (first | (simp; done) | (simp; omega) | omega)) | assumption | (with_reducible refine Ext.trans ?_ (by assumption)))), ?_⟩))); refine mix_nil ?_)
              have hxq4 : Ext w w4 := hxw1.trans hxw4
              go_wp2_with ((with_reducible refine (HLe.out _).mono ?_); rintro e w5 ⟨rfl, rfl⟩)
              refine (spec_own a9 i cd ((digC s).take i) w4 (HPre.out.ext hxw4) (by omega)).mono ?_
              rintro e w6 ⟨a7, c7, rfl, ho7, hx7⟩
              have hli : (I ((digC s).take i)).length = i := by rw [I_len, List.length_take, HDl.out, ← Hhm.out, hmin]
              rw [hli] at ho7 ⊢
              have hxw6 : Ext w1 w6 := hxw4.trans hx7
              have HO7 := Lib.hid (ho7.mono (B' := w1.heap.size) hxw4.le)
              clear ho7 hli
              go_wp2_with (first | (at_builtin; refine law_append1 _ rfl _ _ 23 rfl 2 (.int .i64 0) 8 und_int64s info_int64 rfl w1.heap.size a7 i c7 _ _ rfl rfl rfl HO7.out hxw6.le (by omega) (by omega) ?_; intro a8 c8 wz hoz hbz hgz; have hxwz : Ext w1 wz := Ext.below hxw6 hbz) | ((with_reducible refine (HNx.out _ (hxw1.trans hxwz)).mono ?_); rintro e w8 ⟨rfl, hy8⟩))
              have HDd := Lib.hid (show DigC D [(d : Int)] from fun e he => by obtain rfl := List.mem_singleton.1 he; exact ⟨by omega, hdb⟩)
              clear g1 g2 g3 g4
              go_loopw [11, 13, 14, 15] (fun xv ov kv _ wr => ∃ (k : Nat) (x2 : Int) (ao : Option Addr) (co : Nat) (us : List Int), i < k ∧ k ≤ n' ∧ kv = .int .i64 k ∧ xv = .int .i64 x2 ∧ ov = .slice ao k co ∧ Own wr w1.heap.size 2 ao k co (I ((digC s).take i ++ us)) ∧ Hid (hdS T = us ++ hdS (wordsS D (n' - k) (k : Int) x2)) ∧ Hid (endsS D (n' - k) (k : Int) x2 ≠ 0) ∧ Hid (DigC D us) ∧ 0 ≤ x2 ∧ x2 < D.states ∧ Ext w1 wr) (fun _ _ kv _ _ => n' - (intOf kv).toNat)
              case atStart => exact ⟨i + 1, y, a8, c8, [(d : Int)], by omega, by omega, by go_num, rfl, rfl, by rw [I_append]; exact hoz.ext hy8, HTh, HEn, HDd, y0, y1, hxwz.trans hy8⟩
              case round =>
                obtain ⟨k, x2, ao, co, us, hik, hk, rfl, rfl, rfl, ho, HH, HE2, HU, x20, x21, hx⟩ := hrel
                have hxr : Ext w1 wr := hx
                have hxq : Ext w wr := hxw1.trans hx
                have HO := Lib.hid ho
                clear ho
                by_cases hkn : k < n'
                · obtain ⟨T4, hT4⟩ : ∃ T4, T4 = tailS D (n' - k - 1) (k : Int) x2 0 := ⟨_, rfl⟩
                  have HW4 := Lib.hid (show wordsS D (n' - k) (k : Int) x2 = T4 by rw [hT4, show n' - k = (n' - k - 1) + 1 by omega, words_succ]; rfl)
                  have HN4 := Lib.hid (show T4 ≠ [] by obtain ⟨u, us', hu⟩ := words_some HE2.out; rw [← HW4.out, hu]; simp)
                  have HT4 := Lib.hid hT4
                  clear hT4
                  go_wp2
                  go_loopw [15] (fun ev wr => ∃ e : Nat, (e : Int) < D.base ∧ ev = .int .i64 e ∧ Hid (tailS D (n' - k - 1) (k : Int) x2 e = T4) ∧ Own wr w1.heap.size 2 ao k co (I ((digC s).take i ++ us)) ∧ Ext w1 wr) (fun ev _ => (D.base - intOf ev).toNat)
                  case atStart => exact ⟨0, by omega, rfl, Lib.hid HT4.out.symm, HO.out, hx⟩
                  case round =>
                    obtain ⟨e, heb, rfl, HTe, ho, hx⟩ := hrel
                    have hxr : Ext w1 wr := hx
                    have hxq : Ext w wr := hxw1.trans hx
                    have HOe := Lib.hid ho
                    clear ho
                    obtain ⟨v0, v1⟩ := HOK.out.next (p := (k : Int)) (x := x2) (d := (e : Int)) (by omega) (by have := HP.out; omega) x20 x21 (by omega) heb
                    have HNx2 := Lib.hid (fun U (h : Ext w U) => spec_next D q a n c a' n' c' (k : Int) x2 (e : Int) U (HV.out.ext h) HOK.out (by omega) (by have := HP.out; omega) x20 x21 (by omega) heb)
                    obtain ⟨bc, oc, a4, n4, c4, bd2, od2, ⟨g5, g6⟩, ⟨g7, g8⟩⟩ := endsL_at (HG.out.ext hxw1) HP.out 101 und_rows ((k : Int) + 1) (nextS D (k : Int) x2 (e : Int)) (by omega) (by omega) v0 v1
                    rw [show n' - ((k : Int) + 1).toNat = n' - k - 1 by omega] at g8
                    by_cases hz : endsS D (n' - k - 1) ((k : Int) + 1) (nextS D (k : Int) x2 (e : Int)) = 0
                    · have HT5 := Lib.hid ((tailS_skip (by omega) hz).symm.trans HTe.out)
                      have he1 : ((e + 1 : Nat) : Int) < D.base := by
                        have h1 : tailS D (n' - k - 1) (k : Int) x2 (e + 1) ≠ [] := by rw [HT5.out]; exact HN4.out
                        have := tail_ends h1
                        omega
                      rw [hz] at g8
                      clear hz
                      generalize nextS D (k : Int) x2 (e : Int) = v at *
                      go_wp2
                      (refine wp_region_from w1 (by repeat (first | (with_reducible exact Ext.refl _) | (with_reducible refine Ext.drewN ?_ _) | (with_reducible refine Ext.drew ?_) | (with_reducible refine Ext.alloc ?_ _) | ((with_reducible refine Ext.setCell ?_ ?_ _); rotate_left; focus (first | (simp; done) | (simp; omega) | omega)) | assumption | (with_reducible refine Ext.trans ?_ (by assumption)))) (by kernel_rfl) (by kernel_rfl) (seqB_of (by kernel_rfl)) ?_; (repeat (first | (refine mix_q rfl ?_; go_big_quiet_step (fail); refine wpQuiet_nil ?_; show wpMix _ _ _ _ _ _ _) | (refine mix_s rfl ?_; go_wp2_with (((with_reducible refine (HNx2.out _ (hxw1.trans (by repeat (first | (with_reducible exact Ext.refl _) | (with_reducible refine Ext.drewN ?_ _) | (with_reducible refine Ext.drew ?_) | (with_reducible refine Ext.alloc ?_ _) | ((with_reducible refine Ext.setCell ?_ ?_ _); rotate_left; focus (first | (simp; done) | (simp; omega) | omega)) | assumption | (with_reducible refine Ext.trans ?_ (by assumption)))))).mono ?_); rintro e w4 ⟨rfl, hy4⟩; have hxw4 : Ext w1 w4 := Ext.trans (by repeat (first | (with_reducible exact Ext.refl _) | (with_reducible refine Ext.drewN ?_ _) | (with_reducible refine Ext.drew ?_) | (with_reducible refine Ext.alloc ?_ _) | ((with_reducible refine Ext.setCell ?_ ?_ _); rotate_left; focus (first | (simp; done) | (simp; omega) | omega)) | assumption | (with_reducible refine Ext.trans ?_ (by assumption)))) hy4; have hz4 := hy4; clear hy4)); first | refine ⟨up_of (by repeat (first | (with_reducible exact Ext.refl _) | (with_reducible refine Ext.drewN ?_ _) | (with_reducible refine Ext.drew ?_) | (with_reducible refine Ext.alloc ?_ _) | ((with_reducible refine Ext.setCell ?_ ?_ _); rotate_left; focus (first | (simp; done) | (simp; omega) | omega)) | assumption | (with_reducible refine Ext.trans ?_ (by assumption)))), ?_⟩ | refine ⟨rfl, rfl, up_of (by repeat (first | (with_reducible exact Ext.refl _) | (with_reducible refine Ext.drewN ?_ _) | (with_reducible refine Ext.drew ?_) | (with_reducible refine Ext.alloc ?_ _) | ((with_reducible refine Ext.setCell ?_ ?_ _); rotate_left; focus (first | (simp; done) | (simp; omega) | omega)) | assumption | (with_reducible refine Ext.trans ?_ (by assumption)))), ?_⟩))); refine mix_nil ?_)
                      go_wp2
                      exact ⟨⟨e + 1, he1, by go_num, HT5, HOe.out.ext (show Ext wr _ from (by repeat (first | (with_reducible exact Ext.refl _) | (with_reducible refine Ext.drewN ?_ _) | (with_reducible refine Ext.drew ?_) | (with_reducible refine Ext.alloc ?_ _) | ((with_reducible refine Ext.setCell ?_ ?_ _); rotate_left; focus (first | (simp; done) | (simp; omega) | omega)) | assumption | (with_reducible refine Ext.trans ?_ (by assumption))))), (by repeat (first | (with_reducible exact Ext.refl _) | (with_reducible refine Ext.drewN ?_ _) | (with_reducible refine Ext.drew ?_) | (with_reducible refine Ext.alloc ?_ _) | ((with_reducible refine Ext.setCell ?_ ?_ _); rotate_left; focus (first | (simp; done) | (simp; omega) | omega)) | assumption | (with_reducible refine Ext.trans ?_ (by assumption))))⟩, by simp [intOf]; omega⟩
                    · have hz2 : (endsS D (n' - k - 1) ((k : Int) + 1) (nextS D (k : Int) x2 (e : Int)) == 0) = false := by simpa using hz
                      have HTh2 := Lib.hid (show hdS T = (us ++ [(e : Int)]) ++ hdS (wordsS D (n' - (k + 1)) (((k + 1 : Nat) : Int)) (nextS D (k : Int) x2 (e : Int))) by
                        rw [HH.out, HW4.out, ← HTe.out, hd_tail (by omega) hz, show n' - (k + 1) = n' - k - 1 by omega, List.append_assoc]; rfl)
                      have HEn2 := Lib.hid (show endsS D (n' - (k + 1)) (((k + 1 : Nat) : Int)) (nextS D (k : Int) x2 (e : Int)) ≠ 0 by rw [show n' - (k + 1) = n' - k - 1 by omega]; exact hz)
                      have HU2 := Lib.hid (show DigC D (us ++ [(e : Int)]) from fun d hd => by
                        rcases List.mem_append.1 hd with h | h
                        · exact HU.out d h
                        · obtain rfl := List.mem_singleton.1 h; exact ⟨by omega, heb⟩)
                      generalize nextS D (k : Int) x2 (e : Int) = v at *
                      generalize endsS D (n' - k - 1) ((k : Int) + 1) v = ev at *
                      clear hz
                      go_wp2
                      (refine wp_region_from w1 (by repeat (first | (with_reducible exact Ext.refl _) | (with_reducible refine Ext.drewN ?_ _) | (with_reducible refine Ext.drew ?_) | (with_reducible refine Ext.alloc ?_ _) | ((with_reducible refine Ext.setCell ?_ ?_ _); rotate_left; focus (first | (simp; done) | (simp; omega) | omega)) | assumption | (with_reducible refine Ext.trans ?_ (by assumption)))) (by kernel_rfl) (by kernel_rfl) (seqB_of (by kernel_rfl)) ?_; (repeat (first | (refine mix_q rfl ?_; go_big_quiet_step (fail); refine wpQuiet_nil ?_; show wpMix _ _ _ _ _ _ _) | (refine mix_s rfl ?_; go_wp2_with (((with_reducible refine (HNx2.out _ (hxw1.trans (by repeat (first | (with_reducible exact Ext.refl _) | (with_reducible refine Ext.drewN ?_ _) | (with_reducible refine Ext.drew ?_) | (with_reducible refine Ext.alloc ?_ _) | ((with_reducible refine Ext.setCell ?_ ?_ _); rotate_left; focus (first | (simp; done) | (simp; omega) | omega)) | assumption | (with_reducible refine Ext.trans ?_ (by assumption)))))).mono ?_); rintro e w4 ⟨rfl, hy4⟩; have hxw4 : Ext w1 w4 := Ext.trans (by repeat (first | (with_reducible exact Ext.refl _) | (with_reducible refine Ext.drewN ?_ _) | (with_reducible refine Ext.drew ?_) | (with_reducible refine Ext.alloc ?_ _) | ((with_reducible refine Ext.setCell ?_ ?_ _); rotate_left; focus (first | (simp; done) | (simp; omega) | omega)) | assumption | (with_reducible refine Ext.trans ?_ (by assumption)))) hy4; have hz4 := hy4; clear hy4)); first | refine ⟨up_of (by repeat (first | (with_reducible exact Ext.refl _) | (with_reducible refine Ext.drewN ?_ _) | (with_reducible refine Ext.drew ?_) | (with_reducible refine Ext.alloc ?_ _) | ((with_reducible refine Ext.setCell ?_ ?_ _); rotate_left; focus (first | (simp; done) | (simp; omega) | omega)) | assumption | (with_reducible refine Ext.trans ?_ (by assumption)))), ?_⟩ | refine ⟨rfl, rfl, up_of (by repeat (first | (with_reducible exact Ext.refl _) | (with_reducible refine Ext.drewN ?_ _) | (with_reducible refine Ext.drew ?_) | (with_reducible refine Ext.alloc ?_ _) | ((with_reducible refine Ext.setCell ?_ ?_ _); rotate_left; focus (first | (simp; done) | (simp; omega) | omega)) | assumption | (with_reducible refine Ext.trans ?_ (by assumption)))), ?_⟩))); refine mix_nil ?_)
                      have HO4 := Lib.hid (HOe.out.ext (show Ext wr w4 from (by repeat (first | (with_reducible exact Ext.refl _) | (with_reducible refine Ext.drewN ?_ _) | (with_reducible refine Ext.drew ?_) | (with_reducible refine Ext.alloc ?_ _) | ((with_reducible refine Ext.setCell ?_ ?_ _); rotate_left; focus (first | (simp; done) | (simp; omega) | omega)) | assumption | (with_reducible refine Ext.trans ?_ (by assumption))))))
                      go_wp2_with (first | (at_builtin; refine law_append1 _ rfl _ _ 23 rfl 2 (.int .i64 0) 8 und_int64s info_int64 rfl w1.heap.size ao k co _ _ rfl rfl rfl HO4.out hxw4.le (by omega) (by omega) ?_; intro a8 c8 wz hoz hbz hgz; have hxwz : Ext w1 wz := Ext.below hxw4 hbz) | ((with_reducible refine (HNx2.out _ (hxw1.trans hxwz)).mono ?_); rintro e w8 ⟨rfl, hy8⟩))
                      exact ⟨⟨k + 1, v, a8, c8, us ++ [(e : Int)], by omega, by omega, by go_num, rfl, rfl, by rw [← List.append_assoc, I_append]; exact hoz.ext hy8, HTh2, HEn2, HU2, v0, v1, hxwz.trans hy8⟩, by simp [intOf]; omega⟩
                · obtain rfl : k = n' := by omega
                  have HTu := Lib.hid (show hdS T = us by
                    have h1 := HH.out
                    have h2 := HE2.out
                    rw [Nat.sub_self] at h1 h2
                    unfold endsS at h2
                    unfold wordsS at h1
                    by_cases e : x2 = D.fin
                    · rw [if_pos e] at h1; simpa [hdS] using h1
                    · rw [if_neg e] at h2; exact absurd rfl h2)
                  have HRn := Lib.hid (show nextL D s = ((digC s).take i ++ us) :: vs by rw [HRes.out, HTu.out])
                  have HRt := Lib.hid (show nextT D s = textOf ((digC s).take i ++ us) by rw [nextT, HRn.out])
                  have HFr := Lib.hid (spec_from ao k co ((digC s).take i ++ us) wr HO.out.ints (dig36_of b36 (fun d hd => by
                    rcases List.mem_append.1 hd with h | h
                    · exact HDg.out.take i d h
                    · exact HU.out d h)) (by omega))
                  go_wp2_with ((with_reducible refine HFr.out.mono ?_); rintro e w9 ⟨rfl, hy9⟩)
                  go_ret2
                  exact ⟨by rw [HRt.out, HRn.out]; rfl, (hxw1.trans hx).trans hy9⟩
          · have hbd : (d : Int) = D.base := by omega
            have hdec : decide ((d : Int) < D.base) = false := by simpa using hdb
            have heq : ((d : Int) == D.base) = true := by simpa using hbd
            have HB2 := Lib.hid (HBa.out (by rw [← HT.out]; exact tailS_end _ _ _ _ _ (by omega)))
            clear hbd
            go_wp2
            (refine wp_region_from w1 (by repeat (first | (with_reducible exact Ext.refl _) | (with_reducible refine Ext.drewN ?_ _) | (with_reducible refine Ext.drew ?_) | (with_reducible refine Ext.alloc ?_ _) | ((with_reducible refine Ext.setCell ?_ ?_ _); rotate_left; focus (first | (simp; done) | (simp; omega) | omega)) | assumption | (with_reducible refine Ext.trans ?_ (by assumption)))) (by kernel_rfl) (by kernel_rfl) (seqB_of (by kernel_rfl)) ?_; (repeat (first | (refine mix_q rfl ?_; go_big_quiet_step (fail); refine wpQuiet_nil ?_; show wpMix _ _ _ _ _ _ _) | (refine mix_s rfl ?_; go_wp2_with (fail); first | refine ⟨up_of (by repeat (first | (with_reducible exact Ext.refl _) | (with_reducible refine Ext.drewN ?_ _) | (with_reducible refine Ext.drew ?_) | (with_reducible refine Ext.alloc ?_ _) | ((with_reducible refine Ext.setCell ?_ ?_ _); rotate_left; focus (first | (simp; done) | (simp; omega) | omega)) | assumption | (with_reducible refine Ext.trans ?_ (by assumption)))), ?_⟩ | refine ⟨rfl, rfl, up_of (by repeat (first | (with_reducible exact Ext.refl _) | (with_reducible refine Ext.drewN ?_ _) | (with_reducible refine Ext.drew ?_) | (with_reducible refine Ext.alloc ?_ _) | ((with_reducible refine Ext.setCell ?_ ?_ _); rotate_left; focus (first | (simp; done) | (simp; omega) | omega)) | assumption | (with_reducible refine Ext.trans ?_ (by assumption)))), ?_⟩))); refine mix_nil ?_)
            go_wp2
            exact ⟨⟨i, (i : Int) - 1, by omega, by omega, rfl, HB2.out, (by repeat (first | (with_reducible exact Ext.refl _) | (with_reducible refine Ext.drewN ?_ _) | (with_reducible refine Ext.drew ?_) | (with_reducible refine Ext.alloc ?_ _) | ((with_reducible refine Ext.setCell ?_ ?_ _); rotate_left; focus (first | (simp; done) | (simp; omega) | omega)) | assumption | (with_reducible refine Ext.trans ?_ (by assumption))))⟩, by simp [intOf]⟩
    · obtain rfl : i0 = 0 := by omega
      have HRn := Lib.hid (back_end HP.out Hhbk.out)
      have HRt := Lib.hid (show nextT D s = .empty by rw [nextT, HRn.out])
      have hzn : z < 0 := by omega
      clear hz hz0
      go_wp2
      go_ret2
      exact ⟨by rw [HRt.out, HRn.out]; rfl, hxw1.trans hx⟩
end Go.Proofs.Ytdekplfjnkbidaa

