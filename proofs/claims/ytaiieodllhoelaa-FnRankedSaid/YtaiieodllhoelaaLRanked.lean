/- The law on the ranks of words: walked. -/
import Derived.Test.YtaiieodllhoelaaR8C
import Derived.Test.YtaiieodllhoelaaR8
import Derived.Test.YtaiieodllhoelaaCount
import Derived.Test.YtaiieodllhoelaaChR
import Derived.Test.YtaiieodllhoelaaChS
import Derived.Test.YtaiieodllhoelaaPutM
namespace Go.Proofs.Ytaiieodllhoelaa
set_option maxRecDepth 100000
open Go.RowKit

theorem csL_has (D : Ch) (ds : List Int) (p k d : Nat) (h : d < k) : ((csL D ds p k).any fun y => y == (d : Int)) = csHit D ds p (d : Int) := by
  rw [Bool.eq_iff_iff, List.any_eq_true]
  constructor
  · rintro ⟨y, hy, he⟩
    unfold csL at hy
    obtain ⟨e, he1, rfl⟩ := List.mem_map.1 hy
    have h2 := beq_iff_eq.1 he
    rw [← h2]
    exact (List.mem_filter.1 he1).2
  · intro hh
    exact ⟨(d : Int), List.mem_map.2 ⟨d, List.mem_filter.2 ⟨List.mem_range.2 h, hh⟩, rfl⟩, by simp⟩
theorem set_text {xs : List Int} {pl : Nat} {d : Int} (h : pl < xs.length) : (textOf xs).extract 0 pl ++ textOf [d] ++ (textOf xs).extract (pl + 1) (textOf xs).size = textOf (xs.set pl d) := by
  rw [text_cut, text_cut, ← text_app, ← text_app, textOf_size, List.drop_zero, List.take_length]
  congr 1
  rw [List.set_eq_take_append_cons_drop, if_pos h]
  simp
theorem text_at (L : List Int) (k : Nat) (h : k < L.length) : (textOf L).extract k (k + 1) = textOf [gi L k] := by
  rw [text_cut, List.take_add_one, List.getElem?_eq_getElem h, List.drop_append_of_le_length (by simp; omega), List.drop_eq_nil_of_le (by simp; omega)]
  simp [gi_get h]
theorem one_eq {d e : Int} (hd : 0 ≤ d ∧ d ≤ 35) (he : 0 ≤ e ∧ e ≤ 35) : (textOf [d]).toList == (textOf [e]).toList ↔ d = e := by
  constructor
  · intro h
    have h1 : textOf [d] = textOf [e] := by
      have h2 := beq_iff_eq.1 h
      simp only [ByteArray.toList_eq] at h2
      exact ba_ext' h2
    have := text_inj (fun x hx => by obtain rfl := List.mem_singleton.1 hx; exact hd) (fun x hx => by obtain rfl := List.mem_singleton.1 hx; exact he) h1
    simpa using this
  · rintro rfl; simp
theorem less_not {a b : ByteArray} (h : lessS a b = true) : Op.bytesLess b.toList a.toList = false ∧ (b.toList == a.toList) = false := by
  refine ⟨less_asymm h, ?_⟩
  cases he : (b.toList == a.toList) with
  | false => rfl
  | true =>
    have h1 := beq_iff_eq.1 he
    have h2 := less_irrefl b
    unfold lessS at h h2
    rw [← h1, h2] at h
    cases h
set_option maxHeartbeats 8000000 in
theorem lawRanked (a : Option Addr) (n c : Nat) (l : List UInt8) (a' : Option Addr) (n' c' : Nat) (l' : List UInt8) (w : World) (hv : Bytes w a n c l) (hn : n ≤ 9223372036854775807) (hv' : Bytes w a' n' c' l') (hn' : n' ≤ 9223372036854775807) :
    Calls Try.prog 3 #[.slice a n c, .slice a' n' c'] w (Ret (.bool true) w) := by
  have HLong := Lib.hid (laws_r8Long a a' n c n' c' w hn hn')
  have HB := Lib.hid hv
  have HB' := Lib.hid hv'
  clear hv hv'
  by_cases hlong : 48 < n ∨ 48 < n'
  · rw [decide_eq_true hlong] at HLong
    clear hlong
    go_enter Try.func3, Try.ntmps3
    go_wp2_with (refine HLong.out.mono ?_; rintro e w1 ⟨rfl, rfl⟩)
    go_ret
    exact ⟨rfl, Ext.refl _⟩
  rw [decide_eq_false hlong] at HLong
  have hn48 : n ≤ 48 ∧ n' ≤ 48 := by omega
  clear hlong
  go_enter Try.func3, Try.ntmps3
  go_wp2_with (first | (go_at_call 15; refine HLong.out.mono ?_; rintro e w1 ⟨rfl, rfl⟩) | (go_at_call 16; refine (spec_R8Chain a n c l w HB.out (by omega)).mono ?_; rintro e w1 ⟨D, ad, x, cc, pd, p, pc, rfl, hdr, hfew, hp, hx3, hch, hx1⟩))
  have HDR := Lib.hid hdr
  have Hval := Lib.hid hdr.valid
  have Hok := Lib.hid (validCh_ok hdr.valid)
  have hb2 := hdr.b2
  have hb10 := hdr.b36
  have hp5 := hdr.p5
  have hp1 := hdr.p1
  rw [hp] at hp5 hp1
  have HP := Lib.hid hp
  have HI1 := Lib.hid hch
  have hN := few_words Hok.out hfew
  obtain ⟨wb, hwb⟩ : ∃ wb, wb = w1.alloc (.cells #[.int .i64 D.base, .int .i64 D.states, .int .i64 D.start, .int .i64 D.fin, .slice ad x cc, .slice pd p pc] 27) := ⟨_, rfl⟩
  have hx1b : Ext w1 wb := by rw [hwb]; exact (by repeat (first | (with_reducible exact Ext.refl _) | (with_reducible refine Ext.drewN ?_ _) | (with_reducible refine Ext.drew ?_) | (with_reducible refine Ext.alloc ?_ _) | ((with_reducible refine Ext.setCell ?_ ?_ _); rotate_left; focus (first | (simp; done) | (simp; omega) | omega)) | assumption | (with_reducible refine Ext.trans ?_ (by assumption))))
  have HA := Lib.hid (show ChAt wb w1.heap.size D ad x cc pd p pc by rw [hwb]; exact hch.box _)
  have hxwb : Ext w wb := hx1.trans hx1b
  have HI := Lib.hid (hch.ext hx1b)
  rw [← hwb]
  obtain ⟨q, hq⟩ : ∃ q, q = w1.heap.size := ⟨_, rfl⟩
  rw [← hq] at HA ⊢
  obtain ⟨k0, k1, k2, k3, k4, k5, _, _⟩ := HA.out
  clear hwb hq hdr hfew hp hch HLong hx1 hx1b HB
  have HWA := Lib.hid (fun r W (h : Ext wb W) => impl_WordAt D ad x cc pd p pc r W (HI.out.ext h) Hval.out)
  have HCt := Lib.hid (fun W (h : Ext wb W) => impl_CountWords D ad x cc pd p pc W (HI.out.ext h) Hval.out)
  have HVC := Lib.hid (fun W (h : Ext wb W) => impl_ValidChain D ad x cc pd p pc W (Cube.ext HI.out.ts h) (HI.out.ps.ext h) HI.out.hn HI.out.hn' HI.out.sm)
  rw [Hval.out] at HVC
  obtain ⟨N, hNe⟩ : ∃ N, N = (wordsA D).length := ⟨_, rfl⟩
  rw [← hNe] at HCt hN
  have HNe := Lib.hid hNe
  clear hNe
  have HWk := Lib.hid (show ∀ k : Nat, k < N → watB D k = true ∧ watT D k = wordR D (k + 1) from fun k hk => by
    have h1 : watB D k = true := by unfold watB; rw [decide_eq_true_iff, ← HNe.out]; omega
    exact ⟨h1, by rw [watT, h1]; rfl⟩)
  have HWn := Lib.hid (show watT D N = .empty ∧ watB D N = false from by
    have h1 : watB D N = false := by unfold watB; rw [decide_eq_false_iff_not, ← HNe.out]; omega
    exact ⟨by rw [watT, h1]; rfl, h1⟩)
  have hxbb : Ext wb wb := Ext.refl _
  go_wp2_with (first | (go_at_call 17; (with_reducible refine (HCt.out _ (by repeat (first | (with_reducible exact Ext.refl _) | (with_reducible assumption) | (with_reducible refine Ext.drewN ?_ _) | (with_reducible refine Ext.drew ?_) | (with_reducible refine Ext.alloc ?_ _) | ((with_reducible refine Ext.setCell ?_ ?_ _); rotate_left; focus (first | (simp; done) | (simp; omega) | omega)) | (with_reducible refine Ext.trans ?_ (by with_reducible assumption))))).mono ?_); rintro e w2 ⟨rfl, hy2⟩; have hx2 : Ext wb w2 := Ext.trans (by repeat (first | (with_reducible exact Ext.refl _) | (with_reducible assumption) | (with_reducible refine Ext.drewN ?_ _) | (with_reducible refine Ext.drew ?_) | (with_reducible refine Ext.alloc ?_ _) | ((with_reducible refine Ext.setCell ?_ ?_ _); rotate_left; focus (first | (simp; done) | (simp; omega) | omega)) | (with_reducible refine Ext.trans ?_ (by with_reducible assumption)))) hy2; clear hy2) | (go_at_call 18; (with_reducible refine (HVC.out _ (by repeat (first | (with_reducible exact Ext.refl _) | (with_reducible assumption) | (with_reducible refine Ext.drewN ?_ _) | (with_reducible refine Ext.drew ?_) | (with_reducible refine Ext.alloc ?_ _) | ((with_reducible refine Ext.setCell ?_ ?_ _); rotate_left; focus (first | (simp; done) | (simp; omega) | omega)) | (with_reducible refine Ext.trans ?_ (by with_reducible assumption))))).mono ?_); rintro e w3 ⟨rfl, hy3⟩; have hx3b : Ext wb w3 := Ext.trans (by repeat (first | (with_reducible exact Ext.refl _) | (with_reducible assumption) | (with_reducible refine Ext.drewN ?_ _) | (with_reducible refine Ext.drew ?_) | (with_reducible refine Ext.alloc ?_ _) | ((with_reducible refine Ext.setCell ?_ ?_ _); rotate_left; focus (first | (simp; done) | (simp; omega) | omega)) | (with_reducible refine Ext.trans ?_ (by with_reducible assumption)))) hy3; clear hy3))
  go_loopw [8, 9, 10, 11, 12, 13] (fun lt rk _ _ _ _ wr => ∃ k : Nat, k ≤ N ∧ rk = .int .i64 k ∧ lt = .string (wordR D k) ∧ Ext wb wr) (fun _ rk _ _ _ _ _ => N - (intOf rk).toNat)
  case atStart => exact ⟨0, Nat.zero_le _, rfl, rfl, hx3b⟩
  case round =>
    obtain ⟨k, hk, rfl, rfl, hx⟩ := hrel
    have hxr : Ext wb wr := hx
    by_cases hlt : k < N
    · by_cases hlt4 : k < 40
      · have HW1 := Lib.hid (HWk.out k hlt)
        have HRk := Lib.hid (rk_wordR Hok.out Hval.out (r := k) (by rw [← HNe.out]; exact hlt))
        have HLn := Lib.hid (show (wordR D (k + 1)).size ≤ 1048576 by rw [wordR_len Hok.out (by rw [← HNe.out]; exact hlt), HP.out]; omega)
        have HRW := Lib.hid (fun W (h : Ext wb W) => impl_RankOfWord D ad x cc pd p pc (wordR D (k + 1)) W (HI.out.ext h) HLn.out)
        have HIC := Lib.hid (fun W (h : Ext wb W) => impl_IsChecked D ad x cc pd p pc (wordR D (k + 1)) W (HI.out.ext h) HLn.out)
        rw [HRk.out.1] at HIC
        rw [HRk.out.1, HRk.out.2] at HRW
        have HLt := Lib.hid (show 0 < k → lessS (wordR D k) (wordR D (k + 1)) = true from fun h0 => by
          obtain ⟨j, rfl⟩ : ∃ j, k = j + 1 := ⟨k - 1, by omega⟩
          exact lessS_lt.2 (wordR_lt Hok.out (Nat.lt_succ_self j) (by rw [← HNe.out]; exact hlt)))
        by_cases hk0 : 0 < k
        · obtain ⟨hls, hls2⟩ := less_not (HLt.out hk0)
          go_wp2_with (first | (go_at_call 19; (with_reducible refine (HWA.out (k : Int) _ (by repeat (first | (with_reducible exact Ext.refl _) | (with_reducible assumption) | (with_reducible refine Ext.drewN ?_ _) | (with_reducible refine Ext.drew ?_) | (with_reducible refine Ext.alloc ?_ _) | ((with_reducible refine Ext.setCell ?_ ?_ _); rotate_left; focus (first | (simp; done) | (simp; omega) | omega)) | (with_reducible refine Ext.trans ?_ (by with_reducible assumption))))).mono ?_); rintro e w3 ⟨rfl, hy3⟩; rw [HW1.out.1, HW1.out.2]; have hx3 : Ext wb w3 := Ext.trans (by repeat (first | (with_reducible exact Ext.refl _) | (with_reducible assumption) | (with_reducible refine Ext.drewN ?_ _) | (with_reducible refine Ext.drew ?_) | (with_reducible refine Ext.alloc ?_ _) | ((with_reducible refine Ext.setCell ?_ ?_ _); rotate_left; focus (first | (simp; done) | (simp; omega) | omega)) | (with_reducible refine Ext.trans ?_ (by with_reducible assumption)))) hy3; clear hy3) | (go_at_call 20; (with_reducible refine (HRW.out _ (by repeat (first | (with_reducible exact Ext.refl _) | (with_reducible assumption) | (with_reducible refine Ext.drewN ?_ _) | (with_reducible refine Ext.drew ?_) | (with_reducible refine Ext.alloc ?_ _) | ((with_reducible refine Ext.setCell ?_ ?_ _); rotate_left; focus (first | (simp; done) | (simp; omega) | omega)) | (with_reducible refine Ext.trans ?_ (by with_reducible assumption))))).mono ?_); rintro e w4 ⟨rfl, hy4⟩; have hx4 : Ext wb w4 := Ext.trans (by repeat (first | (with_reducible exact Ext.refl _) | (with_reducible assumption) | (with_reducible refine Ext.drewN ?_ _) | (with_reducible refine Ext.drew ?_) | (with_reducible refine Ext.alloc ?_ _) | ((with_reducible refine Ext.setCell ?_ ?_ _); rotate_left; focus (first | (simp; done) | (simp; omega) | omega)) | (with_reducible refine Ext.trans ?_ (by with_reducible assumption)))) hy4; clear hy4) | (go_at_call 21; (with_reducible refine (HIC.out _ (by repeat (first | (with_reducible exact Ext.refl _) | (with_reducible assumption) | (with_reducible refine Ext.drewN ?_ _) | (with_reducible refine Ext.drew ?_) | (with_reducible refine Ext.alloc ?_ _) | ((with_reducible refine Ext.setCell ?_ ?_ _); rotate_left; focus (first | (simp; done) | (simp; omega) | omega)) | (with_reducible refine Ext.trans ?_ (by with_reducible assumption))))).mono ?_); rintro e w5 ⟨rfl, hy5⟩; have hx5 : Ext wb w5 := Ext.trans (by repeat (first | (with_reducible exact Ext.refl _) | (with_reducible assumption) | (with_reducible refine Ext.drewN ?_ _) | (with_reducible refine Ext.drew ?_) | (with_reducible refine Ext.alloc ?_ _) | ((with_reducible refine Ext.setCell ?_ ?_ _); rotate_left; focus (first | (simp; done) | (simp; omega) | omega)) | (with_reducible refine Ext.trans ?_ (by with_reducible assumption)))) hy5; clear hy5))
          exact ⟨⟨k + 1, hlt, by go_num, rfl, (by repeat (first | (with_reducible exact Ext.refl _) | (with_reducible assumption) | (with_reducible refine Ext.drewN ?_ _) | (with_reducible refine Ext.drew ?_) | (with_reducible refine Ext.alloc ?_ _) | ((with_reducible refine Ext.setCell ?_ ?_ _); rotate_left; focus (first | (simp; done) | (simp; omega) | omega)) | (with_reducible refine Ext.trans ?_ (by with_reducible assumption))))⟩, by simp [intOf]; omega⟩
        · go_wp2_with (first | (go_at_call 19; (with_reducible refine (HWA.out (k : Int) _ (by repeat (first | (with_reducible exact Ext.refl _) | (with_reducible assumption) | (with_reducible refine Ext.drewN ?_ _) | (with_reducible refine Ext.drew ?_) | (with_reducible refine Ext.alloc ?_ _) | ((with_reducible refine Ext.setCell ?_ ?_ _); rotate_left; focus (first | (simp; done) | (simp; omega) | omega)) | (with_reducible refine Ext.trans ?_ (by with_reducible assumption))))).mono ?_); rintro e w3 ⟨rfl, hy3⟩; rw [HW1.out.1, HW1.out.2]; have hx3 : Ext wb w3 := Ext.trans (by repeat (first | (with_reducible exact Ext.refl _) | (with_reducible assumption) | (with_reducible refine Ext.drewN ?_ _) | (with_reducible refine Ext.drew ?_) | (with_reducible refine Ext.alloc ?_ _) | ((with_reducible refine Ext.setCell ?_ ?_ _); rotate_left; focus (first | (simp; done) | (simp; omega) | omega)) | (with_reducible refine Ext.trans ?_ (by with_reducible assumption)))) hy3; clear hy3) | (go_at_call 20; (with_reducible refine (HRW.out _ (by repeat (first | (with_reducible exact Ext.refl _) | (with_reducible assumption) | (with_reducible refine Ext.drewN ?_ _) | (with_reducible refine Ext.drew ?_) | (with_reducible refine Ext.alloc ?_ _) | ((with_reducible refine Ext.setCell ?_ ?_ _); rotate_left; focus (first | (simp; done) | (simp; omega) | omega)) | (with_reducible refine Ext.trans ?_ (by with_reducible assumption))))).mono ?_); rintro e w4 ⟨rfl, hy4⟩; have hx4 : Ext wb w4 := Ext.trans (by repeat (first | (with_reducible exact Ext.refl _) | (with_reducible assumption) | (with_reducible refine Ext.drewN ?_ _) | (with_reducible refine Ext.drew ?_) | (with_reducible refine Ext.alloc ?_ _) | ((with_reducible refine Ext.setCell ?_ ?_ _); rotate_left; focus (first | (simp; done) | (simp; omega) | omega)) | (with_reducible refine Ext.trans ?_ (by with_reducible assumption)))) hy4; clear hy4) | (go_at_call 21; (with_reducible refine (HIC.out _ (by repeat (first | (with_reducible exact Ext.refl _) | (with_reducible assumption) | (with_reducible refine Ext.drewN ?_ _) | (with_reducible refine Ext.drew ?_) | (with_reducible refine Ext.alloc ?_ _) | ((with_reducible refine Ext.setCell ?_ ?_ _); rotate_left; focus (first | (simp; done) | (simp; omega) | omega)) | (with_reducible refine Ext.trans ?_ (by with_reducible assumption))))).mono ?_); rintro e w5 ⟨rfl, hy5⟩; have hx5 : Ext wb w5 := Ext.trans (by repeat (first | (with_reducible exact Ext.refl _) | (with_reducible assumption) | (with_reducible refine Ext.drewN ?_ _) | (with_reducible refine Ext.drew ?_) | (with_reducible refine Ext.alloc ?_ _) | ((with_reducible refine Ext.setCell ?_ ?_ _); rotate_left; focus (first | (simp; done) | (simp; omega) | omega)) | (with_reducible refine Ext.trans ?_ (by with_reducible assumption)))) hy5; clear hy5))
          exact ⟨⟨k + 1, hlt, by go_num, rfl, (by repeat (first | (with_reducible exact Ext.refl _) | (with_reducible assumption) | (with_reducible refine Ext.drewN ?_ _) | (with_reducible refine Ext.drew ?_) | (with_reducible refine Ext.alloc ?_ _) | ((with_reducible refine Ext.setCell ?_ ?_ _); rotate_left; focus (first | (simp; done) | (simp; omega) | omega)) | (with_reducible refine Ext.trans ?_ (by with_reducible assumption))))⟩, by simp [intOf]; omega⟩
      ·
        go_wp2_with (go_at_call 19; (with_reducible refine (HWA.out (N : Int) _ (by repeat (first | (with_reducible exact Ext.refl _) | (with_reducible assumption) | (with_reducible refine Ext.drewN ?_ _) | (with_reducible refine Ext.drew ?_) | (with_reducible refine Ext.alloc ?_ _) | ((with_reducible refine Ext.setCell ?_ ?_ _); rotate_left; focus (first | (simp; done) | (simp; omega) | omega)) | (with_reducible refine Ext.trans ?_ (by with_reducible assumption))))).mono ?_); rintro e w3 ⟨rfl, hy3⟩; rw [HWn.out.1, HWn.out.2]; have hx3 : Ext wb w3 := Ext.trans (by repeat (first | (with_reducible exact Ext.refl _) | (with_reducible assumption) | (with_reducible refine Ext.drewN ?_ _) | (with_reducible refine Ext.drew ?_) | (with_reducible refine Ext.alloc ?_ _) | ((with_reducible refine Ext.setCell ?_ ?_ _); rotate_left; focus (first | (simp; done) | (simp; omega) | omega)) | (with_reducible refine Ext.trans ?_ (by with_reducible assumption)))) hy3; clear hy3)
        go_loopw [16, 17] (fun tx ii wr => ∃ (i : Nat) (xs : List Int), i ≤ p ∧ ii = .int .i64 i ∧ tx = .string (textOf xs) ∧ Hid (xs.length = i) ∧ Hid (DigC D xs) ∧ Ext wb wr) (fun _ ii _ => p - (intOf ii).toNat)
        case atStart => exact ⟨0, [], Nat.zero_le _, rfl, rfl, rfl, (fun d hd => by cases hd), hx3⟩
        case round =>
          obtain ⟨i, xs, hi, rfl, rfl, HXl, HXd, hx⟩ := hrel
          have hxr : Ext wb wr := hx
          by_cases hlt2 : i < p
          · have hz := r8_bd l' i D.base (by omega)
            have HR8 := Lib.hid (fun W (h : Ext w W) => laws_r8 a' n' c' l' (i : Int) D.base W (HB'.out.ext h) (by omega) (by omega) (by omega))
            generalize r8 l' i D.base = z at *
            have hs1 : (textOf xs).size = i := by rw [textOf_size, HXl.out]
            have hs2 : (textOf [z]).size = 1 := textOf_size _
            go_wp2_with (first | (go_at_call 23; (with_reducible refine (HR8.out _ (hxwb.trans (by repeat (first | (with_reducible exact Ext.refl _) | (with_reducible assumption) | (with_reducible refine Ext.drewN ?_ _) | (with_reducible refine Ext.drew ?_) | (with_reducible refine Ext.alloc ?_ _) | ((with_reducible refine Ext.setCell ?_ ?_ _); rotate_left; focus (first | (simp; done) | (simp; omega) | omega)) | (with_reducible refine Ext.trans ?_ (by with_reducible assumption)))))).mono ?_); rintro e w4 ⟨rfl, rfl⟩) | (go_at_call 22; (with_reducible refine (laws_r8Symbol z _ (by omega) (by omega)).mono ?_); rintro e w5 ⟨rfl, rfl⟩))
            exact ⟨⟨i + 1, xs ++ [z], hlt2, by go_num, by rw [text_app], by rw [Hid, List.length_append, HXl.out]; rfl, by rw [Hid]; exact all_snoc HXd.out hz, (by repeat (first | (with_reducible exact Ext.refl _) | (with_reducible assumption) | (with_reducible refine Ext.drewN ?_ _) | (with_reducible refine Ext.drew ?_) | (with_reducible refine Ext.alloc ?_ _) | ((with_reducible refine Ext.setCell ?_ ?_ _); rotate_left; focus (first | (simp; done) | (simp; omega) | omega)) | (with_reducible refine Ext.trans ?_ (by with_reducible assumption))))⟩, by simp [intOf]; omega⟩
          · obtain rfl : i = p := by omega
            have HSz := Lib.hid (show (textOf xs).size = i by rw [textOf_size, HXl.out])
            have h36 : Dig36 xs := dig36_of Hok.out.b36 HXd.out
            have HX36 := Lib.hid h36
            have HRun := Lib.hid (runOk_text Hok.out Hval.out HXd.out (by rw [HXl.out, HP.out]))
            have HE := Lib.hid (runEnd_text (D := D) h36)
            have hpl := r8_bd l' 30 (i : Int) (by omega)
            have HR8 := Lib.hid (fun W (h : Ext w W) => laws_r8 a' n' c' l' 30 (i : Int) W (HB'.out.ext h) (by omega) (by omega) (by omega))
            have HCs := Lib.hid (fun W (h : Ext wb W) => impl_CheckSymbols D ad x cc pd i pc (textOf xs) (r8 l' 30 (i : Int)) W (HI.out.ext h) (by rw [HSz.out]; omega) ⟨by omega, by omega⟩)
            obtain ⟨pl, hple⟩ := Int.eq_ofNat_of_zero_le hpl.1
            have HCk := Lib.hid (chk_yes HRun.out)
            have HOk := Lib.hid (show csOk D (textOf xs) (r8 l' 30 (i : Int)) = true by rw [csOk, HRun.out, Bool.true_and]; rw [HSz.out]; exact inB_t.2 ⟨by omega, by omega⟩)
            have HL := Lib.hid (show csT D (textOf xs) (r8 l' 30 (i : Int)) = textOf (csL D xs pl D.base.toNat) by rw [csT, HOk.out, if_pos rfl, digC_text h36, hple, Int.toNat_natCast])
            rw [HOk.out, HL.out] at HCs
            have hplb : r8 l' 30 (i : Int) = (pl : Int) := hple
            rw [hplb] at HR8 HCs
            have hpln : pl < i := by omega
            have HRr := Lib.hid (show runRes D (textOf xs) = runEnd D (textOf xs) by rw [runRes, HRun.out]; rfl)
            have HRC := Lib.hid (fun W (h : Ext wb W) => impl_RunChain D ad x cc pd i pc (textOf xs) W (HI.out.ext h) (by rw [HSz.out]; omega))
            have HIC := Lib.hid (fun W (h : Ext wb W) => impl_IsChecked D ad x cc pd i pc (textOf xs) W (HI.out.ext h) (by rw [HSz.out]; omega))
            rw [HCk.out] at HIC
            rw [HRun.out, HRr.out] at HRC
            have HSetL := Lib.hid (fun d : Int => set_text (xs := xs) (pl := pl) (d := d) (by rw [HXl.out]; exact hpln))
            have HCsL := Lib.hid (csL_dig D xs pl D.base.toNat (by omega))
            have HCl := csL_len D xs pl D.base.toNat
            obtain ⟨L, hLe⟩ : ∃ L, L = csL D xs pl D.base.toNat := ⟨_, rfl⟩
            have HLe := Lib.hid hLe
            rw [← hLe] at HCs HCsL HCl
            obtain ⟨s, hs⟩ : ∃ s, s = textOf xs := ⟨_, rfl⟩
            obtain ⟨E, hEe⟩ : ∃ E, E = runEnd D (textOf xs) := ⟨_, rfl⟩
            rw [← hEe] at HRC HIC
            rw [← hs] at HCs HRC HIC HSetL HSz ⊢
            have hsz : s.size = i := HSz.out
            have hs20 : i ≤ 5 := hp5
            have Hhs := Lib.hid hs; clear hs; have HhEe := Lib.hid hEe; clear hEe; have HhLe := Lib.hid hLe; clear hLe; have Hhple := Lib.hid hple; clear hple; have Hhplb := Lib.hid hplb; clear hplb
            clear hpl
            go_wp2_with (first | (go_at_call 23; (with_reducible refine (HR8.out _ (hxwb.trans (by repeat (first | (with_reducible exact Ext.refl _) | (with_reducible assumption) | (with_reducible refine Ext.drewN ?_ _) | (with_reducible refine Ext.drew ?_) | (with_reducible refine Ext.alloc ?_ _) | ((with_reducible refine Ext.setCell ?_ ?_ _); rotate_left; focus (first | (simp; done) | (simp; omega) | omega)) | (with_reducible refine Ext.trans ?_ (by with_reducible assumption)))))).mono ?_); rintro e w4 ⟨rfl, rfl⟩) | (go_at_call 24; (with_reducible refine (HCs.out _ (by repeat (first | (with_reducible exact Ext.refl _) | (with_reducible assumption) | (with_reducible refine Ext.drewN ?_ _) | (with_reducible refine Ext.drew ?_) | (with_reducible refine Ext.alloc ?_ _) | ((with_reducible refine Ext.setCell ?_ ?_ _); rotate_left; focus (first | (simp; done) | (simp; omega) | omega)) | (with_reducible refine Ext.trans ?_ (by with_reducible assumption))))).mono ?_); rintro e w5 ⟨rfl, hy5⟩; have hx5 : Ext wb w5 := Ext.trans (by repeat (first | (with_reducible exact Ext.refl _) | (with_reducible assumption) | (with_reducible refine Ext.drewN ?_ _) | (with_reducible refine Ext.drew ?_) | (with_reducible refine Ext.alloc ?_ _) | ((with_reducible refine Ext.setCell ?_ ?_ _); rotate_left; focus (first | (simp; done) | (simp; omega) | omega)) | (with_reducible refine Ext.trans ?_ (by with_reducible assumption)))) hy5) | (go_at_call 25; (with_reducible refine (HRC.out _ (by repeat (first | (with_reducible exact Ext.refl _) | (with_reducible assumption) | (with_reducible refine Ext.drewN ?_ _) | (with_reducible refine Ext.drew ?_) | (with_reducible refine Ext.alloc ?_ _) | ((with_reducible refine Ext.setCell ?_ ?_ _); rotate_left; focus (first | (simp; done) | (simp; omega) | omega)) | (with_reducible refine Ext.trans ?_ (by with_reducible assumption))))).mono ?_); rintro e w6 ⟨rfl, hy6⟩; have hx6 : Ext wb w6 := Ext.trans (by repeat (first | (with_reducible exact Ext.refl _) | (with_reducible assumption) | (with_reducible refine Ext.drewN ?_ _) | (with_reducible refine Ext.drew ?_) | (with_reducible refine Ext.alloc ?_ _) | ((with_reducible refine Ext.setCell ?_ ?_ _); rotate_left; focus (first | (simp; done) | (simp; omega) | omega)) | (with_reducible refine Ext.trans ?_ (by with_reducible assumption)))) hy6))
            have hx6' : Ext wb w6 := hx6
            (refine wp_region_from w6 (by repeat (first | (with_reducible exact Ext.refl _) | (with_reducible refine Ext.drewN ?_ _) | (with_reducible refine Ext.drew ?_) | (with_reducible refine Ext.alloc ?_ _) | ((with_reducible refine Ext.setCell ?_ ?_ _); rotate_left; focus (first | (simp; done) | (simp; omega) | omega)) | assumption | (with_reducible refine Ext.trans ?_ (by assumption)))) (by kernel_rfl) (by kernel_rfl) (by kernel_rfl) ?_; (repeat (first | (refine mix_q rfl ?_; go_big_quiet_step (fail); refine wpQuiet_nil ?_; show wpMix _ _ _ _ _ _ _) | (refine mix_s rfl ?_; go_wp2_with ((go_at_call 21; (with_reducible refine (HIC.out _ (Ext.trans hx6' (by repeat (first | (with_reducible exact Ext.refl _) | (with_reducible refine Ext.drewN ?_ _) | (with_reducible refine Ext.drew ?_) | (with_reducible refine Ext.alloc ?_ _) | ((with_reducible refine Ext.setCell ?_ ?_ _); rotate_left; focus (first | (simp; done) | (simp; omega) | omega)) | assumption | (with_reducible refine Ext.trans ?_ (by assumption)))))).mono ?_); rintro e w7 ⟨rfl, hy7⟩; have hx7 : Ext w6 w7 := Ext.trans (by repeat (first | (with_reducible exact Ext.refl _) | (with_reducible refine Ext.drewN ?_ _) | (with_reducible refine Ext.drew ?_) | (with_reducible refine Ext.alloc ?_ _) | ((with_reducible refine Ext.setCell ?_ ?_ _); rotate_left; focus (first | (simp; done) | (simp; omega) | omega)) | assumption | (with_reducible refine Ext.trans ?_ (by assumption)))) hy7; clear hy7)); first | refine ⟨up_of (by repeat (first | (with_reducible exact Ext.refl _) | (with_reducible refine Ext.drewN ?_ _) | (with_reducible refine Ext.drew ?_) | (with_reducible refine Ext.alloc ?_ _) | ((with_reducible refine Ext.setCell ?_ ?_ _); rotate_left; focus (first | (simp; done) | (simp; omega) | omega)) | assumption | (with_reducible refine Ext.trans ?_ (by assumption)))), ?_⟩ | refine ⟨rfl, rfl, up_of (by repeat (first | (with_reducible exact Ext.refl _) | (with_reducible refine Ext.drewN ?_ _) | (with_reducible refine Ext.drew ?_) | (with_reducible refine Ext.alloc ?_ _) | ((with_reducible refine Ext.setCell ?_ ?_ _); rotate_left; focus (first | (simp; done) | (simp; omega) | omega)) | assumption | (with_reducible refine Ext.trans ?_ (by assumption)))), ?_⟩))); refine mix_nil ?_)
            go_wp2
            go_loopw [23, 24, 25, 26] (fun di _ _ _ wr => ∃ d : Nat, (d : Int) ≤ D.base ∧ di = .int .i64 d ∧ Ext wb wr) (fun di _ _ _ _ => (D.base - intOf di).toNat)
            case atStart => exact ⟨0, by omega, rfl, hx6'.trans hx7⟩
            case round =>
              obtain ⟨d, hd, rfl, hx⟩ := hrel
              have hxr : Ext wb wr := hx
              by_cases hld : (d : Int) < D.base
              · have HSy := Lib.hid (fun W => laws_r8Symbol (d : Int) W (by omega) (by omega))
                have HSet := Lib.hid (HSetL.out (d : Int))
                have hsd : (textOf [(d : Int)]).size = 1 := textOf_size _
                go_wp2
                (refine wp_region_from wr (by repeat (first | (with_reducible exact Ext.refl _) | (with_reducible refine Ext.drewN ?_ _) | (with_reducible refine Ext.drew ?_) | (with_reducible refine Ext.alloc ?_ _) | ((with_reducible refine Ext.setCell ?_ ?_ _); rotate_left; focus (first | (simp; done) | (simp; omega) | omega)) | assumption | (with_reducible refine Ext.trans ?_ (by assumption)))) (by kernel_rfl) (by kernel_rfl) (by kernel_rfl) ?_; (repeat (first | (refine mix_q rfl ?_; go_big_quiet_step (fail); refine wpQuiet_nil ?_; show wpMix _ _ _ _ _ _ _) | (refine mix_s rfl ?_; go_wp2_with ((go_at_call 22; (with_reducible refine (HSy.out _).mono ?_); rintro e w8 ⟨rfl, rfl⟩)); first | refine ⟨up_of (by repeat (first | (with_reducible exact Ext.refl _) | (with_reducible refine Ext.drewN ?_ _) | (with_reducible refine Ext.drew ?_) | (with_reducible refine Ext.alloc ?_ _) | ((with_reducible refine Ext.setCell ?_ ?_ _); rotate_left; focus (first | (simp; done) | (simp; omega) | omega)) | assumption | (with_reducible refine Ext.trans ?_ (by assumption)))), ?_⟩ | refine ⟨rfl, rfl, up_of (by repeat (first | (with_reducible exact Ext.refl _) | (with_reducible refine Ext.drewN ?_ _) | (with_reducible refine Ext.drew ?_) | (with_reducible refine Ext.alloc ?_ _) | ((with_reducible refine Ext.setCell ?_ ?_ _); rotate_left; focus (first | (simp; done) | (simp; omega) | omega)) | assumption | (with_reducible refine Ext.trans ?_ (by assumption)))), ?_⟩))); refine mix_nil ?_)
                have HSet2 := Lib.hid (show s.extract 0 pl ++ textOf [(d : Int)] ++ s.extract (pl + 1) i = textOf (xs.set pl d) by have := HSet.out; rw [hsz] at this; exact this)
                have hd0 : d < D.base.toNat := by omega
                have HV := Lib.hid (csL_has D xs pl D.base.toNat d hd0)
                rw [← HhLe.out] at HV
                have HC2 := Lib.hid (chkB_text Hok.out Hval.out (digC_set HXd.out (p := pl) (k := d) hld) (by rw [List.length_set, HXl.out, HP.out]))
                have HIC2 := Lib.hid (fun W (h : Ext wb W) => impl_IsChecked D ad x cc pd i pc (textOf (xs.set pl d)) W (HI.out.ext h) (by rw [textOf_size, List.length_set, HXl.out]; omega))
                rw [HC2.out] at HIC2
                have HVd := Lib.hid (show decide (runS D 0 D.start (xs.set pl d) = D.fin) = csHit D xs pl (d : Int) from rfl)
                rw [HVd.out] at HIC2
                obtain ⟨V, hVe⟩ : ∃ V, V = csHit D xs pl (d : Int) := ⟨_, rfl⟩
                rw [← hVe] at HV HIC2
                obtain ⟨own, hown⟩ : ∃ own, own = textOf (xs.set pl d) := ⟨_, rfl⟩
                rw [← hown] at HIC2 HSet2
                obtain ⟨m, hm⟩ : ∃ m, m = L.length := ⟨_, rfl⟩
                have hLs : (textOf L).size = m := by rw [textOf_size, hm]
                have HM := Lib.hid hm
                have hm36 : m ≤ 36 := by omega
                clear hVe hown hm
                have hxd : Ext wb wr.drew := hx.drew
                go_wp2
                go_loopw [25, 26] (fun hs ki wr => ∃ k : Nat, k ≤ m ∧ ki = .int .i64 k ∧ hs = .bool ((L.take k).any fun y => y == (d : Int)) ∧ Ext wb wr) (fun _ ki _ => m - (intOf ki).toNat)
                case atStart => exact ⟨0, Nat.zero_le _, rfl, rfl, hxd⟩
                case round =>
                  obtain ⟨k, hk, rfl, rfl, hx⟩ := hrel
                  have hxr : Ext wb wr := hx
                  by_cases hlk : k < m
                  · have HTk := Lib.hid (show (L.take (k + 1)).any (fun y => y == (d : Int)) = ((L.take k).any (fun y => y == (d : Int)) || gi L k == (d : Int)) by rw [take_gi (by rw [← HM.out]; exact hlk), List.any_append]; simp)
                    have hgb := HCsL.out _ (gi_mem (l := L) (k := k) (by rw [← HM.out]; exact hlk))
                    have HEq := Lib.hid (show (((textOf L).extract k (k + 1)).toList == (textOf [(d : Int)]).toList) = (gi L k == (d : Int)) by
                      rw [text_at L k (by rw [← HM.out]; exact hlk), Bool.eq_iff_iff, one_eq hgb (by omega), beq_iff_eq])
                    cases hb : (L.take k).any fun y => y == (d : Int)
                    · rw [hb] at HTk
                      clear hb
                      go_wp2
                      (refine wp_region_from wr (by repeat (first | (with_reducible exact Ext.refl _) | (with_reducible refine Ext.drewN ?_ _) | (with_reducible refine Ext.drew ?_) | (with_reducible refine Ext.alloc ?_ _) | ((with_reducible refine Ext.setCell ?_ ?_ _); rotate_left; focus (first | (simp; done) | (simp; omega) | omega)) | assumption | (with_reducible refine Ext.trans ?_ (by assumption)))) (by kernel_rfl) (by kernel_rfl) (by kernel_rfl) ?_; (repeat (first | (refine mix_q rfl ?_; go_big_quiet_step (fail); refine wpQuiet_nil ?_; show wpMix _ _ _ _ _ _ _) | (refine mix_s rfl ?_; go_wp2_with ((go_at_call 22; (with_reducible refine (HSy.out _).mono ?_); rintro e w8 ⟨rfl, rfl⟩)); first | refine ⟨up_of (by repeat (first | (with_reducible exact Ext.refl _) | (with_reducible refine Ext.drewN ?_ _) | (with_reducible refine Ext.drew ?_) | (with_reducible refine Ext.alloc ?_ _) | ((with_reducible refine Ext.setCell ?_ ?_ _); rotate_left; focus (first | (simp; done) | (simp; omega) | omega)) | assumption | (with_reducible refine Ext.trans ?_ (by assumption)))), ?_⟩ | refine ⟨rfl, rfl, up_of (by repeat (first | (with_reducible exact Ext.refl _) | (with_reducible refine Ext.drewN ?_ _) | (with_reducible refine Ext.drew ?_) | (with_reducible refine Ext.alloc ?_ _) | ((with_reducible refine Ext.setCell ?_ ?_ _); rotate_left; focus (first | (simp; done) | (simp; omega) | omega)) | assumption | (with_reducible refine Ext.trans ?_ (by assumption)))), ?_⟩))); refine mix_nil ?_)
                      go_wp2
                      exact ⟨⟨k + 1, hlk, by go_num, by rw [HTk.out, HEq.out]; rfl, hx.drew⟩, by simp [intOf]; omega⟩
                    · rw [hb] at HTk
                      clear hb
                      go_wp2
                      (refine wp_region_from wr (by repeat (first | (with_reducible exact Ext.refl _) | (with_reducible refine Ext.drewN ?_ _) | (with_reducible refine Ext.drew ?_) | (with_reducible refine Ext.alloc ?_ _) | ((with_reducible refine Ext.setCell ?_ ?_ _); rotate_left; focus (first | (simp; done) | (simp; omega) | omega)) | assumption | (with_reducible refine Ext.trans ?_ (by assumption)))) (by kernel_rfl) (by kernel_rfl) (by kernel_rfl) ?_; (repeat (first | (refine mix_q rfl ?_; go_big_quiet_step (fail); refine wpQuiet_nil ?_; show wpMix _ _ _ _ _ _ _) | (refine mix_s rfl ?_; go_wp2_with ((go_at_call 22; (with_reducible refine (HSy.out _).mono ?_); rintro e w8 ⟨rfl, rfl⟩)); first | refine ⟨up_of (by repeat (first | (with_reducible exact Ext.refl _) | (with_reducible refine Ext.drewN ?_ _) | (with_reducible refine Ext.drew ?_) | (with_reducible refine Ext.alloc ?_ _) | ((with_reducible refine Ext.setCell ?_ ?_ _); rotate_left; focus (first | (simp; done) | (simp; omega) | omega)) | assumption | (with_reducible refine Ext.trans ?_ (by assumption)))), ?_⟩ | refine ⟨rfl, rfl, up_of (by repeat (first | (with_reducible exact Ext.refl _) | (with_reducible refine Ext.drewN ?_ _) | (with_reducible refine Ext.drew ?_) | (with_reducible refine Ext.alloc ?_ _) | ((with_reducible refine Ext.setCell ?_ ?_ _); rotate_left; focus (first | (simp; done) | (simp; omega) | omega)) | assumption | (with_reducible refine Ext.trans ?_ (by assumption)))), ?_⟩))); refine mix_nil ?_)
                      go_wp2
                      exact ⟨⟨k + 1, hlk, by go_num, by rw [HTk.out]; rfl, hx.drew⟩, by simp [intOf]; omega⟩
                  · obtain rfl : k = m := by omega
                    rw [take_full (by rw [HM.out]; exact Nat.le_refl _), HV.out, HSet2.out]
                    go_wp2_with (go_at_call 21; (with_reducible refine (HIC2.out _ (by repeat (first | (with_reducible exact Ext.refl _) | (with_reducible assumption) | (with_reducible refine Ext.drewN ?_ _) | (with_reducible refine Ext.drew ?_) | (with_reducible refine Ext.alloc ?_ _) | ((with_reducible refine Ext.setCell ?_ ?_ _); rotate_left; focus (first | (simp; done) | (simp; omega) | omega)) | (with_reducible refine Ext.trans ?_ (by with_reducible assumption))))).mono ?_); rintro e w9 ⟨rfl, hy9⟩; have hx9 : Ext wb w9 := Ext.trans (by repeat (first | (with_reducible exact Ext.refl _) | (with_reducible assumption) | (with_reducible refine Ext.drewN ?_ _) | (with_reducible refine Ext.drew ?_) | (with_reducible refine Ext.alloc ?_ _) | ((with_reducible refine Ext.setCell ?_ ?_ _); rotate_left; focus (first | (simp; done) | (simp; omega) | omega)) | (with_reducible refine Ext.trans ?_ (by with_reducible assumption)))) hy9; clear hy9)
                    exact ⟨⟨d + 1, by omega, by go_num, hx9⟩, by simp [intOf]; omega⟩
              · go_wp2
                go_ret
                exact ⟨rfl, hxwb.trans hx⟩
    ·
        go_wp2_with (go_at_call 19; (with_reducible refine (HWA.out (N : Int) _ (by repeat (first | (with_reducible exact Ext.refl _) | (with_reducible assumption) | (with_reducible refine Ext.drewN ?_ _) | (with_reducible refine Ext.drew ?_) | (with_reducible refine Ext.alloc ?_ _) | ((with_reducible refine Ext.setCell ?_ ?_ _); rotate_left; focus (first | (simp; done) | (simp; omega) | omega)) | (with_reducible refine Ext.trans ?_ (by with_reducible assumption))))).mono ?_); rintro e w3 ⟨rfl, hy3⟩; rw [HWn.out.1, HWn.out.2]; have hx3 : Ext wb w3 := Ext.trans (by repeat (first | (with_reducible exact Ext.refl _) | (with_reducible assumption) | (with_reducible refine Ext.drewN ?_ _) | (with_reducible refine Ext.drew ?_) | (with_reducible refine Ext.alloc ?_ _) | ((with_reducible refine Ext.setCell ?_ ?_ _); rotate_left; focus (first | (simp; done) | (simp; omega) | omega)) | (with_reducible refine Ext.trans ?_ (by with_reducible assumption)))) hy3; clear hy3)
        go_loopw [16, 17] (fun tx ii wr => ∃ (i : Nat) (xs : List Int), i ≤ p ∧ ii = .int .i64 i ∧ tx = .string (textOf xs) ∧ Hid (xs.length = i) ∧ Hid (DigC D xs) ∧ Ext wb wr) (fun _ ii _ => p - (intOf ii).toNat)
        case atStart => exact ⟨0, [], Nat.zero_le _, rfl, rfl, rfl, (fun d hd => by cases hd), hx3⟩
        case round =>
          obtain ⟨i, xs, hi, rfl, rfl, HXl, HXd, hx⟩ := hrel
          have hxr : Ext wb wr := hx
          by_cases hlt2 : i < p
          · have hz := r8_bd l' i D.base (by omega)
            have HR8 := Lib.hid (fun W (h : Ext w W) => laws_r8 a' n' c' l' (i : Int) D.base W (HB'.out.ext h) (by omega) (by omega) (by omega))
            generalize r8 l' i D.base = z at *
            have hs1 : (textOf xs).size = i := by rw [textOf_size, HXl.out]
            have hs2 : (textOf [z]).size = 1 := textOf_size _
            go_wp2_with (first | (go_at_call 23; (with_reducible refine (HR8.out _ (hxwb.trans (by repeat (first | (with_reducible exact Ext.refl _) | (with_reducible assumption) | (with_reducible refine Ext.drewN ?_ _) | (with_reducible refine Ext.drew ?_) | (with_reducible refine Ext.alloc ?_ _) | ((with_reducible refine Ext.setCell ?_ ?_ _); rotate_left; focus (first | (simp; done) | (simp; omega) | omega)) | (with_reducible refine Ext.trans ?_ (by with_reducible assumption)))))).mono ?_); rintro e w4 ⟨rfl, rfl⟩) | (go_at_call 22; (with_reducible refine (laws_r8Symbol z _ (by omega) (by omega)).mono ?_); rintro e w5 ⟨rfl, rfl⟩))
            exact ⟨⟨i + 1, xs ++ [z], hlt2, by go_num, by rw [text_app], by rw [Hid, List.length_append, HXl.out]; rfl, by rw [Hid]; exact all_snoc HXd.out hz, (by repeat (first | (with_reducible exact Ext.refl _) | (with_reducible assumption) | (with_reducible refine Ext.drewN ?_ _) | (with_reducible refine Ext.drew ?_) | (with_reducible refine Ext.alloc ?_ _) | ((with_reducible refine Ext.setCell ?_ ?_ _); rotate_left; focus (first | (simp; done) | (simp; omega) | omega)) | (with_reducible refine Ext.trans ?_ (by with_reducible assumption))))⟩, by simp [intOf]; omega⟩
          · obtain rfl : i = p := by omega
            have HSz := Lib.hid (show (textOf xs).size = i by rw [textOf_size, HXl.out])
            have h36 : Dig36 xs := dig36_of Hok.out.b36 HXd.out
            have HX36 := Lib.hid h36
            have HRun := Lib.hid (runOk_text Hok.out Hval.out HXd.out (by rw [HXl.out, HP.out]))
            have HE := Lib.hid (runEnd_text (D := D) h36)
            have hpl := r8_bd l' 30 (i : Int) (by omega)
            have HR8 := Lib.hid (fun W (h : Ext w W) => laws_r8 a' n' c' l' 30 (i : Int) W (HB'.out.ext h) (by omega) (by omega) (by omega))
            have HCs := Lib.hid (fun W (h : Ext wb W) => impl_CheckSymbols D ad x cc pd i pc (textOf xs) (r8 l' 30 (i : Int)) W (HI.out.ext h) (by rw [HSz.out]; omega) ⟨by omega, by omega⟩)
            obtain ⟨pl, hple⟩ := Int.eq_ofNat_of_zero_le hpl.1
            have HCk := Lib.hid (chk_yes HRun.out)
            have HOk := Lib.hid (show csOk D (textOf xs) (r8 l' 30 (i : Int)) = true by rw [csOk, HRun.out, Bool.true_and]; rw [HSz.out]; exact inB_t.2 ⟨by omega, by omega⟩)
            have HL := Lib.hid (show csT D (textOf xs) (r8 l' 30 (i : Int)) = textOf (csL D xs pl D.base.toNat) by rw [csT, HOk.out, if_pos rfl, digC_text h36, hple, Int.toNat_natCast])
            rw [HOk.out, HL.out] at HCs
            have hplb : r8 l' 30 (i : Int) = (pl : Int) := hple
            rw [hplb] at HR8 HCs
            have hpln : pl < i := by omega
            have HRr := Lib.hid (show runRes D (textOf xs) = runEnd D (textOf xs) by rw [runRes, HRun.out]; rfl)
            have HRC := Lib.hid (fun W (h : Ext wb W) => impl_RunChain D ad x cc pd i pc (textOf xs) W (HI.out.ext h) (by rw [HSz.out]; omega))
            have HIC := Lib.hid (fun W (h : Ext wb W) => impl_IsChecked D ad x cc pd i pc (textOf xs) W (HI.out.ext h) (by rw [HSz.out]; omega))
            rw [HCk.out] at HIC
            rw [HRun.out, HRr.out] at HRC
            have HSetL := Lib.hid (fun d : Int => set_text (xs := xs) (pl := pl) (d := d) (by rw [HXl.out]; exact hpln))
            have HCsL := Lib.hid (csL_dig D xs pl D.base.toNat (by omega))
            have HCl := csL_len D xs pl D.base.toNat
            obtain ⟨L, hLe⟩ : ∃ L, L = csL D xs pl D.base.toNat := ⟨_, rfl⟩
            have HLe := Lib.hid hLe
            rw [← hLe] at HCs HCsL HCl
            obtain ⟨s, hs⟩ : ∃ s, s = textOf xs := ⟨_, rfl⟩
            obtain ⟨E, hEe⟩ : ∃ E, E = runEnd D (textOf xs) := ⟨_, rfl⟩
            rw [← hEe] at HRC HIC
            rw [← hs] at HCs HRC HIC HSetL HSz ⊢
            have hsz : s.size = i := HSz.out
            have hs20 : i ≤ 5 := hp5
            have Hhs := Lib.hid hs; clear hs; have HhEe := Lib.hid hEe; clear hEe; have HhLe := Lib.hid hLe; clear hLe; have Hhple := Lib.hid hple; clear hple; have Hhplb := Lib.hid hplb; clear hplb
            clear hpl
            go_wp2_with (first | (go_at_call 23; (with_reducible refine (HR8.out _ (hxwb.trans (by repeat (first | (with_reducible exact Ext.refl _) | (with_reducible assumption) | (with_reducible refine Ext.drewN ?_ _) | (with_reducible refine Ext.drew ?_) | (with_reducible refine Ext.alloc ?_ _) | ((with_reducible refine Ext.setCell ?_ ?_ _); rotate_left; focus (first | (simp; done) | (simp; omega) | omega)) | (with_reducible refine Ext.trans ?_ (by with_reducible assumption)))))).mono ?_); rintro e w4 ⟨rfl, rfl⟩) | (go_at_call 24; (with_reducible refine (HCs.out _ (by repeat (first | (with_reducible exact Ext.refl _) | (with_reducible assumption) | (with_reducible refine Ext.drewN ?_ _) | (with_reducible refine Ext.drew ?_) | (with_reducible refine Ext.alloc ?_ _) | ((with_reducible refine Ext.setCell ?_ ?_ _); rotate_left; focus (first | (simp; done) | (simp; omega) | omega)) | (with_reducible refine Ext.trans ?_ (by with_reducible assumption))))).mono ?_); rintro e w5 ⟨rfl, hy5⟩; have hx5 : Ext wb w5 := Ext.trans (by repeat (first | (with_reducible exact Ext.refl _) | (with_reducible assumption) | (with_reducible refine Ext.drewN ?_ _) | (with_reducible refine Ext.drew ?_) | (with_reducible refine Ext.alloc ?_ _) | ((with_reducible refine Ext.setCell ?_ ?_ _); rotate_left; focus (first | (simp; done) | (simp; omega) | omega)) | (with_reducible refine Ext.trans ?_ (by with_reducible assumption)))) hy5) | (go_at_call 25; (with_reducible refine (HRC.out _ (by repeat (first | (with_reducible exact Ext.refl _) | (with_reducible assumption) | (with_reducible refine Ext.drewN ?_ _) | (with_reducible refine Ext.drew ?_) | (with_reducible refine Ext.alloc ?_ _) | ((with_reducible refine Ext.setCell ?_ ?_ _); rotate_left; focus (first | (simp; done) | (simp; omega) | omega)) | (with_reducible refine Ext.trans ?_ (by with_reducible assumption))))).mono ?_); rintro e w6 ⟨rfl, hy6⟩; have hx6 : Ext wb w6 := Ext.trans (by repeat (first | (with_reducible exact Ext.refl _) | (with_reducible assumption) | (with_reducible refine Ext.drewN ?_ _) | (with_reducible refine Ext.drew ?_) | (with_reducible refine Ext.alloc ?_ _) | ((with_reducible refine Ext.setCell ?_ ?_ _); rotate_left; focus (first | (simp; done) | (simp; omega) | omega)) | (with_reducible refine Ext.trans ?_ (by with_reducible assumption)))) hy6))
            have hx6' : Ext wb w6 := hx6
            (refine wp_region_from w6 (by repeat (first | (with_reducible exact Ext.refl _) | (with_reducible refine Ext.drewN ?_ _) | (with_reducible refine Ext.drew ?_) | (with_reducible refine Ext.alloc ?_ _) | ((with_reducible refine Ext.setCell ?_ ?_ _); rotate_left; focus (first | (simp; done) | (simp; omega) | omega)) | assumption | (with_reducible refine Ext.trans ?_ (by assumption)))) (by kernel_rfl) (by kernel_rfl) (by kernel_rfl) ?_; (repeat (first | (refine mix_q rfl ?_; go_big_quiet_step (fail); refine wpQuiet_nil ?_; show wpMix _ _ _ _ _ _ _) | (refine mix_s rfl ?_; go_wp2_with ((go_at_call 21; (with_reducible refine (HIC.out _ (Ext.trans hx6' (by repeat (first | (with_reducible exact Ext.refl _) | (with_reducible refine Ext.drewN ?_ _) | (with_reducible refine Ext.drew ?_) | (with_reducible refine Ext.alloc ?_ _) | ((with_reducible refine Ext.setCell ?_ ?_ _); rotate_left; focus (first | (simp; done) | (simp; omega) | omega)) | assumption | (with_reducible refine Ext.trans ?_ (by assumption)))))).mono ?_); rintro e w7 ⟨rfl, hy7⟩; have hx7 : Ext w6 w7 := Ext.trans (by repeat (first | (with_reducible exact Ext.refl _) | (with_reducible refine Ext.drewN ?_ _) | (with_reducible refine Ext.drew ?_) | (with_reducible refine Ext.alloc ?_ _) | ((with_reducible refine Ext.setCell ?_ ?_ _); rotate_left; focus (first | (simp; done) | (simp; omega) | omega)) | assumption | (with_reducible refine Ext.trans ?_ (by assumption)))) hy7; clear hy7)); first | refine ⟨up_of (by repeat (first | (with_reducible exact Ext.refl _) | (with_reducible refine Ext.drewN ?_ _) | (with_reducible refine Ext.drew ?_) | (with_reducible refine Ext.alloc ?_ _) | ((with_reducible refine Ext.setCell ?_ ?_ _); rotate_left; focus (first | (simp; done) | (simp; omega) | omega)) | assumption | (with_reducible refine Ext.trans ?_ (by assumption)))), ?_⟩ | refine ⟨rfl, rfl, up_of (by repeat (first | (with_reducible exact Ext.refl _) | (with_reducible refine Ext.drewN ?_ _) | (with_reducible refine Ext.drew ?_) | (with_reducible refine Ext.alloc ?_ _) | ((with_reducible refine Ext.setCell ?_ ?_ _); rotate_left; focus (first | (simp; done) | (simp; omega) | omega)) | assumption | (with_reducible refine Ext.trans ?_ (by assumption)))), ?_⟩))); refine mix_nil ?_)
            go_wp2
            go_loopw [23, 24, 25, 26] (fun di _ _ _ wr => ∃ d : Nat, (d : Int) ≤ D.base ∧ di = .int .i64 d ∧ Ext wb wr) (fun di _ _ _ _ => (D.base - intOf di).toNat)
            case atStart => exact ⟨0, by omega, rfl, hx6'.trans hx7⟩
            case round =>
              obtain ⟨d, hd, rfl, hx⟩ := hrel
              have hxr : Ext wb wr := hx
              by_cases hld : (d : Int) < D.base
              · have HSy := Lib.hid (fun W => laws_r8Symbol (d : Int) W (by omega) (by omega))
                have HSet := Lib.hid (HSetL.out (d : Int))
                have hsd : (textOf [(d : Int)]).size = 1 := textOf_size _
                go_wp2
                (refine wp_region_from wr (by repeat (first | (with_reducible exact Ext.refl _) | (with_reducible refine Ext.drewN ?_ _) | (with_reducible refine Ext.drew ?_) | (with_reducible refine Ext.alloc ?_ _) | ((with_reducible refine Ext.setCell ?_ ?_ _); rotate_left; focus (first | (simp; done) | (simp; omega) | omega)) | assumption | (with_reducible refine Ext.trans ?_ (by assumption)))) (by kernel_rfl) (by kernel_rfl) (by kernel_rfl) ?_; (repeat (first | (refine mix_q rfl ?_; go_big_quiet_step (fail); refine wpQuiet_nil ?_; show wpMix _ _ _ _ _ _ _) | (refine mix_s rfl ?_; go_wp2_with ((go_at_call 22; (with_reducible refine (HSy.out _).mono ?_); rintro e w8 ⟨rfl, rfl⟩)); first | refine ⟨up_of (by repeat (first | (with_reducible exact Ext.refl _) | (with_reducible refine Ext.drewN ?_ _) | (with_reducible refine Ext.drew ?_) | (with_reducible refine Ext.alloc ?_ _) | ((with_reducible refine Ext.setCell ?_ ?_ _); rotate_left; focus (first | (simp; done) | (simp; omega) | omega)) | assumption | (with_reducible refine Ext.trans ?_ (by assumption)))), ?_⟩ | refine ⟨rfl, rfl, up_of (by repeat (first | (with_reducible exact Ext.refl _) | (with_reducible refine Ext.drewN ?_ _) | (with_reducible refine Ext.drew ?_) | (with_reducible refine Ext.alloc ?_ _) | ((with_reducible refine Ext.setCell ?_ ?_ _); rotate_left; focus (first | (simp; done) | (simp; omega) | omega)) | assumption | (with_reducible refine Ext.trans ?_ (by assumption)))), ?_⟩))); refine mix_nil ?_)
                have HSet2 := Lib.hid (show s.extract 0 pl ++ textOf [(d : Int)] ++ s.extract (pl + 1) i = textOf (xs.set pl d) by have := HSet.out; rw [hsz] at this; exact this)
                have hd0 : d < D.base.toNat := by omega
                have HV := Lib.hid (csL_has D xs pl D.base.toNat d hd0)
                rw [← HhLe.out] at HV
                have HC2 := Lib.hid (chkB_text Hok.out Hval.out (digC_set HXd.out (p := pl) (k := d) hld) (by rw [List.length_set, HXl.out, HP.out]))
                have HIC2 := Lib.hid (fun W (h : Ext wb W) => impl_IsChecked D ad x cc pd i pc (textOf (xs.set pl d)) W (HI.out.ext h) (by rw [textOf_size, List.length_set, HXl.out]; omega))
                rw [HC2.out] at HIC2
                have HVd := Lib.hid (show decide (runS D 0 D.start (xs.set pl d) = D.fin) = csHit D xs pl (d : Int) from rfl)
                rw [HVd.out] at HIC2
                obtain ⟨V, hVe⟩ : ∃ V, V = csHit D xs pl (d : Int) := ⟨_, rfl⟩
                rw [← hVe] at HV HIC2
                obtain ⟨own, hown⟩ : ∃ own, own = textOf (xs.set pl d) := ⟨_, rfl⟩
                rw [← hown] at HIC2 HSet2
                obtain ⟨m, hm⟩ : ∃ m, m = L.length := ⟨_, rfl⟩
                have hLs : (textOf L).size = m := by rw [textOf_size, hm]
                have HM := Lib.hid hm
                have hm36 : m ≤ 36 := by omega
                clear hVe hown hm
                have hxd : Ext wb wr.drew := hx.drew
                go_wp2
                go_loopw [25, 26] (fun hs ki wr => ∃ k : Nat, k ≤ m ∧ ki = .int .i64 k ∧ hs = .bool ((L.take k).any fun y => y == (d : Int)) ∧ Ext wb wr) (fun _ ki _ => m - (intOf ki).toNat)
                case atStart => exact ⟨0, Nat.zero_le _, rfl, rfl, hxd⟩
                case round =>
                  obtain ⟨k, hk, rfl, rfl, hx⟩ := hrel
                  have hxr : Ext wb wr := hx
                  by_cases hlk : k < m
                  · have HTk := Lib.hid (show (L.take (k + 1)).any (fun y => y == (d : Int)) = ((L.take k).any (fun y => y == (d : Int)) || gi L k == (d : Int)) by rw [take_gi (by rw [← HM.out]; exact hlk), List.any_append]; simp)
                    have hgb := HCsL.out _ (gi_mem (l := L) (k := k) (by rw [← HM.out]; exact hlk))
                    have HEq := Lib.hid (show (((textOf L).extract k (k + 1)).toList == (textOf [(d : Int)]).toList) = (gi L k == (d : Int)) by
                      rw [text_at L k (by rw [← HM.out]; exact hlk), Bool.eq_iff_iff, one_eq hgb (by omega), beq_iff_eq])
                    cases hb : (L.take k).any fun y => y == (d : Int)
                    · rw [hb] at HTk
                      clear hb
                      go_wp2
                      (refine wp_region_from wr (by repeat (first | (with_reducible exact Ext.refl _) | (with_reducible refine Ext.drewN ?_ _) | (with_reducible refine Ext.drew ?_) | (with_reducible refine Ext.alloc ?_ _) | ((with_reducible refine Ext.setCell ?_ ?_ _); rotate_left; focus (first | (simp; done) | (simp; omega) | omega)) | assumption | (with_reducible refine Ext.trans ?_ (by assumption)))) (by kernel_rfl) (by kernel_rfl) (by kernel_rfl) ?_; (repeat (first | (refine mix_q rfl ?_; go_big_quiet_step (fail); refine wpQuiet_nil ?_; show wpMix _ _ _ _ _ _ _) | (refine mix_s rfl ?_; go_wp2_with ((go_at_call 22; (with_reducible refine (HSy.out _).mono ?_); rintro e w8 ⟨rfl, rfl⟩)); first | refine ⟨up_of (by repeat (first | (with_reducible exact Ext.refl _) | (with_reducible refine Ext.drewN ?_ _) | (with_reducible refine Ext.drew ?_) | (with_reducible refine Ext.alloc ?_ _) | ((with_reducible refine Ext.setCell ?_ ?_ _); rotate_left; focus (first | (simp; done) | (simp; omega) | omega)) | assumption | (with_reducible refine Ext.trans ?_ (by assumption)))), ?_⟩ | refine ⟨rfl, rfl, up_of (by repeat (first | (with_reducible exact Ext.refl _) | (with_reducible refine Ext.drewN ?_ _) | (with_reducible refine Ext.drew ?_) | (with_reducible refine Ext.alloc ?_ _) | ((with_reducible refine Ext.setCell ?_ ?_ _); rotate_left; focus (first | (simp; done) | (simp; omega) | omega)) | assumption | (with_reducible refine Ext.trans ?_ (by assumption)))), ?_⟩))); refine mix_nil ?_)
                      go_wp2
                      exact ⟨⟨k + 1, hlk, by go_num, by rw [HTk.out, HEq.out]; rfl, hx.drew⟩, by simp [intOf]; omega⟩
                    · rw [hb] at HTk
                      clear hb
                      go_wp2
                      (refine wp_region_from wr (by repeat (first | (with_reducible exact Ext.refl _) | (with_reducible refine Ext.drewN ?_ _) | (with_reducible refine Ext.drew ?_) | (with_reducible refine Ext.alloc ?_ _) | ((with_reducible refine Ext.setCell ?_ ?_ _); rotate_left; focus (first | (simp; done) | (simp; omega) | omega)) | assumption | (with_reducible refine Ext.trans ?_ (by assumption)))) (by kernel_rfl) (by kernel_rfl) (by kernel_rfl) ?_; (repeat (first | (refine mix_q rfl ?_; go_big_quiet_step (fail); refine wpQuiet_nil ?_; show wpMix _ _ _ _ _ _ _) | (refine mix_s rfl ?_; go_wp2_with ((go_at_call 22; (with_reducible refine (HSy.out _).mono ?_); rintro e w8 ⟨rfl, rfl⟩)); first | refine ⟨up_of (by repeat (first | (with_reducible exact Ext.refl _) | (with_reducible refine Ext.drewN ?_ _) | (with_reducible refine Ext.drew ?_) | (with_reducible refine Ext.alloc ?_ _) | ((with_reducible refine Ext.setCell ?_ ?_ _); rotate_left; focus (first | (simp; done) | (simp; omega) | omega)) | assumption | (with_reducible refine Ext.trans ?_ (by assumption)))), ?_⟩ | refine ⟨rfl, rfl, up_of (by repeat (first | (with_reducible exact Ext.refl _) | (with_reducible refine Ext.drewN ?_ _) | (with_reducible refine Ext.drew ?_) | (with_reducible refine Ext.alloc ?_ _) | ((with_reducible refine Ext.setCell ?_ ?_ _); rotate_left; focus (first | (simp; done) | (simp; omega) | omega)) | assumption | (with_reducible refine Ext.trans ?_ (by assumption)))), ?_⟩))); refine mix_nil ?_)
                      go_wp2
                      exact ⟨⟨k + 1, hlk, by go_num, by rw [HTk.out]; rfl, hx.drew⟩, by simp [intOf]; omega⟩
                  · obtain rfl : k = m := by omega
                    rw [take_full (by rw [HM.out]; exact Nat.le_refl _), HV.out, HSet2.out]
                    go_wp2_with (go_at_call 21; (with_reducible refine (HIC2.out _ (by repeat (first | (with_reducible exact Ext.refl _) | (with_reducible assumption) | (with_reducible refine Ext.drewN ?_ _) | (with_reducible refine Ext.drew ?_) | (with_reducible refine Ext.alloc ?_ _) | ((with_reducible refine Ext.setCell ?_ ?_ _); rotate_left; focus (first | (simp; done) | (simp; omega) | omega)) | (with_reducible refine Ext.trans ?_ (by with_reducible assumption))))).mono ?_); rintro e w9 ⟨rfl, hy9⟩; have hx9 : Ext wb w9 := Ext.trans (by repeat (first | (with_reducible exact Ext.refl _) | (with_reducible assumption) | (with_reducible refine Ext.drewN ?_ _) | (with_reducible refine Ext.drew ?_) | (with_reducible refine Ext.alloc ?_ _) | ((with_reducible refine Ext.setCell ?_ ?_ _); rotate_left; focus (first | (simp; done) | (simp; omega) | omega)) | (with_reducible refine Ext.trans ?_ (by with_reducible assumption)))) hy9; clear hy9)
                    exact ⟨⟨d + 1, by omega, by go_num, hx9⟩, by simp [intOf]; omega⟩
              · go_wp2
                go_ret
                exact ⟨rfl, hxwb.trans hx⟩
end Go.Proofs.Ytaiieodllhoelaa
