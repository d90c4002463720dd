/- The law on the least modulus of drawn sizes: walked. -/
import Derived.Test.YtlpbflmgkopklaaLLm
import Derived.Test.YtlpbflmgkopklaaOpenB
namespace Go.Proofs.Ytlpbflmgkopklaa
set_option maxRecDepth 100000
open Go.RowKit

theorem fine_catch {base : Int} {m : Nat} {L kinds : List Int} (hv : validB ⟨base, m, 0, L⟩ = true) (hk : ∀ k ∈ kinds, kindB k base = true) : ∀ k ∈ kinds, catB ⟨base, m, 0, L⟩ k = decide (allF ⟨base, m, 0, L⟩ k = 0) := fun k h => by
  rw [catB, hv, hk k h]; rfl
theorem valid_many {base : Int} {m np : Nat} {L : List Int} (h : manyB base np = true) (hm : 2 ≤ m ∧ m ≤ 36) (hl : L.length = np) (hb : ∀ x ∈ L, 0 ≤ x ∧ x < m) : validB ⟨base, m, 0, L⟩ = true := by
  unfold validB belowB
  simp only
  rw [hl, h, inB_t.2 (by omega), inB_t.2 (by omega)]
  simp only [Bool.true_and, List.all_eq_true]
  exact fun x hx => inB_t.2 (by have := hb x hx; omega)
theorem fine_all {base : Int} {m : Nat} {L kinds : List Int} (hv : validB ⟨base, m, 0, L⟩ = true) (hk : ∀ k ∈ kinds, kindB k base = true) : (kinds.all fun k => catB ⟨base, m, 0, L⟩ k) = fineB ⟨base, m, 0, L⟩ kinds := by
  unfold fineB
  rw [Bool.eq_iff_iff, List.all_eq_true, List.all_eq_true]
  exact ⟨fun h k hk' => by rw [← fine_catch hv hk k hk']; exact h k hk', fun h k hk' => by rw [fine_catch hv hk k hk']; exact h k hk'⟩
theorem lm_has {base : Int} {np : Nat} {kinds : List Int} (hs : searchB base 2 np = true) (hk : kinds = []) : lmF base np kinds 40 2 ≠ none := by
  subst hk
  have hl : ∃ l, leastT base 2 np [] = some l := by
    refine ⟨_, least_some (t := 0) (Nat.pow_pos (by omega)) (fun i hi => by omega) rfl⟩
  obtain ⟨l, hl⟩ := hl
  rw [lmF_hit hs hl]
  simp
set_option maxHeartbeats 16000000 in
set_option maxRecDepth 100000 in
theorem lawLeastModulus (a : Option Addr) (n c : Nat) (l : List UInt8) (a' : Option Addr) (n' c' : Nat) (l' : List UInt8) (w : World) (hv : Bytes w a n c l) (hn : n ≤ 9223372036854775807) (hv' : Bytes w a' n' c' l') (hn' : n' ≤ 9223372036854775807) :
    Calls Try.prog 4 #[.slice a n c, .slice a' n' c'] w (Ret (.bool true) w) := by
  have HLong := Lib.hid (laws_b10Long a a' n c n' c' w hn hn')
  by_cases hlong : 1048576 < n ∨ 1048576 < n'
  · have hd : decide (1048576 < n ∨ 1048576 < n') = true := by simpa using hlong
    rw [hd] at HLong
    clear hd hlong
    go_enter Try.func4, Try.ntmps4
    go_wp2_with (refine HLong.out.mono ?_; rintro e w' ⟨rfl, rfl⟩)
    go_ret
    exact ⟨rfl, Ext.refl _⟩
  have hd : decide (1048576 < n ∨ 1048576 < n') = false := by simpa using hlong
  rw [hd] at HLong
  have hns : n ≤ 1048576 ∧ n' ≤ 1048576 := by omega
  clear hd hlong
  have HV := Lib.hid hv
  have HV' := Lib.hid hv'
  clear hv hv'
  have x0 := b10_bd l 0 6 (by omega)
  have x1 := b10_bd l 1 3 (by omega)
  obtain ⟨base, hb⟩ : ∃ b, b = 2 + b10 l 0 6 := ⟨_, rfl⟩
  obtain ⟨np, hp⟩ := Int.eq_ofNat_of_zero_le (show 0 ≤ 1 + b10 l 1 3 by omega)
  have hbb : 2 ≤ base ∧ base ≤ 7 := by omega
  have hpp : 1 ≤ np ∧ np ≤ 3 := by omega
  have HB := Lib.hid hb
  have HP := Lib.hid hp
  clear hb hp
  have hkl := (kD_rise l 5).1
  obtain ⟨K, hK⟩ : ∃ K, K = kD l 5 := ⟨_, rfl⟩
  have HKk := Lib.hid (show kindsB K base = true by rw [hK]; exact kD_kinds l base)
  have HKa := Lib.hid (kindsB_all HKk.out)
  have HKe := Lib.hid hK
  have hs2 := search_small (base := base) (m := 2) (n := np) ⟨by omega, by omega⟩ ⟨by omega, by omega⟩ hpp
  have HO := Lib.hid (show lmO base np K = lmF base np K 40 2 by unfold lmO lmOk; rw [HKk.out, many_of_search hs2, Int.toNat_natCast]; rfl)
  have HH := Lib.hid (lm_has (kinds := K) hs2)
  rw [← hK] at hkl
  clear hK hs2
  go_enter Try.func4, Try.ntmps4
  go_wp2_with (first | (refine HLong.out.mono ?_; rintro e w' ⟨rfl, rfl⟩) | (go_at_call 16; refine (laws_b10 a n c l _ _ _ HV.out (by omega) (by omega) (by omega)).mono ?_; rintro e w' ⟨rfl, rfl⟩))
  rw [← HB.out, HP.out]
  clear x0 x1
  go_loopw [7, 8] (fun s7 s8 wr => ∃ (k : Nat) (ad : Option Addr) (cc : Nat), k ≤ 5 ∧ s8 = .int .i64 k ∧ s7 = .slice ad (kD l k).length cc ∧ Hid (Own wr w.heap.size 2 ad (kD l k).length cc (I (kD l k))) ∧ Ext w wr) (fun _ s8 _ => 5 - (intOf s8).toNat)
  case atStart => exact ⟨0, _, 0, Nat.zero_le _, rfl, rfl, Lib.hid (Own.lit0 w _), (Ext.refl w).alloc _⟩
  case round =>
    obtain ⟨k, ad, cc, hk, rfl, rfl, HOw, hx⟩ := hrel
    have hxr : Ext w wr := hx
    have hkk := (kD_rise l k).1
    by_cases hlt : k < 5
    · have HB2 := Lib.hid (fun W' h => laws_b10 a n c l ((k : Int) + 2) 3 W' h (by omega) (by omega) (by omega))
      have HKs := Lib.hid (show kD l (k + 1) = if b10 l ((k : Int) + 2) 3 = 0 then kD l k ++ [(k : Int)] else kD l k from rfl)
      generalize b10 l ((k : Int) + 2) 3 = z at *
      by_cases hz : z = 0
      · have HKs2 := Lib.hid (HKs.out.trans (if_pos hz))
        have hzb : (z == 0) = true := by simpa using hz
        clear hz
        generalize kD l k = Lk at *
        go_wp2_with (first | (go_at_call 16; (with_reducible refine (HB2.out _ (HV.out.ext (by repeat (first | (with_reducible exact Ext.refl _) | (with_reducible assumption) | (with_reducible refine Ext.drewN ?_ _) | (with_reducible refine Ext.drew ?_) | (with_reducible refine Ext.alloc ?_ _) | ((with_reducible refine Ext.setCell ?_ ?_ _); rotate_left; focus (first | (simp; done) | (simp; omega) | omega)) | (with_reducible refine Ext.trans ?_ (by with_reducible assumption)))))).mono ?_); rintro e w' ⟨rfl, rfl⟩) | (at_builtin; refine law_append1 _ rfl _ _ 22 rfl 2 (.int .i64 0) 8 und_int64s info_int64 rfl w.heap.size ad Lk.length cc (I Lk) _ rfl rfl rfl HOw.out hxr.le (by omega) (by omega) ?_; intro ad' c3 w6 ho6 hb6 _; have hx6 : Ext w w6 := Ext.below hxr hb6))
        exact ⟨⟨k + 1, ad', c3, by omega, by go_num, by rw [HKs2.out, List.length_append]; rfl, by rw [HKs2.out, List.length_append, I_append]; exact Lib.hid ho6, hx6⟩, by simp [intOf]; omega⟩
      · have HKs2 := Lib.hid (HKs.out.trans (if_neg hz))
        have hzb : (z == 0) = false := by simpa using hz
        clear hz
        generalize kD l k = Lk at *
        go_wp2_with (go_at_call 16; (with_reducible refine (HB2.out _ (HV.out.ext (by repeat (first | (with_reducible exact Ext.refl _) | (with_reducible assumption) | (with_reducible refine Ext.drewN ?_ _) | (with_reducible refine Ext.drew ?_) | (with_reducible refine Ext.alloc ?_ _) | ((with_reducible refine Ext.setCell ?_ ?_ _); rotate_left; focus (first | (simp; done) | (simp; omega) | omega)) | (with_reducible refine Ext.trans ?_ (by with_reducible assumption)))))).mono ?_); rintro e w' ⟨rfl, rfl⟩)
        exact ⟨⟨k + 1, ad, cc, by omega, by go_num, by rw [HKs2.out], by rw [HKs2.out]; exact HOw, hx⟩, by simp [intOf]; omega⟩
    · obtain rfl : k = 5 := by omega
      rw [← HKe.out] at HOw ⊢
      obtain ⟨nK, hnK⟩ : ∃ nK, nK = K.length := ⟨_, rfl⟩
      rw [← hnK] at HOw hkl ⊢
      have HNK := Lib.hid hnK
      clear hnK hkk
      have HIm := Lib.hid (impl_LM base np ad nK cc K wr HOw.out.ints (by omega))
      have HSp := Lib.hid (fun W (h : Ext wr W) => spec_LM base np ad nK cc K W (HOw.out.ints.ext h) (by omega))
      cases hO : lmO base np K with
      | none =>
        rw [(lm_none hO).1, (lm_none hO).2.1, (lm_none hO).2.2] at HIm HSp
        have h0 : 0 < nK := by
          rcases Nat.eq_zero_or_pos nK with h | h
          · exact absurd (HO.out.symm.trans hO) (HH.out (List.eq_nil_of_length_eq_zero (by rw [← HNK.out]; exact h)))
          · exact h
        clear hO
        go_wp2_with (first | (go_at_call 17; (with_reducible refine HIm.out.mono ?_); rintro e w1 ⟨a1, n1, c1, rfl, hx1, ho1⟩) | (go_at_call 18; (with_reducible refine (HSp.out _ hx1).mono ?_); rintro e w2 ⟨a2, n2, c2, rfl, hx2, ho2⟩))
        go_ret
        exact ⟨rfl, (hx.trans hx1).trans hx2⟩
      | some r =>
        obtain ⟨m, L⟩ := r
        have hr := lmF_len 40 2 (HO.out.symm.trans hO)
        rw [(lm_some hO).1, (lm_some hO).2.1, (lm_some hO).2.2] at HIm HSp
        clear hO
        simp only at hr
        obtain ⟨hL, hm2, hsm, hle, hless⟩ := hr
        obtain ⟨t, ht, hLt, hfine⟩ := least_spec hle
        obtain ⟨_, hm36, _⟩ := search_m hsm
        have hmany := many_of_search hsm
        have hvW : validB ⟨base, m, 0, L⟩ = true := valid_many hmany ⟨hm2, hm36⟩ hL (by rw [hLt]; exact tupAt_bd (by omega) ht)
        have HCat := Lib.hid (fun k (h : k ∈ K) => show catB ⟨base, m, 0, L⟩ k = true by
          have h2 := fine_all hvW HKa.out
          rw [hfine, List.all_eq_true] at h2
          exact h2 k h)
        have HVW := Lib.hid hvW
        have HMany := Lib.hid hmany
        have HLess := Lib.hid (show ∀ m', 2 ≤ m' → m' < m → leastT base m' np K = none from hless)
        clear hle hless ht hLt hfine hvW hmany hsm
        go_wp2_with (first | (go_at_call 17; (with_reducible refine HIm.out.mono ?_); rintro e w1 ⟨a1, n1, c1, rfl, hx1, ho1⟩) | (go_at_call 18; (with_reducible refine (HSp.out _ hx1).mono ?_); rintro e w2 ⟨a2, n2, c2, rfl, hx2, ho2⟩))
        obtain ⟨wx, hwx⟩ : ∃ wx, wx = w2.alloc (.cells #[.int .i64 base, .int .i64 m, .int .i64 0, .slice a1 n1 c1] 34) := ⟨_, rfl⟩
        obtain ⟨O1, hO1⟩ : ∃ O1, O1 = w2.heap.size := ⟨_, rfl⟩
        have hx2x : Ext w2 wx := by rw [hwx]; exact (by repeat (first | (with_reducible exact Ext.refl _) | (with_reducible refine Ext.drewN ?_ _) | (with_reducible refine Ext.drew ?_) | (with_reducible refine Ext.alloc ?_ _) | ((with_reducible refine Ext.setCell ?_ ?_ _); rotate_left; focus (first | (simp; done) | (simp; omega) | omega)) | assumption | (with_reducible refine Ext.trans ?_ (by assumption))))
        have HBx := Lib.hid (show IsWt wx O1 ⟨base, m, 0, L⟩ a1 n1 c1 by rw [hwx, hO1]; exact isWt_box w2 base m 0 L a1 n1 c1 34 (ho1.ints.ext hx2))
        have hrx : Ext wr wx := (hx1.trans hx2).trans hx2x
        have hwx' : Ext w wx := hx.trans hrx
        have r0 : ∀ w', Ext wx w' → w'.cell? ⟨O1, 0, none⟩ = some (.int .i64 base) := fun w' h => h.cell HBx.out.c0
        have r1 : ∀ w', Ext wx w' → w'.cell? ⟨O1, 1, none⟩ = some (.int .i64 m) := fun w' h => h.cell HBx.out.c1
        have r2 : ∀ w', Ext wx w' → w'.cell? ⟨O1, 2, none⟩ = some (.int .i64 0) := fun w' h => h.cell HBx.out.c2
        have r3 : ∀ w', Ext wx w' → w'.cell? ⟨O1, 3, none⟩ = some (.slice a1 n1 c1) := fun w' h => h.cell HBx.out.c3
        obtain ⟨bK, oK, hixK, hcellK⟩ := (HOw.out.ints.ext hrx).ix (P := Try.prog) 22 2 und_int64s cell_int64
        rw [← hwx, ← hO1]
        clear hwx hO1 ho1 ho2
        go_loopw [16] (fun s16 wr2 => ∃ i : Nat, i ≤ nK ∧ s16 = .int .i64 i ∧ Ext wx wr2) (fun s16 _ => nK - (intOf s16).toNat)
        case atStart => exact ⟨0, Nat.zero_le _, rfl, Ext.refl _⟩
        case round =>
          obtain ⟨i, hi, rfl, hx3⟩ := hrel
          have hxr2 : Ext wx wr := hx3
          by_cases hlt : i < nK
          · have HWC := Lib.hid (fun W (h : Ext wx W) => impl_WC ⟨base, m, 0, L⟩ a1 n1 c1 (gi K i) W (HBx.out.ws.ext h))
            rw [HCat.out _ (gi_mem (by rw [← HNK.out]; exact hlt))] at HWC
            have hcK := hcellK i
            clear hcellK
            generalize gi K i = kd at *
            go_wp2
            (refine wp_region_from wx (by repeat (first | (with_reducible exact Ext.refl _) | (with_reducible refine Ext.drewN ?_ _) | (with_reducible refine Ext.drew ?_) | (with_reducible refine Ext.alloc ?_ _) | ((with_reducible refine Ext.setCell ?_ ?_ _); rotate_left; focus (first | (simp; done) | (simp; omega) | omega)) | assumption | (with_reducible refine Ext.trans ?_ (by assumption)))) (by kernel_rfl) (by kernel_rfl) (seqB_of (by kernel_rfl)) ?_; (repeat (first | (refine mix_q rfl ?_; go_big_quiet_step (fail); refine wpQuiet_nil ?_; show wpMix _ _ _ _ _ _ _) | (refine mix_s rfl ?_; go_wp2_with (((with_reducible refine (HWC.out _ (by repeat (first | (with_reducible exact Ext.refl _) | (with_reducible refine Ext.drewN ?_ _) | (with_reducible refine Ext.drew ?_) | (with_reducible refine Ext.alloc ?_ _) | ((with_reducible refine Ext.setCell ?_ ?_ _); rotate_left; focus (first | (simp; done) | (simp; omega) | omega)) | assumption | (with_reducible refine Ext.trans ?_ (by assumption))))).mono ?_); rintro e w9 ⟨rfl, hy9⟩; have hxw9 : Ext wx w9 := Ext.trans (by repeat (first | (with_reducible exact Ext.refl _) | (with_reducible refine Ext.drewN ?_ _) | (with_reducible refine Ext.drew ?_) | (with_reducible refine Ext.alloc ?_ _) | ((with_reducible refine Ext.setCell ?_ ?_ _); rotate_left; focus (first | (simp; done) | (simp; omega) | omega)) | assumption | (with_reducible refine Ext.trans ?_ (by assumption)))) hy9; have hz9 := hy9; clear hy9)); first | refine ⟨up_of (by repeat (first | (with_reducible exact Ext.refl _) | (with_reducible refine Ext.drewN ?_ _) | (with_reducible refine Ext.drew ?_) | (with_reducible refine Ext.alloc ?_ _) | ((with_reducible refine Ext.setCell ?_ ?_ _); rotate_left; focus (first | (simp; done) | (simp; omega) | omega)) | assumption | (with_reducible refine Ext.trans ?_ (by assumption)))), ?_⟩ | refine ⟨rfl, rfl, up_of (by repeat (first | (with_reducible exact Ext.refl _) | (with_reducible refine Ext.drewN ?_ _) | (with_reducible refine Ext.drew ?_) | (with_reducible refine Ext.alloc ?_ _) | ((with_reducible refine Ext.setCell ?_ ?_ _); rotate_left; focus (first | (simp; done) | (simp; omega) | omega)) | assumption | (with_reducible refine Ext.trans ?_ (by assumption)))), ?_⟩))); refine mix_nil ?_)
            go_wp2
            exact ⟨⟨i + 1, by omega, by go_num, (by repeat (first | (with_reducible exact Ext.refl _) | (with_reducible refine Ext.drewN ?_ _) | (with_reducible refine Ext.drew ?_) | (with_reducible refine Ext.alloc ?_ _) | ((with_reducible refine Ext.setCell ?_ ?_ _); rotate_left; focus (first | (simp; done) | (simp; omega) | omega)) | assumption | (with_reducible refine Ext.trans ?_ (by assumption))))⟩, by simp [intOf]; omega⟩
          · obtain rfl : nK = i := by omega
            have HVl := Lib.hid (fun W (h : Ext wx W) => impl_valid ⟨base, m, 0, L⟩ a1 n1 c1 W (HBx.out.ws.ext h))
            rw [HVW.out] at HVl
            by_cases hm : m = 2
            · have hmb : ((m : Int) == 2) = true := by simp [hm]
              clear hm
              go_wp2_with ((with_reducible refine (HVl.out _ (by repeat (first | (with_reducible exact Ext.refl _) | (with_reducible assumption) | (with_reducible refine Ext.drewN ?_ _) | (with_reducible refine Ext.drew ?_) | (with_reducible refine Ext.alloc ?_ _) | ((with_reducible refine Ext.setCell ?_ ?_ _); rotate_left; focus (first | (simp; done) | (simp; omega) | omega)) | (with_reducible refine Ext.trans ?_ (by with_reducible assumption))))).mono ?_); rintro e w9 ⟨rfl, hy9⟩; have hx9 : Ext wx w9 := Ext.trans (by repeat (first | (with_reducible exact Ext.refl _) | (with_reducible assumption) | (with_reducible refine Ext.drewN ?_ _) | (with_reducible refine Ext.drew ?_) | (with_reducible refine Ext.alloc ?_ _) | ((with_reducible refine Ext.setCell ?_ ?_ _); rotate_left; focus (first | (simp; done) | (simp; omega) | omega)) | (with_reducible refine Ext.trans ?_ (by with_reducible assumption)))) hy9)
              go_ret
              exact ⟨rfl, hwx'.trans hx9⟩
            have hmb : ((m : Int) == 2) = false := by simp; omega
            have xb := b10_bd l' 0 ((m : Int) - 2) (by omega)
            obtain ⟨m', hm'⟩ := Int.eq_ofNat_of_zero_le (show 0 ≤ 2 + b10 l' 0 ((m : Int) - 2) by omega)
            have hm2' : 2 ≤ m' ∧ m' < m := by omega
            have HM' := Lib.hid hm'
            have hwd := wD_len l' m' np
            obtain ⟨ld, hld⟩ : ∃ ld, ld = wD l' m' np := ⟨_, rfl⟩
            have HLB := Lib.hid (show ∀ x ∈ ld, 0 ≤ x ∧ x < (m' : Int) by rw [hld]; exact wD_bd (by omega))
            have HLS := Lib.hid (fun k (h : k < np) => show ld.take (k + 1) = ld.take k ++ [b10 l' ((k : Int) + 1) m'] by rw [hld]; exact wD_step l' m' h)
            have HLL := Lib.hid (show ld.length = np by rw [hld]; exact hwd)
            clear hm' hwd hld xb hm
            go_wp2_with (go_at_call 16; refine (laws_b10 a' n' c' l' _ _ _ (HV'.out.ext (hwx'.trans (by repeat (first | (with_reducible exact Ext.refl _) | (with_reducible assumption) | (with_reducible refine Ext.drewN ?_ _) | (with_reducible refine Ext.drew ?_) | (with_reducible refine Ext.alloc ?_ _) | ((with_reducible refine Ext.setCell ?_ ?_ _); rotate_left; focus (first | (simp; done) | (simp; omega) | omega)) | (with_reducible refine Ext.trans ?_ (by with_reducible assumption)))))) (by omega) (by omega) (by omega)).mono ?_; rintro e w' ⟨rfl, rfl⟩)
            rw [HM'.out]
            obtain ⟨wr0, rfl⟩ : ∃ x, x = wr := ⟨_, rfl⟩
            obtain ⟨O, hO⟩ : ∃ O, O = wr0.heap.size := ⟨_, rfl⟩
            rw [← hO]
            have HO0 := Lib.hid hO
            clear hO
            go_loopw [18] (fun i wr => ∃ (k : Nat) (ad : Option Addr) (c2 : Nat), k ≤ np ∧ i = .int .i64 k ∧ wr.cell? ⟨O, 0, none⟩ = some (.int .i64 base) ∧ wr.cell? ⟨O, 1, none⟩ = some (.int .i64 m') ∧ wr.cell? ⟨O, 2, none⟩ = some (.int .i64 0) ∧ wr.cell? ⟨O, 3, none⟩ = some (.slice ad k c2) ∧ wr.frozen? ⟨O, 3, none⟩ = false ∧
              Hid (Own wr (O + 1) 2 ad k c2 (I (ld.take k))) ∧ Hid (Ext wr0 wr)) (fun i _ => np - (intOf i).toNat)
            case atStart =>
              have hO := HO0.out
              subst hO
              refine ⟨0, none, 0, Nat.zero_le _, rfl, by go_simp, by go_simp; exact IntWalk.wrap64_in _ (by omega), by go_simp, by go_simp, by go_simp, Own.nil _ _ _, ?_⟩
              rw [Hid]; exact (by repeat (first | (with_reducible exact Ext.refl _) | (with_reducible refine Ext.drewN ?_ _) | (with_reducible refine Ext.drew ?_) | (with_reducible refine Ext.alloc ?_ _) | ((with_reducible refine Ext.setCell ?_ ?_ _); rotate_left; focus (first | (simp; done) | (simp; omega) | omega))))
            case round =>
              obtain ⟨k, ad2, c2, hk, rfl, d0, d1, d2, d3, f3, HO, HX⟩ := hrel
              have hol : O + 1 ≤ wr.heap.size := World.block_lt_of_cell? wr _ d0
              by_cases hlt : k < np
              · have HSn := Lib.hid (HLS.out k hlt)
                have HB10 := Lib.hid (fun w' h => laws_b10 a' n' c' l' ((k : Int) + 1) m' w' h (by omega) (by omega) (by omega))
                have HVx := Lib.hid (HV'.out.ext (hwx'.trans hx3))
                generalize b10 l' ((k : Int) + 1) m' = x at *
                go_wp2
                have hsum : IntKind.i64.wrap ((k : Int) + 1) = (k : Int) + 1 := IntWalk.i64_in _ (by omega)
                have hlen : (I (ld.take k)).length = k := by rw [I_len, List.length_take, HLL.out]; omega
                have hol' : O < wr.heap.size := hol
                go_region_law (first | (refine step_append1 rfl _ _ _ rfl 2 (.int .i64 0) 8 rfl rfl rfl (O + 1) ad2 k c2 (I (ld.take k)) (.int .i64 x) wr.heap.size (by simp [Act.eval]) (by simp [Act.eval]) (by simp) (by first | exact HO.out.ext (by repeat (first | (with_reducible exact Ext.refl _) | (with_reducible refine Ext.drewN ?_ _) | (with_reducible refine Ext.drew ?_) | (with_reducible refine Ext.alloc ?_ _) | ((with_reducible refine Ext.setCell ?_ ?_ _); rotate_left; focus (first | (simp; done) | (simp; omega) | omega))))) rfl (by simp; omega) (by omega) (by omega) ?_; intro ad' c3 w6 ho6 hb6; have HO6 := Lib.hid ho6; have HB6 := Lib.hid hb6; clear ho6 hb6; have e0 := Eq.trans (HB6.out.cell (p := ⟨O, 0, none⟩) (by simp)) (Ext.cell (by repeat (first | (with_reducible exact Ext.refl _) | (with_reducible refine Ext.drewN ?_ _) | (with_reducible refine Ext.drew ?_) | (with_reducible refine Ext.alloc ?_ _) | ((with_reducible refine Ext.setCell ?_ ?_ _); rotate_left; focus (first | (simp; done) | (simp; omega) | omega)))) d0); have e1 := Eq.trans (HB6.out.cell (p := ⟨O, 1, none⟩) (by simp)) (Ext.cell (by repeat (first | (with_reducible exact Ext.refl _) | (with_reducible refine Ext.drewN ?_ _) | (with_reducible refine Ext.drew ?_) | (with_reducible refine Ext.alloc ?_ _) | ((with_reducible refine Ext.setCell ?_ ?_ _); rotate_left; focus (first | (simp; done) | (simp; omega) | omega)))) d1); have e2 := Eq.trans (HB6.out.cell (p := ⟨O, 2, none⟩) (by simp)) (Ext.cell (by repeat (first | (with_reducible exact Ext.refl _) | (with_reducible refine Ext.drewN ?_ _) | (with_reducible refine Ext.drew ?_) | (with_reducible refine Ext.alloc ?_ _) | ((with_reducible refine Ext.setCell ?_ ?_ _); rotate_left; focus (first | (simp; done) | (simp; omega) | omega)))) d2); have e3 := Eq.trans (HB6.out.cell (p := ⟨O, 3, none⟩) (by simp)) (Ext.cell (by repeat (first | (with_reducible exact Ext.refl _) | (with_reducible refine Ext.drewN ?_ _) | (with_reducible refine Ext.drew ?_) | (with_reducible refine Ext.alloc ?_ _) | ((with_reducible refine Ext.setCell ?_ ?_ _); rotate_left; focus (first | (simp; done) | (simp; omega) | omega)))) d3); have g3 := Eq.trans (HB6.out.frozen (p := ⟨O, 3, none⟩) (by simp)) (Eq.trans (Ext.frozen (a := wr) (by repeat (first | (with_reducible exact Ext.refl _) | (with_reducible refine Ext.drewN ?_ _) | (with_reducible refine Ext.drew ?_) | (with_reducible refine Ext.alloc ?_ _) | ((with_reducible refine Ext.setCell ?_ ?_ _); rotate_left; focus (first | (simp; done) | (simp; omega) | omega)))) (p := ⟨O, 3, none⟩) hol) f3)) | (go_simp; try (go_at_call 16); refine (HB10.out _ (HVx.out.ext (by repeat (first | (with_reducible exact Ext.refl _) | (with_reducible refine Ext.drewN ?_ _) | (with_reducible refine Ext.drew ?_) | (with_reducible refine Ext.alloc ?_ _) | ((with_reducible refine Ext.setCell ?_ ?_ _); rotate_left; focus (first | (simp; done) | (simp; omega) | omega)) | (with_reducible refine Ext.trans ?_ HX.out))))).mono ?_; rintro e w' ⟨rfl, rfl⟩))
                all_goals
                  have HX6 := Lib.hid (show Ext wr0 (w6.setCell ⟨O, 3, none⟩ (.slice ad' (k + 1) c3)) from Ext.setCell (Ext.below (HX.out.trans (by repeat (first | (with_reducible exact Ext.refl _) | (with_reducible refine Ext.drewN ?_ _) | (with_reducible refine Ext.drew ?_) | (with_reducible refine Ext.alloc ?_ _) | ((with_reducible refine Ext.setCell ?_ ?_ _); rotate_left; focus (first | (simp; done) | (simp; omega) | omega))))) (HB6.out.mono (by rw [HO0.out]; omega))) (by rw [HO0.out]; exact Nat.le_refl _) _)
                  have HO7 := Lib.hid (HO6.out.setBelow (p := ⟨O, 3, none⟩) (Nat.lt_succ_self O) (.slice ad' (k + 1) c3))
                  go_wp2
                  exact ⟨⟨k + 1, ad', c3, by omega, by go_num, by go_simp, by go_simp, by go_simp, by go_simp, by go_simp, by rw [Hid, HSn.out, I_append]; exact HO7.out, HX6.out⟩, by simp [intOf]; omega⟩
              · obtain rfl : np = k := by omega
                have hdo := HO.out.ints
                rw [List.take_of_length_le (by rw [HLL.out]; exact Nat.le_refl _)] at hdo
                have HDO := Lib.hid hdo
                have hvD : validB ⟨base, m', 0, ld⟩ = true := valid_many HMany.out ⟨hm2'.1, by omega⟩ HLL.out HLB.out
                have HFn := Lib.hid (show (K.all fun k => catB ⟨base, m', 0, ld⟩ k) = false by
                  rw [fine_all hvD HKa.out]
                  exact least_never (by omega) (HLess.out m' hm2'.1 hm2'.2) HLL.out HLB.out)
                have hx0 : Ext wx wr := hx3.trans HX.out
                obtain ⟨wz, rfl⟩ : ∃ x, x = wr := ⟨_, rfl⟩
                have l0 : ∀ w', Ext wz w' → w'.cell? ⟨O, 0, none⟩ = some (.int .i64 base) := fun w' h => h.cell d0
                have l1 : ∀ w', Ext wz w' → w'.cell? ⟨O, 1, none⟩ = some (.int .i64 m') := fun w' h => h.cell d1
                have l2 : ∀ w', Ext wz w' → w'.cell? ⟨O, 2, none⟩ = some (.int .i64 0) := fun w' h => h.cell d2
                have l3 : ∀ w', Ext wz w' → w'.cell? ⟨O, 3, none⟩ = some (.slice ad2 np c2) := fun w' h => h.cell d3
                obtain ⟨bK2, oK2, hixK2, hcellK2⟩ := (HOw.out.ints.ext (hrx.trans hx0)).ix (P := Try.prog) 22 2 und_int64s cell_int64
                clear hixK hcellK HO HX d0 d1 d2 d3 f3 hdo hvD r0 r1 r2
                go_wp2_with fail
                go_loopw [19, 20] (fun s19 s20 wr => ∃ (i : Nat) (fl : Bool), i ≤ nK ∧ s20 = .int .i64 i ∧ s19 = .bool fl ∧ Hid (fl = (K.take i).all fun k => catB ⟨base, m', 0, ld⟩ k) ∧ Ext wz wr) (fun _ s20 _ => nK - (intOf s20).toNat)
                case atStart => exact ⟨0, true, Nat.zero_le _, rfl, rfl, rfl, Ext.refl _⟩
                case round =>
                  obtain ⟨i, fl, hi, rfl, rfl, HFl, hx4⟩ := hrel
                  have hxr4 : Ext wz wr := hx4
                  by_cases hlt : i < nK
                  · have hmem := gi_mem (l := K) (k := i) (by rw [← HNK.out]; exact hlt)
                    have HSC := Lib.hid (fun W (h : Ext wz W) => spec_WC ⟨base, m', 0, ld⟩ ad2 np c2 (gi K i) W (HDO.out.ext h) (HKa.out _ hmem))
                    cases fl
                    · have HN := Lib.hid (show ((K.take (i + 1)).all fun k => catB ⟨base, m', 0, ld⟩ k) = false by
                        rw [take_gi (by rw [← HNK.out]; exact hlt), List.all_append, ← HFl.out]; rfl)
                      clear hmem HSC
                      go_wp2
                      (refine wp_region_from wz (by repeat (first | (with_reducible exact Ext.refl _) | (with_reducible refine Ext.drewN ?_ _) | (with_reducible refine Ext.drew ?_) | (with_reducible refine Ext.alloc ?_ _) | ((with_reducible refine Ext.setCell ?_ ?_ _); rotate_left; focus (first | (simp; done) | (simp; omega) | omega)) | assumption | (with_reducible refine Ext.trans ?_ (by assumption)))) (by kernel_rfl) (by kernel_rfl) (seqB_of (by kernel_rfl)) ?_; (repeat (first | (refine mix_q rfl ?_; go_big_quiet_step (fail); refine wpQuiet_nil ?_; show wpMix _ _ _ _ _ _ _) | (refine mix_s rfl ?_; go_wp2_with (fail); first | refine ⟨up_of (by repeat (first | (with_reducible exact Ext.refl _) | (with_reducible refine Ext.drewN ?_ _) | (with_reducible refine Ext.drew ?_) | (with_reducible refine Ext.alloc ?_ _) | ((with_reducible refine Ext.setCell ?_ ?_ _); rotate_left; focus (first | (simp; done) | (simp; omega) | omega)) | assumption | (with_reducible refine Ext.trans ?_ (by assumption)))), ?_⟩ | refine ⟨rfl, rfl, up_of (by repeat (first | (with_reducible exact Ext.refl _) | (with_reducible refine Ext.drewN ?_ _) | (with_reducible refine Ext.drew ?_) | (with_reducible refine Ext.alloc ?_ _) | ((with_reducible refine Ext.setCell ?_ ?_ _); rotate_left; focus (first | (simp; done) | (simp; omega) | omega)) | assumption | (with_reducible refine Ext.trans ?_ (by assumption)))), ?_⟩))); refine mix_nil ?_)
                      go_wp2
                      exact ⟨⟨i + 1, false, by omega, by go_num, rfl, HN.out.symm, (by repeat (first | (with_reducible exact Ext.refl _) | (with_reducible refine Ext.drewN ?_ _) | (with_reducible refine Ext.drew ?_) | (with_reducible refine Ext.alloc ?_ _) | ((with_reducible refine Ext.setCell ?_ ?_ _); rotate_left; focus (first | (simp; done) | (simp; omega) | omega)) | assumption | (with_reducible refine Ext.trans ?_ (by assumption))))⟩, by simp [intOf]; omega⟩
                    · have HN := Lib.hid (show ((K.take (i + 1)).all fun k => catB ⟨base, m', 0, ld⟩ k) = catB ⟨base, m', 0, ld⟩ (gi K i) from take_all_step (by rw [← HNK.out]; exact hlt) HFl.out.symm)
                      have hcK := hcellK2 i
                      clear hmem hcellK2
                      generalize catB ⟨base, m', 0, ld⟩ (gi K i) = y at *
                      generalize gi K i = kd at *
                      go_wp2
                      (refine wp_region_from wz (by repeat (first | (with_reducible exact Ext.refl _) | (with_reducible refine Ext.drewN ?_ _) | (with_reducible refine Ext.drew ?_) | (with_reducible refine Ext.alloc ?_ _) | ((with_reducible refine Ext.setCell ?_ ?_ _); rotate_left; focus (first | (simp; done) | (simp; omega) | omega)) | assumption | (with_reducible refine Ext.trans ?_ (by assumption)))) (by kernel_rfl) (by kernel_rfl) (seqB_of (by kernel_rfl)) ?_; (repeat (first | (refine mix_q rfl ?_; go_big_quiet_step (fail); refine wpQuiet_nil ?_; show wpMix _ _ _ _ _ _ _) | (refine mix_s rfl ?_; go_wp2_with (((with_reducible refine (HSC.out _ (by repeat (first | (with_reducible exact Ext.refl _) | (with_reducible refine Ext.drewN ?_ _) | (with_reducible refine Ext.drew ?_) | (with_reducible refine Ext.alloc ?_ _) | ((with_reducible refine Ext.setCell ?_ ?_ _); rotate_left; focus (first | (simp; done) | (simp; omega) | omega)) | assumption | (with_reducible refine Ext.trans ?_ (by assumption))))).mono ?_); rintro e w9 ⟨rfl, hy9⟩; have hxw9 : Ext wz w9 := Ext.trans (by repeat (first | (with_reducible exact Ext.refl _) | (with_reducible refine Ext.drewN ?_ _) | (with_reducible refine Ext.drew ?_) | (with_reducible refine Ext.alloc ?_ _) | ((with_reducible refine Ext.setCell ?_ ?_ _); rotate_left; focus (first | (simp; done) | (simp; omega) | omega)) | assumption | (with_reducible refine Ext.trans ?_ (by assumption)))) hy9; have hz9 := hy9; clear hy9)); first | refine ⟨up_of (by repeat (first | (with_reducible exact Ext.refl _) | (with_reducible refine Ext.drewN ?_ _) | (with_reducible refine Ext.drew ?_) | (with_reducible refine Ext.alloc ?_ _) | ((with_reducible refine Ext.setCell ?_ ?_ _); rotate_left; focus (first | (simp; done) | (simp; omega) | omega)) | assumption | (with_reducible refine Ext.trans ?_ (by assumption)))), ?_⟩ | refine ⟨rfl, rfl, up_of (by repeat (first | (with_reducible exact Ext.refl _) | (with_reducible refine Ext.drewN ?_ _) | (with_reducible refine Ext.drew ?_) | (with_reducible refine Ext.alloc ?_ _) | ((with_reducible refine Ext.setCell ?_ ?_ _); rotate_left; focus (first | (simp; done) | (simp; omega) | omega)) | assumption | (with_reducible refine Ext.trans ?_ (by assumption)))), ?_⟩))); refine mix_nil ?_)
                      go_wp2
                      exact ⟨⟨i + 1, y, by omega, by go_num, rfl, HN.out.symm, (by repeat (first | (with_reducible exact Ext.refl _) | (with_reducible refine Ext.drewN ?_ _) | (with_reducible refine Ext.drew ?_) | (with_reducible refine Ext.alloc ?_ _) | ((with_reducible refine Ext.setCell ?_ ?_ _); rotate_left; focus (first | (simp; done) | (simp; omega) | omega)) | assumption | (with_reducible refine Ext.trans ?_ (by assumption))))⟩, by simp [intOf]; omega⟩
                  · obtain rfl : nK = i := by omega
                    obtain rfl : fl = false := by
                      have h := HFl.out
                      rw [take_full (by rw [← HNK.out]; exact Nat.le_refl _), HFn.out] at h
                      exact h
                    have hxx : Ext wx wr := hx0.trans hx4
                    have s0 := hxx.cell HBx.out.c0
                    have s1 := hxx.cell HBx.out.c1
                    have s2 := hxx.cell HBx.out.c2
                    have s3 := hxx.cell HBx.out.c3
                    simp only at s0 s1 s2 s3
                    go_wp2_with ((with_reducible refine (HVl.out _ (hxx.trans (by repeat (first | (with_reducible exact Ext.refl _) | (with_reducible assumption) | (with_reducible refine Ext.drewN ?_ _) | (with_reducible refine Ext.drew ?_) | (with_reducible refine Ext.alloc ?_ _) | ((with_reducible refine Ext.setCell ?_ ?_ _); rotate_left; focus (first | (simp; done) | (simp; omega) | omega)) | (with_reducible refine Ext.trans ?_ (by with_reducible assumption)))))).mono ?_); rintro e w9 ⟨rfl, hy9⟩; have hx9 : Ext wr w9 := Ext.trans (by repeat (first | (with_reducible exact Ext.refl _) | (with_reducible assumption) | (with_reducible refine Ext.drewN ?_ _) | (with_reducible refine Ext.drew ?_) | (with_reducible refine Ext.alloc ?_ _) | ((with_reducible refine Ext.setCell ?_ ?_ _); rotate_left; focus (first | (simp; done) | (simp; omega) | omega)) | (with_reducible refine Ext.trans ?_ (by with_reducible assumption)))) hy9)
                    go_ret
                    exact ⟨rfl, (hwx'.trans hxx).trans hx9⟩
end Go.Proofs.Ytlpbflmgkopklaa
