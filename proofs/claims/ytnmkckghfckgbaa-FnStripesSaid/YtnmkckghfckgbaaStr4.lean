/- Walks: the stripes of digits, and of a word, in the reference. -/
import Derived.Test.YtnmkckghfckgbaaStr3
import Derived.Test.YtnmkckghfckgbaaBcS
import Derived.Test.YtnmkckghfckgbaaMark
namespace Go.Proofs.Ytnmkckghfckgbaa
set_option maxRecDepth 100000
open Go.RowKit

set_option maxHeartbeats 2000000 in
theorem spec_l08Stripes (D : Bc) (p : Nat) (a : Option Addr) (n c : Nat) (b : Option Addr) (m d : Nat) (ds : List Int) (w : World) (hv : BcAt w p D a n c) (hok : OkBc D) (hD : DigB D ds) (hi : Ints w b m d ds) (hm : m ≤ 64) :
    Calls Try.prog 68 #[.pointer (some ⟨p, 0, none⟩), .slice b m d] w (RetOwn 2 (I (stripesL D ds)) w) := by
  obtain ⟨q0, q1, q2, q3, hps⟩ := hv
  have HL := Lib.hid hi.len
  have HN := Lib.hid hps.len
  obtain ⟨b1, off, hix, hcell⟩ := hi.ix (P := Try.prog) 36 2 und_int64s cell_int64
  obtain ⟨pb1, poff, hpix, hpcell⟩ := hps.ix (P := Try.prog) 22 9 und_strings cell_string
  have h0 := patB_t hok.start
  have h9 := patB_t hok.stop
  have hp1 := h9.2.1
  have hp3 := h9.2.2.1
  have HE0 := Lib.hid (fun W => spec_elements D.start W (by omega) h0.1)
  have HE9 := Lib.hid (fun W => spec_elements D.stop W (by omega) h9.1)
  have HEk := Lib.hid (fun k (hk : k < n) W => spec_elements (gs D.pats k) W (by have := hok.size k (by rw [HN.out]; exact hk); have := hok.s10; omega) (hok.chars k (by rw [HN.out]; exact hk)))
  have HSk := Lib.hid (fun k (hk : k < n) => show 1 ≤ (gs D.pats k).size ∧ (gs D.pats k).size ≤ 10 by have := hok.size k (by rw [HN.out]; exact hk); have := hok.s10; have := hok.s1; omega)
  have HJ := Lib.hid (fun k => joinL_len hok (hD.take k))
  have Hhok := Lib.hid hok; clear hok; have HhD := Lib.hid hD; clear hD; have Hhi := Lib.hid hi; clear hi; have Hhps := Lib.hid hps; clear hps; have Hh0 := Lib.hid h0; clear h0; have Hh9 := Lib.hid h9; clear h9
  by_cases hg : 0 < D.gap
  · have HG := Lib.hid (show gapL D = [D.gap] from if_pos hg)
    go_enter Try.func68, Try.ntmps68
    go_wp2_with ((with_reducible refine (HE0.out _).mono ?_); rintro e w1 ⟨ad0, cc0, rfl, ho0, hy0⟩; have hxw1 : Ext w w1 := Ext.trans (by repeat (first | (with_reducible exact Ext.refl _) | (with_reducible refine Ext.drewN ?_ _) | (with_reducible refine Ext.drew ?_) | (with_reducible refine Ext.alloc ?_ _) | ((with_reducible refine Ext.setCell ?_ ?_ _); rotate_left; focus (first | (simp; done) | (simp; omega) | omega)) | assumption | (with_reducible refine Ext.trans ?_ (by assumption)))) hy0; have HO0 := Lib.hid ho0; clear ho0 hy0)
    go_loopw [5, 6] (fun v i wr => ∃ (k : Nat) (ad : Option Addr) (kk cc : Nat), k ≤ m ∧ i = .int .i64 k ∧ v = .slice ad kk cc ∧ kk = (joinL D (ds.take k)).length ∧ Own wr w.heap.size 2 ad kk cc (I (joinL D (ds.take k))) ∧ Ext w wr) (fun _ i _ => m - (intOf i).toNat)
    case atStart => exact ⟨0, ad0, _, cc0, Nat.zero_le _, rfl, rfl, by rw [joinL_zero, I_len], by rw [joinL_zero]; exact HO0.out, hxw1⟩
    case round =>
      obtain ⟨k, ad, kk, cc, hk, rfl, rfl, hkk, ho, hx⟩ := hrel
      have hkb : kk ≤ 1048576 := by have := HJ.out k; rw [List.length_take] at this; omega
      have Hho := Lib.hid ho; clear ho; have Hhkk := Lib.hid hkk; clear hkk
      by_cases hlt : k < m
      · obtain ⟨hd0, hd1⟩ := HhD.out.at (k := k) (by rw [HL.out]; exact hlt)
        rw [HN.out] at hd1
        have hd2 : gi ds k < n := by omega
        have HEi := Lib.hid (HEk.out _ hd1)
        obtain ⟨hs1, hs2⟩ := HSk.out _ hd1
        have HST := Lib.hid (joinL_step D ds k (by rw [HL.out]; exact hlt))
        go_wp2_with (at_builtin; refine law_append1 _ rfl _ _ 36 rfl 2 (.int .i64 0) 8 und_int64s info_int64 rfl w.heap.size ad kk cc _ _ rfl rfl rfl Hho.out (hx).le (by omega) (by omega) ?_; intro ad' c' w1 ho1 hb1 hg1; have hxw1 : Ext w w1 := Ext.below (hx) hb1)
        have HO1 := Lib.hid ho1
        clear ho1 hb1 hg1
        (refine wp_region_from w (by repeat (first | (with_reducible exact Ext.refl _) | (with_reducible refine Ext.drewN ?_ _) | (with_reducible refine Ext.drew ?_) | (with_reducible refine Ext.alloc ?_ _) | ((with_reducible refine Ext.setCell ?_ ?_ _); rotate_left; focus (first | (simp; done) | (simp; omega) | omega)) | assumption | (with_reducible refine Ext.trans ?_ (by assumption)))) (by kernel_rfl) (by kernel_rfl) (by kernel_rfl) ?_; (repeat (first | (refine mix_q rfl ?_; go_big_quiet_step (fail); refine wpQuiet_nil ?_; show wpMix _ _ _ _ _ _ _) | (refine mix_s rfl ?_; go_wp2_with (first | ((with_reducible refine (HEi.out _).mono ?_); rintro e w3 ⟨ad3, c3, rfl, ho3, hy3⟩; have hxw3 : Ext w w3 := Ext.trans (by repeat (first | (with_reducible exact Ext.refl _) | (with_reducible refine Ext.drewN ?_ _) | (with_reducible refine Ext.drew ?_) | (with_reducible refine Ext.alloc ?_ _) | ((with_reducible refine Ext.setCell ?_ ?_ _); rotate_left; focus (first | (simp; done) | (simp; omega) | omega)) | assumption | (with_reducible refine Ext.trans ?_ (by assumption)))) hy3; obtain ⟨g3, rfl⟩ : ∃ g, ad3 = some g := (match ho3.some (by rw [I_len, elsL_len, size_eq]; omega) with | ⟨_, h⟩ => ⟨_, h⟩); have HO3 := Lib.hid ho3; have HOW := Lib.hid (HO1.out.ext (Ext.trans (Ext.drew (Ext.refl w1)) hy3)); clear ho3 hy3) | (at_builtin; refine law_appends _ rfl _ _ 36 rfl 2 (.int .i64 0) 8 und_int64s info_int64 rfl w.heap.size ad' (kk + 1) c' _ _ _ _ _ (oneI _) rfl rfl HOW.out HO3.out.sl (Ext.le (by repeat (first | (with_reducible exact Ext.refl _) | (with_reducible refine Ext.drewN ?_ _) | (with_reducible refine Ext.drew ?_) | (with_reducible refine Ext.alloc ?_ _) | ((with_reducible refine Ext.setCell ?_ ?_ _); rotate_left; focus (first | (simp; done) | (simp; omega) | omega)) | assumption | (with_reducible refine Ext.trans ?_ (by assumption))))) (by rw [I_len, elsL_len, size_eq]; omega) (by omega) ?_; intro ad4 c4 w4 ho4 hb4 _ _; have hxw4 : Ext w w4 := Ext.below (by repeat (first | (with_reducible exact Ext.refl _) | (with_reducible refine Ext.drewN ?_ _) | (with_reducible refine Ext.drew ?_) | (with_reducible refine Ext.alloc ?_ _) | ((with_reducible refine Ext.setCell ?_ ?_ _); rotate_left; focus (first | (simp; done) | (simp; omega) | omega)) | assumption | (with_reducible refine Ext.trans ?_ (by assumption)))) hb4)); first | refine ⟨up_of (by repeat (first | (with_reducible exact Ext.refl _) | (with_reducible refine Ext.drewN ?_ _) | (with_reducible refine Ext.drew ?_) | (with_reducible refine Ext.alloc ?_ _) | ((with_reducible refine Ext.setCell ?_ ?_ _); rotate_left; focus (first | (simp; done) | (simp; omega) | omega)) | assumption | (with_reducible refine Ext.trans ?_ (by assumption)))), ?_⟩ | refine ⟨rfl, rfl, up_of (by repeat (first | (with_reducible exact Ext.refl _) | (with_reducible refine Ext.drewN ?_ _) | (with_reducible refine Ext.drew ?_) | (with_reducible refine Ext.alloc ?_ _) | ((with_reducible refine Ext.setCell ?_ ?_ _); rotate_left; focus (first | (simp; done) | (simp; omega) | omega)) | assumption | (with_reducible refine Ext.trans ?_ (by assumption)))), ?_⟩))); refine mix_nil ?_)

        go_wp2
        refine ⟨⟨k + 1, ad4, _, c4, by omega, by go_num, rfl, ?_, ?_, hxw4⟩, by simp [intOf]; omega⟩
        · have := Hhkk.out
          rw [HST.out, HG.out]
          simp only [I_len, List.length_append, List.length_singleton, elsL_len, size_eq]
          omega
        · rw [HST.out, HG.out, I_append, I_append]
          simpa only [I, List.map_nil, List.map_cons, List.append_nil] using ho4
      · obtain rfl : k = m := by omega
        have ht : ds.take k = ds := take_full (by rw [HL.out]; exact Nat.le_refl _)
        rw [ht] at Hho Hhkk
        go_wp2_with (at_builtin; refine law_append1 _ rfl _ _ 36 rfl 2 (.int .i64 0) 8 und_int64s info_int64 rfl w.heap.size ad kk cc _ _ rfl rfl rfl Hho.out (hx).le (by omega) (by omega) ?_; intro ad' c' w1 ho1 hb1 hg1; have hxw1 : Ext w w1 := Ext.below (hx) hb1)
        have HO1 := Lib.hid ho1
        clear ho1 hb1 hg1
        go_wp2_with (first | ((with_reducible refine (HE9.out _).mono ?_); rintro e w3 ⟨ad3, c3, rfl, ho3, hy3⟩; have hxw3 : Ext w w3 := Ext.trans (by repeat (first | (with_reducible exact Ext.refl _) | (with_reducible refine Ext.drewN ?_ _) | (with_reducible refine Ext.drew ?_) | (with_reducible refine Ext.alloc ?_ _) | ((with_reducible refine Ext.setCell ?_ ?_ _); rotate_left; focus (first | (simp; done) | (simp; omega) | omega)) | assumption | (with_reducible refine Ext.trans ?_ (by assumption)))) hy3; obtain ⟨g3, rfl⟩ : ∃ g, ad3 = some g := (match ho3.some (by rw [I_len, elsL_len, size_eq]; omega) with | ⟨_, h⟩ => ⟨_, h⟩); have HO3 := Lib.hid ho3; have HOW := Lib.hid (HO1.out.ext hy3); clear ho3 hy3) | (at_builtin; refine law_appends _ rfl _ _ 36 rfl 2 (.int .i64 0) 8 und_int64s info_int64 rfl w.heap.size ad' (kk + 1) c' _ _ _ _ _ (oneI _) rfl rfl HOW.out HO3.out.sl (Ext.le (by repeat (first | (with_reducible exact Ext.refl _) | (with_reducible refine Ext.drewN ?_ _) | (with_reducible refine Ext.drew ?_) | (with_reducible refine Ext.alloc ?_ _) | ((with_reducible refine Ext.setCell ?_ ?_ _); rotate_left; focus (first | (simp; done) | (simp; omega) | omega)) | assumption | (with_reducible refine Ext.trans ?_ (by assumption))))) (by rw [I_len, elsL_len, size_eq]; omega) (by omega) ?_; intro ad4 c4 w4 ho4 hb4 _ _; have hxw4 : Ext w w4 := Ext.below (by repeat (first | (with_reducible exact Ext.refl _) | (with_reducible refine Ext.drewN ?_ _) | (with_reducible refine Ext.drew ?_) | (with_reducible refine Ext.alloc ?_ _) | ((with_reducible refine Ext.setCell ?_ ?_ _); rotate_left; focus (first | (simp; done) | (simp; omega) | omega)) | assumption | (with_reducible refine Ext.trans ?_ (by assumption)))) hb4))
        go_ret
        refine RetOwn.mk (l := stripesL D ds) ?_ ?_ hxw4
        · unfold stripesL
          rw [HG.out, I_append, I_append]
          simpa only [I, List.map_nil, List.map_cons, List.append_nil] using ho4
        · have := Hhkk.out
          unfold stripesL
          rw [HG.out]
          simp only [I_len, List.length_append, List.length_singleton, elsL_len, size_eq]
          omega
  · have HG := Lib.hid (show gapL D = [] from if_neg hg)
    go_enter Try.func68, Try.ntmps68
    go_wp2_with ((with_reducible refine (HE0.out _).mono ?_); rintro e w1 ⟨ad0, cc0, rfl, ho0, hy0⟩; have hxw1 : Ext w w1 := Ext.trans (by repeat (first | (with_reducible exact Ext.refl _) | (with_reducible refine Ext.drewN ?_ _) | (with_reducible refine Ext.drew ?_) | (with_reducible refine Ext.alloc ?_ _) | ((with_reducible refine Ext.setCell ?_ ?_ _); rotate_left; focus (first | (simp; done) | (simp; omega) | omega)) | assumption | (with_reducible refine Ext.trans ?_ (by assumption)))) hy0; have HO0 := Lib.hid ho0; clear ho0 hy0)
    go_loopw [5, 6] (fun v i wr => ∃ (k : Nat) (ad : Option Addr) (kk cc : Nat), k ≤ m ∧ i = .int .i64 k ∧ v = .slice ad kk cc ∧ kk = (joinL D (ds.take k)).length ∧ Own wr w.heap.size 2 ad kk cc (I (joinL D (ds.take k))) ∧ Ext w wr) (fun _ i _ => m - (intOf i).toNat)
    case atStart => exact ⟨0, ad0, _, cc0, Nat.zero_le _, rfl, rfl, by rw [joinL_zero, I_len], by rw [joinL_zero]; exact HO0.out, hxw1⟩
    case round =>
      obtain ⟨k, ad, kk, cc, hk, rfl, rfl, hkk, ho, hx⟩ := hrel
      have hkb : kk ≤ 1048576 := by have := HJ.out k; rw [List.length_take] at this; omega
      have Hho := Lib.hid ho; clear ho; have Hhkk := Lib.hid hkk; clear hkk
      by_cases hlt : k < m
      · obtain ⟨hd0, hd1⟩ := HhD.out.at (k := k) (by rw [HL.out]; exact hlt)
        rw [HN.out] at hd1
        have hd2 : gi ds k < n := by omega
        have HEi := Lib.hid (HEk.out _ hd1)
        obtain ⟨hs1, hs2⟩ := HSk.out _ hd1
        have HST := Lib.hid (joinL_step D ds k (by rw [HL.out]; exact hlt))
        go_wp2
        (refine wp_region_from w (by repeat (first | (with_reducible exact Ext.refl _) | (with_reducible refine Ext.drewN ?_ _) | (with_reducible refine Ext.drew ?_) | (with_reducible refine Ext.alloc ?_ _) | ((with_reducible refine Ext.setCell ?_ ?_ _); rotate_left; focus (first | (simp; done) | (simp; omega) | omega)) | assumption | (with_reducible refine Ext.trans ?_ (by assumption)))) (by kernel_rfl) (by kernel_rfl) (by kernel_rfl) ?_; (repeat (first | (refine mix_q rfl ?_; go_big_quiet_step (fail); refine wpQuiet_nil ?_; show wpMix _ _ _ _ _ _ _) | (refine mix_s rfl ?_; go_wp2_with (first | ((with_reducible refine (HEi.out _).mono ?_); rintro e w3 ⟨ad3, c3, rfl, ho3, hy3⟩; have hxw3 : Ext w w3 := Ext.trans (by repeat (first | (with_reducible exact Ext.refl _) | (with_reducible refine Ext.drewN ?_ _) | (with_reducible refine Ext.drew ?_) | (with_reducible refine Ext.alloc ?_ _) | ((with_reducible refine Ext.setCell ?_ ?_ _); rotate_left; focus (first | (simp; done) | (simp; omega) | omega)) | assumption | (with_reducible refine Ext.trans ?_ (by assumption)))) hy3; obtain ⟨g3, rfl⟩ : ∃ g, ad3 = some g := (match ho3.some (by rw [I_len, elsL_len, size_eq]; omega) with | ⟨_, h⟩ => ⟨_, h⟩); have HO3 := Lib.hid ho3; have HOW := Lib.hid (Hho.out.ext (Ext.trans (Ext.drew (Ext.refl wr)) hy3)); clear ho3 hy3) | (at_builtin; refine law_appends _ rfl _ _ 36 rfl 2 (.int .i64 0) 8 und_int64s info_int64 rfl w.heap.size ad (kk) cc _ _ _ _ _ (oneI _) rfl rfl HOW.out HO3.out.sl (Ext.le (by repeat (first | (with_reducible exact Ext.refl _) | (with_reducible refine Ext.drewN ?_ _) | (with_reducible refine Ext.drew ?_) | (with_reducible refine Ext.alloc ?_ _) | ((with_reducible refine Ext.setCell ?_ ?_ _); rotate_left; focus (first | (simp; done) | (simp; omega) | omega)) | assumption | (with_reducible refine Ext.trans ?_ (by assumption))))) (by rw [I_len, elsL_len, size_eq]; omega) (by omega) ?_; intro ad4 c4 w4 ho4 hb4 _ _; have hxw4 : Ext w w4 := Ext.below (by repeat (first | (with_reducible exact Ext.refl _) | (with_reducible refine Ext.drewN ?_ _) | (with_reducible refine Ext.drew ?_) | (with_reducible refine Ext.alloc ?_ _) | ((with_reducible refine Ext.setCell ?_ ?_ _); rotate_left; focus (first | (simp; done) | (simp; omega) | omega)) | assumption | (with_reducible refine Ext.trans ?_ (by assumption)))) hb4)); first | refine ⟨up_of (by repeat (first | (with_reducible exact Ext.refl _) | (with_reducible refine Ext.drewN ?_ _) | (with_reducible refine Ext.drew ?_) | (with_reducible refine Ext.alloc ?_ _) | ((with_reducible refine Ext.setCell ?_ ?_ _); rotate_left; focus (first | (simp; done) | (simp; omega) | omega)) | assumption | (with_reducible refine Ext.trans ?_ (by assumption)))), ?_⟩ | refine ⟨rfl, rfl, up_of (by repeat (first | (with_reducible exact Ext.refl _) | (with_reducible refine Ext.drewN ?_ _) | (with_reducible refine Ext.drew ?_) | (with_reducible refine Ext.alloc ?_ _) | ((with_reducible refine Ext.setCell ?_ ?_ _); rotate_left; focus (first | (simp; done) | (simp; omega) | omega)) | assumption | (with_reducible refine Ext.trans ?_ (by assumption)))), ?_⟩))); refine mix_nil ?_)

        go_wp2
        refine ⟨⟨k + 1, ad4, _, c4, by omega, by go_num, rfl, ?_, ?_, hxw4⟩, by simp [intOf]; omega⟩
        · have := Hhkk.out
          rw [HST.out, HG.out]
          simp only [I_len, List.length_append, List.length_nil, elsL_len, size_eq]
          omega
        · rw [HST.out, HG.out, I_append, I_append]
          simpa only [I, List.map_nil, List.map_cons, List.append_nil] using ho4
      · obtain rfl : k = m := by omega
        have ht : ds.take k = ds := take_full (by rw [HL.out]; exact Nat.le_refl _)
        rw [ht] at Hho Hhkk
        go_wp2_with (first | ((with_reducible refine (HE9.out _).mono ?_); rintro e w3 ⟨ad3, c3, rfl, ho3, hy3⟩; have hxw3 : Ext w w3 := Ext.trans (by repeat (first | (with_reducible exact Ext.refl _) | (with_reducible refine Ext.drewN ?_ _) | (with_reducible refine Ext.drew ?_) | (with_reducible refine Ext.alloc ?_ _) | ((with_reducible refine Ext.setCell ?_ ?_ _); rotate_left; focus (first | (simp; done) | (simp; omega) | omega)) | assumption | (with_reducible refine Ext.trans ?_ (by assumption)))) hy3; obtain ⟨g3, rfl⟩ : ∃ g, ad3 = some g := (match ho3.some (by rw [I_len, elsL_len, size_eq]; omega) with | ⟨_, h⟩ => ⟨_, h⟩); have HO3 := Lib.hid ho3; have HOW := Lib.hid (Hho.out.ext hy3); clear ho3 hy3) | (at_builtin; refine law_appends _ rfl _ _ 36 rfl 2 (.int .i64 0) 8 und_int64s info_int64 rfl w.heap.size ad (kk) cc _ _ _ _ _ (oneI _) rfl rfl HOW.out HO3.out.sl (Ext.le (by repeat (first | (with_reducible exact Ext.refl _) | (with_reducible refine Ext.drewN ?_ _) | (with_reducible refine Ext.drew ?_) | (with_reducible refine Ext.alloc ?_ _) | ((with_reducible refine Ext.setCell ?_ ?_ _); rotate_left; focus (first | (simp; done) | (simp; omega) | omega)) | assumption | (with_reducible refine Ext.trans ?_ (by assumption))))) (by rw [I_len, elsL_len, size_eq]; omega) (by omega) ?_; intro ad4 c4 w4 ho4 hb4 _ _; have hxw4 : Ext w w4 := Ext.below (by repeat (first | (with_reducible exact Ext.refl _) | (with_reducible refine Ext.drewN ?_ _) | (with_reducible refine Ext.drew ?_) | (with_reducible refine Ext.alloc ?_ _) | ((with_reducible refine Ext.setCell ?_ ?_ _); rotate_left; focus (first | (simp; done) | (simp; omega) | omega)) | assumption | (with_reducible refine Ext.trans ?_ (by assumption)))) hb4))
        go_ret
        refine RetOwn.mk (l := stripesL D ds) ?_ ?_ hxw4
        · unfold stripesL
          rw [HG.out, I_append, I_append]
          simpa only [I, List.map_nil, List.map_cons, List.append_nil] using ho4
        · have := Hhkk.out
          unfold stripesL
          rw [HG.out]
          simp only [I_len, List.length_append, List.length_nil, elsL_len, size_eq]
          omega

theorem wordBc_eq {D : Bc} (s : ByteArray) (hn : D.pats.length ≤ 36) : wordBcB D s = (decide (s.size ≤ 20) && belowB (digs s.data.toList) D.pats.length) := by
  rw [Bool.eq_iff_iff]
  unfold wordBcB wordB belowB
  simp only [Bool.and_eq_true, Bool.not_eq_true', List.any_eq_false, decide_eq_true_eq, List.all_eq_true, digs, List.mem_map, forall_exists_index, and_imp, size_eq, inB_t]
  constructor
  · rintro ⟨⟨h1, _, h3⟩, h4⟩
    refine ⟨by omega, fun x c hc hx => ?_⟩
    have h5 := h1 c hc
    have h6 := h4 x c hc hx
    subst hx
    omega
  · rintro ⟨h1, h2⟩
    refine ⟨⟨fun c hc => ?_, by decide, by omega⟩, fun x c hc hx => ?_⟩
    · have := h2 _ c hc rfl
      omega
    · have := h2 _ c hc hx
      omega
set_option maxHeartbeats 1000000 in
theorem spec_StripesOf (D : Bc) (a : Option Addr) (n c : Nat) (s : ByteArray) (w : World) (hv : Strs w a n c D.pats) (hn : n ≤ 1048576) (h1 : D.start.size ≤ 1048576) (h2 : D.stop.size ≤ 1048576) (h3 : ∀ p ∈ D.pats, p.size ≤ 1048576) (hs : s.size ≤ 1048576) :
    Calls Try.prog 31 #[.agg #[.string D.start, .string D.stop, .slice a n c, .int .i64 D.gap], .string s] w (RetOpt 2 (stripesOkB D s) (I (stripesL D (digs s.data.toList))) w) := by
  have HB := Lib.hid (bc_box w D a n c 28 hv)
  have HIs := Lib.hid (spec_l08Is D w.heap.size a n c _ HB.out hn h1 h2 h3)
  have HN := Lib.hid hv.len
  have Hhv := Lib.hid hv; clear hv; have Hh3 := Lib.hid h3; clear h3
  cases hval : validBc D
  · rw [hval] at HIs
    have HF := Lib.hid (show stripesOkB D s = false by rw [stripesOkB, hval]; rfl)
    clear hval
    go_enter Try.func31, Try.ntmps31
    go_wp2_with (refine HIs.out.mono ?_; rintro e w1 ⟨rfl, hx1⟩)
    go_ret2
    exact RetOpt.no HF.out (((Ext.refl w).alloc _).trans hx1)
  rw [hval] at HIs
  have hok := validBc_ok hval
  have HS := Lib.hid (show stripesOkB D s = (decide (s.size ≤ 20) && belowB (digs s.data.toList) n) by rw [stripesOkB, hval, wordBc_eq s hok.n36, HN.out]; rfl)
  have Hhok := Lib.hid hok; clear hok
  clear hval
  go_enter Try.func31, Try.ntmps31
  go_wp2_with fail
  obtain ⟨wb, hwb⟩ : ∃ wb, wb = w.alloc (.cells #[.string D.start, .string D.stop, .slice a n c, .int .i64 D.gap] 28) := ⟨_, rfl⟩
  rw [← hwb] at HB HIs ⊢
  have hxb : Ext w wb := by rw [hwb]; exact (by repeat (first | (with_reducible exact Ext.refl _) | (with_reducible refine Ext.drewN ?_ _) | (with_reducible refine Ext.drew ?_) | (with_reducible refine Ext.alloc ?_ _) | ((with_reducible refine Ext.setCell ?_ ?_ _); rotate_left; focus (first | (simp; done) | (simp; omega) | omega)) | assumption | (with_reducible refine Ext.trans ?_ (by assumption))))
  have hle : w.heap.size ≤ wb.heap.size := hxb.le
  have HBo := HB
  obtain ⟨c0, c1, c2, c3, hps⟩ := HB.out
  generalize w.heap.size = p at *
  have Hhps := Lib.hid hps; clear hps
  clear hwb
  refine HIs.out.mono ?_
  rintro e w1 ⟨rfl, hx1⟩
  have hxb1 : Ext wb w1 := hx1
  by_cases hl : s.size ≤ 20
  rotate_left
  · go_wp2
    go_ret2
    exact RetOpt.no (by rw [HS.out]; simp [hl]) (hxb.trans hx1)
  have HD := Lib.hid (spec_digits s w1 (by omega))
  have hdl : (digs s.data.toList).length = s.size := by simp [digs]
  cases hb : belowB (digs s.data.toList) n
  · rw [hb] at HS
    have hS : stripesOkB D s = false := by rw [HS.out]; simp
    have HhS := Lib.hid hS; clear hS
    generalize digs s.data.toList = ds at *
    have Hhdl := Lib.hid hdl; clear hdl
    go_wp2_with (first | (refine HD.out.mono ?_; rintro e w2 ⟨a2, c2', rfl, ho2, hx2⟩; rw [I_len, Hhdl.out] at ho2 ⊢; have HO2 := Lib.hid ho2; have hxw2 : Ext wb w2 := hx1.trans hx2; clear ho2) | ((with_reducible refine (spec_below a2 s.size c2' ds n w2 HO2.out.ints (by omega) (by omega) (by omega)).mono ?_); rw [hb]; rintro e w' ⟨rfl, rfl⟩))
    go_ret2
    exact RetOpt.no HhS.out ((hxb.trans hx1).trans hx2)
  · have hS : stripesOkB D s = true := by rw [HS.out, hb]; simpa using hl
    have hdg := (digB_of (show wordBcB D s = true by unfold stripesOkB at hS; simp only [Bool.and_eq_true] at hS; exact hS.2)).1
    have HhS := Lib.hid hS; clear hS; have Hhdg := Lib.hid hdg; clear hdg
    generalize digs s.data.toList = ds at *
    have Hhdl := Lib.hid hdl; clear hdl
    go_wp2_with (first | (refine HD.out.mono ?_; rintro e w2 ⟨a2, c2', rfl, ho2, hx2⟩; rw [I_len, Hhdl.out] at ho2 ⊢; have HO2 := Lib.hid ho2; have hxw2 : Ext wb w2 := hx1.trans hx2; clear ho2) | ((with_reducible refine (spec_below a2 s.size c2' ds n w2 HO2.out.ints (by omega) (by omega) (by omega)).mono ?_); rw [hb]; rintro e w' ⟨rfl, rfl⟩) | ((with_reducible refine (spec_l08Stripes D p a n c a2 s.size c2' ds w2 ((HBo.out.ext hx1).ext hx2) Hhok.out Hhdg.out HO2.out.ints (by omega)).mono ?_); rintro e w3 ⟨a3, c3', rfl, ho3, hx3⟩; have HO3 := Lib.hid ho3; clear ho3))
    go_ret2
    exact RetOpt.yes HhS.out (HO3.out.mono (((hxb.trans hx1).trans hx2).le)) (((hxb.trans hx1).trans hx2).trans hx3)
theorem stripes_bd {D : Bc} (s : ByteArray) : ((if stripesOkB D s then stripesL D (digs s.data.toList) else []) : List Int).length ≤ 1048576 := by
  cases h : stripesOkB D s
  · simp
  · unfold stripesOkB at h
    simp only [Bool.and_eq_true] at h
    have hok := validBc_ok h.1
    obtain ⟨h1, h2⟩ := digB_of h.2
    have h3 := joinL_len hok h1
    have h4 := (patB_t hok.stop).2.2.1
    have h5 := gapL_len D
    simp only [if_true, stripesL, List.length_append, elsL_len, size_eq]
    omega
theorem retI_opt {b : Bool} {l : List Int} {w : World} {e : Ending} {w' : World} (h : RetOpt 2 b (I l) w e w') : RetI b l w e w' := by
  obtain ⟨a, n, c, he, hx, ho⟩ := h
  exact ⟨a, n, c, he, hx, by cases b <;> exact ho⟩
end Go.Proofs.Ytnmkckghfckgbaa
