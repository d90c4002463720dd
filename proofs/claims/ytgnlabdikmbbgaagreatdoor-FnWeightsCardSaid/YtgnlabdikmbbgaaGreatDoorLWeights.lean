/- The law on weightings: walked. -/
import Derived.Test.YtgnlabdikmbbgaaGreatDoorWtY
import Derived.Test.YtgnlabdikmbbgaaGreatDoorB10T
import Derived.Test.YtgnlabdikmbbgaaGreatDoorGcd
namespace Go.Proofs.YtgnlabdikmbbgaaGreatDoor
set_option maxRecDepth 100000
open Go.RowKit

theorem wl_sum {X : Wt} (h : validB X = true) {ds : List Int} (hd : ∀ d ∈ ds, 0 ≤ d ∧ d < X.base) (hl : ds.length = X.weights.length) : sumRes X (textOf ds).data.toList = dot X.weights ds % X.modulus ∧ sumOk X (textOf ds).data.toList = true := by
  have hb := validB_base h
  have hn := (validB_len h).2
  have hw : wordB (textOf ds).data.toList X.base 20 = true := wordB_text hb hd (by omega)
  have hsz : ((textOf ds).data.toList.length : Int) = (X.weights.length : Int) := by
    have := textOf_size ds
    rw [← bl_len] at this
    show ((bl (textOf ds)).length : Int) = _
    omega
  have hok : okWord X (textOf ds).data.toList = true := by unfold okWord; rw [hw, decide_eq_true hsz]; rfl
  have hdg : digs (textOf ds).data.toList = ds := digC_text (fun x hx => by have := hd x hx; omega)
  unfold sumRes sumOk
  rw [h, hok, hdg]
  exact ⟨rfl, rfl⟩
theorem mir_valid {X : Wt} (hb : X.base ∈ ([10, 10, 2, 3, 5, 7, 11] : List Int)) (h1 : 1 ≤ X.weights.length) (h4 : X.weights.length ≤ 4) (hm : 2 ≤ X.modulus) (hm2 : X.modulus ≤ 36) (ht0 : 0 ≤ X.target) (ht1 : X.target < X.modulus) (hw : ∀ x ∈ X.weights, 0 ≤ x ∧ x < X.modulus) : validB (mirX X) = true :=
  wl_valid (X := mirX X) hb (by simpa [mirX] using h1) (by simpa [mirX] using h4) hm hm2 ht0 ht1 (fun x hx => hw x (by simpa [mirX] using hx))
theorem sca_valid {X : Wt} {b : Int} (hb : X.base ∈ ([10, 10, 2, 3, 5, 7, 11] : List Int)) (h1 : 1 ≤ X.weights.length) (h4 : X.weights.length ≤ 4) (hm : 2 ≤ X.modulus) (hm2 : X.modulus ≤ 36) : validB (scaX X b) = true :=
  wl_valid (X := scaX X b) hb (by simpa [scaX] using h1) (by simpa [scaX] using h4) hm hm2 (Int.emod_nonneg _ (show X.modulus ≠ 0 by omega)) (Int.emod_lt_of_pos _ (show 0 < X.modulus by omega)) (fun x hx => by
    obtain ⟨y, _, rfl⟩ := List.mem_map.1 (show x ∈ X.weights.map (fun x => x * b % X.modulus) from hx)
    exact ⟨Int.emod_nonneg _ (show X.modulus ≠ 0 by omega), Int.emod_lt_of_pos _ (show 0 < X.modulus by omega)⟩)
theorem sca_chk {X : Wt} {bn mn : Nat} (hv : validB X = true) (hv2 : validB (scaX X bn) = true) (hm : X.modulus = (mn : Int)) (hg : Nat.gcd bn mn = 1) (hm0 : 0 < mn) (ht0 : 0 ≤ X.target) (ht1 : X.target < mn) {ds : List Int} (hd : ∀ d ∈ ds, 0 ≤ d ∧ d < X.base) (hl : ds.length = X.weights.length) :
    chkB (wtCh (scaX X bn)) (textOf ds) = chkB (wtCh X) (textOf ds) := by
  rw [wt_chkL hv hd hl, wt_chkL hv2 hd (by simpa [scaX] using hl), decide_eq_decide]
  show dot (X.weights.map fun x => x * (bn : Int) % X.modulus) ds % X.modulus = X.target * (bn : Int) % X.modulus ↔ _
  rw [dot_mul, hm]
  exact mul_same hg hm0 ht0 ht1
theorem wl_small {X : Wt} (hb : X.base ∈ ([10, 10, 2, 3, 5, 7, 11] : List Int)) (h1 : 1 ≤ X.weights.length) (h4 : X.weights.length ≤ 4) (hm : 2 ≤ X.modulus) (hm2 : X.modulus ≤ 13) (ht0 : 0 ≤ X.target) (ht1 : X.target < X.modulus) (hw : ∀ x ∈ X.weights, 0 ≤ x ∧ x < X.modulus) : WtS X := by
  have := wl_base hb
  exact ⟨⟨by omega, by omega⟩, ⟨by omega, by omega⟩, ⟨ht0, by omega⟩, fun x hx => by have := hw x hx; exact ⟨this.1, by omega⟩, h1, by omega⟩
theorem text_one (ds : List Int) (k : Nat) (h : k < ds.length) : (textOf ds).extract k (k + 1) ++ textOf (ds.take k).reverse = textOf (ds.take (k + 1)).reverse := by
  rw [text_cut, ← text_app, take_gi h, List.reverse_append]
  congr 1
  rw [List.drop_append_of_le_length (by simp; omega), List.drop_eq_nil_of_le (by simp; omega)]
  simp
set_option maxHeartbeats 8000000 in
theorem lawWeights (a : Option Addr) (n c : Nat) (l : List UInt8) (a' : Option Addr) (n' c' : Nat) (l' : List UInt8) (w : World) (hv : Bytes w a n c l) (hn : n ≤ 9223372036854775807) (hv' : Bytes w a' n' c' l') (hn' : n' ≤ 9223372036854775807) (hM : MaxW w) :
    Calls Tryz.prog 3 #[.slice a n c, .slice a' n' c'] w (Ret (.bool true) w) := by
  have HLong := Lib.hid (laws_b10Long a a' n c n' c' w hn hn')
  have HB := Lib.hid hv
  have HB' := Lib.hid hv'
  have HMx := Lib.hid hM
  clear hv hv' hM
  by_cases hlong : 1048576 < n ∨ 1048576 < n'
  · rw [decide_eq_true hlong] at HLong
    clear hlong
    go_enter Tryz.func3, Tryz.ntmps3
    go_wp2_with (go_at_call 6; refine HLong.out.mono ?_; rintro e w1 ⟨rfl, rfl⟩)
    go_ret
    exact ⟨rfl, Ext.refl _⟩
  rw [decide_eq_false hlong] at HLong
  have hn2 : n ≤ 1048576 ∧ n' ≤ 1048576 := by omega
  clear hlong
  go_enter Tryz.func3, Tryz.ntmps3
  go_upto_region 4 with (first | (go_at_call 6; refine HLong.out.mono ?_; rintro e w1 ⟨rfl, rfl⟩) | (go_at_call 7; refine (spec_B10Weighting a n c l w HB.out (by omega)).mono ?_; rintro e w1 ⟨⟨bs, md, tg, ws⟩, xa, xn, xc, rfl, hO1, hL, hbs, hm2, hm13, ht0, ht1, hn1, hn4, hws, hx1⟩))
  (try simp only at hO1 hL hbs hm2 hm13 ht0 ht1 hws)
  obtain ⟨mn, rfl⟩ := Int.eq_ofNat_of_zero_le (show 0 ≤ md by omega)
  have hbb := wl_base hbs
  have hbb' : 2 ≤ bs ∧ bs ≤ 36 := by omega
  have HL := Lib.hid hL
  obtain ⟨X, hX⟩ : ∃ X : Wt, X = ⟨bs, mn, tg, ws⟩ := ⟨_, rfl⟩
  have HX := Lib.hid hX
  have HVl := Lib.hid (show validB X = true by rw [hX]; exact wl_valid (X := ⟨bs, mn, tg, ws⟩) hbs (by simp only; omega) (by simp only; omega) hm2 (by simp only; omega) ht0 ht1 hws)
  have HVm := Lib.hid (show validB (mirX X) = true by rw [hX]; exact mir_valid (X := ⟨bs, mn, tg, ws⟩) hbs (by simp only; omega) (by simp only; omega) hm2 (by simp only; omega) ht0 ht1 hws)
  have HVs := Lib.hid (fun b : Int => show validB (scaX X b) = true by rw [hX]; exact sca_valid (X := ⟨bs, mn, tg, ws⟩) hbs (by simp only; omega) (by simp only; omega) hm2 (by simp only; omega))
  have HSm := Lib.hid (show WtS X by rw [hX]; exact wl_small (X := ⟨bs, mn, tg, ws⟩) hbs (by simp only; omega) (by simp only; omega) hm2 hm13 ht0 ht1 hws)
  have HWs := Lib.hid hws
  -- the weighting's box
  obtain ⟨q5, hq5⟩ : ∃ q, q = w1.heap.size := ⟨_, rfl⟩
  obtain ⟨wa, hwa⟩ : ∃ W, W = w1.alloc (.cells #[.int .i64 bs, .int .i64 mn, .int .i64 tg, .slice xa xn xc] 26) := ⟨_, rfl⟩
  have HBx := Lib.hid (show IsWt wa q5 X xa xn xc by rw [hwa, hq5, hX]; exact isWt_box w1 bs mn tg ws xa xn xc 26 hO1.ints)
  have hxa : Ext w wa := by rw [hwa]; exact hx1.alloc _
  have HI := Lib.hid (show Ints wa xa xn xc ws by rw [hwa]; exact hO1.ints.ext ((Ext.refl _).alloc _))
  rw [← hwa, ← hq5]
  clear hwa hq5 hO1 hx1 hbs hws hL hX
  have kx := HBx.out
  rw [HX.out] at kx
  obtain ⟨e0, e1, e2, e3, _⟩ := kx
  (try simp only at e0 e1 e2 e3)
  have k0 : ∀ w', Ext wa w' → w'.cell? ⟨q5, 0, none⟩ = some (.int .i64 bs) := fun w' h => h.cell e0
  have k1 : ∀ w', Ext wa w' → w'.cell? ⟨q5, 1, none⟩ = some (.int .i64 mn) := fun w' h => h.cell e1
  have k2 : ∀ w', Ext wa w' → w'.cell? ⟨q5, 2, none⟩ = some (.int .i64 tg) := fun w' h => h.cell e2
  have k3 : ∀ w', Ext wa w' → w'.cell? ⟨q5, 3, none⟩ = some (.slice xa xn xc) := fun w' h => h.cell e3
  have haa : Ext wa wa := Ext.refl _
  clear e0 e1 e2 e3
  have HIX := Lib.hid (show Ints wa xa xn xc X.weights by rw [HX.out]; exact HI.out)
  have HWd := Lib.hid (fun W (h : Ext wa W) => show Calls Tryz.prog 8 #[.slice a' n' c', .agg #[.int .i64 bs, .int .i64 mn, .int .i64 tg, .slice xa xn xc]] W (RetWd bs xn W) from spec_B10Word a' n' c' l' ⟨bs, mn, tg, ws⟩ xa xn xc W (HB'.out.ext (hxa.trans h)) (by omega) (HI.out.ext h) hbb.1 (by simp only; omega) (by omega))
  go_upto_region 5 with ((with_reducible refine (HWd.out _ (by repeat (first | (with_reducible exact Ext.refl _) | (with_reducible assumption) | (with_reducible refine Ext.drewN ?_ _) | (with_reducible refine Ext.drew ?_) | (with_reducible refine Ext.alloc ?_ _) | ((with_reducible refine Ext.setCell ?_ ?_ _); rotate_left; focus (first | (simp; done) | (simp; omega) | omega)) | (with_reducible refine Ext.trans ?_ (by with_reducible assumption))))).mono ?_); rintro e w2 ⟨ds, rfl, hdl, hdd, hy2⟩; have hx2 : Ext wa w2 := Ext.trans (by repeat (first | (with_reducible exact Ext.refl _) | (with_reducible assumption) | (with_reducible refine Ext.drewN ?_ _) | (with_reducible refine Ext.drew ?_) | (with_reducible refine Ext.alloc ?_ _) | ((with_reducible refine Ext.setCell ?_ ?_ _); rotate_left; focus (first | (simp; done) | (simp; omega) | omega)) | (with_reducible refine Ext.trans ?_ (by with_reducible assumption)))) hy2; clear hy2)
  have HdL := Lib.hid hdl
  have HdD := Lib.hid hdd
  have hdX : ∀ d ∈ ds, 0 ≤ d ∧ d < X.base := by rw [HX.out]; exact hdd
  have hlX : ds.length = X.weights.length := by rw [HX.out]; exact hdl.trans HL.out.symm
  obtain ⟨hs1, hs2⟩ := wl_sum HVl.out hdX hlX
  have HCk := Lib.hid (wt_chkL HVl.out hdX hlX)
  obtain ⟨sm, hsm⟩ : ∃ sm, sm = dot X.weights ds % X.modulus := ⟨_, rfl⟩
  have HSmv := Lib.hid hsm
  rw [← hsm] at hs1 HCk
  have hsb : 0 ≤ sm ∧ sm < mn := by
    rw [hsm, HX.out]
    exact ⟨Int.emod_nonneg _ (by simp only; omega), Int.emod_lt_of_pos _ (by simp only; omega)⟩
  have hrs := wl_sum HVm.out (ds := ds.reverse) (fun d hd => hdX d (by simpa using hd)) (by simp [mirX, hlX])
  have hrv : dot (mirX X).weights ds.reverse % (mirX X).modulus = sm := by
    rw [hsm]; show dot X.weights.reverse ds.reverse % X.modulus = _; rw [dot_rev _ _ hlX.symm]
  rw [hrv] at hrs
  have hsz : (textOf ds).size = xn := by rw [textOf_size]; exact hdl
  have hszr : (textOf ds.reverse).size = xn := by rw [textOf_size, List.length_reverse]; exact hdl
  have HSu := Lib.hid (fun W (h : Ext wa W) => show Calls Tryz.prog 10 #[.agg #[.int .i64 bs, .int .i64 mn, .int .i64 tg, .slice xa xn xc], .string (textOf ds)] W (Ret2 (.int .i64 sm) (.bool true) W) from by
    have h2 := impl_WeightSum X xa xn xc (textOf ds) W (HIX.out.ext h) (by omega)
    rw [hs1, hs2, HX.out] at h2
    exact h2)
  have HSr := Lib.hid (fun W ma mm mc (h : Ints W ma mm mc (mirX X).weights) => show Calls Tryz.prog 10 #[.agg #[.int .i64 bs, .int .i64 mn, .int .i64 tg, .slice ma mm mc], .string (textOf ds.reverse)] W (Ret2 (.int .i64 sm) (.bool true) W) from by
    have h2 := impl_WeightSum (mirX X) ma mm mc (textOf ds.reverse) W h (by omega)
    rw [hrs.1, hrs.2] at h2
    have h3 : (mirX X).base = bs ∧ (mirX X).modulus = mn ∧ (mirX X).target = tg := by rw [HX.out]; exact ⟨rfl, rfl, rfl⟩
    rw [h3.1, h3.2.1, h3.2.2] at h2
    exact h2)
  have HWc := Lib.hid (fun W (h : Ext wa W) => show Calls Tryz.prog 9 #[.agg #[.int .i64 bs, .int .i64 mn, .int .i64 tg, .slice xa xn xc]] W (RetChB (wtCh X) W) from by
    have h2 := impl_WeightChain X xa xn xc W (HIX.out.ext h) HVl.out
    rw [HX.out] at h2 ⊢
    exact h2)
  have HMi := Lib.hid (fun W (h : Ext wa W) => show Calls Tryz.prog 11 #[.agg #[.int .i64 bs, .int .i64 mn, .int .i64 tg, .slice xa xn xc]] W (RetWtT (mirX X) W) from by
    have h2 := impl_MirrorS X xa xn xc W (HIX.out.ext h) HVl.out (by omega) (by omega)
    rw [HX.out] at h2 ⊢
    exact h2)
  clear hs1 hs2 hrs hrv hdX hlX hdl hdd hsm
  go_upto_region 6 with ((with_reducible refine (HWc.out _ (by repeat (first | (with_reducible exact Ext.refl _) | (with_reducible assumption) | (with_reducible refine Ext.drewN ?_ _) | (with_reducible refine Ext.drew ?_) | (with_reducible refine Ext.alloc ?_ _) | ((with_reducible refine Ext.setCell ?_ ?_ _); rotate_left; focus (first | (simp; done) | (simp; omega) | omega)) | (with_reducible refine Ext.trans ?_ (by with_reducible assumption))))).mono ?_); rintro e w3 ⟨ca, cx, cc, cb, cy, cd, rfl, hch, hy3⟩; have hx3 : Ext wa w3 := Ext.trans (by repeat (first | (with_reducible exact Ext.refl _) | (with_reducible assumption) | (with_reducible refine Ext.drewN ?_ _) | (with_reducible refine Ext.drew ?_) | (with_reducible refine Ext.alloc ?_ _) | ((with_reducible refine Ext.setCell ?_ ?_ _); rotate_left; focus (first | (simp; done) | (simp; omega) | omega)) | (with_reducible refine Ext.trans ?_ (by with_reducible assumption)))) hy3; have HCh3 := Lib.hid hch; clear hy3 hch)
  -- the chain's box
  obtain ⟨q7, hq7⟩ : ∃ q, q = w3.heap.size := ⟨_, rfl⟩
  obtain ⟨wc, hwc⟩ : ∃ W, W = w3.alloc (.cells #[.int .i64 (wtCh X).base, .int .i64 (wtCh X).states, .int .i64 (wtCh X).start, .int .i64 (wtCh X).fin, .slice ca cx cc, .slice cb cy cd] 31) := ⟨_, rfl⟩
  have HA7 := Lib.hid (show ChAt wc q7 (wtCh X) ca cx cc cb cy cd by rw [hwc, hq7]; exact HCh3.out.box _)
  have HCI := Lib.hid (show ChIn wc (wtCh X) ca cx cc cb cy cd by rw [hwc]; exact HCh3.out.ext ((Ext.refl _).alloc _))
  have hxc : Ext wa wc := by rw [hwc]; exact hx3.alloc _
  rw [← hwc, ← hq7]
  clear hwc hq7 HCh3
  have hcc : Ext wc wc := Ext.refl _
  obtain ⟨D, hD⟩ : ∃ D, D = wtCh X := ⟨_, rfl⟩
  have HD := Lib.hid hD
  rw [← hD] at HA7 HCI HCk ⊢
  clear hD
  obtain ⟨m0, m1, m2, m3, m4, m5, _, _⟩ := HA7.out
  have HIc := Lib.hid (fun W (h : Ext wc W) => impl_IsChecked D ca cx cc cb cy cd (textOf ds) W (HCI.out.ext h) (by omega))
  rw [HCk.out] at HIc
  go_upto_region 8 with (first | (go_at_call 10; (with_reducible refine (HSu.out _ (hxc.trans (by repeat (first | (with_reducible exact Ext.refl _) | (with_reducible assumption) | (with_reducible refine Ext.drewN ?_ _) | (with_reducible refine Ext.drew ?_) | (with_reducible refine Ext.alloc ?_ _) | ((with_reducible refine Ext.setCell ?_ ?_ _); rotate_left; focus (first | (simp; done) | (simp; omega) | omega)) | (with_reducible refine Ext.trans ?_ (by with_reducible assumption)))))).mono ?_); rintro e w4 ⟨rfl, hy4⟩; have hx4 : Ext wc w4 := Ext.trans (by repeat (first | (with_reducible exact Ext.refl _) | (with_reducible assumption) | (with_reducible refine Ext.drewN ?_ _) | (with_reducible refine Ext.drew ?_) | (with_reducible refine Ext.alloc ?_ _) | ((with_reducible refine Ext.setCell ?_ ?_ _); rotate_left; focus (first | (simp; done) | (simp; omega) | omega)) | (with_reducible refine Ext.trans ?_ (by with_reducible assumption)))) hy4; have hx4a : Ext wa w4 := hxc.trans hx4; clear hy4) | (go_at_call 11; (with_reducible refine (HMi.out _ hx4a).mono ?_); rintro e w5 ⟨ma, mm, mc, rfl, hmi, hy5⟩; have hx5 : Ext wc w5 := hx4.trans hy5; have HMs := Lib.hid hmi; clear hmi hy5))
  -- the mirror's box
  obtain ⟨q11, hq11⟩ : ∃ q, q = w5.heap.size := ⟨_, rfl⟩
  have hmx : (mirX X).base = bs ∧ (mirX X).modulus = mn ∧ (mirX X).target = tg := by rw [HX.out]; exact ⟨rfl, rfl, rfl⟩
  rw [hmx.1, hmx.2.1, hmx.2.2]
  clear hmx
  obtain ⟨wm, hwm⟩ : ∃ W, W = w5.alloc (.cells #[.int .i64 bs, .int .i64 mn, .int .i64 tg, .slice ma mm mc] 26) := ⟨_, rfl⟩
  have HS11 := Lib.hid (show SAt wm q11 26 #[.int .i64 bs, .int .i64 mn, .int .i64 tg, .slice ma mm mc] by rw [hwm, hq11]; exact SAt.new' _ _ _ rfl)
  have hxm : Ext wc wm := by rw [hwm]; exact hx5.alloc _
  have HMw := Lib.hid (show Ints wm ma mm mc (mirX X).weights by rw [hwm]; exact HMs.out.ext ((Ext.refl _).alloc _))
  rw [← hwm, ← hq11]
  clear hwm hq11 HMs
  have hmm : Ext wm wm := Ext.refl _
  have hxam : Ext wa wm := hxc.trans hxm
  have s0 : ∀ w', Ext wm w' → w'.cell? ⟨q11, 0, none⟩ = some (.int .i64 bs) := fun w' h => h.cell (HS11.out.cell 0 (by simp))
  have s1 : ∀ w', Ext wm w' → w'.cell? ⟨q11, 1, none⟩ = some (.int .i64 mn) := fun w' h => h.cell (HS11.out.cell 1 (by simp))
  have s2 : ∀ w', Ext wm w' → w'.cell? ⟨q11, 2, none⟩ = some (.int .i64 tg) := fun w' h => h.cell (HS11.out.cell 2 (by simp))
  have s3 : ∀ w', Ext wm w' → w'.cell? ⟨q11, 3, none⟩ = some (.slice ma mm mc) := fun w' h => h.cell (HS11.out.cell 3 (by simp))
  have HDi := Lib.hid (fun W => show Calls Tryz.prog 12 #[.string (textOf ds), .int .i64 bs] W (RetIf 2 true (I ds) W) from by
    have h2 := impl_DigitsOf (textOf ds) bs W (by omega)
    rw [wordB_text hbb' HdD.out (by have := HdL.out; omega)] at h2
    have h3 : digs (textOf ds).data.toList = ds := digC_text (fun x hx => by have := HdD.out x hx; omega)
    rw [h3] at h2
    exact h2)
  go_wp2_with (go_at_call 12; (with_reducible refine (HDi.out _).mono ?_); rintro e w6 ⟨da, dn, dc, rfl, hy6, ho6⟩; have hxm6 : Ext wm w6 := Ext.trans (by repeat (first | (with_reducible exact Ext.refl _) | (with_reducible assumption) | (with_reducible refine Ext.drewN ?_ _) | (with_reducible refine Ext.drew ?_) | (with_reducible refine Ext.alloc ?_ _) | ((with_reducible refine Ext.setCell ?_ ?_ _); rotate_left; focus (first | (simp; done) | (simp; omega) | omega)) | (with_reducible refine Ext.trans ?_ (by with_reducible assumption)))) hy6; have hxa6 : Ext wa w6 := hxam.trans hxm6; have hxc6 : Ext wc w6 := hxm.trans hxm6; have hdn := (ho6 rfl).ints.len; rw [HdL.out] at hdn; subst hdn; have HDo := Lib.hid (ho6 rfl).ints; clear hy6 ho6)
  have hlX : ds.length = xn := HdL.out
  have hwl : ws.length = xn := HL.out
  obtain ⟨db, doff, hdix, hdcell⟩ := HDo.out.ix (P := Tryz.prog) 24 2 und_int64s cell_int64
  obtain ⟨xb, xoff, hxix, hxcell⟩ := HI.out.ix (P := Tryz.prog) 24 2 und_int64s cell_int64
  have h66 : Ext w6 w6 := Ext.refl _
  have HdLh := Lib.hid hlX
  have HwLh := Lib.hid hwl
  clear hlX hwl
  go_loopw [13, 14, 17] (fun v13 v14 v17 wr => ∃ (k : Nat), k ≤ xn ∧ v17 = .int .i64 k ∧ v13 = .string (textOf (ds.take k).reverse) ∧ v14 = .int .i64 (dot (ws.take k) (ds.take k)) ∧ Ext w6 wr) (fun _ _ v17 _ => xn - (intOf v17).toNat)
  case atStart => exact ⟨0, Nat.zero_le _, rfl, rfl, rfl, h66⟩
  case round =>
    obtain ⟨k, hk, rfl, rfl, rfl, hx⟩ := hrel
    have hxra : Ext wa wr := hxa6.trans hx
    have hrr : Ext wr wr := Ext.refl _
    have hkd : decide ((k : Int) < (xn : Int)) = decide (k < xn) := by simp
    by_cases hlt : k < xn
    · have HT1 := Lib.hid (text_one ds k (by rw [HdLh.out]; exact hlt))
      have HDt := Lib.hid (dot_take ws ds k (by rw [HwLh.out]; exact hlt) (by rw [HdLh.out]; exact hlt))
      have hbx := HWs.out (gi ws k) (gi_mem (by rw [HwLh.out]; exact hlt))
      have hbd := HdD.out (gi ds k) (gi_mem (by rw [HdLh.out]; exact hlt))
      have hdb := dot_bd (ws := ws.take k) (ds := ds.take k) (fun x hx' => by have := HWs.out x (List.mem_of_mem_take hx'); omega) (fun x hx' => by have := HdD.out x (List.mem_of_mem_take hx'); omega)
      have hlk : (ds.take k).length ≤ 4 := by rw [List.length_take]; omega
      have hpb := mul_bd (a := 36) (b := 36) hbd.1 (by omega) hbx.1 (by omega)
      have HDt2 := Lib.hid (show dot (ws.take (k + 1)) (ds.take (k + 1)) = dot (ws.take k) (ds.take k) + gi ds k * gi ws k by rw [HDt.out]; show _ = _ + _; rw [Int.mul_comm]; rfl)
      have hsr : (textOf (ds.take k).reverse).size ≤ 4 := by rw [textOf_size, List.length_reverse]; exact hlk
      clear HDt hbx hbd
      generalize dot (ws.take k) (ds.take k) = T at *
      go_wp2
      (refine wp_region_from wr (by repeat (first | (with_reducible exact Ext.refl _) | (with_reducible refine Ext.drewN ?_ _) | (with_reducible refine Ext.drew ?_) | (with_reducible refine Ext.alloc ?_ _) | ((with_reducible refine Ext.setCell ?_ ?_ _); rotate_left; focus (first | (simp; done) | (simp; omega) | omega)) | assumption | (with_reducible refine Ext.trans ?_ (by assumption)))) (by kernel_rfl) (by kernel_rfl) (by kernel_rfl) ?_; (repeat (first | (refine mix_q rfl ?_; go_big_quiet_step (fail); refine wpQuiet_nil ?_; show wpMix _ _ _ _ _ _ _) | (refine mix_s rfl ?_; go_wp2_with (fail); first | refine ⟨up_of (by repeat (first | (with_reducible exact Ext.refl _) | (with_reducible refine Ext.drewN ?_ _) | (with_reducible refine Ext.drew ?_) | (with_reducible refine Ext.alloc ?_ _) | ((with_reducible refine Ext.setCell ?_ ?_ _); rotate_left; focus (first | (simp; done) | (simp; omega) | omega)) | assumption | (with_reducible refine Ext.trans ?_ (by assumption)))), ?_⟩ | refine ⟨rfl, rfl, up_of (by repeat (first | (with_reducible exact Ext.refl _) | (with_reducible refine Ext.drewN ?_ _) | (with_reducible refine Ext.drew ?_) | (with_reducible refine Ext.alloc ?_ _) | ((with_reducible refine Ext.setCell ?_ ?_ _); rotate_left; focus (first | (simp; done) | (simp; omega) | omega)) | assumption | (with_reducible refine Ext.trans ?_ (by assumption)))), ?_⟩))); refine mix_nil ?_)
      go_wp2
      exact ⟨⟨k + 1, by omega, by go_num, by rw [HT1.out], by rw [HDt2.out], hx.trans (by repeat (first | (with_reducible exact Ext.refl _) | (with_reducible assumption) | (with_reducible refine Ext.drewN ?_ _) | (with_reducible refine Ext.drew ?_) | (with_reducible refine Ext.alloc ?_ _) | ((with_reducible refine Ext.setCell ?_ ?_ _); rotate_left; focus (first | (simp; done) | (simp; omega) | omega)) | (with_reducible refine Ext.trans ?_ (by with_reducible assumption))))⟩, by simp [intOf]; omega⟩
    · obtain rfl : k = xn := by omega
      have HRv := Lib.hid (show (ds.take k).reverse = ds.reverse by rw [List.take_of_length_le (by rw [HdLh.out]; exact Nat.le_refl _)])
      have HDa := Lib.hid (show dot (ws.take k) (ds.take k) = dot ws ds by rw [List.take_of_length_le (by rw [HwLh.out]; exact Nat.le_refl _), List.take_of_length_le (by rw [HdLh.out]; exact Nat.le_refl _)])
      rw [HRv.out, HDa.out]
      have hdb := dot_bd (ws := ws) (ds := ds) (fun x hx' => by have := HWs.out x hx'; omega) (fun x hx' => by have := HdD.out x hx'; omega)
      have hlk : ds.length ≤ 4 := by rw [HdLh.out]; omega
      have htm : (dot ws ds).tmod (mn : Int) = dot ws ds % (mn : Int) := Int.tmod_eq_emod_of_nonneg hdb.1
      have HSv := Lib.hid (show dot ws ds % (mn : Int) = sm by rw [HSmv.out, HX.out])
      rw [HSv.out] at htm
      have hxm' : Ext wm wr := hxm6.trans hx
      have hmn0 : ¬ mn = 0 := by omega
      have HMx2 := Lib.hid (fun W (h : Ext wm W) => HSr.out W ma mm mc (HMw.out.ext h))
      clear hdcell hxcell hdix hxix hdb hlk
      generalize dot ws ds = T at *
      go_upto_region 19 with (go_at_call 10; (with_reducible refine (HMx2.out _ (hxm'.trans (by repeat (first | (with_reducible exact Ext.refl _) | (with_reducible assumption) | (with_reducible refine Ext.drewN ?_ _) | (with_reducible refine Ext.drew ?_) | (with_reducible refine Ext.alloc ?_ _) | ((with_reducible refine Ext.setCell ?_ ?_ _); rotate_left; focus (first | (simp; done) | (simp; omega) | omega)) | (with_reducible refine Ext.trans ?_ (by with_reducible assumption)))))).mono ?_); rintro e w7 ⟨rfl, hy7⟩; have hx7 : Ext wm w7 := hxm'.trans (Ext.trans (by repeat (first | (with_reducible exact Ext.refl _) | (with_reducible assumption) | (with_reducible refine Ext.drewN ?_ _) | (with_reducible refine Ext.drew ?_) | (with_reducible refine Ext.alloc ?_ _) | ((with_reducible refine Ext.setCell ?_ ?_ _); rotate_left; focus (first | (simp; done) | (simp; omega) | omega)) | (with_reducible refine Ext.trans ?_ (by with_reducible assumption)))) hy7); have hx7a : Ext wa w7 := hxam.trans hx7; have hx7c : Ext wc w7 := hxm.trans hx7; clear hy7)
      have hss : (sm != sm) = false := by simp
      obtain ⟨V, hV⟩ : ∃ V, V = decide (sm = X.target) := ⟨_, rfl⟩
      have HVd := Lib.hid (show (sm == tg) = V by rw [hV, HX.out, Bool.eq_iff_iff]; simp)
      rw [← hV] at HIc
      have HVc := Lib.hid (show chkB D (textOf ds) = V by rw [HCk.out, hV])
      have hr := b10_bd l' 0 ((mn : Int) - 1) (by omega)
      have HR0 := Lib.hid (fun W (h : Ext wa W) => laws_b10 a' n' c' l' 0 ((mn : Int) - 1) W (HB'.out.ext (hxa.trans h)) (by omega) (by omega) (by omega))
      generalize b10 l' 0 ((mn : Int) - 1) = r at HR0 hr
      obtain ⟨r, rfl⟩ := Int.eq_ofNat_of_zero_le hr.1
      obtain ⟨bn, hbn⟩ : ∃ bn, bn = r + 1 := ⟨_, rfl⟩
      have HBn := Lib.hid (show ((r : Int) + 1 = (bn : Int)) ∧ (1 + (r : Int) = (bn : Int)) by omega)
      have hr13 : r ≤ 13 := by omega
      have hbn1 : 1 ≤ bn := by omega
      have hbn2 : bn < mn := by omega
      have hbn13 : bn ≤ 14 := by omega
      clear hbn hr hV
      have HSc := Lib.hid (fun W (h : Ext wa W) => show Calls Tryz.prog 15 #[.agg #[.int .i64 bs, .int .i64 mn, .int .i64 tg, .slice xa k xc], .int .i64 bn] W (fun e w' => (Nat.gcd bn mn = 1 → RetWtT (scaX X bn) W e w') ∧ (Nat.gcd bn mn ≠ 1 → RetWtF W e w')) from by
        have h2 := impl_ScaleS X bn mn xa k xc W (HIX.out.ext h) HVl.out (by rw [HX.out]) hbn1 hbn2 (by omega) (by omega) (by omega) (by rw [HX.out]; exact ⟨ht0, ht1⟩) (by rw [HX.out]; exact HWs.out)
        rw [HX.out] at h2 ⊢
        exact h2)
      have HGc := Lib.hid (fun W => laws_gcd bn mn W (by omega) (by omega))
      have HWt := Lib.hid (fun W (h : Ext wa W) => show Calls Tryz.prog 17 #[.agg #[.int .i64 bs, .int .i64 mn, .int .i64 tg, .slice xa k xc]] W (Ret2 (.string (wtT X)) (.bool true) W) from by
        have h2 := impl_WeightingTextS X xa k xc W (HIX.out.ext h) HSm.out HVl.out
        rw [HX.out] at h2 ⊢
        exact h2)
      have HRw := Lib.hid (fun W (h : Ext wa W) => (impl_ReadWeightingS X W (HMx.out.ext (hxa.trans h)) HSm.out HVl.out).mono fun e w' (hp : RetWtT X W e w') => show RetWtT ⟨bs, mn, tg, ws⟩ W e w' from HX.out ▸ hp)
      have HEq := Lib.hid (fun W ra rn rc (h : Ext wa W) (h2' : Ints W ra rn rc ws) => show Calls Tryz.prog 19 #[.agg #[.int .i64 bs, .int .i64 mn, .int .i64 tg, .slice ra rn rc], .agg #[.int .i64 bs, .int .i64 mn, .int .i64 tg, .slice xa k xc]] W (Ret (.bool true) W) from by
        have h2 : Ints W ra rn rc X.weights := by rw [HX.out]; exact h2'
        have hl1 := h2.len
        have hl2 := HIX.out.len
        obtain rfl : rn = k := by omega
        have h3 := laws_wts X ra xa rn rc xc W h2 (HIX.out.ext h) (by omega)
        rw [HX.out] at h3
        exact h3)
      have h77 : Ext w7 w7 := Ext.refl _
      have hbq := HVd.out
      cases V
      all_goals (refine wp_region_from w7 (by repeat (first | (with_reducible exact Ext.refl _) | (with_reducible refine Ext.drewN ?_ _) | (with_reducible refine Ext.drew ?_) | (with_reducible refine Ext.alloc ?_ _) | ((with_reducible refine Ext.setCell ?_ ?_ _); rotate_left; focus (first | (simp; done) | (simp; omega) | omega)) | assumption | (with_reducible refine Ext.trans ?_ (by assumption)))) (by kernel_rfl) (by kernel_rfl) (by kernel_rfl) ?_; (repeat (first | (refine mix_q rfl ?_; go_big_quiet_step (fail); refine wpQuiet_nil ?_; show wpMix _ _ _ _ _ _ _) | (refine mix_s rfl ?_; go_wp2_with ((go_at_call 13; (with_reducible refine (HIc.out _ (hx7c.trans (by repeat (first | (with_reducible exact Ext.refl _) | (with_reducible refine Ext.drewN ?_ _) | (with_reducible refine Ext.drew ?_) | (with_reducible refine Ext.alloc ?_ _) | ((with_reducible refine Ext.setCell ?_ ?_ _); rotate_left; focus (first | (simp; done) | (simp; omega) | omega)) | assumption | (with_reducible refine Ext.trans ?_ (by assumption)))))).mono ?_); rintro e w8 ⟨rfl, hy8⟩; have hx8 : Ext w7 w8 := Ext.trans (by repeat (first | (with_reducible exact Ext.refl _) | (with_reducible refine Ext.drewN ?_ _) | (with_reducible refine Ext.drew ?_) | (with_reducible refine Ext.alloc ?_ _) | ((with_reducible refine Ext.setCell ?_ ?_ _); rotate_left; focus (first | (simp; done) | (simp; omega) | omega)) | assumption | (with_reducible refine Ext.trans ?_ (by assumption)))) hy8; clear hy8)); first | refine ⟨up_of (by repeat (first | (with_reducible exact Ext.refl _) | (with_reducible refine Ext.drewN ?_ _) | (with_reducible refine Ext.drew ?_) | (with_reducible refine Ext.alloc ?_ _) | ((with_reducible refine Ext.setCell ?_ ?_ _); rotate_left; focus (first | (simp; done) | (simp; omega) | omega)) | assumption | (with_reducible refine Ext.trans ?_ (by assumption)))), ?_⟩ | refine ⟨rfl, rfl, up_of (by repeat (first | (with_reducible exact Ext.refl _) | (with_reducible refine Ext.drewN ?_ _) | (with_reducible refine Ext.drew ?_) | (with_reducible refine Ext.alloc ?_ _) | ((with_reducible refine Ext.setCell ?_ ?_ _); rotate_left; focus (first | (simp; done) | (simp; omega) | omega)) | assumption | (with_reducible refine Ext.trans ?_ (by assumption)))), ?_⟩))); refine mix_nil ?_)
      all_goals
        have hx8a : Ext wa w8 := hx7a.trans hx8
        have hx8c : Ext wc w8 := hx7c.trans hx8
        go_upto_region 22 with (go_at_call 14; (with_reducible refine (HR0.out _ hx8a).mono ?_); rintro e w9 ⟨rfl, rfl⟩)
        first | rw [HBn.out.1] | rw [HBn.out.2]
        by_cases hg : Nat.gcd bn mn = 1
        rotate_left
        · have HS0 := Lib.hid (fun W (h : Ext wa W) => (HSc.out W h).mono fun e w' (hp : _ ∧ _) => hp.2 hg)
          have hg1 : ((Nat.gcd bn mn : Int) == 1) = false := by simp; omega
          go_wp2_with (first | (go_at_call 15; (with_reducible refine (HS0.out _ (hx8a.trans (by repeat (first | (with_reducible exact Ext.refl _) | (with_reducible assumption) | (with_reducible refine Ext.drewN ?_ _) | (with_reducible refine Ext.drew ?_) | (with_reducible refine Ext.alloc ?_ _) | ((with_reducible refine Ext.setCell ?_ ?_ _); rotate_left; focus (first | (simp; done) | (simp; omega) | omega)) | (with_reducible refine Ext.trans ?_ (by with_reducible assumption)))))).mono ?_); rintro e w9 ⟨rfl, hy9⟩; have hx9a : Ext wa w9 := hx8a.trans (Ext.trans (by repeat (first | (with_reducible exact Ext.refl _) | (with_reducible assumption) | (with_reducible refine Ext.drewN ?_ _) | (with_reducible refine Ext.drew ?_) | (with_reducible refine Ext.alloc ?_ _) | ((with_reducible refine Ext.setCell ?_ ?_ _); rotate_left; focus (first | (simp; done) | (simp; omega) | omega)) | (with_reducible refine Ext.trans ?_ (by with_reducible assumption)))) hy9); clear hy9) | (go_at_call 16; (with_reducible refine (HGc.out _).mono ?_); rintro e w10 ⟨rfl, rfl⟩) | (go_at_call 17; (with_reducible refine (HWt.out _ (hx9a.trans (by repeat (first | (with_reducible exact Ext.refl _) | (with_reducible assumption) | (with_reducible refine Ext.drewN ?_ _) | (with_reducible refine Ext.drew ?_) | (with_reducible refine Ext.alloc ?_ _) | ((with_reducible refine Ext.setCell ?_ ?_ _); rotate_left; focus (first | (simp; done) | (simp; omega) | omega)) | (with_reducible refine Ext.trans ?_ (by with_reducible assumption)))))).mono ?_); rintro e w11 ⟨rfl, hy11⟩; have hx11a : Ext wa w11 := hx9a.trans (Ext.trans (by repeat (first | (with_reducible exact Ext.refl _) | (with_reducible assumption) | (with_reducible refine Ext.drewN ?_ _) | (with_reducible refine Ext.drew ?_) | (with_reducible refine Ext.alloc ?_ _) | ((with_reducible refine Ext.setCell ?_ ?_ _); rotate_left; focus (first | (simp; done) | (simp; omega) | omega)) | (with_reducible refine Ext.trans ?_ (by with_reducible assumption)))) hy11); clear hy11) | (go_at_call 18; (with_reducible refine (HRw.out _ (hx11a.trans (by repeat (first | (with_reducible exact Ext.refl _) | (with_reducible assumption) | (with_reducible refine Ext.drewN ?_ _) | (with_reducible refine Ext.drew ?_) | (with_reducible refine Ext.alloc ?_ _) | ((with_reducible refine Ext.setCell ?_ ?_ _); rotate_left; focus (first | (simp; done) | (simp; omega) | omega)) | (with_reducible refine Ext.trans ?_ (by with_reducible assumption)))))).mono ?_); rintro e w12 ⟨ra, rn, rc, rfl, hri, hy12⟩; have hx12a : Ext wa w12 := hx11a.trans (Ext.trans (by repeat (first | (with_reducible exact Ext.refl _) | (with_reducible assumption) | (with_reducible refine Ext.drewN ?_ _) | (with_reducible refine Ext.drew ?_) | (with_reducible refine Ext.alloc ?_ _) | ((with_reducible refine Ext.setCell ?_ ?_ _); rotate_left; focus (first | (simp; done) | (simp; omega) | omega)) | (with_reducible refine Ext.trans ?_ (by with_reducible assumption)))) hy12); have HRi := Lib.hid hri; clear hy12 hri) | (go_at_call 19; (with_reducible refine (HEq.out _ ra rn rc (hx12a.trans (by repeat (first | (with_reducible exact Ext.refl _) | (with_reducible assumption) | (with_reducible refine Ext.drewN ?_ _) | (with_reducible refine Ext.drew ?_) | (with_reducible refine Ext.alloc ?_ _) | ((with_reducible refine Ext.setCell ?_ ?_ _); rotate_left; focus (first | (simp; done) | (simp; omega) | omega)) | (with_reducible refine Ext.trans ?_ (by with_reducible assumption))))) (HRi.out.ext (by repeat (first | (with_reducible exact Ext.refl _) | (with_reducible assumption) | (with_reducible refine Ext.drewN ?_ _) | (with_reducible refine Ext.drew ?_) | (with_reducible refine Ext.alloc ?_ _) | ((with_reducible refine Ext.setCell ?_ ?_ _); rotate_left; focus (first | (simp; done) | (simp; omega) | omega)) | (with_reducible refine Ext.trans ?_ (by with_reducible assumption)))))).mono ?_); rintro e w13 ⟨rfl, hy13⟩; have hx13a : Ext wa w13 := hx12a.trans (Ext.trans (by repeat (first | (with_reducible exact Ext.refl _) | (with_reducible assumption) | (with_reducible refine Ext.drewN ?_ _) | (with_reducible refine Ext.drew ?_) | (with_reducible refine Ext.alloc ?_ _) | ((with_reducible refine Ext.setCell ?_ ?_ _); rotate_left; focus (first | (simp; done) | (simp; omega) | omega)) | (with_reducible refine Ext.trans ?_ (by with_reducible assumption)))) hy13); clear hy13))
          go_ret
          exact ⟨rfl, hxa.trans hx13a⟩
        · have HS1 := Lib.hid (fun W (h : Ext wa W) => (HSc.out W h).mono fun e w' (hp : _ ∧ _) => show RetWtT ⟨bs, mn, tg * (bn : Int) % (mn : Int), ws.map fun x => x * (bn : Int) % (mn : Int)⟩ W e w' from (by
            have h3 := hp.1 hg
            rw [HX.out] at h3
            exact h3))
          have hg1 : ((Nat.gcd bn mn : Int) == 1) = true := by simp; omega
          go_upto_region 23 with (go_at_call 15; (with_reducible refine (HS1.out _ (hx8a.trans (by repeat (first | (with_reducible exact Ext.refl _) | (with_reducible assumption) | (with_reducible refine Ext.drewN ?_ _) | (with_reducible refine Ext.drew ?_) | (with_reducible refine Ext.alloc ?_ _) | ((with_reducible refine Ext.setCell ?_ ?_ _); rotate_left; focus (first | (simp; done) | (simp; omega) | omega)) | (with_reducible refine Ext.trans ?_ (by with_reducible assumption)))))).mono ?_); rintro e w9 ⟨sa, sn, sc, rfl, hsi, hy9⟩; have hx9 : Ext w8 w9 := Ext.trans (by repeat (first | (with_reducible exact Ext.refl _) | (with_reducible assumption) | (with_reducible refine Ext.drewN ?_ _) | (with_reducible refine Ext.drew ?_) | (with_reducible refine Ext.alloc ?_ _) | ((with_reducible refine Ext.setCell ?_ ?_ _); rotate_left; focus (first | (simp; done) | (simp; omega) | omega)) | (with_reducible refine Ext.trans ?_ (by with_reducible assumption)))) hy9; have HSi := Lib.hid hsi; clear hy9 hsi)
          (try simp only at HSi ⊢)
          have HXs := Lib.hid (show scaX X bn = ⟨bs, mn, tg * (bn : Int) % (mn : Int), ws.map fun x => x * (bn : Int) % (mn : Int)⟩ by rw [HX.out]; rfl)
          have HCk2 := Lib.hid (show chkB (wtCh (scaX X bn)) (textOf ds) = chkB D (textOf ds) by
            rw [HD.out]
            exact sca_chk HVl.out (HVs.out bn) (by rw [HX.out]) hg (by omega) (by rw [HX.out]; exact ht0) (by rw [HX.out]; exact ht1) (by rw [HX.out]; exact HdD.out) (by rw [HX.out]; exact HdLh.out.trans HwLh.out.symm))
          rw [HVc.out] at HCk2
          obtain ⟨tq, htq⟩ : ∃ tq, tq = tg * (bn : Int) % (mn : Int) := ⟨_, rfl⟩
          rw [← htq] at HXs ⊢
          clear htq
          obtain ⟨q21, hq21⟩ : ∃ q, q = w9.heap.size := ⟨_, rfl⟩
          obtain ⟨wv, hwv⟩ : ∃ W, W = w9.alloc (.cells #[.int .i64 bs, .int .i64 mn, .int .i64 tq, .slice sa sn sc] 26) := ⟨_, rfl⟩
          have HS21 := Lib.hid (show SAt wv q21 26 #[.int .i64 bs, .int .i64 mn, .int .i64 tq, .slice sa sn sc] by rw [hwv, hq21]; exact SAt.new' _ _ _ rfl)
          have hxv : Ext w8 wv := by rw [hwv]; exact hx9.alloc _
          have HSw := Lib.hid (show Ints wv sa sn sc (scaX X bn).weights by rw [hwv, HXs.out]; exact HSi.out.ext ((Ext.refl _).alloc _))
          rw [← hwv, ← hq21]
          clear hwv hq21 HSi
          have hvv : Ext wv wv := Ext.refl _
          have hxva : Ext wa wv := hx8a.trans hxv
          have hxvc : Ext wc wv := hx8c.trans hxv
          have r0 : ∀ w', Ext wv w' → w'.cell? ⟨q21, 0, none⟩ = some (.int .i64 bs) := fun w' h => h.cell (HS21.out.cell 0 (by simp))
          have r1 : ∀ w', Ext wv w' → w'.cell? ⟨q21, 1, none⟩ = some (.int .i64 mn) := fun w' h => h.cell (HS21.out.cell 1 (by simp))
          have r2 : ∀ w', Ext wv w' → w'.cell? ⟨q21, 2, none⟩ = some (.int .i64 tq) := fun w' h => h.cell (HS21.out.cell 2 (by simp))
          have r3 : ∀ w', Ext wv w' → w'.cell? ⟨q21, 3, none⟩ = some (.slice sa sn sc) := fun w' h => h.cell (HS21.out.cell 3 (by simp))
          have HWc2 := Lib.hid (fun W (h : Ext wv W) => show Calls Tryz.prog 9 #[.agg #[.int .i64 bs, .int .i64 mn, .int .i64 tq, .slice sa sn sc]] W (RetChB (wtCh (scaX X bn)) W) from by
            have h2 := impl_WeightChain (scaX X bn) sa sn sc W (HSw.out.ext h) (HVs.out bn)
            rw [HXs.out] at h2 ⊢
            exact h2)
          obtain ⟨D2, hD2⟩ : ∃ D2, D2 = wtCh (scaX X bn) := ⟨_, rfl⟩
          rw [← hD2] at HWc2 HCk2
          clear hD2
          go_upto_region 32 with (first | (go_at_call 16; (with_reducible refine (HGc.out _).mono ?_); rintro e w10 ⟨rfl, rfl⟩) | (go_at_call 17; (with_reducible refine (HWt.out _ (hxva.trans (by repeat (first | (with_reducible exact Ext.refl _) | (with_reducible assumption) | (with_reducible refine Ext.drewN ?_ _) | (with_reducible refine Ext.drew ?_) | (with_reducible refine Ext.alloc ?_ _) | ((with_reducible refine Ext.setCell ?_ ?_ _); rotate_left; focus (first | (simp; done) | (simp; omega) | omega)) | (with_reducible refine Ext.trans ?_ (by with_reducible assumption)))))).mono ?_); rintro e w11 ⟨rfl, hy11⟩; have hx11 : Ext wv w11 := Ext.trans (by repeat (first | (with_reducible exact Ext.refl _) | (with_reducible assumption) | (with_reducible refine Ext.drewN ?_ _) | (with_reducible refine Ext.drew ?_) | (with_reducible refine Ext.alloc ?_ _) | ((with_reducible refine Ext.setCell ?_ ?_ _); rotate_left; focus (first | (simp; done) | (simp; omega) | omega)) | (with_reducible refine Ext.trans ?_ (by with_reducible assumption)))) hy11; have hx11a : Ext wa w11 := hxva.trans hx11; clear hy11) | (go_at_call 18; (with_reducible refine (HRw.out _ (hx11a.trans (by repeat (first | (with_reducible exact Ext.refl _) | (with_reducible assumption) | (with_reducible refine Ext.drewN ?_ _) | (with_reducible refine Ext.drew ?_) | (with_reducible refine Ext.alloc ?_ _) | ((with_reducible refine Ext.setCell ?_ ?_ _); rotate_left; focus (first | (simp; done) | (simp; omega) | omega)) | (with_reducible refine Ext.trans ?_ (by with_reducible assumption)))))).mono ?_); rintro e w12 ⟨ra, rn, rc, rfl, hri, hy12⟩; have hx12 : Ext wv w12 := hx11.trans (Ext.trans (by repeat (first | (with_reducible exact Ext.refl _) | (with_reducible assumption) | (with_reducible refine Ext.drewN ?_ _) | (with_reducible refine Ext.drew ?_) | (with_reducible refine Ext.alloc ?_ _) | ((with_reducible refine Ext.setCell ?_ ?_ _); rotate_left; focus (first | (simp; done) | (simp; omega) | omega)) | (with_reducible refine Ext.trans ?_ (by with_reducible assumption)))) hy12); have hx12a : Ext wa w12 := hxva.trans hx12; have HRi := Lib.hid hri; clear hy12 hri) | (go_at_call 19; (with_reducible refine (HEq.out _ ra rn rc (hx12a.trans (by repeat (first | (with_reducible exact Ext.refl _) | (with_reducible assumption) | (with_reducible refine Ext.drewN ?_ _) | (with_reducible refine Ext.drew ?_) | (with_reducible refine Ext.alloc ?_ _) | ((with_reducible refine Ext.setCell ?_ ?_ _); rotate_left; focus (first | (simp; done) | (simp; omega) | omega)) | (with_reducible refine Ext.trans ?_ (by with_reducible assumption))))) (HRi.out.ext (by repeat (first | (with_reducible exact Ext.refl _) | (with_reducible assumption) | (with_reducible refine Ext.drewN ?_ _) | (with_reducible refine Ext.drew ?_) | (with_reducible refine Ext.alloc ?_ _) | ((with_reducible refine Ext.setCell ?_ ?_ _); rotate_left; focus (first | (simp; done) | (simp; omega) | omega)) | (with_reducible refine Ext.trans ?_ (by with_reducible assumption)))))).mono ?_); rintro e w13 ⟨rfl, hy13⟩; have hx13 : Ext wv w13 := hx12.trans (Ext.trans (by repeat (first | (with_reducible exact Ext.refl _) | (with_reducible assumption) | (with_reducible refine Ext.drewN ?_ _) | (with_reducible refine Ext.drew ?_) | (with_reducible refine Ext.alloc ?_ _) | ((with_reducible refine Ext.setCell ?_ ?_ _); rotate_left; focus (first | (simp; done) | (simp; omega) | omega)) | (with_reducible refine Ext.trans ?_ (by with_reducible assumption)))) hy13); clear hy13) | (go_at_call 9; (with_reducible refine (HWc2.out _ (Ext.trans hx13 (by repeat (first | (with_reducible exact Ext.refl _) | (with_reducible assumption) | (with_reducible refine Ext.drewN ?_ _) | (with_reducible refine Ext.drew ?_) | (with_reducible refine Ext.alloc ?_ _) | ((with_reducible refine Ext.setCell ?_ ?_ _); rotate_left; focus (first | (simp; done) | (simp; omega) | omega)) | (with_reducible refine Ext.trans ?_ (by with_reducible assumption)))))).mono ?_); rintro e w14 ⟨ca2, cx2, cc2, cb2, cy2, cd2, rfl, hch2, hy14⟩; have hx14 : Ext wv w14 := hx13.trans (Ext.trans (by repeat (first | (with_reducible exact Ext.refl _) | (with_reducible assumption) | (with_reducible refine Ext.drewN ?_ _) | (with_reducible refine Ext.drew ?_) | (with_reducible refine Ext.alloc ?_ _) | ((with_reducible refine Ext.setCell ?_ ?_ _); rotate_left; focus (first | (simp; done) | (simp; omega) | omega)) | (with_reducible refine Ext.trans ?_ (by with_reducible assumption)))) hy14); have HCh2 := Lib.hid hch2; clear hy14 hch2))
          obtain ⟨q27, hq27⟩ : ∃ q, q = w14.heap.size := ⟨_, rfl⟩
          obtain ⟨wz, hwz⟩ : ∃ W, W = w14.alloc (.cells #[.int .i64 D2.base, .int .i64 D2.states, .int .i64 D2.start, .int .i64 D2.fin, .slice ca2 cx2 cc2, .slice cb2 cy2 cd2] 31) := ⟨_, rfl⟩
          have HA27 := Lib.hid (show ChAt wz q27 D2 ca2 cx2 cc2 cb2 cy2 cd2 by rw [hwz, hq27]; exact HCh2.out.box _)
          have HCI2 := Lib.hid (show ChIn wz D2 ca2 cx2 cc2 cb2 cy2 cd2 by rw [hwz]; exact HCh2.out.ext ((Ext.refl _).alloc _))
          have hxz : Ext wv wz := by rw [hwz]; exact hx14.alloc _
          rw [← hwz, ← hq27]
          clear hwz hq27 HCh2
          have hzz : Ext wz wz := Ext.refl _
          have hxzc : Ext wc wz := hxvc.trans hxz
          obtain ⟨p0, p1, p2, p3, p4, p5, _, _⟩ := HA27.out
          have HIc2 := Lib.hid (fun W (h : Ext wz W) => impl_IsChecked D2 ca2 cx2 cc2 cb2 cy2 cd2 (textOf ds) W (HCI2.out.ext h) (by omega))
          rw [HCk2.out] at HIc2
          (refine wp_region_from wz (by repeat (first | (with_reducible exact Ext.refl _) | (with_reducible refine Ext.drewN ?_ _) | (with_reducible refine Ext.drew ?_) | (with_reducible refine Ext.alloc ?_ _) | ((with_reducible refine Ext.setCell ?_ ?_ _); rotate_left; focus (first | (simp; done) | (simp; omega) | omega)) | assumption | (with_reducible refine Ext.trans ?_ (by assumption)))) (by kernel_rfl) (by kernel_rfl) (by kernel_rfl) ?_; (repeat (first | (refine mix_q rfl ?_; go_big_quiet_step (fail); refine wpQuiet_nil ?_; show wpMix _ _ _ _ _ _ _) | (refine mix_s rfl ?_; go_wp2_with (first | (go_at_call 13; (with_reducible refine (HIc2.out _ (by repeat (first | (with_reducible exact Ext.refl _) | (with_reducible refine Ext.drewN ?_ _) | (with_reducible refine Ext.drew ?_) | (with_reducible refine Ext.alloc ?_ _) | ((with_reducible refine Ext.setCell ?_ ?_ _); rotate_left; focus (first | (simp; done) | (simp; omega) | omega)) | assumption | (with_reducible refine Ext.trans ?_ (by assumption))))).mono ?_); rintro e w15 ⟨rfl, hy15⟩; have hx15 : Ext wz w15 := Ext.trans (by repeat (first | (with_reducible exact Ext.refl _) | (with_reducible refine Ext.drewN ?_ _) | (with_reducible refine Ext.drew ?_) | (with_reducible refine Ext.alloc ?_ _) | ((with_reducible refine Ext.setCell ?_ ?_ _); rotate_left; focus (first | (simp; done) | (simp; omega) | omega)) | assumption | (with_reducible refine Ext.trans ?_ (by assumption)))) hy15; clear hy15) | (go_at_call 13; (with_reducible refine (HIc.out _ (hxzc.trans (by repeat (first | (with_reducible exact Ext.refl _) | (with_reducible refine Ext.drewN ?_ _) | (with_reducible refine Ext.drew ?_) | (with_reducible refine Ext.alloc ?_ _) | ((with_reducible refine Ext.setCell ?_ ?_ _); rotate_left; focus (first | (simp; done) | (simp; omega) | omega)) | assumption | (with_reducible refine Ext.trans ?_ (by assumption)))))).mono ?_); rintro e w16 ⟨rfl, hy16⟩; have hx16 : Ext wz w16 := Ext.trans (by repeat (first | (with_reducible exact Ext.refl _) | (with_reducible refine Ext.drewN ?_ _) | (with_reducible refine Ext.drew ?_) | (with_reducible refine Ext.alloc ?_ _) | ((with_reducible refine Ext.setCell ?_ ?_ _); rotate_left; focus (first | (simp; done) | (simp; omega) | omega)) | assumption | (with_reducible refine Ext.trans ?_ (by assumption)))) hy16; clear hy16)); first | refine ⟨up_of (by repeat (first | (with_reducible exact Ext.refl _) | (with_reducible refine Ext.drewN ?_ _) | (with_reducible refine Ext.drew ?_) | (with_reducible refine Ext.alloc ?_ _) | ((with_reducible refine Ext.setCell ?_ ?_ _); rotate_left; focus (first | (simp; done) | (simp; omega) | omega)) | assumption | (with_reducible refine Ext.trans ?_ (by assumption)))), ?_⟩ | refine ⟨rfl, rfl, up_of (by repeat (first | (with_reducible exact Ext.refl _) | (with_reducible refine Ext.drewN ?_ _) | (with_reducible refine Ext.drew ?_) | (with_reducible refine Ext.alloc ?_ _) | ((with_reducible refine Ext.setCell ?_ ?_ _); rotate_left; focus (first | (simp; done) | (simp; omega) | omega)) | assumption | (with_reducible refine Ext.trans ?_ (by assumption)))), ?_⟩))); refine mix_nil ?_)
          go_wp2
          go_ret
          exact ⟨rfl, hxa.trans (hxva.trans (hxz.trans (by repeat (first | (with_reducible exact Ext.refl _) | (with_reducible refine Ext.drewN ?_ _) | (with_reducible refine Ext.drew ?_) | (with_reducible refine Ext.alloc ?_ _) | ((with_reducible refine Ext.setCell ?_ ?_ _); rotate_left; focus (first | (simp; done) | (simp; omega) | omega)) | assumption | (with_reducible refine Ext.trans ?_ (by assumption))))))⟩
end Go.Proofs.YtgnlabdikmbbgaaGreatDoor
