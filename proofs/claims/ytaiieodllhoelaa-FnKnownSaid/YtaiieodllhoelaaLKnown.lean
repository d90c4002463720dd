/- The law on known systems: walked. -/
import Derived.Test.YtaiieodllhoelaaKnP
import Derived.Test.YtaiieodllhoelaaB10T
import Derived.Test.YtaiieodllhoelaaPerO
import Derived.Test.YtaiieodllhoelaaGcd
import Derived.Deep.CutRange
import Derived.Deep.CutBlock
namespace Go.Proofs.Ytaiieodllhoelaa
set_option maxRecDepth 100000
open Go.RowKit

/-- the weighting of which the law speaks: its modulus is its base -/
def modW (X : Wt) : Wt := ⟨X.base, X.base, X.target % X.base, X.weights.map (· % X.base)⟩
def bases : List Int := [10, 10, 2, 3, 5, 7, 11]
theorem base_pow {b : Int} (hb : b ∈ bases) {n : Nat} (h1 : 1 ≤ n) (h4 : n ≤ 4) : b ^ n ≤ 1000000000000000 := by
  have h : b = 10 ∨ b = 2 ∨ b = 3 ∨ b = 5 ∨ b = 7 ∨ b = 11 := by simp [bases] at hb; omega
  have hn : n = 1 ∨ n = 2 ∨ n = 3 ∨ n = 4 := by omega
  rcases h with rfl | rfl | rfl | rfl | rfl | rfl <;> rcases hn with rfl | rfl | rfl | rfl <;> decide
theorem base_bd {b : Int} (hb : b ∈ bases) : 2 ≤ b ∧ b ≤ 11 := by simp [bases] at hb; omega
theorem wt_valid {X : Wt} (hb : X.base ∈ bases) (h1 : 1 ≤ X.weights.length) (h4 : X.weights.length ≤ 4) (hm : 2 ≤ X.modulus) (hm2 : X.modulus ≤ 36) (ht0 : 0 ≤ X.target) (ht1 : X.target < X.modulus) (hw : ∀ x ∈ X.weights, 0 ≤ x ∧ x < X.modulus) : validB X = true := by
  have hbd := base_bd hb
  have hi : inB (X.weights.length : Int) 1 20 = true := inB_t.2 (by omega)
  have hB : baseB X.base = true := by unfold baseB; exact inB_t.2 (by omega)
  unfold validB
  rw [manyB_in hB hi, decide_eq_true (base_pow hb h1 h4), inB_t.2 ⟨hm, hm2⟩, inB_t.2 ⟨ht0, by omega⟩]
  simp only [Bool.true_and]
  unfold belowB
  rw [List.all_eq_true]
  intro x hx
  have := hw x hx
  exact inB_t.2 (by omega)
theorem modW_valid {X : Wt} (hb : X.base ∈ bases) (h1 : 1 ≤ X.weights.length) (h4 : X.weights.length ≤ 4) : validB (modW X) = true := by
  have hbd := base_bd hb
  refine wt_valid (X := modW X) hb (by simpa [modW] using h1) (by simpa [modW] using h4) (by simp only [modW]; omega) (by simp only [modW]; omega) (Int.emod_nonneg _ (by omega)) (Int.emod_lt_of_pos _ (by omega)) ?_
  intro x hx
  obtain ⟨y, _, rfl⟩ := List.mem_map.1 hx
  exact ⟨Int.emod_nonneg _ (by omega), Int.emod_lt_of_pos _ (by omega)⟩
def gcdB (b : Nat) (ws : List Int) (k : Nat) : Bool := (ws.take k).all fun x => Nat.gcd x.toNat b == 1
theorem gcdB_step {b : Nat} {ws : List Int} {k : Nat} (h : k < ws.length) : gcdB b ws (k + 1) = (gcdB b ws k && (Nat.gcd (gi ws k).toNat b == 1)) := by
  unfold gcdB; rw [take_gi h, List.all_append]; simp
theorem ords_gcd {X : Wt} {b : Nat} (hX : X.base = (b : Int)) (hb : X.base ∈ bases) (hw : ∀ x ∈ X.weights, 0 ≤ x ∧ x < X.base) : ordsB (peL X) = gcdB b X.weights X.weights.length := by
  unfold ordsB gcdB peL
  rw [List.take_length, List.all_map, hX, Int.toNat_natCast, Bool.eq_iff_iff, List.all_eq_true, List.all_eq_true]
  have hbn : b ∈ ([10, 2, 3, 5, 7, 11] : List Nat) := by rw [hX] at hb; simp [bases] at hb; simp; omega
  have key : ∀ x ∈ X.weights, ordB ((wgL b x).map (· % (b : Int))) = (Nat.gcd x.toNat b == 1) := fun x hx => by
    obtain ⟨h0, h1⟩ := hw x hx
    obtain ⟨y, rfl⟩ := Int.eq_ofNat_of_zero_le h0
    exact (ord_gcd hbn (by omega)).trans (by rw [Bool.eq_iff_iff]; simp)
  refine ⟨fun h x hx => ?_, fun h x hx => ?_⟩
  · rw [← key x hx]; exact h x hx
  · show ordB ((wgL b x).map (· % (b : Int))) = true
    rw [key x hx]; exact h x hx
theorem known_any {k : Int} {n : Nat} (h0 : 0 ≤ k) (h1 : k ≤ 4) (h2 : k = 2 → n = 10) (h3 : k ≠ 2 → 2 ≤ n ∧ n ≤ 6) : ∃ D : Ch, KnGood D n ∧ ∀ W, Calls Try.prog 62 #[.int .i64 k, .int .i64 n] W (RetChB D W) := by
  have h : k = 0 ∨ k = 1 ∨ k = 2 ∨ k = 3 ∨ k = 4 := by omega
  rcases h with rfl | rfl | rfl | rfl | rfl
  · have := h3 (by omega); exact ⟨_, luh_good (by omega) (by omega), fun W => impl_Known0 n W (by omega) (by omega)⟩
  · have := h3 (by omega); have hk : KnOk 1 n := .inl ⟨rfl, this⟩; exact ⟨_, knW_good hk, fun W => impl_KnownW 1 n W hk⟩
  · have := h2 rfl; have hk : KnOk 2 n := .inr (.inl ⟨rfl, this⟩); exact ⟨_, knW_good hk, fun W => impl_KnownW 2 n W hk⟩
  · have := h3 (by omega); have hk : KnOk 3 n := .inr (.inr ⟨rfl, this⟩); exact ⟨_, knW_good hk, fun W => impl_KnownW 3 n W hk⟩
  · have := h3 (by omega); exact ⟨_, hyb_good (by omega) (by omega), fun W => impl_KnownH n W (by omega) (by omega)⟩
set_option maxHeartbeats 8000000 in
theorem lawKnown (a : Option Addr) (n c : Nat) (l : List UInt8) (a' : Option Addr) (n' c' : Nat) (l' : List UInt8) (w : World) (hv : Bytes w a n c l) (hn : n ≤ 9223372036854775807) (hv' : Bytes w a' n' c' l') (hn' : n' ≤ 9223372036854775807) :
    Calls Try.prog 14 #[.slice a n c, .slice a' n' c'] w (Ret (.bool true) w) := by
  have HLong := Lib.hid (laws_b10Long a a' n c n' c' w hn hn')
  have HB := Lib.hid hv
  have HB' := Lib.hid hv'
  clear hv hv'
  by_cases hlong : 1048576 < n ∨ 1048576 < n'
  · rw [decide_eq_true hlong] at HLong
    clear hlong
    go_enter Try.func14, Try.ntmps14
    go_wp2_with (go_at_call 47; refine HLong.out.mono ?_; rintro e w1 ⟨rfl, rfl⟩)
    go_ret
    exact ⟨rfl, Ext.refl _⟩
  rw [decide_eq_false hlong] at HLong
  go_enter Try.func14, Try.ntmps14
  go_wp2_with (first | (go_at_call 47; refine HLong.out.mono ?_; rintro e w1 ⟨rfl, rfl⟩) | (go_at_call 56; refine (spec_B10Weighting a n c l w HB.out (by omega)).mono ?_; rintro e w1 ⟨X, xa, xn, xc, rfl, hO1, hL, hbs, hm2, hm13, ht0, ht1, hn1, hn4, hws, hx1⟩;  obtain ⟨g, rfl⟩ := ownP_some hO1 (by omega); have hb2 := base_bd hbs))
  obtain ⟨q5, hq5⟩ : ∃ q, q = w1.heap.size := ⟨_, rfl⟩
  obtain ⟨w5, hw5⟩ : ∃ W, W = w1.alloc (.cells #[.int .i64 X.base, .int .i64 X.base, .int .i64 (X.target % X.base), .slice (some ⟨g, 0, none⟩) xn xc] 72) := ⟨_, rfl⟩
  have hx5 : Ext w1 w5 := by rw [hw5]; exact (by repeat (first | (with_reducible exact Ext.refl _) | (with_reducible refine Ext.drewN ?_ _) | (with_reducible refine Ext.drew ?_) | (with_reducible refine Ext.alloc ?_ _) | ((with_reducible refine Ext.setCell ?_ ?_ _); rotate_left; focus (first | (simp; done) | (simp; omega) | omega)) | assumption | (with_reducible refine Ext.trans ?_ (by assumption))))
  have HQ5 := Lib.hid (show SAt w5 q5 72 #[.int .i64 X.base, .int .i64 X.base, .int .i64 (X.target % X.base), .slice (some ⟨g, 0, none⟩) xn xc] by rw [hw5, hq5]; exact SAt.new' _ _ _ rfl)
  have HO5 := Lib.hid (hO1.ext hx5)
  have hxw5 : Ext w w5 := hx1.trans hx5
  have hgw : w.heap.size ≤ g := hO1.lt.1
  obtain ⟨bs, hbX⟩ := Int.eq_ofNat_of_zero_le (show 0 ≤ X.base by omega)
  have HBX := Lib.hid hbX
  have HLw := Lib.hid hL
  have HWs := Lib.hid hws
  have HBs := Lib.hid hbs
  have HYv := Lib.hid (modW_valid (X := X) hbs (by omega) (by omega))
  have hn2 : n' ≤ 1048576 := by omega
  rw [← hw5, ← hq5]
  clear hw5 hq5 hx5 hO1 hx1 hbs hws hL ht0 ht1 hm2 hm13 hlong
  rw [hbX] at HQ5 hb2 ⊢
  clear hbX
  obtain ⟨tg, htg⟩ : ∃ t, t = X.target % (bs : Int) := ⟨_, rfl⟩
  rw [← htg] at HQ5 ⊢
  have HTg := Lib.hid htg
  clear htg
  go_loopw [6] (fun v6 wr => ∃ (k : Nat), k ≤ xn ∧ v6 = .int .i64 k ∧ Hid (Own wr w.heap.size 2 (some ⟨g, 0, none⟩) xn xc (I (modD bs X.weights k))) ∧ Hid (SAt wr q5 72 #[.int .i64 bs, .int .i64 bs, .int .i64 tg, .slice (some ⟨g, 0, none⟩) xn xc]) ∧ Ext w wr) (fun v6 _ => xn - (intOf v6).toNat)
  case atStart => exact ⟨0, Nat.zero_le _, rfl, by rw [Hid, modD_zero]; exact HO5.out, HQ5.out, hxw5⟩
  case round =>
    obtain ⟨k, hk, rfl, HO, HQ, hxr⟩ := hrel
    by_cases hlt : k < xn
    · obtain ⟨f1, f2, f4⟩ := own_oneJ HO.out (P := Try.prog) 25 und_int64s cell_int64 k hlt (x := (k : Int)) rfl
      have HS := Lib.hid (modD_set (b := (bs : Int)) (l := X.weights) (d := k) (by rw [HLw.out]; exact hlt))
      have hbd := HWs.out (gi X.weights k) (gi_mem (by rw [HLw.out]; exact hlt))
      rw [modD_gi (by rw [HLw.out]; exact hlt)] at f2
      have hgl := HO.out.lt.2
      have hy0 := hbd.1
      clear hbd
      have htm : (gi X.weights k).tmod bs = gi X.weights k % bs := Int.tmod_eq_emod_of_nonneg hy0
      generalize gi X.weights k = y at *
      have k0 : ∀ w', Ext wr w' → w'.cell? ⟨q5, 0, none⟩ = some (.int .i64 bs) := fun w' hx => hx.cell (HQ.out.cell 0 (by simp))
      have k3 : ∀ w', Ext wr w' → w'.cell? ⟨q5, 3, none⟩ = some (.slice (some ⟨g, 0, none⟩) xn xc) := fun w' hx => hx.cell (HQ.out.cell 3 (by simp))
      have k33 := k3 wr (Ext.refl _)
      have hgq : q5 ≠ g := fun h => (HO.out.ne_s HQ.out (by decide)) ⟨g, 0, none⟩ rfl h.symm
      go_wp2
      (refine wp_region_upl 9 wr (by repeat (first | (with_reducible exact Ext.refl _) | (with_reducible refine Ext.drewN ?_ _) | (with_reducible refine Ext.drew ?_) | (with_reducible refine Ext.alloc ?_ _) | ((with_reducible refine Ext.setCell ?_ ?_ _); rotate_left; focus (first | (simp; done) | (simp; omega) | omega)) | assumption | (with_reducible refine Ext.trans ?_ (by assumption)))) rfl (by kernel_rfl) (by kernel_rfl) (seqB_of (by kernel_rfl)) (lastB_of (by kernel_rfl)) ?_; simp only [List.take_succ_cons, List.take_zero, List.drop_succ_cons, List.drop_zero]; (repeat (first | (refine mix_q rfl ?_; go_big_quiet_step (fail); refine wpQuiet_nil ?_; show wpMix _ _ _ _ _ _ _) | (refine mix_s rfl ?_; go_wp2_with (fail); first | refine ⟨up_of (by repeat (first | (with_reducible exact Ext.refl _) | (with_reducible refine Ext.drewN ?_ _) | (with_reducible refine Ext.drew ?_) | (with_reducible refine Ext.alloc ?_ _) | ((with_reducible refine Ext.setCell ?_ ?_ _); rotate_left; focus (first | (simp; done) | (simp; omega) | omega)) | assumption | (with_reducible refine Ext.trans ?_ (by assumption)))), ?_⟩ | refine ⟨rfl, rfl, up_of (by repeat (first | (with_reducible exact Ext.refl _) | (with_reducible refine Ext.drewN ?_ _) | (with_reducible refine Ext.drew ?_) | (with_reducible refine Ext.alloc ?_ _) | ((with_reducible refine Ext.setCell ?_ ?_ _); rotate_left; focus (first | (simp; done) | (simp; omega) | omega)) | assumption | (with_reducible refine Ext.trans ?_ (by assumption)))), ?_⟩))); refine mix_nil ?_)
      go_wp2
      refine ⟨⟨k + 1, by omega, by go_num, ?_, (HQ.out.other (p := ⟨g, k, none⟩) _ hgq).drew, (Ext.setCell hxr hgw _).drew⟩, by simp [intOf]; omega⟩
      have h9 := HO.out.set k (.int .i64 (y % bs))
      rw [I_set, HS.out] at h9
      exact h9
    · obtain rfl : k = xn := by omega
      have hO := HO.out
      rw [modD_full (by rw [HLw.out]; exact Nat.le_refl _)] at hO
      have HOk := Lib.hid hO
      clear hO HO HO5 HQ5
      have hval := HYv.out
      rw [show modW X = ⟨bs, bs, tg, X.weights.map (· % (bs : Int))⟩ by unfold modW; rw [HBX.out, HTg.out]] at hval
      have hbs := HBs.out
      rw [HBX.out] at hbs
      have hys : ∀ x ∈ X.weights.map (· % (bs : Int)), 0 ≤ x ∧ x < (bs : Int) := fun x hx => by
        obtain ⟨y, _, rfl⟩ := List.mem_map.1 hx
        exact ⟨Int.emod_nonneg _ (by omega), Int.emod_lt_of_pos _ (by omega)⟩
      have hyl : (X.weights.map (· % (bs : Int))).length = k := by rw [List.length_map]; exact HLw.out
      clear HBX HTg HYv HBs HLw HWs
      generalize X.weights.map (· % (bs : Int)) = ys at *
      have HYs := Lib.hid hys
      have HYl := Lib.hid hyl
      obtain ⟨wq, hwq⟩ : ∃ W, W = wr := ⟨_, rfl⟩
      subst hwq
      have HI := Lib.hid (show Ints wq (some ⟨g, 0, none⟩) k xc ys from HOk.out.ints)
      have HF := Lib.hid (ords_gcd (X := ⟨bs, bs, tg, ys⟩) (b := bs) rfl hbs hys)
      obtain ⟨F, hF⟩ : ∃ F, F = gcdB bs ys k := ⟨_, rfl⟩
      have HFo := Lib.hid (show ordsB (peL ⟨bs, bs, tg, ys⟩) = F by rw [HF.out]; show gcdB bs ys ys.length = F; rw [hyl, hF])
      have HFg := Lib.hid hF.symm
      have HOKp := Lib.hid (peL_ok (X := ⟨bs, bs, tg, ys⟩) hval rfl)
      have HCk := Lib.hid (fun s => pe_chk (X := ⟨bs, bs, tg, ys⟩) hval rfl s)
      have HWd := Lib.hid (fun W (h : Ext wq W) => show Calls Try.prog 57 #[.slice a' n' c', .agg #[.int .i64 bs, .int .i64 bs, .int .i64 tg, .slice (some ⟨g, 0, none⟩) k xc]] W (RetWd bs k W) from spec_B10Word a' n' c' l' ⟨bs, bs, tg, ys⟩ (some ⟨g, 0, none⟩) k xc W (HB'.out.ext (hxr.trans h)) (by omega) (HI.out.ext h) hb2.1 (by show (bs : Int) ≤ 36; omega) (by omega))
      have HPo := Lib.hid (fun W (h : Ext wq W) => show Calls Try.prog 58 #[.agg #[.int .i64 bs, .int .i64 bs, .int .i64 tg, .slice (some ⟨g, 0, none⟩) k xc]] W (RetPer ⟨bs, bs, tg, ys⟩ W) from impl_PermutingOf ⟨bs, bs, tg, ys⟩ (some ⟨g, 0, none⟩) k xc W (HI.out.ext h) hval rfl)
      have HWc := Lib.hid (fun W (h : Ext wq W) => show Calls Try.prog 60 #[.agg #[.int .i64 bs, .int .i64 bs, .int .i64 tg, .slice (some ⟨g, 0, none⟩) k xc]] W (RetChB (wtCh ⟨bs, bs, tg, ys⟩) W) from impl_WeightChain ⟨bs, bs, tg, ys⟩ (some ⟨g, 0, none⟩) k xc W (HI.out.ext h) hval)
      have s0 : ∀ w', Ext wq w' → w'.cell? ⟨q5, 0, none⟩ = some (.int .i64 bs) := fun w' hx => hx.cell (HQ.out.cell 0 (by simp))
      have s1 : ∀ w', Ext wq w' → w'.cell? ⟨q5, 1, none⟩ = some (.int .i64 bs) := fun w' hx => hx.cell (HQ.out.cell 1 (by simp))
      have s2 : ∀ w', Ext wq w' → w'.cell? ⟨q5, 2, none⟩ = some (.int .i64 tg) := fun w' hx => hx.cell (HQ.out.cell 2 (by simp))
      have s3 : ∀ w', Ext wq w' → w'.cell? ⟨q5, 3, none⟩ = some (.slice (some ⟨g, 0, none⟩) k xc) := fun w' hx => hx.cell (HQ.out.cell 3 (by simp))
      have e3 := s3 wq (Ext.refl _)
      have e0 := s0 wq (Ext.refl _)
      have e1 := s1 wq (Ext.refl _)
      have e2 := s2 wq (Ext.refl _)
      clear hF HF hval hbs hys hyl HOk
      go_wp2_with (first | (go_at_call 57; (with_reducible refine (HWd.out _ (by repeat (first | (with_reducible exact Ext.refl _) | (with_reducible assumption) | (with_reducible refine Ext.drewN ?_ _) | (with_reducible refine Ext.drew ?_) | (with_reducible refine Ext.alloc ?_ _) | ((with_reducible refine Ext.setCell ?_ ?_ _); rotate_left; focus (first | (simp; done) | (simp; omega) | omega)) | (with_reducible refine Ext.trans ?_ (by with_reducible assumption))))).mono ?_); rintro e w6 ⟨ds, rfl, hdl, hdb, hx6⟩; have HDl := Lib.hid hdl; have HDb := Lib.hid hdb; have e06 := s0 w6 hx6; have e16 := s1 w6 hx6; have e26 := s2 w6 hx6; have e36 := s3 w6 hx6; clear hdl hdb) | (go_at_call 58; (with_reducible refine (HPo.out _ (by repeat (first | (with_reducible exact Ext.refl _) | (with_reducible assumption) | (with_reducible refine Ext.drewN ?_ _) | (with_reducible refine Ext.drew ?_) | (with_reducible refine Ext.alloc ?_ _) | ((with_reducible refine Ext.setCell ?_ ?_ _); rotate_left; focus (first | (simp; done) | (simp; omega) | omega)) | (with_reducible refine Ext.trans ?_ (by with_reducible assumption))))).mono ?_); rintro e w7 ⟨v1, v2, pa, pm, pc, he, hper, hy7⟩; rw [HFo.out] at he hper; subst he; have HPr := Lib.hid hper; have hx7 : Ext wq w7 := Ext.trans (by repeat (first | (with_reducible exact Ext.refl _) | (with_reducible assumption) | (with_reducible refine Ext.drewN ?_ _) | (with_reducible refine Ext.drew ?_) | (with_reducible refine Ext.alloc ?_ _) | ((with_reducible refine Ext.setCell ?_ ?_ _); rotate_left; focus (first | (simp; done) | (simp; omega) | omega)) | (with_reducible refine Ext.trans ?_ (by with_reducible assumption)))) hy7; clear hper hy7))
      obtain ⟨q8, hq8⟩ : ∃ q, q = w7.heap.size := ⟨_, rfl⟩
      obtain ⟨w8, hw8⟩ : ∃ W, W = w7.alloc (.cells #[.int .i64 v1, .int .i64 v2, .slice pa pm pc] 76) := ⟨_, rfl⟩
      have hx78 : Ext w7 w8 := by rw [hw8]; exact (by repeat (first | (with_reducible exact Ext.refl _) | (with_reducible refine Ext.drewN ?_ _) | (with_reducible refine Ext.drew ?_) | (with_reducible refine Ext.alloc ?_ _) | ((with_reducible refine Ext.setCell ?_ ?_ _); rotate_left; focus (first | (simp; done) | (simp; omega) | omega)) | assumption | (with_reducible refine Ext.trans ?_ (by assumption))))
      have HQ8 := Lib.hid (show SAt w8 q8 76 #[.int .i64 v1, .int .i64 v2, .slice pa pm pc] by rw [hw8, hq8]; exact SAt.new' _ _ _ rfl)
      have hx8 : Ext wq w8 := hx7.trans hx78
      rw [← hw8, ← hq8]
      clear hw8 hq8
      have e38 := s3 w8 hx8
      have hgo : gcdB bs ys 0 = true := rfl
      go_loopw [10, 11] (fun v10 v11 wr => ∃ (i : Nat), i ≤ k ∧ v11 = .int .i64 i ∧ v10 = .bool (gcdB bs ys i) ∧ Ext w8 wr) (fun _ v11 _ => k - (intOf v11).toNat)
      case atStart => exact ⟨0, Nat.zero_le _, rfl, by rw [hgo], Ext.refl _⟩
      case round =>
        obtain ⟨i, hi, rfl, rfl, hxr8⟩ := hrel
        have hxq : Ext wq wr := hx8.trans hxr8
        have e3r := s3 wr hxq
        by_cases hli : i < k
        · have HSt := Lib.hid (gcdB_step (b := bs) (ws := ys) (k := i) (by rw [HYl.out]; exact hli))
          have hyb := HYs.out (gi ys i) (gi_mem (by rw [HYl.out]; exact hli))
          obtain ⟨y, hy⟩ := Int.eq_ofNat_of_zero_le hyb.1
          have hgy := hy
          rw [hy] at hyb
          rw [hy, Int.toNat_natCast] at HSt
          have HGc := Lib.hid (fun W => laws_gcd y bs W (by omega) (by omega))
          obtain ⟨bY, oY, hixY, hcellY⟩ := (HI.out.ext hxq).ix (P := Try.prog) 25 2 und_int64s cell_int64
          have hcy : ∀ w', Ext wr w' → w'.cell? ⟨bY, oY + i, none⟩ = some (.int .i64 y) := fun w' h => by have h2 := hcellY i w' hli h; rwa [hy] at h2
          have hiy : ∀ w' (K : IntKind), (Instr.indexAt 25 (.slice (some ⟨g, 0, none⟩) k xc) (.int K i)).run Try.prog w' = .ok (.pointer (some ⟨bY, oY + i, none⟩)) w' := fun w' K => by have h2 := hixY i K w' (by omega) (by omega); rwa [Int.toNat_natCast] at h2
          have t0 : ∀ w', Ext wr w' → w'.cell? ⟨q5, 0, none⟩ = some (.int .i64 bs) := fun w' h => s0 w' (hxq.trans h)
          have t3 : ∀ w', Ext wr w' → w'.cell? ⟨q5, 3, none⟩ = some (.slice (some ⟨g, 0, none⟩) k xc) := fun w' h => s3 w' (hxq.trans h)
          clear hcellY hixY hy hgy
          generalize Nat.gcd y bs = gg at HSt HGc
          cases hfg : gcdB bs ys i
          · rw [hfg] at HSt
            clear hfg
            go_wp2_with fail
            (refine wp_region_up (by kernel_rfl) (by kernel_rfl) (by kernel_rfl) ?_; (repeat (first | (refine mix_q rfl ?_; go_big_quiet_step (fail); refine wpQuiet_nil ?_; show wpMix _ _ _ _ _ _ _) | (refine mix_s rfl ?_; go_wp2_with (fail); first | refine ⟨up_of (by repeat (first | (with_reducible exact Ext.refl _) | (with_reducible refine Ext.drewN ?_ _) | (with_reducible refine Ext.drew ?_) | (with_reducible refine Ext.alloc ?_ _) | ((with_reducible refine Ext.setCell ?_ ?_ _); rotate_left; focus (first | (simp; done) | (simp; omega) | omega)) | assumption | (with_reducible refine Ext.trans ?_ (by assumption)))), ?_⟩ | refine ⟨rfl, rfl, up_of (by repeat (first | (with_reducible exact Ext.refl _) | (with_reducible refine Ext.drewN ?_ _) | (with_reducible refine Ext.drew ?_) | (with_reducible refine Ext.alloc ?_ _) | ((with_reducible refine Ext.setCell ?_ ?_ _); rotate_left; focus (first | (simp; done) | (simp; omega) | omega)) | assumption | (with_reducible refine Ext.trans ?_ (by assumption)))), ?_⟩))); refine mix_nil ?_)
            go_wp2_with fail
            exact ⟨⟨i + 1, by omega, by go_num, by rw [HSt.out]; rfl, (by repeat (first | (with_reducible exact Ext.refl _) | (with_reducible assumption) | (with_reducible refine Ext.drewN ?_ _) | (with_reducible refine Ext.drew ?_) | (with_reducible refine Ext.alloc ?_ _) | ((with_reducible refine Ext.setCell ?_ ?_ _); rotate_left; focus (first | (simp; done) | (simp; omega) | omega)) | (with_reducible refine Ext.trans ?_ (by with_reducible assumption))))⟩, by simp [intOf]; omega⟩
          · rw [hfg] at HSt
            clear hfg
            go_wp2_with fail
            (refine wp_region_up (by kernel_rfl) (by kernel_rfl) (by kernel_rfl) ?_; (repeat (first | (refine mix_q rfl ?_; go_big_quiet_step (fail); refine wpQuiet_nil ?_; show wpMix _ _ _ _ _ _ _) | (refine mix_s rfl ?_; go_wp2_with ((go_at_call 59; (with_reducible refine (HGc.out _).mono ?_); rintro e w9 ⟨rfl, rfl⟩)); first | refine ⟨up_of (by repeat (first | (with_reducible exact Ext.refl _) | (with_reducible refine Ext.drewN ?_ _) | (with_reducible refine Ext.drew ?_) | (with_reducible refine Ext.alloc ?_ _) | ((with_reducible refine Ext.setCell ?_ ?_ _); rotate_left; focus (first | (simp; done) | (simp; omega) | omega)) | assumption | (with_reducible refine Ext.trans ?_ (by assumption)))), ?_⟩ | refine ⟨rfl, rfl, up_of (by repeat (first | (with_reducible exact Ext.refl _) | (with_reducible refine Ext.drewN ?_ _) | (with_reducible refine Ext.drew ?_) | (with_reducible refine Ext.alloc ?_ _) | ((with_reducible refine Ext.setCell ?_ ?_ _); rotate_left; focus (first | (simp; done) | (simp; omega) | omega)) | assumption | (with_reducible refine Ext.trans ?_ (by assumption)))), ?_⟩))); refine mix_nil ?_)
            go_wp2_with fail
            exact ⟨⟨i + 1, by omega, by go_num, by rw [HSt.out]; congr 1; rw [Bool.eq_iff_iff]; simp; omega, (by repeat (first | (with_reducible exact Ext.refl _) | (with_reducible assumption) | (with_reducible refine Ext.drewN ?_ _) | (with_reducible refine Ext.drew ?_) | (with_reducible refine Ext.alloc ?_ _) | ((with_reducible refine Ext.setCell ?_ ?_ _); rotate_left; focus (first | (simp; done) | (simp; omega) | omega)) | (with_reducible refine Ext.trans ?_ (by with_reducible assumption))))⟩, by simp [intOf]; omega⟩
        · obtain rfl : i = k := by omega
          rw [HFg.out]
          have e0r := s0 wr hxq
          have e1r := s1 wr hxq
          have e2r := s2 wr hxq
          obtain ⟨wa, hwa⟩ : ∃ W, W = wr := ⟨_, rfl⟩
          subst hwa
          go_upto_if 95 with ((go_at_call 60; (with_reducible refine (HWc.out _ (by repeat (first | (with_reducible exact Ext.refl _) | (with_reducible assumption) | (with_reducible refine Ext.drewN ?_ _) | (with_reducible refine Ext.drew ?_) | (with_reducible refine Ext.alloc ?_ _) | ((with_reducible refine Ext.setCell ?_ ?_ _); rotate_left; focus (first | (simp; done) | (simp; omega) | omega)) | (with_reducible refine Ext.trans ?_ (by with_reducible assumption))))).mono ?_); rintro e w12 ⟨ca, cx, cc, cb, cy, cd, rfl, hch, hy12⟩; have HC12 := Lib.hid hch; have hx12 : Ext wa w12 := hy12; clear hch hy12))
          obtain ⟨q12, hq12⟩ : ∃ q, q = w12.heap.size := ⟨_, rfl⟩
          generalize hDD : wtCh ⟨bs, bs, tg, ys⟩ = DD at *
          obtain ⟨wb, hwb⟩ : ∃ W, W = w12.alloc (.cells #[.int .i64 DD.base, .int .i64 DD.states, .int .i64 DD.start, .int .i64 DD.fin, .slice ca cx cc, .slice cb cy cd] 27) := ⟨_, rfl⟩
          have hxb : Ext w12 wb := by rw [hwb]; exact (by repeat (first | (with_reducible exact Ext.refl _) | (with_reducible refine Ext.drewN ?_ _) | (with_reducible refine Ext.drew ?_) | (with_reducible refine Ext.alloc ?_ _) | ((with_reducible refine Ext.setCell ?_ ?_ _); rotate_left; focus (first | (simp; done) | (simp; omega) | omega)) | assumption | (with_reducible refine Ext.trans ?_ (by assumption))))
          have HQb := Lib.hid (show SAt wb q12 27 #[.int .i64 DD.base, .int .i64 DD.states, .int .i64 DD.start, .int .i64 DD.fin, .slice ca cx cc, .slice cb cy cd] by rw [hwb, hq12]; exact SAt.new' _ _ _ rfl)
          have HCb := Lib.hid (HC12.out.ext hxb)
          rw [← hwb, ← hq12]
          clear hwb hq12 hDD
          have hwb : Ext w wb := ((((hxr.trans hx8).trans hxr8).trans hx12).trans hxb)
          have hab : Ext wa wb := hx12.trans hxb
          have HMa := Lib.hid (fun (hF : F = true) => (HPr.out hF).2.2)
          have b0 : ∀ W', Ext wb W' → W'.cell? ⟨q12, 0, none⟩ = some (.int .i64 DD.base) := fun W' h => h.cell (HQb.out.cell 0 (by simp))
          have b1 : ∀ W', Ext wb W' → W'.cell? ⟨q12, 1, none⟩ = some (.int .i64 DD.states) := fun W' h => h.cell (HQb.out.cell 1 (by simp))
          have b2 : ∀ W', Ext wb W' → W'.cell? ⟨q12, 2, none⟩ = some (.int .i64 DD.start) := fun W' h => h.cell (HQb.out.cell 2 (by simp))
          have b3 : ∀ W', Ext wb W' → W'.cell? ⟨q12, 3, none⟩ = some (.int .i64 DD.fin) := fun W' h => h.cell (HQb.out.cell 3 (by simp))
          have b4 : ∀ W', Ext wb W' → W'.cell? ⟨q12, 4, none⟩ = some (.slice ca cx cc) := fun W' h => h.cell (HQb.out.cell 4 (by simp))
          have b5 : ∀ W', Ext wb W' → W'.cell? ⟨q12, 5, none⟩ = some (.slice cb cy cd) := fun W' h => h.cell (HQb.out.cell 5 (by simp))
          have hds : (textOf ds).size ≤ 1048576 := by rw [textOf_size, HDl.out]; omega
          generalize textOf ds = wd at *
          have HIa := Lib.hid (fun W (h : Ext wb W) => impl_IsChecked DD ca cx cc cb cy cd wd W (HCb.out.ext h) hds)
          have HQ8b := Lib.hid (HQ8.out.ext (hxr8.trans hab))
          have hx7b : Ext w7 wb := (hx78.trans hxr8).trans hab
          clear HC12 HCb HQb HQ8 HFg HWc HWd HPo e0r e1r e2r e38 e3r
          go_cut [] from 96 to 111 (fun wx => Ext w wx)
          case first =>
            cases F
            · go_wp2_with fail
              go_meet
              exact hwb
            · obtain ⟨hv1, hv2, _⟩ := HPr.out rfl
              have HM7 := Lib.hid (HMa.out rfl)
              have hv1' : v1 = (bs : Int) := hv1
              have hv2' : v2 = tg := hv2
              subst hv1' hv2'
              clear hv1 hv2
              have HPc := Lib.hid (show Calls Try.prog 61 #[.agg #[.int .i64 bs, .int .i64 v2, .slice pa pm pc]] wb (RetChB (addCh bs bs v2 (peL ⟨bs, bs, v2, ys⟩)) wb) from
                impl_PermutingChain bs v2 pa pm pc (peL ⟨bs, bs, v2, ys⟩) wb (HM7.out.ext hx7b) HOKp.out (fun W h => by
                  have := impl_ValidPermuting bs v2 pa pm pc (peL ⟨bs, bs, v2, ys⟩) W ((HM7.out.ext hx7b).ext h) HOKp.out
                  rwa [HFo.out] at this))
              have hce := HCk.out wd
              have r0 := HQ8b.out.cell 0 (by simp)
              have r1 := HQ8b.out.cell 1 (by simp)
              have r2 := HQ8b.out.cell 2 (by simp)
              simp only [List.getElem_toArray, List.getElem_cons_succ, List.getElem_cons_zero] at r0 r1 r2
              generalize hEE : addCh bs bs v2 (peL ⟨bs, bs, v2, ys⟩) = EE at *
              clear hEE
              go_upto_region 22 with ((go_at_call 61; (with_reducible refine HPc.out.mono ?_); rintro e w14 ⟨pa1, px, pc1, pb, py, pd, rfl, hch, hy14⟩; have HC14 := Lib.hid hch; have hx14 : Ext wb w14 := hy14; clear hch hy14))
              obtain ⟨q14, hq14⟩ : ∃ q, q = w14.heap.size := ⟨_, rfl⟩
              obtain ⟨we, hwe⟩ : ∃ W, W = w14.alloc (.cells #[.int .i64 EE.base, .int .i64 EE.states, .int .i64 EE.start, .int .i64 EE.fin, .slice pa1 px pc1, .slice pb py pd] 27) := ⟨_, rfl⟩
              have hxe : Ext w14 we := by rw [hwe]; exact (by repeat (first | (with_reducible exact Ext.refl _) | (with_reducible refine Ext.drewN ?_ _) | (with_reducible refine Ext.drew ?_) | (with_reducible refine Ext.alloc ?_ _) | ((with_reducible refine Ext.setCell ?_ ?_ _); rotate_left; focus (first | (simp; done) | (simp; omega) | omega)) | assumption | (with_reducible refine Ext.trans ?_ (by assumption))))
              have HQe := Lib.hid (show SAt we q14 27 #[.int .i64 EE.base, .int .i64 EE.states, .int .i64 EE.start, .int .i64 EE.fin, .slice pa1 px pc1, .slice pb py pd] by rw [hwe, hq14]; exact SAt.new' _ _ _ rfl)
              rw [← hwe, ← hq14]
              clear hwe hq14
              have hxbe : Ext wb we := hx14.trans hxe
              have c0 : ∀ W', Ext we W' → W'.cell? ⟨q14, 0, none⟩ = some (.int .i64 EE.base) := fun W' h => h.cell (HQe.out.cell 0 (by simp))
              have c1 : ∀ W', Ext we W' → W'.cell? ⟨q14, 1, none⟩ = some (.int .i64 EE.states) := fun W' h => h.cell (HQe.out.cell 1 (by simp))
              have c2 : ∀ W', Ext we W' → W'.cell? ⟨q14, 2, none⟩ = some (.int .i64 EE.start) := fun W' h => h.cell (HQe.out.cell 2 (by simp))
              have c3 : ∀ W', Ext we W' → W'.cell? ⟨q14, 3, none⟩ = some (.int .i64 EE.fin) := fun W' h => h.cell (HQe.out.cell 3 (by simp))
              have c4 : ∀ W', Ext we W' → W'.cell? ⟨q14, 4, none⟩ = some (.slice pa1 px pc1) := fun W' h => h.cell (HQe.out.cell 4 (by simp))
              have c5 : ∀ W', Ext we W' → W'.cell? ⟨q14, 5, none⟩ = some (.slice pb py pd) := fun W' h => h.cell (HQe.out.cell 5 (by simp))
              have HIb := Lib.hid (fun W (h : Ext we W) => impl_IsChecked EE pa1 px pc1 pb py pd wd W ((HC14.out.ext hxe).ext h) hds)
              rw [hce] at HIb
              have g0 : ∀ W', Ext we W' → W'.cell? ⟨q12, 0, none⟩ = some (.int .i64 DD.base) := fun W' h => b0 W' (hxbe.trans h)
              have g1 : ∀ W', Ext we W' → W'.cell? ⟨q12, 1, none⟩ = some (.int .i64 DD.states) := fun W' h => b1 W' (hxbe.trans h)
              have g2 : ∀ W', Ext we W' → W'.cell? ⟨q12, 2, none⟩ = some (.int .i64 DD.start) := fun W' h => b2 W' (hxbe.trans h)
              have g3 : ∀ W', Ext we W' → W'.cell? ⟨q12, 3, none⟩ = some (.int .i64 DD.fin) := fun W' h => b3 W' (hxbe.trans h)
              have g4 : ∀ W', Ext we W' → W'.cell? ⟨q12, 4, none⟩ = some (.slice ca cx cc) := fun W' h => b4 W' (hxbe.trans h)
              have g5 : ∀ W', Ext we W' → W'.cell? ⟨q12, 5, none⟩ = some (.slice cb cy cd) := fun W' h => b5 W' (hxbe.trans h)
              have HIA := Lib.hid (fun W (h : Ext we W) => HIa.out W (hxbe.trans h))
              clear HIa b0 b1 b2 b3 b4 b5
              generalize chkB DD wd = bb at *
              (refine wp_region_from we (by repeat (first | (with_reducible exact Ext.refl _) | (with_reducible refine Ext.drewN ?_ _) | (with_reducible refine Ext.drew ?_) | (with_reducible refine Ext.alloc ?_ _) | ((with_reducible refine Ext.setCell ?_ ?_ _); rotate_left; focus (first | (simp; done) | (simp; omega) | omega)) | assumption | (with_reducible refine Ext.trans ?_ (by assumption)))) (by kernel_rfl) (by kernel_rfl) (by kernel_rfl) ?_; (repeat (first | (refine mix_q rfl ?_; go_big_quiet_step (fail); refine wpQuiet_nil ?_; show wpMix _ _ _ _ _ _ _) | (refine mix_s rfl ?_; go_wp2_with ((go_at_call 21; first | ((with_reducible refine (HIA.out _ (by repeat (first | (with_reducible exact Ext.refl _) | (with_reducible assumption) | (with_reducible refine Ext.drewN ?_ _) | (with_reducible refine Ext.drew ?_) | (with_reducible refine Ext.alloc ?_ _) | ((with_reducible refine Ext.setCell ?_ ?_ _); rotate_left; focus (first | (simp; done) | (simp; omega) | omega)) | (with_reducible refine Ext.trans ?_ (by with_reducible assumption))))).mono ?_); rintro e w15 ⟨rfl, hy15⟩; have hx15 : Ext we w15 := Ext.trans (by repeat (first | (with_reducible exact Ext.refl _) | (with_reducible assumption) | (with_reducible refine Ext.drewN ?_ _) | (with_reducible refine Ext.drew ?_) | (with_reducible refine Ext.alloc ?_ _) | ((with_reducible refine Ext.setCell ?_ ?_ _); rotate_left; focus (first | (simp; done) | (simp; omega) | omega)) | (with_reducible refine Ext.trans ?_ (by with_reducible assumption)))) hy15; clear hy15) | ((with_reducible refine (HIb.out _ (by repeat (first | (with_reducible exact Ext.refl _) | (with_reducible assumption) | (with_reducible refine Ext.drewN ?_ _) | (with_reducible refine Ext.drew ?_) | (with_reducible refine Ext.alloc ?_ _) | ((with_reducible refine Ext.setCell ?_ ?_ _); rotate_left; focus (first | (simp; done) | (simp; omega) | omega)) | (with_reducible refine Ext.trans ?_ (by with_reducible assumption))))).mono ?_); rintro e w16 ⟨rfl, hy16⟩; have hx16 : Ext we w16 := Ext.trans (by repeat (first | (with_reducible exact Ext.refl _) | (with_reducible assumption) | (with_reducible refine Ext.drewN ?_ _) | (with_reducible refine Ext.drew ?_) | (with_reducible refine Ext.alloc ?_ _) | ((with_reducible refine Ext.setCell ?_ ?_ _); rotate_left; focus (first | (simp; done) | (simp; omega) | omega)) | (with_reducible refine Ext.trans ?_ (by with_reducible assumption)))) hy16; clear hy16))); first | refine ⟨up_of (by repeat (first | (with_reducible exact Ext.refl _) | (with_reducible refine Ext.drewN ?_ _) | (with_reducible refine Ext.drew ?_) | (with_reducible refine Ext.alloc ?_ _) | ((with_reducible refine Ext.setCell ?_ ?_ _); rotate_left; focus (first | (simp; done) | (simp; omega) | omega)) | assumption | (with_reducible refine Ext.trans ?_ (by assumption)))), ?_⟩ | refine ⟨rfl, rfl, up_of (by repeat (first | (with_reducible exact Ext.refl _) | (with_reducible refine Ext.drewN ?_ _) | (with_reducible refine Ext.drew ?_) | (with_reducible refine Ext.alloc ?_ _) | ((with_reducible refine Ext.setCell ?_ ?_ _); rotate_left; focus (first | (simp; done) | (simp; omega) | omega)) | assumption | (with_reducible refine Ext.trans ?_ (by assumption)))), ?_⟩))); refine mix_nil ?_)
              have hwe2 : Ext w we := hwb.trans hxbe
              go_wp2_with fail
              go_meet
              exact Ext.trans hwe2 (by repeat (first | (with_reducible exact Ext.refl _) | (with_reducible assumption) | (with_reducible refine Ext.drewN ?_ _) | (with_reducible refine Ext.drew ?_) | (with_reducible refine Ext.alloc ?_ _) | ((with_reducible refine Ext.setCell ?_ ?_ _); rotate_left; focus (first | (simp; done) | (simp; omega) | omega)) | (with_reducible refine Ext.trans ?_ (by with_reducible assumption))))
          case rest =>
            generalize wc = wx at *
            have HB0 := Lib.hid (fun W (h : Ext w W) => laws_b10 a' n' c' l' 0 5 W (HB'.out.ext h) (by omega) (by omega) (by omega))
            have HB1 := Lib.hid (fun W (h : Ext w W) => laws_b10 a' n' c' l' 1 5 W (HB'.out.ext h) (by omega) (by omega) (by omega))
            have hk0 := b10_bd l' 0 5 (by omega)
            have hk1 := b10_bd l' 1 5 (by omega)
            generalize b10 l' 0 5 = kd at *
            generalize b10 l' 1 5 = p1 at *
            clear HIa b0 b1 b2 b3 b4 b5 s0 s1 s2 s3 e0 e1 e2 e3 e06 e16 e26 e36 HQ8b HMa HPr HCk HOKp HFo HYs HYl HI HQ hx7b hwb hab hxb hx12 hxr8 hx78 hx8 hx7 hx6 hxr hds HDl HDb
            go_upto_if 118 with (go_at_call 48; first | ((with_reducible refine (HB0.out _ (by repeat (first | (with_reducible exact Ext.refl _) | (with_reducible assumption) | (with_reducible refine Ext.drewN ?_ _) | (with_reducible refine Ext.drew ?_) | (with_reducible refine Ext.alloc ?_ _) | ((with_reducible refine Ext.setCell ?_ ?_ _); rotate_left; focus (first | (simp; done) | (simp; omega) | omega)) | (with_reducible refine Ext.trans ?_ (by with_reducible assumption))))).mono ?_); rintro e w17 ⟨rfl, rfl⟩) | ((with_reducible refine (HB1.out _ (by repeat (first | (with_reducible exact Ext.refl _) | (with_reducible assumption) | (with_reducible refine Ext.drewN ?_ _) | (with_reducible refine Ext.drew ?_) | (with_reducible refine Ext.alloc ?_ _) | ((with_reducible refine Ext.setCell ?_ ?_ _); rotate_left; focus (first | (simp; done) | (simp; omega) | omega)) | (with_reducible refine Ext.trans ?_ (by with_reducible assumption))))).mono ?_); rintro e w18 ⟨rfl, rfl⟩))
            go_cut [17] from 119 to 119 (fun v17 wy => ∃ P : Nat, v17 = .int .i64 P ∧ (kd = 2 → P = 10) ∧ (kd ≠ 2 → 2 ≤ P ∧ P ≤ 6) ∧ Ext w wy)
            case first =>
              by_cases h2 : kd = 2
              · subst h2
                go_wp2_with fail
                go_meet
                exact ⟨10, rfl, fun _ => rfl, fun h => absurd rfl h, hcut⟩
              · have h2d : decide (kd = 2) = false := decide_eq_false h2
                obtain ⟨P, hP⟩ := Int.eq_ofNat_of_zero_le (show 0 ≤ 2 + p1 by omega)
                go_wp2_with fail
                go_meet
                exact ⟨P, by rw [← hP], fun h => absurd h h2, fun _ => by omega, hcut⟩
            case rest =>
              obtain ⟨P, rfl, hP2, hP3, hxy⟩ := hcut
              generalize wc = wy at *
              obtain ⟨D, hD, hKn⟩ := known_any (k := kd) (n := P) hk0.1 (by omega) hP2 hP3
              have HD := Lib.hid hD
              have HKn := Lib.hid hKn
              have hPb : 2 ≤ P ∧ P ≤ 10 := by by_cases h2 : kd = 2; have := hP2 h2; omega; have := hP3 h2; omega
              clear hD hKn hP2 hP3 hk0 hk1 HB0 HB1
              go_upto_region 29 with ((go_at_call 62; (with_reducible refine (HKn.out _).mono ?_); rintro e w18 ⟨da, dx, dc, db, dy, dd, rfl, hch, hy18⟩; have HC18 := Lib.hid hch; have hx18 : Ext w w18 := hxy.trans hy18; clear hch hy18))
              have hdy : dy = P := by have h1 := HC18.out.ps.len; have h2 := HD.out.len; omega
              subst hdy
              obtain ⟨q18, hq18⟩ : ∃ q, q = w18.heap.size := ⟨_, rfl⟩
              obtain ⟨wf, hwf⟩ : ∃ W, W = w18.alloc (.cells #[.int .i64 D.base, .int .i64 D.states, .int .i64 D.start, .int .i64 D.fin, .slice da dx dc, .slice db dy dd] 27) := ⟨_, rfl⟩
              have hxf : Ext w18 wf := by rw [hwf]; exact (by repeat (first | (with_reducible exact Ext.refl _) | (with_reducible refine Ext.drewN ?_ _) | (with_reducible refine Ext.drew ?_) | (with_reducible refine Ext.alloc ?_ _) | ((with_reducible refine Ext.setCell ?_ ?_ _); rotate_left; focus (first | (simp; done) | (simp; omega) | omega)) | assumption | (with_reducible refine Ext.trans ?_ (by assumption))))
              have HQf := Lib.hid (show SAt wf q18 27 #[.int .i64 D.base, .int .i64 D.states, .int .i64 D.start, .int .i64 D.fin, .slice da dx dc, .slice db dy dd] by rw [hwf, hq18]; exact SAt.new' _ _ _ rfl)
              have HCf := Lib.hid (HC18.out.ext hxf)
              rw [← hwf, ← hq18]
              have hxwf : Ext w wf := hx18.trans hxf
              clear hwf hq18 HC18 hxf hx18
              have c0 : ∀ W', Ext wf W' → W'.cell? ⟨q18, 0, none⟩ = some (.int .i64 D.base) := fun W' h => h.cell (HQf.out.cell 0 (by simp))
              have c1 : ∀ W', Ext wf W' → W'.cell? ⟨q18, 1, none⟩ = some (.int .i64 D.states) := fun W' h => h.cell (HQf.out.cell 1 (by simp))
              have c2 : ∀ W', Ext wf W' → W'.cell? ⟨q18, 2, none⟩ = some (.int .i64 D.start) := fun W' h => h.cell (HQf.out.cell 2 (by simp))
              have c3 : ∀ W', Ext wf W' → W'.cell? ⟨q18, 3, none⟩ = some (.int .i64 D.fin) := fun W' h => h.cell (HQf.out.cell 3 (by simp))
              have c4 : ∀ W', Ext wf W' → W'.cell? ⟨q18, 4, none⟩ = some (.slice da dx dc) := fun W' h => h.cell (HQf.out.cell 4 (by simp))
              have c5 : ∀ W', Ext wf W' → W'.cell? ⟨q18, 5, none⟩ = some (.slice db dy dd) := fun W' h => h.cell (HQf.out.cell 5 (by simp))
              have k0 := c0 wf (Ext.refl _)
              have k1 := c1 wf (Ext.refl _)
              have k2 := c2 wf (Ext.refl _)
              have k3 := c3 wf (Ext.refl _)
              have k4 := c4 wf (Ext.refl _)
              have k5 := c5 wf (Ext.refl _)
              have HVc := Lib.hid (fun W (h : Ext wf W) => impl_ValidChain D da dx dc db dy dd W (Cube.ext HCf.out.ts h) (HCf.out.ps.ext h) HCf.out.hn HCf.out.hn' HCf.out.sm)
              rw [HD.out.val] at HVc
              have HOk := Lib.hid (validCh_ok HD.out.val)
              have hb36 : 2 ≤ D.base ∧ D.base ≤ 36 := ⟨HOk.out.b2, HOk.out.b36⟩
              go_wp2_with ((go_at_call 18; (with_reducible refine (HVc.out _ (by repeat (first | (with_reducible exact Ext.refl _) | (with_reducible assumption) | (with_reducible refine Ext.drewN ?_ _) | (with_reducible refine Ext.drew ?_) | (with_reducible refine Ext.alloc ?_ _) | ((with_reducible refine Ext.setCell ?_ ?_ _); rotate_left; focus (first | (simp; done) | (simp; omega) | omega)) | (with_reducible refine Ext.trans ?_ (by with_reducible assumption))))).mono ?_); rintro e w19 ⟨rfl, hy19⟩; have hx19 : Ext wf w19 := hy19; have m5 := c5 w19 hx19; clear hy19))
              go_loopw [20, 21] (fun v20 v21 wr => ∃ (xs : List Int), xs.length ≤ dy ∧ v21 = .int .i64 (xs.length : Int) ∧ v20 = .string (textOf xs) ∧ Hid (DigC D xs) ∧ Ext wf wr) (fun _ v21 _ => dy - (intOf v21).toNat)
              case atStart => exact ⟨[], Nat.zero_le _, rfl, rfl, (fun x hx => by simp at hx), hx19⟩
              case round =>
                obtain ⟨xs, hxl, rfl, rfl, HXd, hxr⟩ := hrel
                have hsz := textOf_size xs
                by_cases hlx : xs.length < dy
                · have HB2 := Lib.hid (fun W (h : Ext w W) => laws_b10 a' n' c' l' ((xs.length : Int) + 2) D.base W (HB'.out.ext h) (by omega) (by omega) (by omega))
                  have hz := b10_bd l' ((xs.length : Int) + 2) D.base (by omega)
                  generalize b10 l' ((xs.length : Int) + 2) D.base = z at *
                  have HSy := Lib.hid (fun W => spec_SymbolOf z W hz.1 (by omega))
                  have hu1 : (textOf [z]).size = 1 := textOf_size _
                  have m0 := c0 wr hxr
                  have HTa := Lib.hid (text_app xs [z])
                  generalize hn : xs.length = m at *
                  generalize textOf xs = tx at *
                  generalize textOf [z] = tz at *
                  go_wp2_with (first | (go_at_call 48; (with_reducible refine (HB2.out _ (Ext.trans hxwf (by repeat (first | (with_reducible exact Ext.refl _) | (with_reducible assumption) | (with_reducible refine Ext.drewN ?_ _) | (with_reducible refine Ext.drew ?_) | (with_reducible refine Ext.alloc ?_ _) | ((with_reducible refine Ext.setCell ?_ ?_ _); rotate_left; focus (first | (simp; done) | (simp; omega) | omega)) | (with_reducible refine Ext.trans ?_ (by with_reducible assumption)))))).mono ?_); rintro e w20 ⟨rfl, rfl⟩) | (go_at_call 49; (with_reducible refine (HSy.out _).mono ?_); rintro e w21 ⟨rfl, hy21⟩; have hx21 : Ext wf w21 := hxr.trans hy21; clear hy21))
                  exact ⟨⟨xs ++ [z], by rw [List.length_append, hn]; exact hlx, by rw [List.length_append, hn]; rfl, by rw [HTa.out], by rw [Hid]; exact all_snoc HXd.out hz, by assumption⟩, by simp [intOf]; omega⟩
                · have hxe : xs.length = dy := by omega
                  have m0 := c0 wr hxr
                  have m1 := c1 wr hxr
                  have m2 := c2 wr hxr
                  have m3 := c3 wr hxr
                  have m4 := c4 wr hxr
                  have m6 := c5 wr hxr
                  have hlen := HD.out.len
                  have hrun := runOk_text HOk.out HD.out.val HXd.out (hxe.trans hlen.symm)
                  have hcs : csOk D (textOf xs) ((dy : Int) - 1) = true := by
                    unfold csOk
                    rw [hrun, inB_t.2 (by rw [textOf_size, hxe]; omega)]; rfl
                  have hct : (csT D (textOf xs) ((dy : Int) - 1)).size = 1 := by
                    unfold csT
                    rw [if_pos hcs, textOf_size, digC_text (fun d hd => by have := HXd.out d hd; omega), show ((dy : Int) - 1).toNat = dy - 1 by omega]
                    exact csL_one HD.out HXd.out hxe
                  have HCs := Lib.hid (fun W (h : Ext wf W) => impl_CheckSymbols D da dx dc db dy dd (textOf xs) ((dy : Int) - 1) W (HCf.out.ext h) (by omega) (by unfold In64; omega))
                  rw [hcs] at HCs
                  obtain ⟨S, hS⟩ := Int.eq_ofNat_of_zero_le (show 0 ≤ D.states by have := HOk.out.s1; omega)
                  obtain ⟨R, hR, _⟩ := HD.out.one
                  have HIc := Lib.hid (fun W (h : Ext wf W) => impl_Caught0 D da dx dc db dy dd S W (HCf.out.ext h) HD.out.val hS (sep_of HOk.out hlen hS hR))
                  generalize csT D (textOf xs) ((dy : Int) - 1) = tc at *
                  generalize textOf xs = tx at *
                  clear hS hR hcs hrun hlen
                  go_wp2_with (first | (go_at_call 24; (with_reducible refine (HCs.out _ (by repeat (first | (with_reducible exact Ext.refl _) | (with_reducible assumption) | (with_reducible refine Ext.drewN ?_ _) | (with_reducible refine Ext.drew ?_) | (with_reducible refine Ext.alloc ?_ _) | ((with_reducible refine Ext.setCell ?_ ?_ _); rotate_left; focus (first | (simp; done) | (simp; omega) | omega)) | (with_reducible refine Ext.trans ?_ (by with_reducible assumption))))).mono ?_); rintro e w22 ⟨rfl, hy22⟩; have hx22 : Ext wf w22 := Ext.trans (by repeat (first | (with_reducible exact Ext.refl _) | (with_reducible assumption) | (with_reducible refine Ext.drewN ?_ _) | (with_reducible refine Ext.drew ?_) | (with_reducible refine Ext.alloc ?_ _) | ((with_reducible refine Ext.setCell ?_ ?_ _); rotate_left; focus (first | (simp; done) | (simp; omega) | omega)) | (with_reducible refine Ext.trans ?_ (by with_reducible assumption)))) hy22; have o0 := c0 w22 hx22; have o1 := c1 w22 hx22; have o2 := c2 w22 hx22; have o3 := c3 w22 hx22; have o4 := c4 w22 hx22; have o5 := c5 w22 hx22; clear hy22) | (go_at_call 53; (with_reducible refine (HIc.out _ (by repeat (first | (with_reducible exact Ext.refl _) | (with_reducible assumption) | (with_reducible refine Ext.drewN ?_ _) | (with_reducible refine Ext.drew ?_) | (with_reducible refine Ext.alloc ?_ _) | ((with_reducible refine Ext.setCell ?_ ?_ _); rotate_left; focus (first | (simp; done) | (simp; omega) | omega)) | (with_reducible refine Ext.trans ?_ (by with_reducible assumption))))).mono ?_); rintro e w23 ⟨rfl, hy23⟩; have hx23 : Ext wf w23 := Ext.trans (by repeat (first | (with_reducible exact Ext.refl _) | (with_reducible assumption) | (with_reducible refine Ext.drewN ?_ _) | (with_reducible refine Ext.drew ?_) | (with_reducible refine Ext.alloc ?_ _) | ((with_reducible refine Ext.setCell ?_ ?_ _); rotate_left; focus (first | (simp; done) | (simp; omega) | omega)) | (with_reducible refine Ext.trans ?_ (by with_reducible assumption)))) hy23; clear hy23))
                  go_ret
                  exact ⟨rfl, hxwf.trans (by assumption)⟩
end Go.Proofs.Ytaiieodllhoelaa
