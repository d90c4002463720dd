/- The law on tolerances of patterns: what it wants of patterns, and its walk. -/
import Derived.Test.YtnmkckghfckgbaaTolP
import Derived.Test.YtnmkckghfckgbaaMeas2
import Derived.Test.YtnmkckghfckgbaaBcD
import Derived.Test.YtnmkckghfckgbaaR8a
namespace Go.Proofs.Ytnmkckghfckgbaa
set_option maxRecDepth 100000
open Go.RowKit

/-! ### plain -/
theorem scaleL_snoc (by' : Int) (x c : Int) : ∀ (p cs : List Int), p.length = cs.length → scaleL by' (p ++ [x]) (cs ++ [c]) = scaleL by' p cs ++ [by' * x + c]
  | [], [], _ => rfl
  | p :: ps, d :: cs, h => by simp only [List.cons_append, scaleL, scaleL_snoc by' x c ps cs (by simpa using h)]
  | [], _ :: _, h => by simp at h
  | _ :: _, [], h => by simp at h
theorem absL_snoc (cs : List Int) (c : Int) : absL (cs ++ [c]) = absL cs + max c (-c) := by simp [absL]
theorem apartL_comm : ∀ l r : List Int, apartL l r = apartL r l
  | [], [] => rfl
  | [], _ :: _ => by simp [apartL]
  | _ :: _, [] => by simp [apartL]
  | x :: xs, y :: ys => by rw [apartL, apartL, apartL_comm xs ys]; omega
theorem foldl_min_le : ∀ (l : List Int) (s : Int), l.foldl min s ≤ s ∧ ∀ x ∈ l, l.foldl min s ≤ x
  | [], s => ⟨by simp, fun x hx => by cases hx⟩
  | y :: ys, s => by
    obtain ⟨h1, h2⟩ := foldl_min_le ys (min s y)
    refine ⟨by simp only [List.foldl_cons]; omega, fun x hx => ?_⟩
    simp only [List.foldl_cons]
    rcases List.mem_cons.1 hx with rfl | hx
    · omega
    · exact h2 x hx
theorem foldl_min_pos : ∀ (l : List Int) (s : Int), 0 < s → (∀ x ∈ l, 0 < x) → 0 < l.foldl min s
  | [], s, h, _ => h
  | y :: ys, s, h, hl => foldl_min_pos ys (min s y) (by have := hl y (List.mem_cons_self ..); omega) (fun x hx => hl x (List.mem_cons_of_mem _ hx))
theorem prs_has {f : Nat → Nat → Int} {n a b : Nat} (ha : a < n) (hb : b < a) : f a b ∈ prs f n 0 := by
  unfold prs
  rw [List.mem_append]
  exact .inl (List.mem_flatMap.2 ⟨a, List.mem_range.2 ha, List.mem_map.2 ⟨b, List.mem_range.2 hb, rfl⟩⟩)
theorem elC_inj2 {c d : UInt8} (h : elC c = elC d) : c = d := by
  unfold elC at h
  exact UInt8.toNat_inj.1 (by omega)
theorem elsL_inj2 : ∀ {p q : List UInt8}, elsL p = elsL q → p = q
  | [], [], _ => rfl
  | [], _ :: _, h => by simp [elsL] at h
  | _ :: _, [], h => by simp [elsL] at h
  | c :: cs, d :: ds, h => by
    simp only [elsL, List.map_cons, List.cons.injEq] at h
    rw [elC_inj2 h.1, elsL_inj2 (p := cs) (q := ds) h.2]
def elD (D : Bc) (k : Nat) : List Int := elsL (gs D.pats k).data.toList
theorem elD_len {D : Bc} (h : OkBc D) {k : Nat} (hk : k < D.pats.length) : (elD D k).length = (gs D.pats 0).size := by rw [elD, elsL_len, size_eq, h.size k hk]
theorem elD_ne {D : Bc} (h : OkBc D) {i k : Nat} (hi : i < D.pats.length) (hk : k < D.pats.length) (hne : i ≠ k) : elD D i ≠ elD D k := fun he => by
  have h2 : gs D.pats i = gs D.pats k := ByteArray.ext (Array.toList_inj.1 (elsL_inj2 he))
  rcases Nat.lt_or_gt_of_ne hne with hlt | hlt
  · exact h.diff i k hlt hk h2
  · exact h.diff k i hlt hi h2.symm
theorem lpd_pos {D : Bc} (h : validBc D = true) (hn : 2 ≤ D.pats.length) : 0 < lpdRes D ∧ lpdRes D ≤ 80 ∧ ∀ i k, i < D.pats.length → k < D.pats.length → i ≠ k → lpdRes D ≤ apartL (elD D k) (elD D i) := by
  have hok := validBc_ok h
  have e : lpdRes D = minL (prs (distBc D) D.pats.length 0) := by rw [lpdRes, lpdOk, h, decide_eq_true hn]; rfl
  rw [e]
  obtain ⟨h1, h2⟩ := foldl_min_le (prs (distBc D) D.pats.length 0) far40
  have hall : ∀ i k, i < D.pats.length → k < D.pats.length → i ≠ k → minL (prs (distBc D) D.pats.length 0) ≤ apartL (elD D k) (elD D i) := fun i k hi hk hne => by
    rcases Nat.lt_or_gt_of_ne hne with hlt | hlt
    · exact h2 _ (prs_has hk hlt)
    · rw [apartL_comm]; exact h2 _ (prs_has hi hlt)
  refine ⟨foldl_min_pos _ _ (by decide) fun x hx => ?_, ?_, hall⟩
  · obtain ⟨a, b, ha, hb, rfl⟩ := prs_mem (n := D.pats.length) hx (.inr ⟨rfl, Nat.le_refl _⟩) (Nat.zero_le _)
    exact apartL_pos _ _ ((elD_len hok ha).trans (elD_len hok (Nat.lt_trans hb ha)).symm) (elD_ne hok ha (Nat.lt_trans hb ha) (by omega))
  · have h3 := hall 0 1 (by omega) (by omega) (by omega)
    have h4 := hok.dist (i := 1) (k := 0) (by omega) (by omega)
    unfold distBc at h4
    unfold elD at h3
    omega
/-- a pattern that is scaled and changed a little is measured as itself -/
theorem tol_meas {D : Bc} (h : validBc D = true) {k : Nat} (hk : k < D.pats.length) {by' : Int} (hb : 8 ≤ by') (hb2 : by' ≤ 47) {cs : List Int} (hl : cs.length = (gs D.pats 0).size) (hc : ∀ x ∈ cs, -3 ≤ x ∧ x ≤ 3)
    (hd : 2 ≤ D.pats.length → 4 * absL cs < by' * lpdRes D) : measOkB D (scaleL by' (elD D k) cs) idL = true ∧ measRes D (scaleL by' (elD D k) cs) idL = k := by
  have hok := validBc_ok h
  have hlk : (elD D k).length = cs.length := by rw [elD_len hok hk, hl]
  have hw1 : ∀ (p c : List Int), p.length = c.length → (∀ x ∈ p, 1 ≤ x ∧ x ≤ 4) → (∀ x ∈ c, -3 ≤ x ∧ x ≤ 3) → ∀ x ∈ scaleL by' p c, 1 ≤ x ∧ x ≤ 100000 := by
    intro p
    induction p with
    | nil => intro c _ _ _ x hx; simp [scaleL] at hx
    | cons y ys ih =>
      intro c hl hp hc x hx
      cases c with
      | nil => simp at hl
      | cons d ds =>
        rw [scaleL] at hx
        rcases List.mem_cons.1 hx with rfl | hx
        · have h1 := hp y (List.mem_cons_self ..)
          have h2 := hc d (List.mem_cons_self ..)
          have h3 : by' * 1 ≤ by' * y := Int.mul_le_mul_of_nonneg_left h1.1 (by omega)
          have h4 : by' * y ≤ by' * 4 := Int.mul_le_mul_of_nonneg_left h1.2 (by omega)
          omega
        · exact ih ds (by simpa using hl) (fun z hz => hp z (List.mem_cons_of_mem _ hz)) (fun z hz => hc z (List.mem_cons_of_mem _ hz)) x hx
  have hel : ∀ j, j < D.pats.length → ∀ x ∈ elD D j, 1 ≤ x ∧ x ≤ 4 := fun j hj => elsL_bd (hok.chars j hj)
  have hws := hw1 (elD D k) cs hlk (hel k hk) hc
  have hwl : (scaleL by' (elD D k) cs).length = (gs D.pats 0).size := by rw [scaleL_len _ _ _ hlk, elD_len hok hk]
  have hwB : widthsB D (scaleL by' (elD D k) cs) = true := by
    unfold widthsB
    simp only [Bool.and_eq_true, decide_eq_true_eq, List.all_eq_true, inB_t]
    exact ⟨by rw [hwl], hws⟩
  have hM := measOk hok rfl rfl hwl hws
  have hfar := far_bd hM idL (fun l r h1 h2 => by rw [idL, idL, h1, h2]) (fun x hx => by have := hws x hx; omega) (fun j hj x hx => by have := hel j hj x hx; omega) (by rw [idL, hwl]; have := hok.s10; omega)
  have hs : (elD D k).sum = (elD D 0).sum := hok.sum k hk
  have hs1 : 1 ≤ (elD D 0).sum := by
    have h0 := hel 0 (by omega)
    have h1 := elD_len hok (k := 0) (by omega)
    have h2 := hok.s1
    cases hq : elD D 0 with
    | nil => rw [hq] at h1; simp at h1; omega
    | cons y ys =>
      rw [hq] at h0
      have h3 := h0 y (List.mem_cons_self ..)
      have h4 := (sum_up (l := ys) (B := 4) (fun x hx => by have := h0 x (List.mem_cons_of_mem _ hx); omega)).1
      rw [List.sum_cons]; omega
  have hm := (mst_one (f := farI D (scaleL by' (elD D k) cs) idL) (k := k) (fun i => ?_) D.pats.length (fun i hi hik => ?_)).2 hk
  · have h3 : ((measS D (scaleL by' (elD D k) cs) idL).2.2 == 1) = true := by rw [measS, hm]; rfl
    obtain ⟨r1, r2⟩ := meas_yes h hwB h3
    exact ⟨r1, by rw [r2, measS, hm]⟩
  · unfold farI
    have : ∀ (m t : Int) (a b : List Int), 0 ≤ missL m t a b := by
      intro m t a
      induction a with
      | nil => intro b; simp [missL]
      | cons y ys ih => intro b; cases b with
        | nil => simp [missL]
        | cons z zs => have := ih zs; rw [missL]; omega
    exact this _ _ _ _
  · have h1 := lpd_pos h (by omega)
    have h2 := h1.2.2 i k hi hk hik
    have h3 : by' * lpdRes D ≤ by' * apartL (elD D k) (elD D i) := Int.mul_le_mul_of_nonneg_left h2 (by omega)
    have h4 := hd (by omega)
    exact miss_less (M := (elD D 0).sum) (q := elD D i) hs1 (by omega) hlk (by rw [elD_len hok hk, elD_len hok hi]) (fun x hx => by have := hel k hk x hx; omega) (fun x hx => by have := hel i hi x hx; omega) hs (hok.sum i hi) (by omega)

/-! ### the walk -/
set_option maxHeartbeats 400000 in
theorem laws_r8Abs (x : Int) (w : World) (h1 : -9223372036854775807 ≤ x) (h2 : x ≤ 9223372036854775807) :
    Calls Try.prog 22 #[.int .i64 x] w (Same (.int .i64 (max x (-x))) w) := by
  go_enter Try.func22, Try.ntmps22
  go_wp2
  all_goals (go_ret; exact ⟨ri (by omega), rfl⟩)
set_option maxHeartbeats 8000000 in
theorem lawTolerance (a : Option Addr) (n c : Nat) (l : List UInt8) (a' : Option Addr) (n' c' : Nat) (l' : List UInt8) (w : World) (hv : Bytes w a n c l) (hn : n ≤ 9223372036854775807) (hv' : Bytes w a' n' c' l') (hn' : n' ≤ 9223372036854775807) :
    Calls Try.prog 4 #[.slice a n c, .slice a' n' c'] w (Ret (.bool true) w) := by
  have HLong := Lib.hid (laws_r8Long a a' n c n' c' w hn hn')
  have HB := Lib.hid hv
  have HB' := Lib.hid hv'
  clear hv hv'
  by_cases hlong : 48 < n ∨ 48 < n'
  · rw [decide_eq_true hlong] at HLong
    clear hlong
    go_enter Try.func4, Try.ntmps4
    go_wp2_with (refine HLong.out.mono ?_; rintro e w1 ⟨rfl, rfl⟩)
    go_ret
    exact ⟨rfl, Ext.refl _⟩
  rw [decide_eq_false hlong] at HLong
  have hn48 : n ≤ 48 ∧ n' ≤ 48 := by omega
  clear hlong
  go_enter Try.func4, Try.ntmps4
  go_wp2_with (first | (go_at_call 19; refine HLong.out.mono ?_; rintro e w1 ⟨rfl, rfl⟩) | (go_at_call 20; refine (spec_R8Barcode a n c l w HB.out (by omega)).mono ?_; rintro e w1 ⟨D, ad, m, cc, rfl, hval, hm, hst, hx1⟩))
  have hok := validBc_ok hval
  have HOK := Lib.hid hok
  have HV := Lib.hid hval
  have HS := Lib.hid hst
  have hm1 : 1 ≤ m ∧ m ≤ 36 := by have h1 := hok.n1; have h2 := hok.n36; omega
  have hp10 : ∀ p ∈ D.pats, p.size ≤ 1048576 := fun p hp => by
    obtain ⟨i, hi, rfl⟩ := List.mem_iff_getElem.1 hp
    have h1 := hok.size i hi
    rw [gs_get hi] at h1
    have := hok.s10
    omega
  have hs10 := (patB_t hok.start).2.2.1
  have ht10 := (patB_t hok.stop).2.2.1
  have HLp := Lib.hid (fun W (h : Ext w1 W) => impl_Lpd D ad m cc W (HS.out.ext h) (by omega) (by omega) (by omega) hp10)
  have HMs := Lib.hid (fun b z d ws W (h : Ext w1 W) (hw : Ints W b z d ws) (hz : z ≤ 1048576) => impl_MeasurePattern D ad m cc b z d ws W (HS.out.ext h) (by omega) (by omega) (by omega) hp10 hw hz)
  obtain ⟨wb, hwb⟩ : ∃ wb, wb = w1.alloc (.cells #[.string D.start, .string D.stop, .slice ad m cc, .int .i64 D.gap] 28) := ⟨_, rfl⟩
  have HBx := Lib.hid (show BcAt wb w1.heap.size D ad m cc from by rw [hwb]; exact bc_box w1 D ad m cc _ HS.out)
  have hx1b : Ext w1 wb := by rw [hwb]; exact (by repeat (first | (with_reducible exact Ext.refl _) | (with_reducible refine Ext.drewN ?_ _) | (with_reducible refine Ext.drew ?_) | (with_reducible refine Ext.alloc ?_ _) | ((with_reducible refine Ext.setCell ?_ ?_ _); rotate_left; focus (first | (simp; done) | (simp; omega) | omega)) | assumption | (with_reducible refine Ext.trans ?_ (by assumption))))
  have hxwb : Ext w wb := hx1.trans hx1b
  rw [← hwb]
  obtain ⟨q, hq⟩ : ∃ q, q = w1.heap.size := ⟨_, rfl⟩
  rw [← hq] at HBx ⊢
  obtain ⟨k0, k1, k2, k3, hps⟩ := HBx.out
  obtain ⟨b0, o0, hix, hcell⟩ := hps.ix (P := Try.prog) 22 9 und_strings cell_string
  clear hwb hq hps HLong hok hval hst
  have hxbb : Ext wb wb := Ext.refl _
  have hz0 := r8_bd l' 0 m (by omega)
  have HR0 := Lib.hid (fun W (h : Ext w W) => laws_r8 a' n' c' l' 0 (m : Int) W (HB'.out.ext h) (by omega) (by omega) (by omega))
  generalize r8 l' 0 m = r0 at *
  obtain ⟨k, rfl⟩ := Int.eq_ofNat_of_zero_le hz0.1
  have hkm : k < m := by omega
  have hz1 := r8_bd l' 1 40 (by omega)
  have HR1 := Lib.hid (fun W (h : Ext w W) => laws_r8 a' n' c' l' 1 40 W (HB'.out.ext h) (by omega) (by omega) (by omega))
  generalize r8 l' 1 40 = r1 at *
  obtain ⟨P, hP⟩ : ∃ P, P = gs D.pats k := ⟨_, rfl⟩
  have hPs : P.size = (gs D.pats 0).size := by rw [hP]; exact HOK.out.size k (by omega)
  have hP10 : P.size ≤ 10 := by rw [hPs]; exact HOK.out.s10
  have HPc := Lib.hid (show charsB P.data.toList = true from by rw [hP]; exact HOK.out.chars k (by omega))
  have hcellP : ∀ w', Ext wb w' → w'.cell? ⟨b0, o0 + k, none⟩ = some (.string P) := fun w' h => by rw [hP]; exact hcell k w' hkm h
  have HEl := Lib.hid (show elsL P.data.toList = elD D k from by rw [hP]; rfl)
  have HTol := Lib.hid (fun (by' : Int) (h1 : 8 ≤ by') (h2 : by' ≤ 47) (cs : List Int) (h3 : cs.length = P.size) (h4 : ∀ x ∈ cs, -3 ≤ x ∧ x ≤ 3) (h5 : 2 ≤ m → 4 * absL cs < by' * lpdRes D) => tol_meas HV.out (k := k) (by omega) h1 h2 (by rw [h3, hPs]) h4 (by rw [hm]; exact h5))
  have HLO := Lib.hid (show lpdOk D = decide (2 ≤ m) from by rw [lpdOk, HV.out, hm]; rfl)
  have HLR := Lib.hid (show (2 ≤ m → 0 < lpdRes D) ∧ 0 ≤ lpdRes D ∧ lpdRes D ≤ 80 from by
    by_cases h2 : 2 ≤ m
    · have := lpd_pos HV.out (by omega); exact ⟨fun _ => this.1, by omega, this.2.1⟩
    · have : lpdRes D = 0 := by rw [lpdRes, HLO.out, decide_eq_false h2]; rfl
      exact ⟨fun h => absurd h h2, by omega, by omega⟩)
  rw [HLO.out] at HLp
  obtain ⟨hL1, hL0, hL80⟩ := HLR.out
  have HLp1 := Lib.hid hL1
  generalize lpdRes D = L at *
  obtain ⟨B, hB⟩ : ∃ B, 8 + r1 = B := ⟨_, rfl⟩
  have hB8 : 8 ≤ B ∧ B ≤ 47 := by omega
  have hBL : 0 ≤ B * L ∧ B * L ≤ 47 * 80 := ⟨Int.mul_nonneg (by omega) hL0, Int.mul_le_mul hB8.2 hL80 hL0 (by omega)⟩
  have HBL := Lib.hid (fun h2 : 2 ≤ m => Int.mul_pos (show 0 < B by omega) (HLp1.out h2))
  have hPsz : P.size ≤ 1048576 := by omega
  clear hP hm hs10 ht10 hp10 hL1 HS hcell hPs
  by_cases h2 : 2 ≤ m
  · have h2i : (1 : Int) < (m : Int) := by omega
    have hd2 : decide (2 ≤ m) = true := decide_eq_true h2
    rw [hd2] at HLp
    clear hd2
    go_wp2_with (first | (go_at_call 21; first | ((with_reducible refine (HR0.out _ (by repeat (first | (with_reducible exact Ext.refl _) | (with_reducible assumption) | (with_reducible refine Ext.drewN ?_ _) | (with_reducible refine Ext.drew ?_) | (with_reducible refine Ext.alloc ?_ _) | ((with_reducible refine Ext.setCell ?_ ?_ _); rotate_left; focus (first | (simp; done) | (simp; omega) | omega)) | (with_reducible refine Ext.trans ?_ (by with_reducible assumption))))).mono ?_); rintro e w2 ⟨rfl, rfl⟩) | ((with_reducible refine (HR1.out _ (by repeat (first | (with_reducible exact Ext.refl _) | (with_reducible assumption) | (with_reducible refine Ext.drewN ?_ _) | (with_reducible refine Ext.drew ?_) | (with_reducible refine Ext.alloc ?_ _) | ((with_reducible refine Ext.setCell ?_ ?_ _); rotate_left; focus (first | (simp; done) | (simp; omega) | omega)) | (with_reducible refine Ext.trans ?_ (by with_reducible assumption))))).mono ?_); rintro e w2 ⟨rfl, rfl⟩)) | (go_at_call 17; (with_reducible refine (HLp.out _ (by repeat (first | (with_reducible exact Ext.refl _) | (with_reducible assumption) | (with_reducible refine Ext.drewN ?_ _) | (with_reducible refine Ext.drew ?_) | (with_reducible refine Ext.alloc ?_ _) | ((with_reducible refine Ext.setCell ?_ ?_ _); rotate_left; focus (first | (simp; done) | (simp; omega) | omega)) | (with_reducible refine Ext.trans ?_ (by with_reducible assumption))))).mono ?_); rintro e w3 ⟨rfl, hy3⟩; have hxb3 : Ext wb w3 := Ext.trans (by repeat (first | (with_reducible exact Ext.refl _) | (with_reducible assumption) | (with_reducible refine Ext.drewN ?_ _) | (with_reducible refine Ext.drew ?_) | (with_reducible refine Ext.alloc ?_ _) | ((with_reducible refine Ext.setCell ?_ ?_ _); rotate_left; focus (first | (simp; done) | (simp; omega) | omega)) | (with_reducible refine Ext.trans ?_ (by with_reducible assumption)))) hy3; clear hy3))
    clear h2i
    try simp only [decide_eq_true (show (1 : Int) < (m : Int) by omega), Bool.not_true, bne_self_eq_false]
    go_loopw [10, 11, 12, 13] (fun v10 v11 v12 _ wr => ∃ (i : Nat) (ch : Int) (cs : List Int) (ax : Option Addr) (cx : Nat), i ≤ P.size ∧ v10 = .slice ax i cx ∧ v11 = .int .i64 ch ∧ v12 = .int .i64 i ∧ 0 ≤ ch ∧ ch ≤ 3 * (i : Int) ∧ Hid (ch = absL cs) ∧ Hid (cs.length = i) ∧ Hid (∀ x ∈ cs, -3 ≤ x ∧ x ≤ 3) ∧ Hid (2 ≤ m → 4 * ch < B * L) ∧ Hid (Own wr wb.heap.size 2 ax i cx (I (scaleL B (elsL (P.data.toList.take i)) cs))) ∧ Ext wb wr) (fun _ _ v12 _ _ => P.size - (intOf v12).toNat)
    case atStart => exact ⟨0, 0, [], _, _, Nat.zero_le _, rfl, rfl, rfl, by omega, by omega, rfl, rfl, (fun x hx => by cases hx), (fun h => by have := HBL.out h; omega), (Own.lit0 _ _).mono hxb3.le, hxb3.trans ((Ext.refl _).alloc _)⟩
    case round =>
      obtain ⟨i, ch, cs, ax, cx, hi, rfl, rfl, rfl, hc0, hc1, HCh, HCl, HCb, HLt, HO, hx⟩ := hrel
      have hxr : Ext wb wr := hx
      have hxwr : Ext w wr := hxwb.trans hx
      clear hx
      by_cases hlt : i < P.size
      · have hg : goodC P[i] = true := by
          have h1 := HPc.out
          unfold charsB at h1
          exact List.all_eq_true.1 h1 _ (by rw [byte_at _ _ hlt]; exact getD_mem _ _ _ (by simpa using hlt))
        have hb := goodC_bd hg
        have HN := Lib.hid (elsL_snoc P i hlt)
        obtain ⟨x, hxe⟩ : ∃ x : Int, x = (P[i].toNat : Int) - 48 := ⟨_, rfl⟩
        have hx4 : 1 ≤ x ∧ x ≤ 4 := by omega
        have HX := Lib.hid (show elC P[i] = x from by rw [hxe]; rfl)
        have hw8 : IntKind.u8.wrap ((P[i].toNat : Int) - 48) = x := by rw [u8_sub48 hb.1, hxe]
        have hBx : 0 ≤ B * x ∧ B * x ≤ 47 * 4 := ⟨Int.mul_nonneg (by omega) (by omega), Int.mul_le_mul hB8.2 hx4.2 (by omega) (by omega)⟩
        clear hxe hg
        have hz2 := r8_bd l' ((i : Int) + 2) 7 (by omega)
        have HR2 := Lib.hid (fun W (h : Ext w W) => laws_r8 a' n' c' l' ((i : Int) + 2) 7 W (HB'.out.ext h) (by omega) (by omega) (by omega))
        generalize r8 l' ((i : Int) + 2) 7 = r2 at *
        obtain ⟨y, hy⟩ : ∃ y, y = max (r2 - 3) (-(r2 - 3)) := ⟨_, rfl⟩
        have hyb : 0 ≤ y ∧ y ≤ 3 := by omega
        have HAb := Lib.hid (fun W => show Calls Try.prog 22 #[.int .i64 (r2 - 3)] W (Same (.int .i64 y) W) from by rw [hy]; exact laws_r8Abs (r2 - 3) W (by omega) (by omega))
        have HAz := Lib.hid (fun W => show Calls Try.prog 22 #[.int .i64 0] W (Same (.int .i64 0) W) from laws_r8Abs 0 W (by omega) (by omega))
        have HY := Lib.hid hy
        have hh48 : (i : Int) ≤ 10 := by omega
        have HSn := Lib.hid (fun c => scaleL_snoc B x c (elsL (P.data.toList.take i)) cs (by rw [elsL_len, List.length_take, HCl.out]; simp; omega))
        clear hy
        by_cases hbig : B * L ≤ 4 * (ch + y)
        · go_wp2_with (first | (go_at_call 21; (with_reducible refine (HR2.out _ (by repeat (first | (with_reducible exact Ext.refl _) | (with_reducible assumption) | (with_reducible refine Ext.drewN ?_ _) | (with_reducible refine Ext.drew ?_) | (with_reducible refine Ext.alloc ?_ _) | ((with_reducible refine Ext.setCell ?_ ?_ _); rotate_left; focus (first | (simp; done) | (simp; omega) | omega)) | (with_reducible refine Ext.trans ?_ (by with_reducible assumption))))).mono ?_); rintro e w2 ⟨rfl, rfl⟩) | (go_at_call 22; first | ((with_reducible refine (HAb.out _).mono ?_); rintro e w4 ⟨rfl, rfl⟩) | ((with_reducible refine (HAz.out _).mono ?_); rintro e w4 ⟨rfl, rfl⟩)) | (at_builtin; refine law_append1 _ rfl _ _ 36 rfl 2 (.int .i64 0) 8 und_int64s info_int64 rfl wb.heap.size ax i cx _ _ rfl rfl rfl HO.out hxr.le (by omega) (by omega) ?_; intro ax' cx' w9 ho9 hb9 _; have hxb9 : Ext wb w9 := Ext.below hxr hb9))
          refine ⟨⟨i + 1, ch, cs ++ [0], ax', cx', by omega, rfl, by simp, by go_num, by omega, by omega, by rw [Hid, absL_snoc, ← HCh.out]; simp, by rw [Hid, List.length_append, HCl.out, List.length_singleton], by rw [Hid]; exact all_snocB HCb.out (by omega), HLt, ?_, hxb9⟩, by simp [intOf]; omega⟩
          rw [Hid, HN.out, HX.out, HSn.out, I_append, Int.add_zero]
          exact ho9
        · have hsm : 4 * (ch + y) < B * L := by omega
          clear hbig
          go_wp2_with (first | (go_at_call 21; (with_reducible refine (HR2.out _ (by repeat (first | (with_reducible exact Ext.refl _) | (with_reducible assumption) | (with_reducible refine Ext.drewN ?_ _) | (with_reducible refine Ext.drew ?_) | (with_reducible refine Ext.alloc ?_ _) | ((with_reducible refine Ext.setCell ?_ ?_ _); rotate_left; focus (first | (simp; done) | (simp; omega) | omega)) | (with_reducible refine Ext.trans ?_ (by with_reducible assumption))))).mono ?_); rintro e w2 ⟨rfl, rfl⟩) | (go_at_call 22; first | ((with_reducible refine (HAb.out _).mono ?_); rintro e w4 ⟨rfl, rfl⟩) | ((with_reducible refine (HAz.out _).mono ?_); rintro e w4 ⟨rfl, rfl⟩)) | (at_builtin; refine law_append1 _ rfl _ _ 36 rfl 2 (.int .i64 0) 8 und_int64s info_int64 rfl wb.heap.size ax i cx _ _ rfl rfl rfl HO.out hxr.le (by omega) (by omega) ?_; intro ax' cx' w9 ho9 hb9 _; have hxb9 : Ext wb w9 := Ext.below hxr hb9))
          refine ⟨⟨i + 1, ch + y, cs ++ [r2 - 3], ax', cx', by omega, rfl, rfl, by go_num, by omega, by omega, by rw [Hid, absL_snoc, ← HCh.out, ← HY.out], by rw [Hid, List.length_append, HCl.out, List.length_singleton], by rw [Hid]; exact all_snocB HCb.out (by omega), (fun _ => hsm), ?_, hxb9⟩, by simp [intOf]; omega⟩
          rw [Hid, HN.out, HX.out, HSn.out, I_append]
          exact ho9
      · obtain rfl : i = P.size := by omega
        have HW := HO.out.ints
        rw [take_full (by simp), HEl.out] at HW
        obtain ⟨t1, t2⟩ := HTol.out B hB8.1 hB8.2 cs HCl.out HCb.out (fun h => by rw [← HCh.out]; exact HLt.out h)
        have HM := Lib.hid (HMs.out ax P.size cx _ wr (hx1b.trans hxr) HW (by omega))
        rw [t1, t2] at HM
        clear t1 t2 HW
        go_wp2_with (go_at_call 23; (with_reducible refine HM.out.mono ?_); rintro e w5 ⟨rfl, hy5⟩)
        go_ret
        exact ⟨rfl, hxwr.trans hy5⟩
  · have h2i : ¬ (1 : Int) < (m : Int) := by omega
    have hd2 : decide (2 ≤ m) = false := decide_eq_false h2
    rw [hd2] at HLp
    clear hd2
    go_wp2_with (first | (go_at_call 21; first | ((with_reducible refine (HR0.out _ (by repeat (first | (with_reducible exact Ext.refl _) | (with_reducible assumption) | (with_reducible refine Ext.drewN ?_ _) | (with_reducible refine Ext.drew ?_) | (with_reducible refine Ext.alloc ?_ _) | ((with_reducible refine Ext.setCell ?_ ?_ _); rotate_left; focus (first | (simp; done) | (simp; omega) | omega)) | (with_reducible refine Ext.trans ?_ (by with_reducible assumption))))).mono ?_); rintro e w2 ⟨rfl, rfl⟩) | ((with_reducible refine (HR1.out _ (by repeat (first | (with_reducible exact Ext.refl _) | (with_reducible assumption) | (with_reducible refine Ext.drewN ?_ _) | (with_reducible refine Ext.drew ?_) | (with_reducible refine Ext.alloc ?_ _) | ((with_reducible refine Ext.setCell ?_ ?_ _); rotate_left; focus (first | (simp; done) | (simp; omega) | omega)) | (with_reducible refine Ext.trans ?_ (by with_reducible assumption))))).mono ?_); rintro e w2 ⟨rfl, rfl⟩)) | (go_at_call 17; (with_reducible refine (HLp.out _ (by repeat (first | (with_reducible exact Ext.refl _) | (with_reducible assumption) | (with_reducible refine Ext.drewN ?_ _) | (with_reducible refine Ext.drew ?_) | (with_reducible refine Ext.alloc ?_ _) | ((with_reducible refine Ext.setCell ?_ ?_ _); rotate_left; focus (first | (simp; done) | (simp; omega) | omega)) | (with_reducible refine Ext.trans ?_ (by with_reducible assumption))))).mono ?_); rintro e w3 ⟨rfl, hy3⟩; have hxb3 : Ext wb w3 := Ext.trans (by repeat (first | (with_reducible exact Ext.refl _) | (with_reducible assumption) | (with_reducible refine Ext.drewN ?_ _) | (with_reducible refine Ext.drew ?_) | (with_reducible refine Ext.alloc ?_ _) | ((with_reducible refine Ext.setCell ?_ ?_ _); rotate_left; focus (first | (simp; done) | (simp; omega) | omega)) | (with_reducible refine Ext.trans ?_ (by with_reducible assumption)))) hy3; clear hy3))
    clear h2i
    try simp only [decide_eq_true (show (1 : Int) < (m : Int) by omega), Bool.not_true, bne_self_eq_false]
    go_loopw [10, 11, 12, 13] (fun v10 v11 v12 _ wr => ∃ (i : Nat) (ch : Int) (cs : List Int) (ax : Option Addr) (cx : Nat), i ≤ P.size ∧ v10 = .slice ax i cx ∧ v11 = .int .i64 ch ∧ v12 = .int .i64 i ∧ 0 ≤ ch ∧ ch ≤ 3 * (i : Int) ∧ Hid (ch = absL cs) ∧ Hid (cs.length = i) ∧ Hid (∀ x ∈ cs, -3 ≤ x ∧ x ≤ 3) ∧ Hid (2 ≤ m → 4 * ch < B * L) ∧ Hid (Own wr wb.heap.size 2 ax i cx (I (scaleL B (elsL (P.data.toList.take i)) cs))) ∧ Ext wb wr) (fun _ _ v12 _ _ => P.size - (intOf v12).toNat)
    case atStart => exact ⟨0, 0, [], _, _, Nat.zero_le _, rfl, rfl, rfl, by omega, by omega, rfl, rfl, (fun x hx => by cases hx), (fun h => by have := HBL.out h; omega), (Own.lit0 _ _).mono hxb3.le, hxb3.trans ((Ext.refl _).alloc _)⟩
    case round =>
      obtain ⟨i, ch, cs, ax, cx, hi, rfl, rfl, rfl, hc0, hc1, HCh, HCl, HCb, HLt, HO, hx⟩ := hrel
      have hxr : Ext wb wr := hx
      have hxwr : Ext w wr := hxwb.trans hx
      clear hx
      by_cases hlt : i < P.size
      · have hg : goodC P[i] = true := by
          have h1 := HPc.out
          unfold charsB at h1
          exact List.all_eq_true.1 h1 _ (by rw [byte_at _ _ hlt]; exact getD_mem _ _ _ (by simpa using hlt))
        have hb := goodC_bd hg
        have HN := Lib.hid (elsL_snoc P i hlt)
        obtain ⟨x, hxe⟩ : ∃ x : Int, x = (P[i].toNat : Int) - 48 := ⟨_, rfl⟩
        have hx4 : 1 ≤ x ∧ x ≤ 4 := by omega
        have HX := Lib.hid (show elC P[i] = x from by rw [hxe]; rfl)
        have hw8 : IntKind.u8.wrap ((P[i].toNat : Int) - 48) = x := by rw [u8_sub48 hb.1, hxe]
        have hBx : 0 ≤ B * x ∧ B * x ≤ 47 * 4 := ⟨Int.mul_nonneg (by omega) (by omega), Int.mul_le_mul hB8.2 hx4.2 (by omega) (by omega)⟩
        clear hxe hg
        have hz2 := r8_bd l' ((i : Int) + 2) 7 (by omega)
        have HR2 := Lib.hid (fun W (h : Ext w W) => laws_r8 a' n' c' l' ((i : Int) + 2) 7 W (HB'.out.ext h) (by omega) (by omega) (by omega))
        generalize r8 l' ((i : Int) + 2) 7 = r2 at *
        obtain ⟨y, hy⟩ : ∃ y, y = max (r2 - 3) (-(r2 - 3)) := ⟨_, rfl⟩
        have hyb : 0 ≤ y ∧ y ≤ 3 := by omega
        have HAb := Lib.hid (fun W => show Calls Try.prog 22 #[.int .i64 (r2 - 3)] W (Same (.int .i64 y) W) from by rw [hy]; exact laws_r8Abs (r2 - 3) W (by omega) (by omega))
        have HAz := Lib.hid (fun W => show Calls Try.prog 22 #[.int .i64 0] W (Same (.int .i64 0) W) from laws_r8Abs 0 W (by omega) (by omega))
        have HY := Lib.hid hy
        have hh48 : (i : Int) ≤ 10 := by omega
        have HSn := Lib.hid (fun c => scaleL_snoc B x c (elsL (P.data.toList.take i)) cs (by rw [elsL_len, List.length_take, HCl.out]; simp; omega))
        clear hy
        go_wp2_with (first | (go_at_call 21; (with_reducible refine (HR2.out _ (by repeat (first | (with_reducible exact Ext.refl _) | (with_reducible assumption) | (with_reducible refine Ext.drewN ?_ _) | (with_reducible refine Ext.drew ?_) | (with_reducible refine Ext.alloc ?_ _) | ((with_reducible refine Ext.setCell ?_ ?_ _); rotate_left; focus (first | (simp; done) | (simp; omega) | omega)) | (with_reducible refine Ext.trans ?_ (by with_reducible assumption))))).mono ?_); rintro e w2 ⟨rfl, rfl⟩) | (go_at_call 22; first | ((with_reducible refine (HAb.out _).mono ?_); rintro e w4 ⟨rfl, rfl⟩) | ((with_reducible refine (HAz.out _).mono ?_); rintro e w4 ⟨rfl, rfl⟩)) | (at_builtin; refine law_append1 _ rfl _ _ 36 rfl 2 (.int .i64 0) 8 und_int64s info_int64 rfl wb.heap.size ax i cx _ _ rfl rfl rfl HO.out hxr.le (by omega) (by omega) ?_; intro ax' cx' w9 ho9 hb9 _; have hxb9 : Ext wb w9 := Ext.below hxr hb9))
        refine ⟨⟨i + 1, ch + y, cs ++ [r2 - 3], ax', cx', by omega, rfl, rfl, by go_num, by omega, by omega, by rw [Hid, absL_snoc, ← HCh.out, ← HY.out], by rw [Hid, List.length_append, HCl.out, List.length_singleton], by rw [Hid]; exact all_snocB HCb.out (by omega), (fun h => absurd h h2), ?_, hxb9⟩, by simp [intOf]; omega⟩
        rw [Hid, HN.out, HX.out, HSn.out, I_append]
        exact ho9
      · obtain rfl : i = P.size := by omega
        have HW := HO.out.ints
        rw [take_full (by simp), HEl.out] at HW
        obtain ⟨t1, t2⟩ := HTol.out B hB8.1 hB8.2 cs HCl.out HCb.out (fun h => by rw [← HCh.out]; exact HLt.out h)
        have HM := Lib.hid (HMs.out ax P.size cx _ wr (hx1b.trans hxr) HW (by omega))
        rw [t1, t2] at HM
        clear t1 t2 HW
        go_wp2_with (go_at_call 23; (with_reducible refine HM.out.mono ?_); rintro e w5 ⟨rfl, hy5⟩)
        go_ret
        exact ⟨rfl, hxwr.trans hy5⟩
end Go.Proofs.Ytnmkckghfckgbaa
