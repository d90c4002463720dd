/- Walks: registries: LeastApart, on both sides. -/
import Derived.Test.YtdekplfjnkbidaaRgG
namespace Go.Proofs.Ytdekplfjnkbidaa
set_option maxRecDepth 100000
open Go.RowKit

theorem cost_max : ∀ (n : Nat) (a b : List UInt8), a.length + b.length ≤ n → costS a b ≤ max a.length b.length
  | _, [], b, _ => by rw [cost_nil]; simp
  | _, a, [], _ => by rw [cost_nil']; simp
  | 0, x :: xs, y :: ys, h => by simp at h
  | n + 1, x :: xs, y :: ys, h => by
    simp only [List.length_cons] at h
    have := cost_max n xs ys (by omega)
    rw [cost_cons]
    simp only [List.length_cons]
    split <;> omega
theorem dist_max (a b : ByteArray) : distS a b ≤ max a.size b.size := by
  have := cost_max _ a.data.toList b.data.toList (Nat.le_refl _)
  rw [ba_len, ba_len] at this
  exact this
def dL (D : Rg) (i j : Nat) : Int := distS (gs D.issued i) (gs D.issued j)
/-- all distances that come before words i and j -/
def distL (D : Rg) (i j : Nat) : List Int := ((List.range i).flatMap fun a => (List.range a).map (dL D a)) ++ (List.range j).map (dL D i)
theorem distL_succ (D : Rg) (i j : Nat) : distL D i (j + 1) = distL D i j ++ [dL D i j] := by
  unfold distL; rw [List.range_succ, List.map_append, List.append_assoc]; rfl
theorem distL_next (D : Rg) (i : Nat) : distL D (i + 1) 0 = distL D i i := by
  unfold distL; rw [List.range_succ, List.flatMap_append]; simp
def minL (s : Int) (l : List Int) : Int := l.foldl min s
theorem minL_snoc (s : Int) (l : List Int) (x : Int) : minL s (l ++ [x]) = min (minL s l) x := by simp [minL]
theorem minL_start : ∀ (l : List Int) (s t x : Int), x ∈ l → x ≤ s → x ≤ t → minL s l = minL t l
  | [], _, _, _, h, _, _ => by cases h
  | y :: ys, s, t, x, h, h1, h2 => by
    show minL (min s y) ys = minL (min t y) ys
    by_cases e : y ≤ x
    · rw [show min s y = y by omega, show min t y = y by omega]
    · rcases List.mem_cons.1 h with rfl | h
      · omega
      · exact minL_start ys _ _ x h (by omega) (by omega)
def laOk (D : Rg) : Bool := validRg D && decide (2 ≤ D.issued.length)
def laRes (D : Rg) : Int := if laOk D then minL 1099511627776 (distL D D.issued.length 0) else 0
theorem la_no {D : Rg} (h : laOk D = false) : laRes D = 0 := by rw [laRes, h]; rfl
theorem la_yes {D : Rg} (h : laOk D = true) : laRes D = minL 1099511627776 (distL D D.issued.length 0) := by rw [laRes, h]; rfl
theorem la_yes' {D : Rg} (h : laOk D = true) : laRes D = minL 20 (distL D D.issued.length 0) := by
  rw [la_yes h]
  unfold laOk at h
  simp only [Bool.and_eq_true, decide_eq_true_eq] at h
  have hok := validRg_ok h.1
  have h1 := hok.s20 0 (by omega)
  have h2 := hok.s20 1 (by omega)
  have h3 := dist_max (gs D.issued 1) (gs D.issued 0)
  have h4 : dL D 1 0 ≤ 20 := by unfold dL; omega
  refine minL_start _ _ _ (dL D 1 0) ?_ (by omega) h4
  unfold distL
  refine List.mem_append_left _ (List.mem_flatMap.2 ⟨1, List.mem_range.2 (by omega), List.mem_map.2 ⟨0, List.mem_range.2 (by omega), rfl⟩⟩)
set_option maxHeartbeats 2000000 in
theorem impl_LeastApart (D : Rg) (a : Option Addr) (n c : Nat) (b : Option Addr) (m d : Nat) (ia : Option Addr) (im ic : Nat) (ra : Option Addr) (rm rc : Nat) (w : World) (hv : RgIn w D a n c b m d ia im ic ra rm rc) : Calls Try.prog 21 #[.agg #[.int .i64 D.ch.base, .int .i64 D.ch.states, .int .i64 D.ch.start, .int .i64 D.ch.fin, .slice a n c, .slice b m d, .int .i64 D.apart, .slice ia im ic, .slice ra rm rc]] w (Ret2 (.int .i64 (laRes D)) (.bool (laOk D)) w) := by
  have HB := Lib.hid (hv.box 33)
  have HN := Lib.hid hv
  have HVal := Lib.hid (fun W h => impl_ValidRegistry D a n c b m d ia im ic ra rm rc W (RgIn.ext hv h))
  have him := hv.hi
  have HL := Lib.hid hv.is.len
  obtain ⟨bi, oi, hix, hcell⟩ := hv.is.ix (P := Try.prog) 26 9 und_strs cell_str
  clear hv
  cases hval : validRg D
  · rw [hval] at HVal
    have HO := Lib.hid (show laOk D = false by rw [laOk, hval]; rfl)
    have HR := Lib.hid (la_no HO.out)
    clear hval
    go_enter Try.func21, Try.ntmps21
    go_wp2_with (refine (HVal.out _ ((Ext.refl w).alloc _)).mono ?_; rintro e w1 ⟨rfl, hx1⟩)
    go_ret2
    exact ⟨by rw [HR.out, HO.out]; rfl, ((Ext.refl w).alloc _).trans hx1⟩
  rw [hval] at HVal
  have hok := validRg_ok hval
  have HS := Lib.hid (show laOk D = decide (2 ≤ im) by rw [laOk, hval, HL.out]; rfl)
  have Hhok := Lib.hid hok; clear hok; have Hhval := Lib.hid hval; clear hval
  by_cases h2 : 2 ≤ im
  rotate_left
  · have HO := Lib.hid (show laOk D = false by rw [HS.out]; simpa using h2)
    have HR := Lib.hid (la_no HO.out)
    go_enter Try.func21, Try.ntmps21
    go_wp2_with fail
    obtain ⟨wb, hwb⟩ : ∃ wb, wb = w.alloc (.cells #[.int .i64 D.ch.base, .int .i64 D.ch.states, .int .i64 D.ch.start, .int .i64 D.ch.fin, .slice a n c, .slice b m d, .int .i64 D.apart, .slice ia im ic, .slice ra rm rc] 33) := ⟨_, rfl⟩
    have hxb : Ext w wb := by rw [hwb]; exact (by repeat (first | (with_reducible exact Ext.refl _) | (with_reducible refine Ext.drewN ?_ _) | (with_reducible refine Ext.drew ?_) | (with_reducible refine Ext.alloc ?_ _) | ((with_reducible refine Ext.setCell ?_ ?_ _); rotate_left; focus (first | (simp; done) | (simp; omega) | omega)) | assumption | (with_reducible refine Ext.trans ?_ (by assumption))))
    rw [← hwb] at HB ⊢
    generalize w.heap.size = q at *
    clear hwb
    obtain ⟨_, k6, k7, k8, _, _⟩ := HB.out
    refine (HVal.out _ hxb).mono ?_
    rintro e w1 ⟨rfl, hx1⟩
    have hx1' : Ext wb w1 := hx1
    go_wp2
    go_ret2
    exact ⟨by rw [HR.out, HO.out]; rfl, hxb.trans hx1⟩
  have HO := Lib.hid (show laOk D = true by rw [HS.out]; simpa using h2)
  have HR := Lib.hid (la_yes HO.out)
  rw [HL.out] at HR
  go_enter Try.func21, Try.ntmps21
  go_wp2_with fail
  obtain ⟨wb, hwb⟩ : ∃ wb, wb = w.alloc (.cells #[.int .i64 D.ch.base, .int .i64 D.ch.states, .int .i64 D.ch.start, .int .i64 D.ch.fin, .slice a n c, .slice b m d, .int .i64 D.apart, .slice ia im ic, .slice ra rm rc] 33) := ⟨_, rfl⟩
  have hxb : Ext w wb := by rw [hwb]; exact (by repeat (first | (with_reducible exact Ext.refl _) | (with_reducible refine Ext.drewN ?_ _) | (with_reducible refine Ext.drew ?_) | (with_reducible refine Ext.alloc ?_ _) | ((with_reducible refine Ext.setCell ?_ ?_ _); rotate_left; focus (first | (simp; done) | (simp; omega) | omega)) | assumption | (with_reducible refine Ext.trans ?_ (by assumption))))
  rw [← hwb] at HB ⊢
  generalize w.heap.size = q at *
  clear hwb
  obtain ⟨_, k6, k7, k8, _, _⟩ := HB.out
  refine (HVal.out _ hxb).mono ?_
  rintro e w1 ⟨rfl, hx1⟩
  have hx1' : Ext wb w1 := hx1
  go_wp2
  go_loopw [4, 5, 6, 8, 21] (fun v _ _ _ i wr => ∃ k : Nat, k ≤ im ∧ i = .int .i64 k ∧ v = .int .i64 (minL 1099511627776 (distL D k 0)) ∧ Ext wb wr) (fun _ _ _ _ i _ => im - (intOf i).toNat)
  case atStart => exact ⟨0, Nat.zero_le _, rfl, rfl, hx1⟩
  case round =>
    obtain ⟨k, hk, rfl, rfl, hx⟩ := hrel
    have hxr : Ext wb wr := hx
    have hxq : Ext w wr := hxb.trans hx
    by_cases hlt : k < im
    · obtain ⟨a9, hsl, hpre⟩ := HN.out.is.pre (P := Try.prog) 26 9 und_strs cell_str elem_strs k hk
      have HPre := Lib.hid hpre
      have HGs := Lib.hid (fun j (hj : j < k) => show gs (D.issued.take k) j = gs D.issued j by simp [gs, List.getD_eq_getElem?_getD, List.getElem?_take_of_lt hj])
      obtain ⟨b9, o9, hix9, hcell9⟩ := hpre.ix (P := Try.prog) 26 9 und_strs cell_str
      clear hpre
      obtain ⟨mz, hmz⟩ : ∃ z, z = minL 1099511627776 (distL D k 0) := ⟨_, rfl⟩
      rw [← hmz]
      have Hmz := Lib.hid hmz
      clear hmz
      go_wp2
      go_loopw [4, 8, 31] (fun v _ i wr => ∃ j : Nat, j ≤ k ∧ i = .int .i64 j ∧ v = .int .i64 (minL 1099511627776 (distL D k j)) ∧ Ext wb wr) (fun _ _ i _ => k - (intOf i).toNat)
      case atStart => exact ⟨0, Nat.zero_le _, rfl, by rw [Hmz.out], hx⟩
      case round =>
        obtain ⟨j, hj, rfl, rfl, hx⟩ := hrel
        have hxr : Ext wb wr := hx
        have hxq : Ext w wr := hxb.trans hx
        by_cases hlt2 : j < k
        · have hji : j < im := by omega
          have hs1 := Hhok.out.s20 k (by rw [HL.out]; exact hlt)
          have hs2 := Hhok.out.s20 j (by rw [HL.out]; omega)
          have HD := Lib.hid (fun W => impl_distance (gs D.issued k) (gs D.issued j) W (by omega) (by omega))
          have HM := Lib.hid (show minL 1099511627776 (distL D k (j + 1)) = min (minL 1099511627776 (distL D k j)) (distS (gs D.issued k) (gs D.issued j)) by rw [distL_succ, minL_snoc]; rfl)
          have hg := HGs.out j hlt2
          have hc9 := hcell9 j
          rw [hg] at hc9
          clear hcell9 hg
          generalize minL 1099511627776 (distL D k j) = mz at *
          go_wp2_with ((with_reducible refine (HD.out _).mono ?_); rintro e w2 ⟨rfl, hx2⟩)
          exact ⟨⟨j + 1, by omega, by go_num, by rw [HM.out]; congr 1; split <;> omega, hx.trans hx2⟩, by simp [intOf]; omega⟩
        · obtain rfl : j = k := by omega
          have HM := Lib.hid (distL_next D j)
          go_wp2
          exact ⟨⟨j + 1, by omega, by go_num, by rw [HM.out], hx⟩, by simp [intOf]; omega⟩
    · obtain rfl : k = im := by omega
      go_wp2
      go_ret2
      exact ⟨by rw [HR.out, HO.out]; rfl, hxq⟩
set_option maxHeartbeats 2000000 in
theorem spec_LeastApart (D : Rg) (a : Option Addr) (n c : Nat) (b : Option Addr) (m d : Nat) (ia : Option Addr) (im ic : Nat) (ra : Option Addr) (rm rc : Nat) (w : World) (hv : RgIn w D a n c b m d ia im ic ra rm rc) : Calls Try.prog 20 #[.agg #[.int .i64 D.ch.base, .int .i64 D.ch.states, .int .i64 D.ch.start, .int .i64 D.ch.fin, .slice a n c, .slice b m d, .int .i64 D.apart, .slice ia im ic, .slice ra rm rc]] w (Ret2 (.int .i64 (laRes D)) (.bool (laOk D)) w) := by
  have HB := Lib.hid (hv.box 33)
  have HN := Lib.hid hv
  have him := hv.hi
  have HL := Lib.hid hv.is.len
  obtain ⟨bi, oi, hix, hcell⟩ := hv.is.ix (P := Try.prog) 26 9 und_strs cell_str
  clear hv
  cases hval : validRg D
  · have HVal := Lib.hid (spec_l10Is D _ a n c b m d ia im ic ra rm rc _ HB.out (HN.out.ext ((Ext.refl w).alloc _)))
    rw [hval] at HVal
    have HO := Lib.hid (show laOk D = false by rw [laOk, hval]; rfl)
    have HR := Lib.hid (la_no HO.out)
    clear hval
    go_enter Try.func20, Try.ntmps20
    go_wp2_with (refine HVal.out.mono ?_; rintro e w1 ⟨rfl, hx1⟩)
    go_ret2
    exact ⟨by rw [HR.out, HO.out]; rfl, ((Ext.refl w).alloc _).trans hx1⟩
  have hok := validRg_ok hval
  have HS := Lib.hid (show laOk D = decide (2 ≤ im) by rw [laOk, hval, HL.out]; rfl)
  have Hhok := Lib.hid hok; clear hok; have Hhval := Lib.hid hval; clear hval
  by_cases h2 : 2 ≤ im
  rotate_left
  · have HO := Lib.hid (show laOk D = false by rw [HS.out]; simpa using h2)
    have HR := Lib.hid (la_no HO.out)
    go_enter Try.func20, Try.ntmps20
    go_wp2_with fail
    obtain ⟨wb, hwb⟩ : ∃ wb, wb = w.alloc (.cells #[.int .i64 D.ch.base, .int .i64 D.ch.states, .int .i64 D.ch.start, .int .i64 D.ch.fin, .slice a n c, .slice b m d, .int .i64 D.apart, .slice ia im ic, .slice ra rm rc] 33) := ⟨_, rfl⟩
    have hxb : Ext w wb := by rw [hwb]; exact (by repeat (first | (with_reducible exact Ext.refl _) | (with_reducible refine Ext.drewN ?_ _) | (with_reducible refine Ext.drew ?_) | (with_reducible refine Ext.alloc ?_ _) | ((with_reducible refine Ext.setCell ?_ ?_ _); rotate_left; focus (first | (simp; done) | (simp; omega) | omega)) | assumption | (with_reducible refine Ext.trans ?_ (by assumption))))
    rw [← hwb] at HB ⊢
    generalize w.heap.size = q at *
    clear hwb
    obtain ⟨_, k6, k7, k8, _, _⟩ := HB.out
    have HVal := Lib.hid (spec_l10Is D q a n c b m d ia im ic ra rm rc wb HB.out (HN.out.ext hxb))
    rw [Hhval.out] at HVal
    refine HVal.out.mono ?_
    rintro e w1 ⟨rfl, hx1⟩
    have hx1' : Ext wb w1 := hx1
    go_wp2
    go_ret2
    exact ⟨by rw [HR.out, HO.out]; rfl, hxb.trans hx1⟩
  have HO := Lib.hid (show laOk D = true by rw [HS.out]; simpa using h2)
  have HR := Lib.hid (la_yes' HO.out)
  rw [HL.out] at HR
  go_enter Try.func20, Try.ntmps20
  go_wp2_with fail
  obtain ⟨wb, hwb⟩ : ∃ wb, wb = w.alloc (.cells #[.int .i64 D.ch.base, .int .i64 D.ch.states, .int .i64 D.ch.start, .int .i64 D.ch.fin, .slice a n c, .slice b m d, .int .i64 D.apart, .slice ia im ic, .slice ra rm rc] 33) := ⟨_, rfl⟩
  have hxb : Ext w wb := by rw [hwb]; exact (by repeat (first | (with_reducible exact Ext.refl _) | (with_reducible refine Ext.drewN ?_ _) | (with_reducible refine Ext.drew ?_) | (with_reducible refine Ext.alloc ?_ _) | ((with_reducible refine Ext.setCell ?_ ?_ _); rotate_left; focus (first | (simp; done) | (simp; omega) | omega)) | assumption | (with_reducible refine Ext.trans ?_ (by assumption))))
  rw [← hwb] at HB ⊢
  generalize w.heap.size = q at *
  clear hwb
  obtain ⟨_, k6, k7, k8, _, _⟩ := HB.out
  have HVal := Lib.hid (spec_l10Is D q a n c b m d ia im ic ra rm rc wb HB.out (HN.out.ext hxb))
  rw [Hhval.out] at HVal
  refine HVal.out.mono ?_
  rintro e w1 ⟨rfl, hx1⟩
  have hx1' : Ext wb w1 := hx1
  go_wp2
  go_loopw [4, 5, 6] (fun v i _ wr => ∃ k : Nat, k ≤ im ∧ i = .int .i64 k ∧ v = .int .i64 (minL 20 (distL D k 0)) ∧ Ext wb wr) (fun _ i _ _ => im - (intOf i).toNat)
  case atStart => exact ⟨0, Nat.zero_le _, rfl, rfl, hx1⟩
  case round =>
    obtain ⟨k, hk, rfl, rfl, hx⟩ := hrel
    have hxr : Ext wb wr := hx
    have hxq : Ext w wr := hxb.trans hx
    by_cases hlt : k < im
    · obtain ⟨mz, hmz⟩ : ∃ z, z = minL 20 (distL D k 0) := ⟨_, rfl⟩
      rw [← hmz]
      have Hmz := Lib.hid hmz
      clear hmz
      go_wp2
      go_loopw [4, 6] (fun v i wr => ∃ j : Nat, j ≤ k ∧ i = .int .i64 j ∧ v = .int .i64 (minL 20 (distL D k j)) ∧ Ext wb wr) (fun _ i _ => k - (intOf i).toNat)
      case atStart => exact ⟨0, Nat.zero_le _, rfl, by rw [Hmz.out], hx⟩
      case round =>
        obtain ⟨j, hj, rfl, rfl, hx⟩ := hrel
        have hxr : Ext wb wr := hx
        have hxq : Ext w wr := hxb.trans hx
        by_cases hlt2 : j < k
        · have hji : j < im := by omega
          have hs1 := Hhok.out.s20 k (by rw [HL.out]; exact hlt)
          have hs2 := Hhok.out.s20 j (by rw [HL.out]; omega)
          have HD := Lib.hid (fun W => spec_l10Far (gs D.issued j) (gs D.issued k) W (by omega) (by omega))
          have HM := Lib.hid (show minL 20 (distL D k (j + 1)) = min (minL 20 (distL D k j)) (distS (gs D.issued j) (gs D.issued k)) by rw [distL_succ, minL_snoc, dist_comm]; rfl)
          have HMin := Lib.hid (fun x y => spec_min x y)
          generalize minL 20 (distL D k j) = mz at *
          go_wp2
          (refine wp_region_from wb (by repeat (first | (with_reducible exact Ext.refl _) | (with_reducible refine Ext.drewN ?_ _) | (with_reducible refine Ext.drew ?_) | (with_reducible refine Ext.alloc ?_ _) | ((with_reducible refine Ext.setCell ?_ ?_ _); rotate_left; focus (first | (simp; done) | (simp; omega) | omega)) | assumption | (with_reducible refine Ext.trans ?_ (by assumption)))) (by kernel_rfl) (by kernel_rfl) (seqB_of (by kernel_rfl)) ?_; (repeat (first | (refine mix_q rfl ?_; go_big_quiet_step (fail); refine wpQuiet_nil ?_; show wpMix _ _ _ _ _ _ _) | (refine mix_s rfl ?_; go_wp2_with (first | (go_at_call 57; (with_reducible refine (HD.out _).mono ?_); rintro e w2 ⟨rfl, hy2⟩; have hxw2 : Ext wb w2 := Ext.trans (by repeat (first | (with_reducible exact Ext.refl _) | (with_reducible refine Ext.drewN ?_ _) | (with_reducible refine Ext.drew ?_) | (with_reducible refine Ext.alloc ?_ _) | ((with_reducible refine Ext.setCell ?_ ?_ _); rotate_left; focus (first | (simp; done) | (simp; omega) | omega)) | assumption | (with_reducible refine Ext.trans ?_ (by assumption)))) hy2; have hz2 := hy2; clear hy2) | (go_at_call 56; (with_reducible refine (HMin.out _ _ _).mono ?_); rintro e w3 ⟨rfl, rfl⟩)); first | refine ⟨up_of (by repeat (first | (with_reducible exact Ext.refl _) | (with_reducible refine Ext.drewN ?_ _) | (with_reducible refine Ext.drew ?_) | (with_reducible refine Ext.alloc ?_ _) | ((with_reducible refine Ext.setCell ?_ ?_ _); rotate_left; focus (first | (simp; done) | (simp; omega) | omega)) | assumption | (with_reducible refine Ext.trans ?_ (by assumption)))), ?_⟩ | refine ⟨rfl, rfl, up_of (by repeat (first | (with_reducible exact Ext.refl _) | (with_reducible refine Ext.drewN ?_ _) | (with_reducible refine Ext.drew ?_) | (with_reducible refine Ext.alloc ?_ _) | ((with_reducible refine Ext.setCell ?_ ?_ _); rotate_left; focus (first | (simp; done) | (simp; omega) | omega)) | assumption | (with_reducible refine Ext.trans ?_ (by assumption)))), ?_⟩))); refine mix_nil ?_)
          go_wp2
          exact ⟨⟨j + 1, by omega, by go_num, by rw [HM.out], (by repeat (first | (with_reducible exact Ext.refl _) | (with_reducible refine Ext.drewN ?_ _) | (with_reducible refine Ext.drew ?_) | (with_reducible refine Ext.alloc ?_ _) | ((with_reducible refine Ext.setCell ?_ ?_ _); rotate_left; focus (first | (simp; done) | (simp; omega) | omega)) | assumption | (with_reducible refine Ext.trans ?_ (by assumption))))⟩, by simp [intOf]; omega⟩
        · obtain rfl : j = k := by omega
          have HM := Lib.hid (distL_next D j)
          go_wp2
          exact ⟨⟨j + 1, by omega, by go_num, by rw [HM.out], hx⟩, by simp [intOf]; omega⟩
    · obtain rfl : k = im := by omega
      go_wp2
      go_ret2
      exact ⟨by rw [HR.out, HO.out]; rfl, hxq⟩
end Go.Proofs.Ytdekplfjnkbidaa
