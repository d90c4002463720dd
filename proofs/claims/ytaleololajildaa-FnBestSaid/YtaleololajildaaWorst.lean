/- Walks: the worst place. -/
import Derived.Test.YtaleololajildaaShareS
namespace Go.Proofs.Ytaleololajildaa
open Go.RowKit

/-- the first place with the greatest share, of the first k; its share -/
def wst (W : Wt) (costs : List Int) : Nat → Nat × Int
  | 0 => (0, -1)
  | k + 1 => if (wst W costs k).2 < shareF W costs k then (k, shareF W costs k) else wst W costs k
theorem wst_bd {W : Wt} {costs : List Int} (hg : Good W) (hc : Costs costs) (k : Nat) : -1 ≤ (wst W costs k).2 ∧ (wst W costs k).2 ≤ 15552000 := by
  induction k with
  | zero => simp [wst]
  | succ k ih =>
    have := shareF_bd hg hc k
    simp only [wst]
    split
    · simp only; omega
    · exact ih
theorem wst_lt (W : Wt) (costs : List Int) (k : Nat) : (wst W costs k).1 ≤ k := by
  induction k with
  | zero => simp [wst]
  | succ k ih =>
    simp only [wst]
    split
    · simp
    · omega
theorem wst_share {W : Wt} {costs : List Int} (hg : Good W) (hc : Costs costs) (k : Nat) : (wst W costs (k + 1)).1 ≤ k ∧ (wst W costs (k + 1)).2 = shareF W costs (wst W costs (k + 1)).1 := by
  induction k with
  | zero =>
    have := shareF_bd hg hc 0
    have e : wst W costs (0 + 1) = (0, shareF W costs 0) := by simp only [wst]; exact if_pos (by omega)
    rw [e]
    exact ⟨Nat.le_refl _, rfl⟩
  | succ k ih =>
    rw [wst]
    split
    · exact ⟨Nat.le_refl _, rfl⟩
    · exact ⟨by omega, ih.2⟩

theorem ret3_int {x y x' y' : Int} {a b : Bool} {w w' : World} (h1 : x = x') (h2 : y = y') (h3 : a = b) (hx : Ext w w') : Ret3 (.int .i64 x) (.int .i64 y) (.bool a) w (.returned (.tuple #[.int .i64 x', .int .i64 y', .bool b])) w' := by
  subst h1; subst h2; subst h3; exact ⟨rfl, hx⟩

def worstP (W : Wt) (costs : List Int) : Int := if validB W && costsB costs then (wst W costs W.weights.length).1 else 0
def worstS (W : Wt) (costs : List Int) : Int := if validB W && costsB costs then (wst W costs W.weights.length).2 else 0
theorem worst_no {W : Wt} {costs : List Int} (h : (validB W && costsB costs) = false) : worstP W costs = 0 ∧ worstS W costs = 0 ∧ scoreOk W costs = false := by simp [worstP, worstS, scoreOk, h]
theorem worst_yes {W : Wt} {costs : List Int} (h : validB W = true) (h2 : costsB costs = true) : worstP W costs = (wst W costs W.weights.length).1 ∧ worstS W costs = (wst W costs W.weights.length).2 ∧ scoreOk W costs = true := by simp [worstP, worstS, scoreOk, h, h2]

set_option maxHeartbeats 1000000 in
theorem impl_WorstPlace (W : Wt) (a a' : Option Addr) (n c n' c' : Nat) (costs : List Int) (w : World) (hw : Ints w a n c W.weights) (hc : Ints w a' n' c' costs) :
    Calls Try.prog 23 #[.agg #[.int .i64 W.base, .int .i64 W.modulus, .int .i64 W.target, .slice a n c], .slice a' n' c'] w (Ret3 (.int .i64 (worstP W costs)) (.int .i64 (worstS W costs)) (.bool (scoreOk W costs)) w) := by
  obtain ⟨base, modulus, target, l⟩ := W
  simp only at hw ⊢
  have HL := Lib.hid hw.len
  have HL' := Lib.hid hc.len
  have HB := Lib.hid (isWt_box w base modulus target l a n c 31 hw)
  have HI := Lib.hid (impl_valid ⟨base, modulus, target, l⟩ a n c _ HB.out.ws)
  simp only at HI
  have HC := Lib.hid hc
  clear hw hc
  cases hv : validB ⟨base, modulus, target, l⟩
  · rw [hv] at HI
    have HR := Lib.hid (worst_no (W := ⟨base, modulus, target, l⟩) (costs := costs) (by rw [hv]; rfl))
    clear hv
    go_enter Try.func23, Try.ntmps23
    go_wp2_with (refine HI.out.mono ?_; rintro e w' ⟨rfl, hx⟩)
    go_ret3
    exact ret3_int HR.out.1 HR.out.2.1 HR.out.2.2 (((Ext.refl _).alloc _).trans hx)
  rw [hv] at HI
  have HIC := Lib.hid (implIsCosts a' n' c' costs)
  cases hcb : costsB costs
  · rw [hcb] at HIC
    have HR := Lib.hid (worst_no (W := ⟨base, modulus, target, l⟩) (costs := costs) (by rw [hcb]; simp))
    clear hv hcb
    go_enter Try.func23, Try.ntmps23
    go_wp2_with (first | ((with_reducible refine HI.out.mono ?_); rintro e w' ⟨rfl, hx⟩) | (go_at_call 10; refine (HIC.out _ (HC.out.ext (((Ext.refl _).alloc _).trans (by assumption)))).mono ?_; rintro e w2 ⟨rfl, hx2⟩))
    go_ret3
    exact ret3_int HR.out.1 HR.out.2.1 HR.out.2.2 (((Ext.refl _).alloc _).trans (hx.trans hx2))
  rw [hcb] at HIC
  have HR := Lib.hid (worst_yes hv hcb)
  have HG := Lib.hid (validB_good hv)
  have HCB := Lib.hid (costsB_costs hcb)
  have h6 : n' = 6 := by rw [← HL'.out]; exact HCB.out.len
  subst h6
  have h20 : n ≤ 20 := by have := HG.out.l20; simp only at this; rw [HL.out] at this; exact this
  clear hv hcb
  go_enter Try.func23, Try.ntmps23
  go_wp2_with (first | ((with_reducible refine HI.out.mono ?_); rintro e w' ⟨rfl, hx⟩) | (go_at_call 10; refine (HIC.out _ (HC.out.ext (((Ext.refl _).alloc _).trans (by assumption)))).mono ?_; rintro e w2 ⟨rfl, hx2⟩; obtain ⟨d0, d1, d2, d3, _⟩ := HB.out.ext (hx.trans hx2)))
  have HB2 := Lib.hid (HB.out.ext (hx.trans hx2))
  have HC2 := Lib.hid (HC.out.ext (((Ext.refl w).alloc _).trans (hx.trans hx2)))
  have HX2 := Lib.hid (show Ext w w2 from ((Ext.refl w).alloc _).trans (hx.trans hx2))
  clear hx hx2
  go_loopw [7, 8, 9, 10, 22] (fun p s _ _ i wr => ∃ (k q : Nat) (z : Int), k ≤ n ∧ i = .int .i64 k ∧ p = .int .i64 q ∧ s = .int .i64 z ∧ q ≤ k ∧ -1 ≤ z ∧ z ≤ 15552000 ∧ Hid (wst ⟨base, modulus, target, l⟩ costs k = (q, z)) ∧ ∃ m, wr = w2.drewN m) (fun _ _ _ _ i _ => n - (intOf i).toNat)
  case atStart => exact ⟨0, 0, -1, Nat.zero_le _, rfl, rfl, rfl, by omega, by omega, by omega, rfl, 0, rfl⟩
  case round =>
    obtain ⟨k, q, z, hk, rfl, rfl, rfl, hq, hz1, hz2, HZ, m, rfl⟩ := hrel
    by_cases hlt : k < n
    · have HU := Lib.hid (fun (w' : World) h h' => impl_share w.heap.size ⟨base, modulus, target, l⟩ a a' n c c' costs k w' h h' HCB.out HG.out hlt)
      have hub := shareF_bd HG.out HCB.out k
      have hN : wst ⟨base, modulus, target, l⟩ costs (k + 1) = if z < shareF ⟨base, modulus, target, l⟩ costs k then (k, shareF ⟨base, modulus, target, l⟩ costs k) else (q, z) := by rw [wst, HZ.out]
      have HN := Lib.hid hN
      clear hN HZ
      generalize shareF ⟨base, modulus, target, l⟩ costs k = y at *
      by_cases hyz : z < y
      · have HN2 := Lib.hid (HN.out.trans (if_pos hyz))
        go_wp2_with (go_at_call 43; refine (HU.out _ (HB2.out.ext ((Ext.refl _).drewN _)) (HC2.out.ext ((Ext.refl _).drewN _))).mono ?_; rintro e w' ⟨rfl, m2, rfl⟩)
        exact ⟨⟨k + 1, k, y, by omega, by go_num, rfl, rfl, by omega, by omega, by omega, HN2.out, (by first | exact ⟨_, rfl⟩ | exact ⟨_, World.drewN_drewN _ _ _⟩)⟩, by simp [intOf]; omega⟩
      · have HN2 := Lib.hid (HN.out.trans (if_neg hyz))
        go_wp2_with (go_at_call 43; refine (HU.out _ (HB2.out.ext ((Ext.refl _).drewN _)) (HC2.out.ext ((Ext.refl _).drewN _))).mono ?_; rintro e w' ⟨rfl, m2, rfl⟩)
        exact ⟨⟨k + 1, q, z, by omega, by go_num, rfl, rfl, by omega, by omega, by omega, HN2.out, (by first | exact ⟨_, rfl⟩ | exact ⟨_, World.drewN_drewN _ _ _⟩)⟩, by simp [intOf]; omega⟩
    · go_wp2
      go_ret3
      have e := HZ.out
      rw [show k = n by omega] at e
      refine ret3_int ?_ ?_ HR.out.2.2 (HX2.out.drewN _)
      · rw [HR.out.1, HL.out, e]
      · rw [HR.out.2.1, HL.out, e]

set_option maxHeartbeats 1000000 in
theorem spec_WorstPlace (W : Wt) (a a' : Option Addr) (n c n' c' : Nat) (costs : List Int) (w : World) (hw : Ints w a n c W.weights) (hc : Ints w a' n' c' costs) :
    Calls Try.prog 25 #[.agg #[.int .i64 W.base, .int .i64 W.modulus, .int .i64 W.target, .slice a n c], .slice a' n' c'] w (Ret3 (.int .i64 (worstP W costs)) (.int .i64 (worstS W costs)) (.bool (scoreOk W costs)) w) := by
  obtain ⟨base, modulus, target, l⟩ := W
  simp only at hw ⊢
  have HL := Lib.hid hw.len
  have HL' := Lib.hid hc.len
  have HB := Lib.hid (isWt_box w base modulus target l a n c 31 hw)
  have HI := Lib.hid (spec_is _ ⟨base, modulus, target, l⟩ a n c _ HB.out)
  have HC := Lib.hid hc
  clear hw hc
  cases hv : validB ⟨base, modulus, target, l⟩
  · rw [hv] at HI
    have HR := Lib.hid (worst_no (W := ⟨base, modulus, target, l⟩) (costs := costs) (by rw [hv]; rfl))
    clear hv
    go_enter Try.func25, Try.ntmps25
    go_wp2_with (refine HI.out.mono ?_; rintro e w' ⟨rfl, m, rfl⟩)
    go_ret3
    exact ret3_int HR.out.1 HR.out.2.1 HR.out.2.2 (by repeat (first | (with_reducible exact Ext.refl _) | (with_reducible refine Ext.drewN ?_ _) | (with_reducible refine Ext.drew ?_) | (with_reducible refine Ext.alloc ?_ _) | ((with_reducible refine Ext.setCell ?_ ?_ _); rotate_left; focus (first | (simp; done) | (simp; omega) | omega))))
  rw [hv] at HI
  have HIC := Lib.hid (l09Costs a' n' c' costs)
  cases hcb : costsB costs
  · rw [hcb] at HIC
    have HR := Lib.hid (worst_no (W := ⟨base, modulus, target, l⟩) (costs := costs) (by rw [hcb]; simp))
    clear hv hcb
    go_enter Try.func25, Try.ntmps25
    go_wp2_with (first | ((with_reducible refine HI.out.mono ?_); rintro e w' ⟨rfl, m, rfl⟩) | (go_at_call 27; refine (HIC.out _ (HC.out.ext (by repeat (first | (with_reducible exact Ext.refl _) | (with_reducible refine Ext.drewN ?_ _) | (with_reducible refine Ext.drew ?_) | (with_reducible refine Ext.alloc ?_ _) | ((with_reducible refine Ext.setCell ?_ ?_ _); rotate_left; focus (first | (simp; done) | (simp; omega) | omega)))))).mono ?_; rintro e w2 ⟨rfl, rfl⟩))
    go_ret3
    exact ret3_int HR.out.1 HR.out.2.1 HR.out.2.2 (by repeat (first | (with_reducible exact Ext.refl _) | (with_reducible refine Ext.drewN ?_ _) | (with_reducible refine Ext.drew ?_) | (with_reducible refine Ext.alloc ?_ _) | ((with_reducible refine Ext.setCell ?_ ?_ _); rotate_left; focus (first | (simp; done) | (simp; omega) | omega))))
  rw [hcb] at HIC
  have HR := Lib.hid (worst_yes hv hcb)
  have HG := Lib.hid (validB_good hv)
  have HCB := Lib.hid (costsB_costs hcb)
  have h6 : n' = 6 := by rw [← HL'.out]; exact HCB.out.len
  subst h6
  have h20 : n ≤ 20 := by have := HG.out.l20; simp only at this; rw [HL.out] at this; exact this
  have h1 : 1 ≤ n := by have := HG.out.l1; simp only at this; rw [HL.out] at this; exact this
  clear hv hcb
  go_enter Try.func25, Try.ntmps25
  go_wp2_with (first | ((with_reducible refine HI.out.mono ?_); rintro e w' ⟨rfl, m, rfl⟩) | (go_at_call 27; refine (HIC.out _ (HC.out.ext (by repeat (first | (with_reducible exact Ext.refl _) | (with_reducible refine Ext.drewN ?_ _) | (with_reducible refine Ext.drew ?_) | (with_reducible refine Ext.alloc ?_ _) | ((with_reducible refine Ext.setCell ?_ ?_ _); rotate_left; focus (first | (simp; done) | (simp; omega) | omega)))))).mono ?_; rintro e w2 ⟨rfl, rfl⟩))
  refine (spec_shares _ ⟨base, modulus, target, l⟩ a a' n c c' costs _ (HB.out.ext (by repeat (first | (with_reducible exact Ext.refl _) | (with_reducible refine Ext.drewN ?_ _) | (with_reducible refine Ext.drew ?_) | (with_reducible refine Ext.alloc ?_ _) | ((with_reducible refine Ext.setCell ?_ ?_ _); rotate_left; focus (first | (simp; done) | (simp; omega) | omega))))) (HC.out.ext (by repeat (first | (with_reducible exact Ext.refl _) | (with_reducible refine Ext.drewN ?_ _) | (with_reducible refine Ext.drew ?_) | (with_reducible refine Ext.alloc ?_ _) | ((with_reducible refine Ext.setCell ?_ ?_ _); rotate_left; focus (first | (simp; done) | (simp; omega) | omega))))) HCB.out HG.out).mono ?_
  rintro e w3 ⟨a3, c3, rfl, ho3, hx3⟩
  have hl3 : (I (sharesF ⟨base, modulus, target, l⟩ costs)).length = n := by rw [I_len]; simp [sharesF]; exact HL.out
  rw [hl3] at ho3 ⊢
  have HX3 := Lib.hid (show Ext w w3 from Ext.trans (by repeat (first | (with_reducible exact Ext.refl _) | (with_reducible refine Ext.drewN ?_ _) | (with_reducible refine Ext.drew ?_) | (with_reducible refine Ext.alloc ?_ _) | ((with_reducible refine Ext.setCell ?_ ?_ _); rotate_left; focus (first | (simp; done) | (simp; omega) | omega)))) hx3)
  have HO3 := Lib.hid ho3.ints
  clear ho3 hx3 hl3
  have HG3 := Lib.hid (fun k (hk : k < n) => show (sharesF ⟨base, modulus, target, l⟩ costs).getD k 0 = shareF ⟨base, modulus, target, l⟩ costs k by simp [sharesF, List.getD_eq_getElem?_getD]; rw [List.getElem?_range (by rw [HL.out]; exact hk)]; rfl)
  go_wp2
  go_loopw [8, 9] (fun p i wr => ∃ (k : Nat), 1 ≤ k ∧ k ≤ n ∧ i = .int .i64 k ∧ p = .int .i64 (wst ⟨base, modulus, target, l⟩ costs k).1 ∧ ∃ m, wr = w3.drewN m) (fun _ i _ => n - (intOf i).toNat)
  case atStart => exact ⟨1, by omega, by omega, rfl, by rw [Nat.le_zero.1 (wst_share HG.out HCB.out 0).1]; rfl, 0, rfl⟩
  case round =>
    obtain ⟨k, hk1, hk, rfl, rfl, m, rfl⟩ := hrel
    obtain ⟨hq1, hq2⟩ := wst_share HG.out HCB.out (k - 1)
    rw [show k - 1 + 1 = k by omega] at hq1 hq2
    by_cases hlt : k < n
    · obtain ⟨b1, off1, hia1, k1⟩ := HO3.out.at 22 2 und_int64s cell_int64 k hlt .i64
      obtain ⟨b2, off2, hia2, k2⟩ := HO3.out.at 22 2 und_int64s cell_int64 (wst ⟨base, modulus, target, l⟩ costs k).1 (by omega) .i64
      rw [HG3.out _ hlt] at k1
      rw [HG3.out _ (by omega), ← hq2] at k2
      have HN := Lib.hid (show wst ⟨base, modulus, target, l⟩ costs (k + 1) = if (wst ⟨base, modulus, target, l⟩ costs k).2 < shareF ⟨base, modulus, target, l⟩ costs k then (k, shareF ⟨base, modulus, target, l⟩ costs k) else wst ⟨base, modulus, target, l⟩ costs k from rfl)
      clear hq2
      generalize shareF ⟨base, modulus, target, l⟩ costs k = y at *
      generalize wst ⟨base, modulus, target, l⟩ costs k = qz at *
      obtain ⟨q, z⟩ := qz
      simp only at *
      by_cases hyz : z < y
      · have HN2 := Lib.hid (HN.out.trans (if_pos hyz))
        go_wp2
        go_quiet (fail)
        go_wp2
        exact ⟨⟨k + 1, by omega, by omega, by go_num, by rw [HN2.out], (by first | exact ⟨_, rfl⟩ | exact ⟨_, World.drewN_drewN _ _ _⟩)⟩, by simp [intOf]; omega⟩
      · have HN2 := Lib.hid (HN.out.trans (if_neg hyz))
        go_wp2
        go_quiet (fail)
        go_wp2
        exact ⟨⟨k + 1, by omega, by omega, by go_num, by rw [HN2.out], (by first | exact ⟨_, rfl⟩ | exact ⟨_, World.drewN_drewN _ _ _⟩)⟩, by simp [intOf]; omega⟩
    · obtain ⟨b2, off2, hia2, k2⟩ := HO3.out.at 22 2 und_int64s cell_int64 (wst ⟨base, modulus, target, l⟩ costs k).1 (by omega) .i64
      rw [HG3.out _ (by omega), ← hq2] at k2
      have HK := Lib.hid (show k = n by omega)
      clear hq2
      generalize hqz : wst ⟨base, modulus, target, l⟩ costs k = qz at *
      have HQ := Lib.hid hqz
      clear hqz
      obtain ⟨q, z⟩ := qz
      simp only at *
      go_wp2
      go_quiet (fail)
      go_wp2
      go_ret3
      have e := HQ.out
      rw [HK.out] at e
      refine ret3_int ?_ ?_ HR.out.2.2 (by repeat (first | (with_reducible exact Ext.refl _) | (with_reducible refine Ext.drewN ?_ _) | (with_reducible refine Ext.drew ?_) | (with_reducible refine Ext.alloc ?_ _) | ((with_reducible refine Ext.setCell ?_ ?_ _); rotate_left; focus (first | (simp; done) | (simp; omega) | omega)) | (with_reducible refine Ext.trans ?_ HX3.out)))
      · rw [HR.out.1, HL.out, e]
      · rw [HR.out.2.1, HL.out, e]
end Go.Proofs.Ytaleololajildaa
