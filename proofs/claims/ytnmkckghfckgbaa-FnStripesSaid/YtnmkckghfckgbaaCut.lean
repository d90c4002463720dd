/- Walks: stripes are cut into widths for start, patterns and stop. -/
import Derived.Test.YtnmkckghfckgbaaStr4
import Derived.Test.YtnmkckghfckgbaaText
namespace Go.Proofs.Ytnmkckghfckgbaa
set_option maxRecDepth 100000
open Go.RowKit

def gapN (D : Bc) : Nat := if 0 < D.gap then 1 else 0
def eachN (D : Bc) : Nat := (gs D.pats 0).size + gapN D
def cutI (D : Bc) (m : Nat) : Int := (m : Int) - D.start.size - D.stop.size - gapN D
def cutB (D : Bc) (m : Nat) : Bool := decide (0 ≤ cutI D m) && (decide (cutI D m % eachN D = 0) && decide (cutI D m / eachN D ≤ 20))
def cutN (D : Bc) (m : Nat) : Nat := (cutI D m / eachN D).toNat
def atN (D : Bc) (i : Nat) : Nat := D.start.size + i * eachN D
def partL (D : Bc) (l : List Int) (i : Nat) : List Int := (l.drop (atN D i + gapN D)).take (gs D.pats 0).size
theorem atN_succ (D : Bc) (i : Nat) : atN D (i + 1) = atN D i + eachN D := by unfold atN; rw [Nat.succ_mul]; omega
theorem cut_yes {D : Bc} {m : Nat} (h : cutB D m = true) (h1 : 1 ≤ (gs D.pats 0).size) : atN D (cutN D m) + gapN D + D.stop.size = m ∧ cutN D m ≤ 20 := by
  unfold cutB at h
  simp only [Bool.and_eq_true, decide_eq_true_eq] at h
  obtain ⟨h0, h2, h3⟩ := h
  have he : 0 < (eachN D : Int) := by unfold eachN; omega
  have hd := Int.emod_add_mul_ediv (cutI D m) (eachN D)
  have hq : 0 ≤ cutI D m / eachN D := Int.ediv_nonneg h0 (by omega)
  have hc : ((cutN D m : Nat) : Int) = cutI D m / eachN D := by unfold cutN; omega
  rw [h2, ← hc, Int.zero_add, Int.mul_comm] at hd
  have hm : ((cutN D m * eachN D : Nat) : Int) = cutI D m := by rw [Int.natCast_mul]; exact hd
  refine ⟨?_, by omega⟩
  unfold atN
  unfold cutI at hm
  omega

set_option maxHeartbeats 1000000 in
theorem spec_l08Cut (D : Bc) (p : Nat) (a : Option Addr) (n c : Nat) (b : Option Addr) (m d : Nat) (l : List Int) (w : World) (hv : BcAt w p D a n c) (hok : OkBc D) (hi : Ints w b m d l) (hm : m ≤ 1048576) :
    Calls Try.prog 109 #[.pointer (some ⟨p, 0, none⟩), .slice b m d] w (Ret2 (.int .i64 (if cutB D m then (cutN D m : Int) else 0)) (.bool (cutB D m)) w) := by
  have HN := Lib.hid hv.ps.len
  obtain ⟨q0, q1, q2, q3, hps⟩ := hv
  obtain ⟨pb1, poff, hpix, hpcell⟩ := hps.ix (P := Try.prog) 22 9 und_strings cell_string
  have h0 := patB_t hok.start
  have h9 := patB_t hok.stop
  have hz : 0 < n := by have := hok.n1; rw [HN.out] at this; omega
  have hcell0 : ∀ w', Ext w w' → w'.cell? ⟨pb1, poff, none⟩ = some (.string (gs D.pats 0)) := fun w' h => hpcell 0 w' hz h
  have s1 := hok.s1
  have s10 := hok.s10
  obtain ⟨_, t1, t10, _⟩ := h0
  obtain ⟨_, u1, u10, _⟩ := h9
  have Hhok := Lib.hid hok; clear hok; have Hhps := Lib.hid hps; clear hps; have Hhi := Lib.hid hi; clear hi
  have HC := Lib.hid (show cutI D m = (m : Int) - D.start.size - D.stop.size - gapN D from rfl)
  have HE := Lib.hid (show eachN D = (gs D.pats 0).size + gapN D from rfl)
  have HB := Lib.hid (show cutB D m = (decide (0 ≤ cutI D m) && (decide (cutI D m % eachN D = 0) && decide (cutI D m / eachN D ≤ 20))) from rfl)
  have HQ := Lib.hid (show cutN D m = (cutI D m / eachN D).toNat from rfl)
  obtain ⟨v, hv⟩ : ∃ v, v = (if cutB D m then (cutN D m : Int) else 0) := ⟨_, rfl⟩
  rw [← hv]
  have Hhv := Lib.hid hv; clear hv
  generalize gs D.pats 0 = s0 at *
  have hne : s0 ≠ ByteArray.empty := by rintro rfl; simp at s1
  have hs0 : 0 < s0.size := s1
  by_cases hg : 0 < D.gap
  · have hgn : gapN D = 1 := if_pos hg
    have hC : cutI D m = (m : Int) - D.start.size - D.stop.size - 1 := by rw [HC.out, hgn]; omega
    have hE : (eachN D : Int) = (s0.size : Int) + 1 := by rw [HE.out, hgn]; omega
    rw [hC, hE] at HB HQ
    have hEp : 0 < (s0.size : Int) + 1 := by omega
    have Hhgn := Lib.hid hgn; clear hgn; have HhC := Lib.hid hC; clear hC; have HhE := Lib.hid hE; clear hE
    rcases Int.lt_or_le ((m : Int) - D.start.size - D.stop.size - 1) 0 with hl | hl
    · have HF := Lib.hid (show cutB D m = false by rw [HB.out]; simp only [show decide (0 ≤ (m : Int) - D.start.size - D.stop.size - 1) = false by simp; omega, Bool.false_and])
      go_enter Try.func109, Try.ntmps109
      go_wp2
      (refine wp_region_up (by kernel_rfl) (by kernel_rfl) (by kernel_rfl) ?_; (repeat (first | (refine mix_q rfl ?_; go_big_quiet_step (fail); refine wpQuiet_nil ?_; show wpMix _ _ _ _ _ _ _) | (refine mix_s rfl ?_; go_wp2_with (fail); first | refine ⟨up_of (by repeat (first | (with_reducible exact Ext.refl _) | (with_reducible refine Ext.drewN ?_ _) | (with_reducible refine Ext.drew ?_) | (with_reducible refine Ext.alloc ?_ _) | ((with_reducible refine Ext.setCell ?_ ?_ _); rotate_left; focus (first | (simp; done) | (simp; omega) | omega)) | assumption | (with_reducible refine Ext.trans ?_ (by assumption)))), ?_⟩ | refine ⟨rfl, rfl, up_of (by repeat (first | (with_reducible exact Ext.refl _) | (with_reducible refine Ext.drewN ?_ _) | (with_reducible refine Ext.drew ?_) | (with_reducible refine Ext.alloc ?_ _) | ((with_reducible refine Ext.setCell ?_ ?_ _); rotate_left; focus (first | (simp; done) | (simp; omega) | omega)) | assumption | (with_reducible refine Ext.trans ?_ (by assumption)))), ?_⟩))); refine mix_nil ?_)
      go_wp2
      go_ret2
      exact ⟨by rw [Hhv.out, HF.out]; rfl, (by repeat (first | (with_reducible exact Ext.refl _) | (with_reducible refine Ext.drewN ?_ _) | (with_reducible refine Ext.drew ?_) | (with_reducible refine Ext.alloc ?_ _) | ((with_reducible refine Ext.setCell ?_ ?_ _); rotate_left; focus (first | (simp; done) | (simp; omega) | omega)) | assumption | (with_reducible refine Ext.trans ?_ (by assumption))))⟩
    by_cases hr : ((m : Int) - D.start.size - D.stop.size - 1) % ((s0.size : Int) + 1) = 0
    rotate_left
    · have HF := Lib.hid (show cutB D m = false by rw [HB.out]; simp only [show decide (((m : Int) - D.start.size - D.stop.size - 1) % ((s0.size : Int) + 1) = 0) = false by simpa using hr, Bool.false_and, Bool.and_false])
      go_enter Try.func109, Try.ntmps109
      go_wp2
      (refine wp_region_up (by kernel_rfl) (by kernel_rfl) (by kernel_rfl) ?_; (repeat (first | (refine mix_q rfl ?_; go_big_quiet_step (fail); refine wpQuiet_nil ?_; show wpMix _ _ _ _ _ _ _) | (refine mix_s rfl ?_; go_wp2_with (fail); first | refine ⟨up_of (by repeat (first | (with_reducible exact Ext.refl _) | (with_reducible refine Ext.drewN ?_ _) | (with_reducible refine Ext.drew ?_) | (with_reducible refine Ext.alloc ?_ _) | ((with_reducible refine Ext.setCell ?_ ?_ _); rotate_left; focus (first | (simp; done) | (simp; omega) | omega)) | assumption | (with_reducible refine Ext.trans ?_ (by assumption)))), ?_⟩ | refine ⟨rfl, rfl, up_of (by repeat (first | (with_reducible exact Ext.refl _) | (with_reducible refine Ext.drewN ?_ _) | (with_reducible refine Ext.drew ?_) | (with_reducible refine Ext.alloc ?_ _) | ((with_reducible refine Ext.setCell ?_ ?_ _); rotate_left; focus (first | (simp; done) | (simp; omega) | omega)) | assumption | (with_reducible refine Ext.trans ?_ (by assumption)))), ?_⟩))); refine mix_nil ?_)
      go_wp2
      go_ret2
      exact ⟨by rw [Hhv.out, HF.out]; rfl, (by repeat (first | (with_reducible exact Ext.refl _) | (with_reducible refine Ext.drewN ?_ _) | (with_reducible refine Ext.drew ?_) | (with_reducible refine Ext.alloc ?_ _) | ((with_reducible refine Ext.setCell ?_ ?_ _); rotate_left; focus (first | (simp; done) | (simp; omega) | omega)) | assumption | (with_reducible refine Ext.trans ?_ (by assumption))))⟩
    have hq0 := Int.ediv_nonneg hl (Int.le_of_lt hEp)
    have hq1 := Int.ediv_le_self ((s0.size : Int) + 1) hl
    by_cases hq : ((m : Int) - D.start.size - D.stop.size - 1) / ((s0.size : Int) + 1) ≤ 20
    · have HF := Lib.hid (show cutB D m = true by rw [HB.out]; simp only [hl, hr, hq, decide_true, Bool.and_true])
      have HV := Lib.hid (show v = ((m : Int) - D.start.size - D.stop.size - 1) / ((s0.size : Int) + 1) by rw [Hhv.out, HF.out, HQ.out]; simp only [if_true]; omega)
      go_enter Try.func109, Try.ntmps109
      go_wp2
      (refine wp_region_up (by kernel_rfl) (by kernel_rfl) (by kernel_rfl) ?_; (repeat (first | (refine mix_q rfl ?_; go_big_quiet_step (fail); refine wpQuiet_nil ?_; show wpMix _ _ _ _ _ _ _) | (refine mix_s rfl ?_; go_wp2_with (fail); first | refine ⟨up_of (by repeat (first | (with_reducible exact Ext.refl _) | (with_reducible refine Ext.drewN ?_ _) | (with_reducible refine Ext.drew ?_) | (with_reducible refine Ext.alloc ?_ _) | ((with_reducible refine Ext.setCell ?_ ?_ _); rotate_left; focus (first | (simp; done) | (simp; omega) | omega)) | assumption | (with_reducible refine Ext.trans ?_ (by assumption)))), ?_⟩ | refine ⟨rfl, rfl, up_of (by repeat (first | (with_reducible exact Ext.refl _) | (with_reducible refine Ext.drewN ?_ _) | (with_reducible refine Ext.drew ?_) | (with_reducible refine Ext.alloc ?_ _) | ((with_reducible refine Ext.setCell ?_ ?_ _); rotate_left; focus (first | (simp; done) | (simp; omega) | omega)) | assumption | (with_reducible refine Ext.trans ?_ (by assumption)))), ?_⟩))); refine mix_nil ?_)
      go_wp2
      go_ret2
      exact ⟨by rw [HV.out, HF.out]; rfl, (by repeat (first | (with_reducible exact Ext.refl _) | (with_reducible refine Ext.drewN ?_ _) | (with_reducible refine Ext.drew ?_) | (with_reducible refine Ext.alloc ?_ _) | ((with_reducible refine Ext.setCell ?_ ?_ _); rotate_left; focus (first | (simp; done) | (simp; omega) | omega)) | assumption | (with_reducible refine Ext.trans ?_ (by assumption))))⟩
    · have HF := Lib.hid (show cutB D m = false by rw [HB.out]; simp only [show decide (((m : Int) - D.start.size - D.stop.size - 1) / ((s0.size : Int) + 1) ≤ 20) = false by simpa using hq, Bool.and_false])
      go_enter Try.func109, Try.ntmps109
      go_wp2
      (refine wp_region_up (by kernel_rfl) (by kernel_rfl) (by kernel_rfl) ?_; (repeat (first | (refine mix_q rfl ?_; go_big_quiet_step (fail); refine wpQuiet_nil ?_; show wpMix _ _ _ _ _ _ _) | (refine mix_s rfl ?_; go_wp2_with (fail); first | refine ⟨up_of (by repeat (first | (with_reducible exact Ext.refl _) | (with_reducible refine Ext.drewN ?_ _) | (with_reducible refine Ext.drew ?_) | (with_reducible refine Ext.alloc ?_ _) | ((with_reducible refine Ext.setCell ?_ ?_ _); rotate_left; focus (first | (simp; done) | (simp; omega) | omega)) | assumption | (with_reducible refine Ext.trans ?_ (by assumption)))), ?_⟩ | refine ⟨rfl, rfl, up_of (by repeat (first | (with_reducible exact Ext.refl _) | (with_reducible refine Ext.drewN ?_ _) | (with_reducible refine Ext.drew ?_) | (with_reducible refine Ext.alloc ?_ _) | ((with_reducible refine Ext.setCell ?_ ?_ _); rotate_left; focus (first | (simp; done) | (simp; omega) | omega)) | assumption | (with_reducible refine Ext.trans ?_ (by assumption)))), ?_⟩))); refine mix_nil ?_)
      go_wp2
      go_ret2
      exact ⟨by rw [Hhv.out, HF.out]; rfl, (by repeat (first | (with_reducible exact Ext.refl _) | (with_reducible refine Ext.drewN ?_ _) | (with_reducible refine Ext.drew ?_) | (with_reducible refine Ext.alloc ?_ _) | ((with_reducible refine Ext.setCell ?_ ?_ _); rotate_left; focus (first | (simp; done) | (simp; omega) | omega)) | assumption | (with_reducible refine Ext.trans ?_ (by assumption))))⟩
  · have hgn : gapN D = 0 := if_neg hg
    have hC : cutI D m = (m : Int) - D.start.size - D.stop.size := by rw [HC.out, hgn]; omega
    have hE : (eachN D : Int) = (s0.size : Int) := by rw [HE.out, hgn]; omega
    rw [hC, hE] at HB HQ
    have hEp : 0 < (s0.size : Int) := by omega
    have Hhgn := Lib.hid hgn; clear hgn; have HhC := Lib.hid hC; clear hC; have HhE := Lib.hid hE; clear hE
    rcases Int.lt_or_le ((m : Int) - D.start.size - D.stop.size) 0 with hl | hl
    · have HF := Lib.hid (show cutB D m = false by rw [HB.out]; simp only [show decide (0 ≤ (m : Int) - D.start.size - D.stop.size) = false by simp; omega, Bool.false_and])
      go_enter Try.func109, Try.ntmps109
      go_wp2
      (refine wp_region_up (by kernel_rfl) (by kernel_rfl) (by kernel_rfl) ?_; (repeat (first | (refine mix_q rfl ?_; go_big_quiet_step (fail); refine wpQuiet_nil ?_; show wpMix _ _ _ _ _ _ _) | (refine mix_s rfl ?_; go_wp2_with (fail); first | refine ⟨up_of (by repeat (first | (with_reducible exact Ext.refl _) | (with_reducible refine Ext.drewN ?_ _) | (with_reducible refine Ext.drew ?_) | (with_reducible refine Ext.alloc ?_ _) | ((with_reducible refine Ext.setCell ?_ ?_ _); rotate_left; focus (first | (simp; done) | (simp; omega) | omega)) | assumption | (with_reducible refine Ext.trans ?_ (by assumption)))), ?_⟩ | refine ⟨rfl, rfl, up_of (by repeat (first | (with_reducible exact Ext.refl _) | (with_reducible refine Ext.drewN ?_ _) | (with_reducible refine Ext.drew ?_) | (with_reducible refine Ext.alloc ?_ _) | ((with_reducible refine Ext.setCell ?_ ?_ _); rotate_left; focus (first | (simp; done) | (simp; omega) | omega)) | assumption | (with_reducible refine Ext.trans ?_ (by assumption)))), ?_⟩))); refine mix_nil ?_)
      go_wp2
      go_ret2
      exact ⟨by rw [Hhv.out, HF.out]; rfl, (by repeat (first | (with_reducible exact Ext.refl _) | (with_reducible refine Ext.drewN ?_ _) | (with_reducible refine Ext.drew ?_) | (with_reducible refine Ext.alloc ?_ _) | ((with_reducible refine Ext.setCell ?_ ?_ _); rotate_left; focus (first | (simp; done) | (simp; omega) | omega)) | assumption | (with_reducible refine Ext.trans ?_ (by assumption))))⟩
    by_cases hr : ((m : Int) - D.start.size - D.stop.size) % ((s0.size : Int)) = 0
    rotate_left
    · have HF := Lib.hid (show cutB D m = false by rw [HB.out]; simp only [show decide (((m : Int) - D.start.size - D.stop.size) % ((s0.size : Int)) = 0) = false by simpa using hr, Bool.false_and, Bool.and_false])
      go_enter Try.func109, Try.ntmps109
      go_wp2
      (refine wp_region_up (by kernel_rfl) (by kernel_rfl) (by kernel_rfl) ?_; (repeat (first | (refine mix_q rfl ?_; go_big_quiet_step (fail); refine wpQuiet_nil ?_; show wpMix _ _ _ _ _ _ _) | (refine mix_s rfl ?_; go_wp2_with (fail); first | refine ⟨up_of (by repeat (first | (with_reducible exact Ext.refl _) | (with_reducible refine Ext.drewN ?_ _) | (with_reducible refine Ext.drew ?_) | (with_reducible refine Ext.alloc ?_ _) | ((with_reducible refine Ext.setCell ?_ ?_ _); rotate_left; focus (first | (simp; done) | (simp; omega) | omega)) | assumption | (with_reducible refine Ext.trans ?_ (by assumption)))), ?_⟩ | refine ⟨rfl, rfl, up_of (by repeat (first | (with_reducible exact Ext.refl _) | (with_reducible refine Ext.drewN ?_ _) | (with_reducible refine Ext.drew ?_) | (with_reducible refine Ext.alloc ?_ _) | ((with_reducible refine Ext.setCell ?_ ?_ _); rotate_left; focus (first | (simp; done) | (simp; omega) | omega)) | assumption | (with_reducible refine Ext.trans ?_ (by assumption)))), ?_⟩))); refine mix_nil ?_)
      go_wp2
      go_ret2
      exact ⟨by rw [Hhv.out, HF.out]; rfl, (by repeat (first | (with_reducible exact Ext.refl _) | (with_reducible refine Ext.drewN ?_ _) | (with_reducible refine Ext.drew ?_) | (with_reducible refine Ext.alloc ?_ _) | ((with_reducible refine Ext.setCell ?_ ?_ _); rotate_left; focus (first | (simp; done) | (simp; omega) | omega)) | assumption | (with_reducible refine Ext.trans ?_ (by assumption))))⟩
    have hq0 := Int.ediv_nonneg hl (Int.le_of_lt hEp)
    have hq1 := Int.ediv_le_self ((s0.size : Int)) hl
    by_cases hq : ((m : Int) - D.start.size - D.stop.size) / ((s0.size : Int)) ≤ 20
    · have HF := Lib.hid (show cutB D m = true by rw [HB.out]; simp only [hl, hr, hq, decide_true, Bool.and_true])
      have HV := Lib.hid (show v = ((m : Int) - D.start.size - D.stop.size) / ((s0.size : Int)) by rw [Hhv.out, HF.out, HQ.out]; simp only [if_true]; omega)
      go_enter Try.func109, Try.ntmps109
      go_wp2
      (refine wp_region_up (by kernel_rfl) (by kernel_rfl) (by kernel_rfl) ?_; (repeat (first | (refine mix_q rfl ?_; go_big_quiet_step (fail); refine wpQuiet_nil ?_; show wpMix _ _ _ _ _ _ _) | (refine mix_s rfl ?_; go_wp2_with (fail); first | refine ⟨up_of (by repeat (first | (with_reducible exact Ext.refl _) | (with_reducible refine Ext.drewN ?_ _) | (with_reducible refine Ext.drew ?_) | (with_reducible refine Ext.alloc ?_ _) | ((with_reducible refine Ext.setCell ?_ ?_ _); rotate_left; focus (first | (simp; done) | (simp; omega) | omega)) | assumption | (with_reducible refine Ext.trans ?_ (by assumption)))), ?_⟩ | refine ⟨rfl, rfl, up_of (by repeat (first | (with_reducible exact Ext.refl _) | (with_reducible refine Ext.drewN ?_ _) | (with_reducible refine Ext.drew ?_) | (with_reducible refine Ext.alloc ?_ _) | ((with_reducible refine Ext.setCell ?_ ?_ _); rotate_left; focus (first | (simp; done) | (simp; omega) | omega)) | assumption | (with_reducible refine Ext.trans ?_ (by assumption)))), ?_⟩))); refine mix_nil ?_)
      go_wp2
      go_ret2
      exact ⟨by rw [HV.out, HF.out]; rfl, (by repeat (first | (with_reducible exact Ext.refl _) | (with_reducible refine Ext.drewN ?_ _) | (with_reducible refine Ext.drew ?_) | (with_reducible refine Ext.alloc ?_ _) | ((with_reducible refine Ext.setCell ?_ ?_ _); rotate_left; focus (first | (simp; done) | (simp; omega) | omega)) | assumption | (with_reducible refine Ext.trans ?_ (by assumption))))⟩
    · have HF := Lib.hid (show cutB D m = false by rw [HB.out]; simp only [show decide (((m : Int) - D.start.size - D.stop.size) / ((s0.size : Int)) ≤ 20) = false by simpa using hq, Bool.and_false])
      go_enter Try.func109, Try.ntmps109
      go_wp2
      (refine wp_region_up (by kernel_rfl) (by kernel_rfl) (by kernel_rfl) ?_; (repeat (first | (refine mix_q rfl ?_; go_big_quiet_step (fail); refine wpQuiet_nil ?_; show wpMix _ _ _ _ _ _ _) | (refine mix_s rfl ?_; go_wp2_with (fail); first | refine ⟨up_of (by repeat (first | (with_reducible exact Ext.refl _) | (with_reducible refine Ext.drewN ?_ _) | (with_reducible refine Ext.drew ?_) | (with_reducible refine Ext.alloc ?_ _) | ((with_reducible refine Ext.setCell ?_ ?_ _); rotate_left; focus (first | (simp; done) | (simp; omega) | omega)) | assumption | (with_reducible refine Ext.trans ?_ (by assumption)))), ?_⟩ | refine ⟨rfl, rfl, up_of (by repeat (first | (with_reducible exact Ext.refl _) | (with_reducible refine Ext.drewN ?_ _) | (with_reducible refine Ext.drew ?_) | (with_reducible refine Ext.alloc ?_ _) | ((with_reducible refine Ext.setCell ?_ ?_ _); rotate_left; focus (first | (simp; done) | (simp; omega) | omega)) | assumption | (with_reducible refine Ext.trans ?_ (by assumption)))), ?_⟩))); refine mix_nil ?_)
      go_wp2
      go_ret2
      exact ⟨by rw [Hhv.out, HF.out]; rfl, (by repeat (first | (with_reducible exact Ext.refl _) | (with_reducible refine Ext.drewN ?_ _) | (with_reducible refine Ext.drew ?_) | (with_reducible refine Ext.alloc ?_ _) | ((with_reducible refine Ext.setCell ?_ ?_ _); rotate_left; focus (first | (simp; done) | (simp; omega) | omega)) | assumption | (with_reducible refine Ext.trans ?_ (by assumption))))⟩
end Go.Proofs.Ytnmkckghfckgbaa
