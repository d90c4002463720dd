/- Walks: one part of the stripes, in the reference. -/
import Derived.Test.YtnmkckghfckgbaaCut
namespace Go.Proofs.Ytnmkckghfckgbaa
set_option maxRecDepth 100000
open Go.RowKit

/-- a slice of what was there at w0 -/
def RetSub (w0 : World) (l : List Int) (w : World) (e : Ending) (w' : World) : Prop := ∃ a c, e = .returned (.slice a l.length c) ∧ Ext w w' ∧ Ints w0 a l.length c l
set_option maxHeartbeats 1000000 in
theorem spec_l08Part (D : Bc) (p : Nat) (a : Option Addr) (n c : Nat) (b : Option Addr) (m d : Nat) (l : List Int) (i : Nat) (w0 w : World) (hv : BcAt w p D a n c) (hok : OkBc D) (hi : Ints w0 b m d l) (_hm : m ≤ 1048576) (hi20 : i ≤ 20) (hb : atN D i + gapN D + (gs D.pats 0).size ≤ m) :
    Calls Try.prog 110 #[.pointer (some ⟨p, 0, none⟩), .slice b m d, .int .i64 i] w (RetSub w0 (partL D l i) w) := by
  have HN := Lib.hid hv.ps.len
  have HL := Lib.hid hi.len
  obtain ⟨q0, q1, q2, q3, hps⟩ := hv
  obtain ⟨pb1, poff, hpix, hpcell⟩ := hps.ix (P := Try.prog) 22 9 und_strings cell_string
  have h0 := patB_t hok.start
  have hz : 0 < n := by have := hok.n1; rw [HN.out] at this; omega
  have hcell0 : ∀ w', Ext w w' → w'.cell? ⟨pb1, poff, none⟩ = some (.string (gs D.pats 0)) := fun w' h => hpcell 0 w' hz h
  have s1 := hok.s1
  have s10 := hok.s10
  obtain ⟨_, t1, t10, _⟩ := h0
  have Hhok := Lib.hid hok; clear hok; have Hhps := Lib.hid hps; clear hps
  obtain ⟨a', hsub, hints⟩ := hi.sub (P := Try.prog) 36 2 und_int64s cell_int64 elem_int64s (atN D i + gapN D) (atN D i + gapN D + (gs D.pats 0).size) (by omega) hb
  rw [show atN D i + gapN D + (gs D.pats 0).size - (atN D i + gapN D) = (gs D.pats 0).size by omega] at hsub hints
  generalize d - (atN D i + gapN D) = cc at hsub hints
  have HP := Lib.hid (show (l.drop (atN D i + gapN D)).take (gs D.pats 0).size = partL D l i from rfl)
  rw [HP.out] at hints
  have HPL := Lib.hid hints.len
  have hA : atN D i = D.start.size + i * ((gs D.pats 0).size + gapN D) := rfl
  have Hhi := Lib.hid hi; clear hi; have Hhints := Lib.hid hints; clear hints
  generalize partL D l i = r at *
  generalize gs D.pats 0 = s0 at *
  by_cases hg : 0 < D.gap
  · have hgn : gapN D = 1 := if_pos hg
    rw [hgn] at hA hsub hb
    have hx : ((i * (s0.size + 1) : Nat) : Int) = (i : Int) * ((s0.size : Int) + 1) := by rw [Int.natCast_mul]; first | rfl | (congr 1)
    have hM : i * (s0.size + 1) ≤ 20 * 11 := Nat.mul_le_mul hi20 (by omega)
    have hlo : ((atN D i + 1 : Nat) : Int) = (D.start.size : Int) + 1 + (i : Int) * ((s0.size : Int) + 1) := by omega
    have hhi : ((atN D i + 1 + s0.size : Nat) : Int) = (D.start.size : Int) + 1 + (i : Int) * ((s0.size : Int) + 1) + (s0.size : Int) := by omega
    rw [hlo, hhi] at hsub
    have hM0 : 0 ≤ (i : Int) * ((s0.size : Int) + 1) := by omega
    have hM1 : (i : Int) * ((s0.size : Int) + 1) ≤ 220 := by omega
    have Hhgn := Lib.hid hgn; clear hgn; have HhA := Lib.hid hA; clear hA; have Hhx := Lib.hid hx; clear hx; have HhM := Lib.hid hM; clear hM; have Hhlo := Lib.hid hlo; clear hlo; have Hhhi := Lib.hid hhi; clear hhi; have Hhb := Lib.hid hb; clear hb
    go_enter Try.func110, Try.ntmps110
    go_wp2
    (refine wp_region_up (by kernel_rfl) (by kernel_rfl) (by kernel_rfl) ?_; (repeat (first | (refine mix_q rfl ?_; go_big_quiet_step (fail); refine wpQuiet_nil ?_; show wpMix _ _ _ _ _ _ _) | (refine mix_s rfl ?_; go_wp2_with (fail); first | refine ⟨up_of (by repeat (first | (with_reducible exact Ext.refl _) | (with_reducible refine Ext.drewN ?_ _) | (with_reducible refine Ext.drew ?_) | (with_reducible refine Ext.alloc ?_ _) | ((with_reducible refine Ext.setCell ?_ ?_ _); rotate_left; focus (first | (simp; done) | (simp; omega) | omega)) | assumption | (with_reducible refine Ext.trans ?_ (by assumption)))), ?_⟩ | refine ⟨rfl, rfl, up_of (by repeat (first | (with_reducible exact Ext.refl _) | (with_reducible refine Ext.drewN ?_ _) | (with_reducible refine Ext.drew ?_) | (with_reducible refine Ext.alloc ?_ _) | ((with_reducible refine Ext.setCell ?_ ?_ _); rotate_left; focus (first | (simp; done) | (simp; omega) | omega)) | assumption | (with_reducible refine Ext.trans ?_ (by assumption)))), ?_⟩))); refine mix_nil ?_)
    go_wp2
    go_ret
    exact ⟨a', _, by rw [HPL.out]; rfl, (by repeat (first | (with_reducible exact Ext.refl _) | (with_reducible refine Ext.drewN ?_ _) | (with_reducible refine Ext.drew ?_) | (with_reducible refine Ext.alloc ?_ _) | ((with_reducible refine Ext.setCell ?_ ?_ _); rotate_left; focus (first | (simp; done) | (simp; omega) | omega)) | assumption | (with_reducible refine Ext.trans ?_ (by assumption)))), by rw [HPL.out]; exact Hhints.out⟩
  · have hgn : gapN D = 0 := if_neg hg
    rw [hgn] at hA hsub hb
    have hx : ((i * (s0.size + 0) : Nat) : Int) = (i : Int) * (s0.size : Int) := by rw [Int.natCast_mul]; first | rfl | (congr 1)
    have hM : i * (s0.size + 0) ≤ 20 * 11 := Nat.mul_le_mul hi20 (by omega)
    have hlo : ((atN D i + 0 : Nat) : Int) = (D.start.size : Int) + (i : Int) * (s0.size : Int) := by omega
    have hhi : ((atN D i + 0 + s0.size : Nat) : Int) = (D.start.size : Int) + (i : Int) * (s0.size : Int) + (s0.size : Int) := by omega
    rw [hlo, hhi] at hsub
    have hM0 : 0 ≤ (i : Int) * (s0.size : Int) := by omega
    have hM1 : (i : Int) * (s0.size : Int) ≤ 220 := by omega
    have Hhgn := Lib.hid hgn; clear hgn; have HhA := Lib.hid hA; clear hA; have Hhx := Lib.hid hx; clear hx; have HhM := Lib.hid hM; clear hM; have Hhlo := Lib.hid hlo; clear hlo; have Hhhi := Lib.hid hhi; clear hhi; have Hhb := Lib.hid hb; clear hb
    go_enter Try.func110, Try.ntmps110
    go_wp2
    (refine wp_region_up (by kernel_rfl) (by kernel_rfl) (by kernel_rfl) ?_; (repeat (first | (refine mix_q rfl ?_; go_big_quiet_step (fail); refine wpQuiet_nil ?_; show wpMix _ _ _ _ _ _ _) | (refine mix_s rfl ?_; go_wp2_with (fail); first | refine ⟨up_of (by repeat (first | (with_reducible exact Ext.refl _) | (with_reducible refine Ext.drewN ?_ _) | (with_reducible refine Ext.drew ?_) | (with_reducible refine Ext.alloc ?_ _) | ((with_reducible refine Ext.setCell ?_ ?_ _); rotate_left; focus (first | (simp; done) | (simp; omega) | omega)) | assumption | (with_reducible refine Ext.trans ?_ (by assumption)))), ?_⟩ | refine ⟨rfl, rfl, up_of (by repeat (first | (with_reducible exact Ext.refl _) | (with_reducible refine Ext.drewN ?_ _) | (with_reducible refine Ext.drew ?_) | (with_reducible refine Ext.alloc ?_ _) | ((with_reducible refine Ext.setCell ?_ ?_ _); rotate_left; focus (first | (simp; done) | (simp; omega) | omega)) | assumption | (with_reducible refine Ext.trans ?_ (by assumption)))), ?_⟩))); refine mix_nil ?_)
    go_wp2
    go_ret
    exact ⟨a', _, by rw [HPL.out]; rfl, (by repeat (first | (with_reducible exact Ext.refl _) | (with_reducible refine Ext.drewN ?_ _) | (with_reducible refine Ext.drew ?_) | (with_reducible refine Ext.alloc ?_ _) | ((with_reducible refine Ext.setCell ?_ ?_ _); rotate_left; focus (first | (simp; done) | (simp; omega) | omega)) | assumption | (with_reducible refine Ext.trans ?_ (by assumption)))), by rw [HPL.out]; exact Hhints.out⟩
end Go.Proofs.Ytnmkckghfckgbaa
