/- Walks: stripes are cut into widths for start, patterns and stop, in the program. -/
import Derived.Test.YtnmkckghfckgbaaRead
import Derived.Test.YtnmkckghfckgbaaCube
namespace Go.Proofs.Ytnmkckghfckgbaa
set_option maxRecDepth 100000
open Go.RowKit

/-- rows: the first, the parts, the last -/
structure CutRows (D : Bc) (l : List Int) (N : Nat) (w : World) (vs : List Value) : Prop where
  fst : ∃ a c, gv vs 0 = .slice a D.start.size c ∧ Ints w a D.start.size c (l.take D.start.size)
  mid : ∀ i, i < N → ∃ a2 c2, gv vs (i + 1) = .slice a2 (gs D.pats 0).size c2 ∧ Ints w a2 (gs D.pats 0).size c2 (partL D l i)
  lst : ∃ a c, gv vs (N + 1) = .slice a D.stop.size c ∧ Ints w a D.stop.size c (l.drop (atN D N + gapN D))
def CutPost (D : Bc) (l : List Int) (m : Nat) (w : World) (e : Ending) (w' : World) : Prop :=
  Ext w w' ∧ if cutB D m then ∃ a c vs, e = .returned (.tuple #[.slice a (cutN D m + 2) c, .bool true]) ∧ Own w' w.heap.size 36 a (cutN D m + 2) c vs ∧ CutRows D l (cutN D m) w vs
    else e = .returned (.tuple #[.slice none 0 0, .bool false])
theorem gv_snoc_lt {vs : List Value} {u : Value} {k : Nat} (h : k < vs.length) : gv (vs ++ [u]) k = gv vs k := by simp [gv, List.getElem?_append_left h]
theorem gv_snoc {vs : List Value} {u : Value} {k : Nat} (h : vs.length = k) : gv (vs ++ [u]) k = u := by subst h; simp [gv]
set_option maxHeartbeats 2000000 in
theorem impl_cut (D : Bc) (p : Nat) (a : Option Addr) (n c : Nat) (b : Option Addr) (m d : Nat) (l : List Int) (w : World) (hv : BcAt w p D a n c) (hok : OkBc D) (hi : Ints w b m d l) (hm : m ≤ 1048576) :
    Calls Try.prog 112 #[.pointer (some ⟨p, 0, none⟩), .slice b m d] w (CutPost D l m w) := by
  have HN := Lib.hid hv.ps.len
  obtain ⟨q0, q1, q2, q3, hps⟩ := hv
  obtain ⟨pb1, poff, hpix, hpcell⟩ := hps.ix (P := Try.prog) 22 9 und_strings cell_string
  have h0 := patB_t hok.start
  have h9 := patB_t hok.stop
  have hz : 0 < n := by have := hok.n1; rw [HN.out] at this; omega
  have hcell0 : ∀ w', Ext w w' → w'.cell? ⟨pb1, poff, none⟩ = some (.string (gs D.pats 0)) := fun w' h => hpcell 0 w' hz h
  have s1 := hok.s1
  have s10 := hok.s10
  obtain ⟨_, t1, t10, _⟩ := h0
  obtain ⟨_, u1, u10, _⟩ := h9
  have HCY := Lib.hid (fun h => cut_yes (D := D) (m := m) h s1)
  have Hhok := Lib.hid hok; clear hok; have Hhps := Lib.hid hps; clear hps; have Hhi := Lib.hid hi; clear hi
  have HC := Lib.hid (show cutI D m = (m : Int) - D.start.size - D.stop.size - gapN D from rfl)
  have HE := Lib.hid (show eachN D = (gs D.pats 0).size + gapN D from rfl)
  have HB := Lib.hid (show cutB D m = (decide (0 ≤ cutI D m) && (decide (cutI D m % eachN D = 0) && decide (cutI D m / eachN D ≤ 20))) from rfl)
  have HQ := Lib.hid (show cutN D m = (cutI D m / eachN D).toNat from rfl)
  obtain ⟨z, hzz⟩ : ∃ z, z = (gs D.pats 0).size := ⟨_, rfl⟩
  by_cases hg : 0 < D.gap
  · have hgn : gapN D = 1 := if_pos hg
    have hC : cutI D m = (m : Int) - D.start.size - D.stop.size - 1 := by rw [HC.out, hgn]; omega
    have hE : (eachN D : Int) = ((gs D.pats 0).size : Int) + 1 := by rw [HE.out, hgn]; omega
    rw [hC, hE] at HB HQ
    have hEp : 0 < ((gs D.pats 0).size : Int) + 1 := by omega
    have hne : gs D.pats 0 ≠ ByteArray.empty := by intro h; rw [h] at s1; simp at s1
    have Hhgn := Lib.hid hgn; clear hgn; have HhC := Lib.hid hC; clear hC; have HhE := Lib.hid hE; clear hE
    rcases Int.lt_or_le ((m : Int) - D.start.size - D.stop.size - 1) 0 with hl | hl
    · have HF := Lib.hid (show cutB D m = false by rw [HB.out]; simp only [show decide (0 ≤ (m : Int) - D.start.size - D.stop.size - 1) = false by simp; omega, Bool.false_and])
      go_enter Try.func112, Try.ntmps112
      go_wp2
      (refine wp_region_up (by kernel_rfl) (by kernel_rfl) (by kernel_rfl) ?_; (repeat (first | (refine mix_q rfl ?_; go_big_quiet_step (fail); refine wpQuiet_nil ?_; show wpMix _ _ _ _ _ _ _) | (refine mix_s rfl ?_; go_wp2_with (fail); first | refine ⟨up_of (by repeat (first | (with_reducible exact Ext.refl _) | (with_reducible refine Ext.drewN ?_ _) | (with_reducible refine Ext.drew ?_) | (with_reducible refine Ext.alloc ?_ _) | ((with_reducible refine Ext.setCell ?_ ?_ _); rotate_left; focus (first | (simp; done) | (simp; omega) | omega)) | assumption | (with_reducible refine Ext.trans ?_ (by assumption)))), ?_⟩ | refine ⟨rfl, rfl, up_of (by repeat (first | (with_reducible exact Ext.refl _) | (with_reducible refine Ext.drewN ?_ _) | (with_reducible refine Ext.drew ?_) | (with_reducible refine Ext.alloc ?_ _) | ((with_reducible refine Ext.setCell ?_ ?_ _); rotate_left; focus (first | (simp; done) | (simp; omega) | omega)) | assumption | (with_reducible refine Ext.trans ?_ (by assumption)))), ?_⟩))); refine mix_nil ?_)
      go_wp2
      go_ret2
      exact ⟨(by repeat (first | (with_reducible exact Ext.refl _) | (with_reducible refine Ext.drewN ?_ _) | (with_reducible refine Ext.drew ?_) | (with_reducible refine Ext.alloc ?_ _) | ((with_reducible refine Ext.setCell ?_ ?_ _); rotate_left; focus (first | (simp; done) | (simp; omega) | omega)) | assumption | (with_reducible refine Ext.trans ?_ (by assumption)))), by rw [HF.out, if_neg (by decide)]; rfl⟩
    by_cases hr : ((m : Int) - D.start.size - D.stop.size - 1) % (((gs D.pats 0).size : Int) + 1) = 0
    rotate_left
    · have HF := Lib.hid (show cutB D m = false by rw [HB.out]; simp only [show decide (((m : Int) - D.start.size - D.stop.size - 1) % (((gs D.pats 0).size : Int) + 1) = 0) = false by simpa using hr, Bool.false_and, Bool.and_false])
      go_enter Try.func112, Try.ntmps112
      go_wp2
      (refine wp_region_up (by kernel_rfl) (by kernel_rfl) (by kernel_rfl) ?_; (repeat (first | (refine mix_q rfl ?_; go_big_quiet_step (fail); refine wpQuiet_nil ?_; show wpMix _ _ _ _ _ _ _) | (refine mix_s rfl ?_; go_wp2_with (fail); first | refine ⟨up_of (by repeat (first | (with_reducible exact Ext.refl _) | (with_reducible refine Ext.drewN ?_ _) | (with_reducible refine Ext.drew ?_) | (with_reducible refine Ext.alloc ?_ _) | ((with_reducible refine Ext.setCell ?_ ?_ _); rotate_left; focus (first | (simp; done) | (simp; omega) | omega)) | assumption | (with_reducible refine Ext.trans ?_ (by assumption)))), ?_⟩ | refine ⟨rfl, rfl, up_of (by repeat (first | (with_reducible exact Ext.refl _) | (with_reducible refine Ext.drewN ?_ _) | (with_reducible refine Ext.drew ?_) | (with_reducible refine Ext.alloc ?_ _) | ((with_reducible refine Ext.setCell ?_ ?_ _); rotate_left; focus (first | (simp; done) | (simp; omega) | omega)) | assumption | (with_reducible refine Ext.trans ?_ (by assumption)))), ?_⟩))); refine mix_nil ?_)
      go_wp2
      go_ret2
      exact ⟨(by repeat (first | (with_reducible exact Ext.refl _) | (with_reducible refine Ext.drewN ?_ _) | (with_reducible refine Ext.drew ?_) | (with_reducible refine Ext.alloc ?_ _) | ((with_reducible refine Ext.setCell ?_ ?_ _); rotate_left; focus (first | (simp; done) | (simp; omega) | omega)) | assumption | (with_reducible refine Ext.trans ?_ (by assumption)))), by rw [HF.out, if_neg (by decide)]; rfl⟩
    have hq0 := Int.ediv_nonneg hl (Int.le_of_lt hEp)
    have hq1 := Int.ediv_le_self (((gs D.pats 0).size : Int) + 1) hl
    by_cases hq : ((m : Int) - D.start.size - D.stop.size - 1) / (((gs D.pats 0).size : Int) + 1) ≤ 20
    rotate_left
    · have HF := Lib.hid (show cutB D m = false by rw [HB.out]; simp only [show decide (((m : Int) - D.start.size - D.stop.size - 1) / (((gs D.pats 0).size : Int) + 1) ≤ 20) = false by simpa using hq, Bool.and_false])
      go_enter Try.func112, Try.ntmps112
      go_wp2
      (refine wp_region_up (by kernel_rfl) (by kernel_rfl) (by kernel_rfl) ?_; (repeat (first | (refine mix_q rfl ?_; go_big_quiet_step (fail); refine wpQuiet_nil ?_; show wpMix _ _ _ _ _ _ _) | (refine mix_s rfl ?_; go_wp2_with (fail); first | refine ⟨up_of (by repeat (first | (with_reducible exact Ext.refl _) | (with_reducible refine Ext.drewN ?_ _) | (with_reducible refine Ext.drew ?_) | (with_reducible refine Ext.alloc ?_ _) | ((with_reducible refine Ext.setCell ?_ ?_ _); rotate_left; focus (first | (simp; done) | (simp; omega) | omega)) | assumption | (with_reducible refine Ext.trans ?_ (by assumption)))), ?_⟩ | refine ⟨rfl, rfl, up_of (by repeat (first | (with_reducible exact Ext.refl _) | (with_reducible refine Ext.drewN ?_ _) | (with_reducible refine Ext.drew ?_) | (with_reducible refine Ext.alloc ?_ _) | ((with_reducible refine Ext.setCell ?_ ?_ _); rotate_left; focus (first | (simp; done) | (simp; omega) | omega)) | assumption | (with_reducible refine Ext.trans ?_ (by assumption)))), ?_⟩))); refine mix_nil ?_)
      go_wp2
      go_ret2
      exact ⟨(by repeat (first | (with_reducible exact Ext.refl _) | (with_reducible refine Ext.drewN ?_ _) | (with_reducible refine Ext.drew ?_) | (with_reducible refine Ext.alloc ?_ _) | ((with_reducible refine Ext.setCell ?_ ?_ _); rotate_left; focus (first | (simp; done) | (simp; omega) | omega)) | assumption | (with_reducible refine Ext.trans ?_ (by assumption)))), by rw [HF.out, if_neg (by decide)]; rfl⟩
    have HF := Lib.hid (show cutB D m = true by rw [HB.out]; simp only [hl, hr, hq, decide_true, Bool.and_true])
    have HNv := Lib.hid (show ((m : Int) - D.start.size - D.stop.size - 1) / (((gs D.pats 0).size : Int) + 1) = (cutN D m : Int) by rw [HQ.out]; omega)
    obtain ⟨hm1, hN20⟩ := HCY.out HF.out
    have hlo : D.start.size ≤ m := by unfold atN at hm1; omega
    obtain ⟨a0, hpre, hi0⟩ := Hhi.out.pre (P := Try.prog) 36 2 und_int64s cell_int64 elem_int64s D.start.size hlo
    have Hhi0 := Lib.hid hi0; clear hi0; have Hhm1 := Lib.hid hm1; clear hm1
    go_enter Try.func112, Try.ntmps112
    go_wp2
    (refine wp_region_up (by kernel_rfl) (by kernel_rfl) (by kernel_rfl) ?_; (repeat (first | (refine mix_q rfl ?_; go_big_quiet_step (fail); refine wpQuiet_nil ?_; show wpMix _ _ _ _ _ _ _) | (refine mix_s rfl ?_; go_wp2_with (fail); first | refine ⟨up_of (by repeat (first | (with_reducible exact Ext.refl _) | (with_reducible refine Ext.drewN ?_ _) | (with_reducible refine Ext.drew ?_) | (with_reducible refine Ext.alloc ?_ _) | ((with_reducible refine Ext.setCell ?_ ?_ _); rotate_left; focus (first | (simp; done) | (simp; omega) | omega)) | assumption | (with_reducible refine Ext.trans ?_ (by assumption)))), ?_⟩ | refine ⟨rfl, rfl, up_of (by repeat (first | (with_reducible exact Ext.refl _) | (with_reducible refine Ext.drewN ?_ _) | (with_reducible refine Ext.drew ?_) | (with_reducible refine Ext.alloc ?_ _) | ((with_reducible refine Ext.setCell ?_ ?_ _); rotate_left; focus (first | (simp; done) | (simp; omega) | omega)) | assumption | (with_reducible refine Ext.trans ?_ (by assumption)))), ?_⟩))); refine mix_nil ?_)
    go_wp2
    (refine wp_region_from w (by repeat (first | (with_reducible exact Ext.refl _) | (with_reducible refine Ext.drewN ?_ _) | (with_reducible refine Ext.drew ?_) | (with_reducible refine Ext.alloc ?_ _) | ((with_reducible refine Ext.setCell ?_ ?_ _); rotate_left; focus (first | (simp; done) | (simp; omega) | omega)) | assumption | (with_reducible refine Ext.trans ?_ (by assumption)))) (by kernel_rfl) (by kernel_rfl) (by kernel_rfl) ?_; (repeat (first | (refine mix_q rfl ?_; go_big_quiet_step (fail); refine wpQuiet_nil ?_; show wpMix _ _ _ _ _ _ _) | (refine mix_s rfl ?_; go_wp2_with (fail); first | refine ⟨up_of (by repeat (first | (with_reducible exact Ext.refl _) | (with_reducible refine Ext.drewN ?_ _) | (with_reducible refine Ext.drew ?_) | (with_reducible refine Ext.alloc ?_ _) | ((with_reducible refine Ext.setCell ?_ ?_ _); rotate_left; focus (first | (simp; done) | (simp; omega) | omega)) | assumption | (with_reducible refine Ext.trans ?_ (by assumption)))), ?_⟩ | refine ⟨rfl, rfl, up_of (by repeat (first | (with_reducible exact Ext.refl _) | (with_reducible refine Ext.drewN ?_ _) | (with_reducible refine Ext.drew ?_) | (with_reducible refine Ext.alloc ?_ _) | ((with_reducible refine Ext.setCell ?_ ?_ _); rotate_left; focus (first | (simp; done) | (simp; omega) | omega)) | assumption | (with_reducible refine Ext.trans ?_ (by assumption)))), ?_⟩))); refine mix_nil ?_)
    go_wp2
    rw [HNv.out]
    have hatN : ∀ k, k < cutN D m → atN D k + gapN D + (gs D.pats 0).size ≤ m ∧ atN D k + eachN D ≤ m := fun k hk => by
      have h2 : atN D (k + 1) ≤ atN D (cutN D m) := by unfold atN; exact Nat.add_le_add_left (Nat.mul_le_mul_right _ hk) _
      rw [atN_succ] at h2
      have := Hhm1.out
      have h3 : eachN D = (gs D.pats 0).size + gapN D := rfl
      omega
    have HhatN := Lib.hid hatN; clear hatN
    generalize hNN : cutN D m = N at *
    have HhNN := Lib.hid hNN; clear hNN
    go_loopw [9, 10, 71] (fun v at' i wr => ∃ (k : Nat) (ad : Option Addr) (cc : Nat) (vs : List Value), k ≤ N ∧ i = .int .i64 k ∧ at' = .int .i64 (atN D k) ∧ v = .slice ad (k + 1) cc ∧ Own wr w.heap.size 36 ad (k + 1) cc vs ∧ gv vs 0 = .slice a0 D.start.size d ∧ (∀ j, j < k → ∃ a2 c2, gv vs (j + 1) = .slice a2 (gs D.pats 0).size c2 ∧ Ints w a2 (gs D.pats 0).size c2 (partL D l j)) ∧ Ext w wr) (fun _ _ i _ => N - (intOf i).toNat)
    case atStart => exact ⟨0, _, _, [.slice a0 D.start.size d], Nat.zero_le _, rfl, by simp [atN], rfl, own_lit1 w _ _, rfl, fun j hj => by omega, (by repeat (first | (with_reducible exact Ext.refl _) | (with_reducible refine Ext.drewN ?_ _) | (with_reducible refine Ext.drew ?_) | (with_reducible refine Ext.alloc ?_ _) | ((with_reducible refine Ext.setCell ?_ ?_ _); rotate_left; focus (first | (simp; done) | (simp; omega) | omega)) | assumption | (with_reducible refine Ext.trans ?_ (by assumption))))⟩
    case round =>
      obtain ⟨k, ad, cc, vs, hk, rfl, rfl, rfl, ho, hg0, hps, hx⟩ := hrel
      have Hho := Lib.hid ho; clear ho; have Hhg0 := Lib.hid hg0; clear hg0; have Hhps := Lib.hid hps; clear hps
      by_cases hlt : k < N
      · obtain ⟨ha1, ha2⟩ := HhatN.out k hlt
        obtain ⟨a9, hsub, hi9⟩ := Hhi.out.sub (P := Try.prog) 36 2 und_int64s cell_int64 elem_int64s (atN D k + gapN D) (atN D k + eachN D) (by unfold eachN; omega) ha2
        rw [show ((atN D k + gapN D : Nat) : Int) = (atN D k : Int) + 1 by rw [Hhgn.out]; omega, show ((atN D k + eachN D : Nat) : Int) = (atN D k : Int) + (((gs D.pats 0).size : Int) + 1) by rw [← HhE.out]; omega, show atN D k + eachN D - (atN D k + gapN D) = (gs D.pats 0).size by unfold eachN; omega] at hsub
        rw [show atN D k + eachN D - (atN D k + gapN D) = (gs D.pats 0).size by unfold eachN; omega] at hi9
        generalize d - (atN D k + gapN D) = c9 at *
        have hpart : (l.drop (atN D k + gapN D)).take (gs D.pats 0).size = partL D l k := rfl
        rw [hpart] at hi9
        have hae : ((atN D (k + 1) : Nat) : Int) = (atN D k : Int) + (((gs D.pats 0).size : Int) + 1) := by rw [atN_succ, ← HhE.out]; omega
        have Hhi9 := Lib.hid hi9; clear hi9; have Hhpart := Lib.hid hpart; clear hpart; have Hhae := Lib.hid hae; clear hae
        go_wp2_with (at_builtin; refine law_append1 _ rfl _ _ 76 rfl 36 (.slice none 0 0) 24 und_rows info_row1 rfl w.heap.size ad (k + 1) cc _ _ rfl rfl rfl Hho.out hx.le (by omega) (by omega) ?_; intro ad6 c6 w6 ho6 hb6 _; have hxw6 : Ext w w6 := Ext.below (by repeat (first | (with_reducible exact Ext.refl _) | (with_reducible refine Ext.drewN ?_ _) | (with_reducible refine Ext.drew ?_) | (with_reducible refine Ext.alloc ?_ _) | ((with_reducible refine Ext.setCell ?_ ?_ _); rotate_left; focus (first | (simp; done) | (simp; omega) | omega)) | assumption | (with_reducible refine Ext.trans ?_ (by assumption)))) hb6)
        refine ⟨⟨k + 1, ad6, c6, _, by omega, by go_num, by rw [Hhae.out], rfl, ho6, (gv_snoc_lt (by have := Hho.out.len; omega)).trans Hhg0.out, ?_, hxw6⟩, by simp [intOf]; omega⟩
        have hvl : vs.length = k + 1 := Hho.out.len
        intro j hj
        by_cases hjk : j < k
        · obtain ⟨a2, c2, h1, h2⟩ := Hhps.out j hjk
          exact ⟨a2, c2, (gv_snoc_lt (by omega)).trans h1, h2⟩
        · obtain rfl : j = k := by omega
          exact ⟨a9, c9, gv_snoc hvl, Hhi9.out⟩
      · obtain rfl : k = N := by omega
        have hsm : atN D k + gapN D ≤ m := by have := Hhm1.out; omega
        have hsn : m - (atN D k + gapN D) = D.stop.size := by have := Hhm1.out; omega
        obtain ⟨a9, hsuf, hi9⟩ := Hhi.out.suf (P := Try.prog) 36 2 und_int64s cell_int64 elem_int64s (atN D k + gapN D) hsm
        rw [show ((atN D k + gapN D : Nat) : Int) = (atN D k : Int) + 1 by rw [Hhgn.out]; omega, hsn] at hsuf
        rw [hsn] at hi9
        generalize d - (atN D k + gapN D) = c9 at *
        have hat1 : atN D k ≤ 1048576 := by omega
        have Hhi9 := Lib.hid hi9; clear hi9; have Hhsn := Lib.hid hsn; clear hsn
        go_wp2_with (at_builtin; refine law_append1 _ rfl _ _ 76 rfl 36 (.slice none 0 0) 24 und_rows info_row1 rfl w.heap.size ad (k + 1) cc _ _ rfl rfl rfl Hho.out hx.le (by omega) (by omega) ?_; intro ad6 c6 w6 ho6 hb6 _; have hxw6 : Ext w w6 := Ext.below (by repeat (first | (with_reducible exact Ext.refl _) | (with_reducible refine Ext.drewN ?_ _) | (with_reducible refine Ext.drew ?_) | (with_reducible refine Ext.alloc ?_ _) | ((with_reducible refine Ext.setCell ?_ ?_ _); rotate_left; focus (first | (simp; done) | (simp; omega) | omega)) | assumption | (with_reducible refine Ext.trans ?_ (by assumption)))) hb6)
        go_ret2
        have hvl : vs.length = k + 1 := Hho.out.len
        refine ⟨hxw6, ?_⟩
        rw [HF.out, if_pos rfl, HhNN.out]
        refine ⟨ad6, c6, _, rfl, ho6, ⟨a0, d, (gv_snoc_lt (by omega)).trans Hhg0.out, Hhi0.out⟩, fun i hi => ?_, ⟨a9, c9, gv_snoc hvl, Hhi9.out⟩⟩
        obtain ⟨a2, c2, h1, h2⟩ := Hhps.out i hi
        exact ⟨a2, c2, (gv_snoc_lt (by omega)).trans h1, h2⟩
  · have hgn : gapN D = 0 := if_neg hg
    have hC : cutI D m = (m : Int) - D.start.size - D.stop.size := by rw [HC.out, hgn]; omega
    have hE : (eachN D : Int) = ((gs D.pats 0).size : Int) := by rw [HE.out, hgn]; omega
    rw [hC, hE] at HB HQ
    have hEp : 0 < ((gs D.pats 0).size : Int) := by omega
    have hne : gs D.pats 0 ≠ ByteArray.empty := by intro h; rw [h] at s1; simp at s1
    have Hhgn := Lib.hid hgn; clear hgn; have HhC := Lib.hid hC; clear hC; have HhE := Lib.hid hE; clear hE
    rcases Int.lt_or_le ((m : Int) - D.start.size - D.stop.size) 0 with hl | hl
    · have HF := Lib.hid (show cutB D m = false by rw [HB.out]; simp only [show decide (0 ≤ (m : Int) - D.start.size - D.stop.size) = false by simp; omega, Bool.false_and])
      go_enter Try.func112, Try.ntmps112
      go_wp2
      (refine wp_region_up (by kernel_rfl) (by kernel_rfl) (by kernel_rfl) ?_; (repeat (first | (refine mix_q rfl ?_; go_big_quiet_step (fail); refine wpQuiet_nil ?_; show wpMix _ _ _ _ _ _ _) | (refine mix_s rfl ?_; go_wp2_with (fail); first | refine ⟨up_of (by repeat (first | (with_reducible exact Ext.refl _) | (with_reducible refine Ext.drewN ?_ _) | (with_reducible refine Ext.drew ?_) | (with_reducible refine Ext.alloc ?_ _) | ((with_reducible refine Ext.setCell ?_ ?_ _); rotate_left; focus (first | (simp; done) | (simp; omega) | omega)) | assumption | (with_reducible refine Ext.trans ?_ (by assumption)))), ?_⟩ | refine ⟨rfl, rfl, up_of (by repeat (first | (with_reducible exact Ext.refl _) | (with_reducible refine Ext.drewN ?_ _) | (with_reducible refine Ext.drew ?_) | (with_reducible refine Ext.alloc ?_ _) | ((with_reducible refine Ext.setCell ?_ ?_ _); rotate_left; focus (first | (simp; done) | (simp; omega) | omega)) | assumption | (with_reducible refine Ext.trans ?_ (by assumption)))), ?_⟩))); refine mix_nil ?_)
      go_wp2
      go_ret2
      exact ⟨(by repeat (first | (with_reducible exact Ext.refl _) | (with_reducible refine Ext.drewN ?_ _) | (with_reducible refine Ext.drew ?_) | (with_reducible refine Ext.alloc ?_ _) | ((with_reducible refine Ext.setCell ?_ ?_ _); rotate_left; focus (first | (simp; done) | (simp; omega) | omega)) | assumption | (with_reducible refine Ext.trans ?_ (by assumption)))), by rw [HF.out, if_neg (by decide)]; rfl⟩
    by_cases hr : ((m : Int) - D.start.size - D.stop.size) % (((gs D.pats 0).size : Int)) = 0
    rotate_left
    · have HF := Lib.hid (show cutB D m = false by rw [HB.out]; simp only [show decide (((m : Int) - D.start.size - D.stop.size) % (((gs D.pats 0).size : Int)) = 0) = false by simpa using hr, Bool.false_and, Bool.and_false])
      go_enter Try.func112, Try.ntmps112
      go_wp2
      (refine wp_region_up (by kernel_rfl) (by kernel_rfl) (by kernel_rfl) ?_; (repeat (first | (refine mix_q rfl ?_; go_big_quiet_step (fail); refine wpQuiet_nil ?_; show wpMix _ _ _ _ _ _ _) | (refine mix_s rfl ?_; go_wp2_with (fail); first | refine ⟨up_of (by repeat (first | (with_reducible exact Ext.refl _) | (with_reducible refine Ext.drewN ?_ _) | (with_reducible refine Ext.drew ?_) | (with_reducible refine Ext.alloc ?_ _) | ((with_reducible refine Ext.setCell ?_ ?_ _); rotate_left; focus (first | (simp; done) | (simp; omega) | omega)) | assumption | (with_reducible refine Ext.trans ?_ (by assumption)))), ?_⟩ | refine ⟨rfl, rfl, up_of (by repeat (first | (with_reducible exact Ext.refl _) | (with_reducible refine Ext.drewN ?_ _) | (with_reducible refine Ext.drew ?_) | (with_reducible refine Ext.alloc ?_ _) | ((with_reducible refine Ext.setCell ?_ ?_ _); rotate_left; focus (first | (simp; done) | (simp; omega) | omega)) | assumption | (with_reducible refine Ext.trans ?_ (by assumption)))), ?_⟩))); refine mix_nil ?_)
      go_wp2
      go_ret2
      exact ⟨(by repeat (first | (with_reducible exact Ext.refl _) | (with_reducible refine Ext.drewN ?_ _) | (with_reducible refine Ext.drew ?_) | (with_reducible refine Ext.alloc ?_ _) | ((with_reducible refine Ext.setCell ?_ ?_ _); rotate_left; focus (first | (simp; done) | (simp; omega) | omega)) | assumption | (with_reducible refine Ext.trans ?_ (by assumption)))), by rw [HF.out, if_neg (by decide)]; rfl⟩
    have hq0 := Int.ediv_nonneg hl (Int.le_of_lt hEp)
    have hq1 := Int.ediv_le_self (((gs D.pats 0).size : Int)) hl
    by_cases hq : ((m : Int) - D.start.size - D.stop.size) / (((gs D.pats 0).size : Int)) ≤ 20
    rotate_left
    · have HF := Lib.hid (show cutB D m = false by rw [HB.out]; simp only [show decide (((m : Int) - D.start.size - D.stop.size) / (((gs D.pats 0).size : Int)) ≤ 20) = false by simpa using hq, Bool.and_false])
      go_enter Try.func112, Try.ntmps112
      go_wp2
      (refine wp_region_up (by kernel_rfl) (by kernel_rfl) (by kernel_rfl) ?_; (repeat (first | (refine mix_q rfl ?_; go_big_quiet_step (fail); refine wpQuiet_nil ?_; show wpMix _ _ _ _ _ _ _) | (refine mix_s rfl ?_; go_wp2_with (fail); first | refine ⟨up_of (by repeat (first | (with_reducible exact Ext.refl _) | (with_reducible refine Ext.drewN ?_ _) | (with_reducible refine Ext.drew ?_) | (with_reducible refine Ext.alloc ?_ _) | ((with_reducible refine Ext.setCell ?_ ?_ _); rotate_left; focus (first | (simp; done) | (simp; omega) | omega)) | assumption | (with_reducible refine Ext.trans ?_ (by assumption)))), ?_⟩ | refine ⟨rfl, rfl, up_of (by repeat (first | (with_reducible exact Ext.refl _) | (with_reducible refine Ext.drewN ?_ _) | (with_reducible refine Ext.drew ?_) | (with_reducible refine Ext.alloc ?_ _) | ((with_reducible refine Ext.setCell ?_ ?_ _); rotate_left; focus (first | (simp; done) | (simp; omega) | omega)) | assumption | (with_reducible refine Ext.trans ?_ (by assumption)))), ?_⟩))); refine mix_nil ?_)
      go_wp2
      go_ret2
      exact ⟨(by repeat (first | (with_reducible exact Ext.refl _) | (with_reducible refine Ext.drewN ?_ _) | (with_reducible refine Ext.drew ?_) | (with_reducible refine Ext.alloc ?_ _) | ((with_reducible refine Ext.setCell ?_ ?_ _); rotate_left; focus (first | (simp; done) | (simp; omega) | omega)) | assumption | (with_reducible refine Ext.trans ?_ (by assumption)))), by rw [HF.out, if_neg (by decide)]; rfl⟩
    have HF := Lib.hid (show cutB D m = true by rw [HB.out]; simp only [hl, hr, hq, decide_true, Bool.and_true])
    have HNv := Lib.hid (show ((m : Int) - D.start.size - D.stop.size) / (((gs D.pats 0).size : Int)) = (cutN D m : Int) by rw [HQ.out]; omega)
    obtain ⟨hm1, hN20⟩ := HCY.out HF.out
    have hlo : D.start.size ≤ m := by unfold atN at hm1; omega
    obtain ⟨a0, hpre, hi0⟩ := Hhi.out.pre (P := Try.prog) 36 2 und_int64s cell_int64 elem_int64s D.start.size hlo
    have Hhi0 := Lib.hid hi0; clear hi0; have Hhm1 := Lib.hid hm1; clear hm1
    go_enter Try.func112, Try.ntmps112
    go_wp2
    (refine wp_region_up (by kernel_rfl) (by kernel_rfl) (by kernel_rfl) ?_; (repeat (first | (refine mix_q rfl ?_; go_big_quiet_step (fail); refine wpQuiet_nil ?_; show wpMix _ _ _ _ _ _ _) | (refine mix_s rfl ?_; go_wp2_with (fail); first | refine ⟨up_of (by repeat (first | (with_reducible exact Ext.refl _) | (with_reducible refine Ext.drewN ?_ _) | (with_reducible refine Ext.drew ?_) | (with_reducible refine Ext.alloc ?_ _) | ((with_reducible refine Ext.setCell ?_ ?_ _); rotate_left; focus (first | (simp; done) | (simp; omega) | omega)) | assumption | (with_reducible refine Ext.trans ?_ (by assumption)))), ?_⟩ | refine ⟨rfl, rfl, up_of (by repeat (first | (with_reducible exact Ext.refl _) | (with_reducible refine Ext.drewN ?_ _) | (with_reducible refine Ext.drew ?_) | (with_reducible refine Ext.alloc ?_ _) | ((with_reducible refine Ext.setCell ?_ ?_ _); rotate_left; focus (first | (simp; done) | (simp; omega) | omega)) | assumption | (with_reducible refine Ext.trans ?_ (by assumption)))), ?_⟩))); refine mix_nil ?_)
    go_wp2
    (refine wp_region_from w (by repeat (first | (with_reducible exact Ext.refl _) | (with_reducible refine Ext.drewN ?_ _) | (with_reducible refine Ext.drew ?_) | (with_reducible refine Ext.alloc ?_ _) | ((with_reducible refine Ext.setCell ?_ ?_ _); rotate_left; focus (first | (simp; done) | (simp; omega) | omega)) | assumption | (with_reducible refine Ext.trans ?_ (by assumption)))) (by kernel_rfl) (by kernel_rfl) (by kernel_rfl) ?_; (repeat (first | (refine mix_q rfl ?_; go_big_quiet_step (fail); refine wpQuiet_nil ?_; show wpMix _ _ _ _ _ _ _) | (refine mix_s rfl ?_; go_wp2_with (fail); first | refine ⟨up_of (by repeat (first | (with_reducible exact Ext.refl _) | (with_reducible refine Ext.drewN ?_ _) | (with_reducible refine Ext.drew ?_) | (with_reducible refine Ext.alloc ?_ _) | ((with_reducible refine Ext.setCell ?_ ?_ _); rotate_left; focus (first | (simp; done) | (simp; omega) | omega)) | assumption | (with_reducible refine Ext.trans ?_ (by assumption)))), ?_⟩ | refine ⟨rfl, rfl, up_of (by repeat (first | (with_reducible exact Ext.refl _) | (with_reducible refine Ext.drewN ?_ _) | (with_reducible refine Ext.drew ?_) | (with_reducible refine Ext.alloc ?_ _) | ((with_reducible refine Ext.setCell ?_ ?_ _); rotate_left; focus (first | (simp; done) | (simp; omega) | omega)) | assumption | (with_reducible refine Ext.trans ?_ (by assumption)))), ?_⟩))); refine mix_nil ?_)
    go_wp2
    rw [HNv.out]
    have hatN : ∀ k, k < cutN D m → atN D k + gapN D + (gs D.pats 0).size ≤ m ∧ atN D k + eachN D ≤ m := fun k hk => by
      have h2 : atN D (k + 1) ≤ atN D (cutN D m) := by unfold atN; exact Nat.add_le_add_left (Nat.mul_le_mul_right _ hk) _
      rw [atN_succ] at h2
      have := Hhm1.out
      have h3 : eachN D = (gs D.pats 0).size + gapN D := rfl
      omega
    have HhatN := Lib.hid hatN; clear hatN
    generalize hNN : cutN D m = N at *
    have HhNN := Lib.hid hNN; clear hNN
    go_loopw [9, 10, 71] (fun v at' i wr => ∃ (k : Nat) (ad : Option Addr) (cc : Nat) (vs : List Value), k ≤ N ∧ i = .int .i64 k ∧ at' = .int .i64 (atN D k) ∧ v = .slice ad (k + 1) cc ∧ Own wr w.heap.size 36 ad (k + 1) cc vs ∧ gv vs 0 = .slice a0 D.start.size d ∧ (∀ j, j < k → ∃ a2 c2, gv vs (j + 1) = .slice a2 (gs D.pats 0).size c2 ∧ Ints w a2 (gs D.pats 0).size c2 (partL D l j)) ∧ Ext w wr) (fun _ _ i _ => N - (intOf i).toNat)
    case atStart => exact ⟨0, _, _, [.slice a0 D.start.size d], Nat.zero_le _, rfl, by simp [atN], rfl, own_lit1 w _ _, rfl, fun j hj => by omega, (by repeat (first | (with_reducible exact Ext.refl _) | (with_reducible refine Ext.drewN ?_ _) | (with_reducible refine Ext.drew ?_) | (with_reducible refine Ext.alloc ?_ _) | ((with_reducible refine Ext.setCell ?_ ?_ _); rotate_left; focus (first | (simp; done) | (simp; omega) | omega)) | assumption | (with_reducible refine Ext.trans ?_ (by assumption))))⟩
    case round =>
      obtain ⟨k, ad, cc, vs, hk, rfl, rfl, rfl, ho, hg0, hps, hx⟩ := hrel
      have Hho := Lib.hid ho; clear ho; have Hhg0 := Lib.hid hg0; clear hg0; have Hhps := Lib.hid hps; clear hps
      by_cases hlt : k < N
      · obtain ⟨ha1, ha2⟩ := HhatN.out k hlt
        obtain ⟨a9, hsub, hi9⟩ := Hhi.out.sub (P := Try.prog) 36 2 und_int64s cell_int64 elem_int64s (atN D k + gapN D) (atN D k + eachN D) (by unfold eachN; omega) ha2
        rw [show ((atN D k + gapN D : Nat) : Int) = (atN D k : Int) by rw [Hhgn.out]; omega, show ((atN D k + eachN D : Nat) : Int) = (atN D k : Int) + (((gs D.pats 0).size : Int)) by rw [← HhE.out]; omega, show atN D k + eachN D - (atN D k + gapN D) = (gs D.pats 0).size by unfold eachN; omega] at hsub
        rw [show atN D k + eachN D - (atN D k + gapN D) = (gs D.pats 0).size by unfold eachN; omega] at hi9
        generalize d - (atN D k + gapN D) = c9 at *
        have hpart : (l.drop (atN D k + gapN D)).take (gs D.pats 0).size = partL D l k := rfl
        rw [hpart] at hi9
        have hae : ((atN D (k + 1) : Nat) : Int) = (atN D k : Int) + (((gs D.pats 0).size : Int)) := by rw [atN_succ, ← HhE.out]; omega
        have Hhi9 := Lib.hid hi9; clear hi9; have Hhpart := Lib.hid hpart; clear hpart; have Hhae := Lib.hid hae; clear hae
        go_wp2_with (at_builtin; refine law_append1 _ rfl _ _ 76 rfl 36 (.slice none 0 0) 24 und_rows info_row1 rfl w.heap.size ad (k + 1) cc _ _ rfl rfl rfl Hho.out hx.le (by omega) (by omega) ?_; intro ad6 c6 w6 ho6 hb6 _; have hxw6 : Ext w w6 := Ext.below (by repeat (first | (with_reducible exact Ext.refl _) | (with_reducible refine Ext.drewN ?_ _) | (with_reducible refine Ext.drew ?_) | (with_reducible refine Ext.alloc ?_ _) | ((with_reducible refine Ext.setCell ?_ ?_ _); rotate_left; focus (first | (simp; done) | (simp; omega) | omega)) | assumption | (with_reducible refine Ext.trans ?_ (by assumption)))) hb6)
        refine ⟨⟨k + 1, ad6, c6, _, by omega, by go_num, by rw [Hhae.out], rfl, ho6, (gv_snoc_lt (by have := Hho.out.len; omega)).trans Hhg0.out, ?_, hxw6⟩, by simp [intOf]; omega⟩
        have hvl : vs.length = k + 1 := Hho.out.len
        intro j hj
        by_cases hjk : j < k
        · obtain ⟨a2, c2, h1, h2⟩ := Hhps.out j hjk
          exact ⟨a2, c2, (gv_snoc_lt (by omega)).trans h1, h2⟩
        · obtain rfl : j = k := by omega
          exact ⟨a9, c9, gv_snoc hvl, Hhi9.out⟩
      · obtain rfl : k = N := by omega
        have hsm : atN D k + gapN D ≤ m := by have := Hhm1.out; omega
        have hsn : m - (atN D k + gapN D) = D.stop.size := by have := Hhm1.out; omega
        obtain ⟨a9, hsuf, hi9⟩ := Hhi.out.suf (P := Try.prog) 36 2 und_int64s cell_int64 elem_int64s (atN D k + gapN D) hsm
        rw [show ((atN D k + gapN D : Nat) : Int) = (atN D k : Int) by rw [Hhgn.out]; omega, hsn] at hsuf
        rw [hsn] at hi9
        generalize d - (atN D k + gapN D) = c9 at *
        have hat1 : atN D k ≤ 1048576 := by omega
        have Hhi9 := Lib.hid hi9; clear hi9; have Hhsn := Lib.hid hsn; clear hsn
        go_wp2_with (at_builtin; refine law_append1 _ rfl _ _ 76 rfl 36 (.slice none 0 0) 24 und_rows info_row1 rfl w.heap.size ad (k + 1) cc _ _ rfl rfl rfl Hho.out hx.le (by omega) (by omega) ?_; intro ad6 c6 w6 ho6 hb6 _; have hxw6 : Ext w w6 := Ext.below (by repeat (first | (with_reducible exact Ext.refl _) | (with_reducible refine Ext.drewN ?_ _) | (with_reducible refine Ext.drew ?_) | (with_reducible refine Ext.alloc ?_ _) | ((with_reducible refine Ext.setCell ?_ ?_ _); rotate_left; focus (first | (simp; done) | (simp; omega) | omega)) | assumption | (with_reducible refine Ext.trans ?_ (by assumption)))) hb6)
        go_ret2
        have hvl : vs.length = k + 1 := Hho.out.len
        refine ⟨hxw6, ?_⟩
        rw [HF.out, if_pos rfl, HhNN.out]
        refine ⟨ad6, c6, _, rfl, ho6, ⟨a0, d, (gv_snoc_lt (by omega)).trans Hhg0.out, Hhi0.out⟩, fun i hi => ?_, ⟨a9, c9, gv_snoc hvl, Hhi9.out⟩⟩
        obtain ⟨a2, c2, h1, h2⟩ := Hhps.out i hi
        exact ⟨a2, c2, (gv_snoc_lt (by omega)).trans h1, h2⟩
end Go.Proofs.Ytnmkckghfckgbaa
