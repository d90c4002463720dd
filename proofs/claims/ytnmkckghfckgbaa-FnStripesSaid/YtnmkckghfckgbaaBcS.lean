/- Walks: which barcodes are valid, in the reference. -/
import Derived.Test.YtnmkckghfckgbaaPatS
namespace Go.Proofs.Ytnmkckghfckgbaa
set_option maxRecDepth 100000
open Go.RowKit

theorem tail_alt {D : Bc} (hg : inB D.gap 0 4 = true) (hs : ((D.stop.size : Int) % 2 == 0) = false) :
    tailB D = ((((D.start.size : Int) % 2 == 0) == (((gs D.pats 0).size : Int) % 2 == 0)) && ((D.gap == 0) == (((gs D.pats 0).size : Int) % 2 == 0))) := by
  have hgb := inB_t.1 hg
  have h1 : (D.stop.size : Int) % 2 = 1 := by have : ¬ (D.stop.size : Int) % 2 = 0 := by simpa using hs
                                              omega
  have h2 : (D.start.size : Int) % 2 = 0 ∨ (D.start.size : Int) % 2 = 1 := by omega
  have h3 : ((gs D.pats 0).size : Int) % 2 = 0 ∨ ((gs D.pats 0).size : Int) % 2 = 1 := by omega
  have h4 : D.gap = 0 ∨ 0 < D.gap := by omega
  unfold tailB
  rw [h1]
  rcases h2 with h2 | h2 <;> rcases h3 with h3 | h3 <;> rw [h2, h3] <;> rcases h4 with h4 | h4
  all_goals (first | (rw [h4]; rfl) | (have e1 : decide (0 < D.gap) = true := by simpa using h4
                                       have e2 : (D.gap == 0) = false := by simp; omega
                                       rw [e1, e2]; rfl))
theorem tail_odd {D : Bc} (hs : ((D.stop.size : Int) % 2 == 0) = true) : tailB D = false := by
  have h1 : (D.stop.size : Int) % 2 = 0 := by simpa using hs
  unfold tailB; rw [h1]; rfl
theorem any_none {p : ByteArray → Bool} {l : List ByteArray} (h : NoneIn p l) : l.any p = false := by
  rw [List.any_eq_false]; intro x hx; rw [h x hx]; simp
theorem any_some {p : ByteArray → Bool} {l : List ByteArray} {j k : Nat} (hj : j < l.length) (hjk : j < k) (h : p (gs l j) = true) : (l.take k).any p = true := by
  rw [List.any_eq_true]
  exact ⟨gs l j, by rw [gs_get hj]; exact List.mem_take_iff_getElem.2 ⟨j, by omega, rfl⟩, h⟩
set_option maxHeartbeats 4000000 in
theorem spec_l08Is (D : Bc) (p : Nat) (a : Option Addr) (n c : Nat) (w : World) (hv : BcAt w p D a n c) (hn : n ≤ 1048576) (hs : D.start.size ≤ 1048576) (ht : D.stop.size ≤ 1048576) (hp : ∀ p ∈ D.pats, p.size ≤ 1048576) :
    Calls Try.prog 49 #[.pointer (some ⟨p, 0, none⟩)] w (Ret (.bool (validBc D)) w) := by
  have HL := Lib.hid hv.ps.len
  have HP := Lib.hid (fun k (hk : k < n) => hp _ (gs_mem (by rw [HL.out]; exact hk)))
  obtain ⟨c0, c1, c2, c3, hps⟩ := hv
  obtain ⟨b, off, hix, hcell⟩ := hps.ix (P := Try.prog) 22 9 und_strings cell_string
  have Hhps := Lib.hid hps; clear hps; have Hhp := Lib.hid hp; clear hp
  go_enter Try.func49, Try.ntmps49
  go_wp2_with (first | (go_at_call 92; refine (spec_pattern _ _ (by omega)).mono ?_; rintro e w' ⟨rfl, rfl⟩) | (go_at_call 93; refine (spec_in _ _ _ _).mono ?_; rintro e w' ⟨rfl, rfl⟩))
  rotate_left
  all_goals try (go_ret; exact ⟨rb (by simp_all [validBc, headB, pl, HL.out, tail_odd]), (by repeat (first | (with_reducible exact Ext.refl _) | (with_reducible refine Ext.drewN ?_ _) | (with_reducible refine Ext.drew ?_) | (with_reducible refine Ext.alloc ?_ _) | ((with_reducible refine Ext.setCell ?_ ?_ _); rotate_left; focus (first | (simp; done) | (simp; omega) | omega)) | assumption | (with_reducible refine Ext.trans ?_ (by assumption))))⟩)
  have hh : headB D = true := by simp_all [headB, pl, HL.out]
  have hso : ((D.stop.size : Int) % 2 == 0) = false := by simp_all
  have hn1 : 1 ≤ n := by unfold headB at hh; simp only [Bool.and_eq_true] at hh; have := inB_t.1 hh.2.2.1; rw [HL.out] at this; omega
  have HV := Lib.hid (show validBc D = (allB D.pats n && tailB D) by rw [validBc, hh, HL.out]; rfl)
  have hg : inB D.gap 0 4 = true := by unfold headB at hh; simp only [Bool.and_eq_true] at hh; exact hh.2.2.2
  have HT := Lib.hid (tail_alt hg hso)
  simp only [hg, hso, Bool.not_true, Bool.or_self]
  clear hh hg hso
  go_loopw [3] (fun i wr => ∃ k : Nat, k ≤ n ∧ i = .int .i64 k ∧ allB D.pats k = true ∧ Ext w wr) (fun i _ => n - (intOf i).toNat)
  case atStart => exact ⟨0, Nat.zero_le _, rfl, rfl, Ext.refl _⟩
  case round =>
    obtain ⟨k, hk, rfl, hal, hx⟩ := hrel
    have Hhal := Lib.hid hal; clear hal
    have hz : 0 < n := by omega
    have hcell0 : ∀ w', Ext w w' → w'.cell? ⟨b, off, none⟩ = some (.string (gs D.pats 0)) := fun w' h => hcell 0 w' (by omega) h
    by_cases hlt : k < n
    · have hp0 := HP.out 0 (by omega)
      have hpk := HP.out k hlt
      have HIP := Lib.hid (fun W => spec_pattern (gs D.pats k) W hpk)
      have HNo := Lib.hid (fun h => allB_no (pats := D.pats) (k := k) (n := n) h hlt)
      cases h1 : patB (gs D.pats k).data.toList
      · rw [h1] at HIP
        have HF := Lib.hid (HNo.out (by rw [oneB, pl, h1]; rfl))
        clear h1
        go_wp2
        (refine wp_region_up (by kernel_rfl) (by kernel_rfl) (by kernel_rfl) ?_; (repeat (first | (refine mix_q rfl ?_; go_big_quiet_step (fail); refine wpQuiet_nil ?_; show wpMix _ _ _ _ _ _ _) | (refine mix_s rfl ?_; go_wp2_with ((go_at_call 92; refine (HIP.out _).mono ?_; rintro e w' ⟨rfl, rfl⟩)); first | refine ⟨up_of (by repeat (first | (with_reducible exact Ext.refl _) | (with_reducible refine Ext.drewN ?_ _) | (with_reducible refine Ext.drew ?_) | (with_reducible refine Ext.alloc ?_ _) | ((with_reducible refine Ext.setCell ?_ ?_ _); rotate_left; focus (first | (simp; done) | (simp; omega) | omega)) | assumption | (with_reducible refine Ext.trans ?_ (by assumption)))), ?_⟩ | refine ⟨rfl, rfl, up_of (by repeat (first | (with_reducible exact Ext.refl _) | (with_reducible refine Ext.drewN ?_ _) | (with_reducible refine Ext.drew ?_) | (with_reducible refine Ext.alloc ?_ _) | ((with_reducible refine Ext.setCell ?_ ?_ _); rotate_left; focus (first | (simp; done) | (simp; omega) | omega)) | assumption | (with_reducible refine Ext.trans ?_ (by assumption)))), ?_⟩))); refine mix_nil ?_)
        go_wp2
        go_ret
        exact ⟨rb (by rw [HV.out, HF.out]; rfl), (by repeat (first | (with_reducible exact Ext.refl _) | (with_reducible refine Ext.drewN ?_ _) | (with_reducible refine Ext.drew ?_) | (with_reducible refine Ext.alloc ?_ _) | ((with_reducible refine Ext.setCell ?_ ?_ _); rotate_left; focus (first | (simp; done) | (simp; omega) | omega)) | assumption | (with_reducible refine Ext.trans ?_ (by assumption))))⟩
      rw [h1] at HIP
      have hc1 : charsB (gs D.pats k).data.toList = true := by unfold patB at h1; simp only [Bool.and_eq_true] at h1; exact h1.1
      have hc0 : charsB (gs D.pats 0).data.toList = true := by
        by_cases hk0 : k = 0
        · subst hk0; exact hc1
        · have := allB_le Hhal.out (k := 0) (by omega); unfold oneB patB pl at this; simp only [Bool.and_eq_true] at this; exact this.1.1
      have HO := Lib.hid (show oneB D.pats k = (decide (((gs D.pats k).size : Int) = (gs D.pats 0).size) && (decide ((elsL (gs D.pats k).data.toList).sum = (elsL (gs D.pats 0).data.toList).sum) && !(D.pats.take k).any fun p => (gs D.pats k).toList == p.toList)) by rw [oneB, pl, h1]; rfl)
      have HEk := Lib.hid (fun W => spec_elements (gs D.pats k) W hpk hc1)
      have HE0 := Lib.hid (fun W => spec_elements (gs D.pats 0) W hp0 hc0)
      have HSk := Lib.hid (fun a c W h => spec_l08Sum a (gs D.pats k).size c (elsL (gs D.pats k).data.toList) W h (fun x hx => by have := elsL_bd hc1 x hx; omega) (by omega))
      have HS0 := Lib.hid (fun a c W h => spec_l08Sum a (gs D.pats 0).size c (elsL (gs D.pats 0).data.toList) W h (fun x hx => by have := elsL_bd hc0 x hx; omega) (by omega))
      clear h1 hc1 hc0
      generalize (elsL (gs D.pats k).data.toList).sum = sk at *
      generalize (elsL (gs D.pats 0).data.toList).sum = s0 at *
      by_cases h2 : (gs D.pats k).size = (gs D.pats 0).size
      rotate_left
      · have HF := Lib.hid (HNo.out (by rw [HO.out]; simp; intro h; omega))
        have hb2 : (((gs D.pats k).size : Int) != (gs D.pats 0).size) = true := by simp; omega
        clear h2
        go_wp2
        (refine wp_region_up (by kernel_rfl) (by kernel_rfl) (by kernel_rfl) ?_; (repeat (first | (refine mix_q rfl ?_; go_big_quiet_step (fail); refine wpQuiet_nil ?_; show wpMix _ _ _ _ _ _ _) | (refine mix_s rfl ?_; go_wp2_with ((go_at_call 92; refine (HIP.out _).mono ?_; rintro e w' ⟨rfl, rfl⟩)); first | refine ⟨up_of (by repeat (first | (with_reducible exact Ext.refl _) | (with_reducible refine Ext.drewN ?_ _) | (with_reducible refine Ext.drew ?_) | (with_reducible refine Ext.alloc ?_ _) | ((with_reducible refine Ext.setCell ?_ ?_ _); rotate_left; focus (first | (simp; done) | (simp; omega) | omega)) | assumption | (with_reducible refine Ext.trans ?_ (by assumption)))), ?_⟩ | refine ⟨rfl, rfl, up_of (by repeat (first | (with_reducible exact Ext.refl _) | (with_reducible refine Ext.drewN ?_ _) | (with_reducible refine Ext.drew ?_) | (with_reducible refine Ext.alloc ?_ _) | ((with_reducible refine Ext.setCell ?_ ?_ _); rotate_left; focus (first | (simp; done) | (simp; omega) | omega)) | assumption | (with_reducible refine Ext.trans ?_ (by assumption)))), ?_⟩))); refine mix_nil ?_)
        go_wp2
        go_ret
        exact ⟨rb (by rw [HV.out, HF.out]; rfl), (by repeat (first | (with_reducible exact Ext.refl _) | (with_reducible refine Ext.drewN ?_ _) | (with_reducible refine Ext.drew ?_) | (with_reducible refine Ext.alloc ?_ _) | ((with_reducible refine Ext.setCell ?_ ?_ _); rotate_left; focus (first | (simp; done) | (simp; omega) | omega)) | assumption | (with_reducible refine Ext.trans ?_ (by assumption))))⟩
      have hb2 : (((gs D.pats k).size : Int) != (gs D.pats 0).size) = false := by simp; omega
      by_cases h3 : sk = s0
      rotate_left
      · have HF := Lib.hid (HNo.out (by rw [HO.out]; simp; intro _ h; omega))
        have hb3 : (sk != s0) = true := by simp; omega
        clear h2 h3
        go_wp2
        (refine wp_region_up (by kernel_rfl) (by kernel_rfl) (by kernel_rfl) ?_; (repeat (first | (refine mix_q rfl ?_; go_big_quiet_step (fail); refine wpQuiet_nil ?_; show wpMix _ _ _ _ _ _ _) | (refine mix_s rfl ?_; go_wp2_with (first | (go_at_call 92; refine (HIP.out _).mono ?_; rintro e w' ⟨rfl, rfl⟩) | ((with_reducible refine (HEk.out _).mono ?_); rintro e w2 ⟨a2, c2, rfl, ho2, hy⟩; rw [I_len, elsL_len, size_eq] at ho2 ⊢; have hx2 : Ext w w2 := Ext.trans (by repeat (first | (with_reducible exact Ext.refl _) | (with_reducible refine Ext.drewN ?_ _) | (with_reducible refine Ext.drew ?_) | (with_reducible refine Ext.alloc ?_ _) | ((with_reducible refine Ext.setCell ?_ ?_ _); rotate_left; focus (first | (simp; done) | (simp; omega) | omega)) | assumption | (with_reducible refine Ext.trans ?_ (by assumption)))) hy; have hx2r : Ext wr.drew w2 := Ext.trans (by repeat (first | (with_reducible exact Ext.refl _) | (with_reducible refine Ext.drewN ?_ _) | (with_reducible refine Ext.drew ?_) | (with_reducible refine Ext.alloc ?_ _) | ((with_reducible refine Ext.setCell ?_ ?_ _); rotate_left; focus (first | (simp; done) | (simp; omega) | omega)) | assumption | (with_reducible refine Ext.trans ?_ (by assumption)))) hy; clear hy; have HO2 := Lib.hid ho2; clear ho2) | ((with_reducible refine (HSk.out _ _ _ HO2.out.ints).mono ?_); rintro e w' ⟨rfl, rfl⟩) | ((with_reducible refine (HE0.out _).mono ?_); rintro e w3 ⟨a3, c3, rfl, ho3, hy⟩; rw [I_len, elsL_len, size_eq] at ho3 ⊢; have hx3 : Ext w w3 := Ext.trans (by repeat (first | (with_reducible exact Ext.refl _) | (with_reducible refine Ext.drewN ?_ _) | (with_reducible refine Ext.drew ?_) | (with_reducible refine Ext.alloc ?_ _) | ((with_reducible refine Ext.setCell ?_ ?_ _); rotate_left; focus (first | (simp; done) | (simp; omega) | omega)) | assumption | (with_reducible refine Ext.trans ?_ (by assumption)))) hy; have hx3r : Ext wr.drew w3 := Ext.trans (by repeat (first | (with_reducible exact Ext.refl _) | (with_reducible refine Ext.drewN ?_ _) | (with_reducible refine Ext.drew ?_) | (with_reducible refine Ext.alloc ?_ _) | ((with_reducible refine Ext.setCell ?_ ?_ _); rotate_left; focus (first | (simp; done) | (simp; omega) | omega)) | assumption | (with_reducible refine Ext.trans ?_ (by assumption)))) hy; clear hy; have HO3 := Lib.hid ho3; clear ho3) | ((with_reducible refine (HS0.out _ _ _ HO3.out.ints).mono ?_); rintro e w' ⟨rfl, rfl⟩)); first | refine ⟨up_of (by repeat (first | (with_reducible exact Ext.refl _) | (with_reducible refine Ext.drewN ?_ _) | (with_reducible refine Ext.drew ?_) | (with_reducible refine Ext.alloc ?_ _) | ((with_reducible refine Ext.setCell ?_ ?_ _); rotate_left; focus (first | (simp; done) | (simp; omega) | omega)) | assumption | (with_reducible refine Ext.trans ?_ (by assumption)))), ?_⟩ | refine ⟨rfl, rfl, up_of (by repeat (first | (with_reducible exact Ext.refl _) | (with_reducible refine Ext.drewN ?_ _) | (with_reducible refine Ext.drew ?_) | (with_reducible refine Ext.alloc ?_ _) | ((with_reducible refine Ext.setCell ?_ ?_ _); rotate_left; focus (first | (simp; done) | (simp; omega) | omega)) | assumption | (with_reducible refine Ext.trans ?_ (by assumption)))), ?_⟩))); refine mix_nil ?_)
        go_wp2
        go_ret
        exact ⟨rb (by rw [HV.out, HF.out]; rfl), (by repeat (first | (with_reducible exact Ext.refl _) | (with_reducible refine Ext.drewN ?_ _) | (with_reducible refine Ext.drew ?_) | (with_reducible refine Ext.alloc ?_ _) | ((with_reducible refine Ext.setCell ?_ ?_ _); rotate_left; focus (first | (simp; done) | (simp; omega) | omega)) | assumption | (with_reducible refine Ext.trans ?_ (by assumption))))⟩
      have hb3 : (sk != s0) = false := by simp; omega
      have HO2' := Lib.hid (show oneB D.pats k = !(D.pats.take k).any fun p => (gs D.pats k).toList == p.toList by rw [HO.out, h3]; simp; intro h; omega)
      clear h2 h3
      go_wp2
      (refine wp_region_up (by kernel_rfl) (by kernel_rfl) (by kernel_rfl) ?_; (repeat (first | (refine mix_q rfl ?_; go_big_quiet_step (fail); refine wpQuiet_nil ?_; show wpMix _ _ _ _ _ _ _) | (refine mix_s rfl ?_; go_wp2_with (first | (go_at_call 92; refine (HIP.out _).mono ?_; rintro e w' ⟨rfl, rfl⟩) | ((with_reducible refine (HEk.out _).mono ?_); rintro e w2 ⟨a2, c2, rfl, ho2, hy⟩; rw [I_len, elsL_len, size_eq] at ho2 ⊢; have hx2 : Ext w w2 := Ext.trans (by repeat (first | (with_reducible exact Ext.refl _) | (with_reducible refine Ext.drewN ?_ _) | (with_reducible refine Ext.drew ?_) | (with_reducible refine Ext.alloc ?_ _) | ((with_reducible refine Ext.setCell ?_ ?_ _); rotate_left; focus (first | (simp; done) | (simp; omega) | omega)) | assumption | (with_reducible refine Ext.trans ?_ (by assumption)))) hy; have hx2r : Ext wr.drew w2 := Ext.trans (by repeat (first | (with_reducible exact Ext.refl _) | (with_reducible refine Ext.drewN ?_ _) | (with_reducible refine Ext.drew ?_) | (with_reducible refine Ext.alloc ?_ _) | ((with_reducible refine Ext.setCell ?_ ?_ _); rotate_left; focus (first | (simp; done) | (simp; omega) | omega)) | assumption | (with_reducible refine Ext.trans ?_ (by assumption)))) hy; clear hy; have HO2 := Lib.hid ho2; clear ho2) | ((with_reducible refine (HSk.out _ _ _ HO2.out.ints).mono ?_); rintro e w' ⟨rfl, rfl⟩) | ((with_reducible refine (HE0.out _).mono ?_); rintro e w3 ⟨a3, c3, rfl, ho3, hy⟩; rw [I_len, elsL_len, size_eq] at ho3 ⊢; have hx3 : Ext w w3 := Ext.trans (by repeat (first | (with_reducible exact Ext.refl _) | (with_reducible refine Ext.drewN ?_ _) | (with_reducible refine Ext.drew ?_) | (with_reducible refine Ext.alloc ?_ _) | ((with_reducible refine Ext.setCell ?_ ?_ _); rotate_left; focus (first | (simp; done) | (simp; omega) | omega)) | assumption | (with_reducible refine Ext.trans ?_ (by assumption)))) hy; have hx3r : Ext wr.drew w3 := Ext.trans (by repeat (first | (with_reducible exact Ext.refl _) | (with_reducible refine Ext.drewN ?_ _) | (with_reducible refine Ext.drew ?_) | (with_reducible refine Ext.alloc ?_ _) | ((with_reducible refine Ext.setCell ?_ ?_ _); rotate_left; focus (first | (simp; done) | (simp; omega) | omega)) | assumption | (with_reducible refine Ext.trans ?_ (by assumption)))) hy; clear hy; have HO3 := Lib.hid ho3; clear ho3) | ((with_reducible refine (HS0.out _ _ _ HO3.out.ints).mono ?_); rintro e w' ⟨rfl, rfl⟩)); first | refine ⟨up_of (by repeat (first | (with_reducible exact Ext.refl _) | (with_reducible refine Ext.drewN ?_ _) | (with_reducible refine Ext.drew ?_) | (with_reducible refine Ext.alloc ?_ _) | ((with_reducible refine Ext.setCell ?_ ?_ _); rotate_left; focus (first | (simp; done) | (simp; omega) | omega)) | assumption | (with_reducible refine Ext.trans ?_ (by assumption)))), ?_⟩ | refine ⟨rfl, rfl, up_of (by repeat (first | (with_reducible exact Ext.refl _) | (with_reducible refine Ext.drewN ?_ _) | (with_reducible refine Ext.drew ?_) | (with_reducible refine Ext.alloc ?_ _) | ((with_reducible refine Ext.setCell ?_ ?_ _); rotate_left; focus (first | (simp; done) | (simp; omega) | omega)) | assumption | (with_reducible refine Ext.trans ?_ (by assumption)))), ?_⟩))); refine mix_nil ?_)
      go_wp2
      go_loopw [4] (fun i wr2 => ∃ j : Nat, j ≤ k ∧ i = .int .i64 j ∧ NoneIn (fun x => (gs D.pats k).toList == x.toList) (D.pats.take j) ∧ Ext w wr2) (fun i _ => k - (intOf i).toNat)
      case atStart => exact ⟨0, Nat.zero_le _, rfl, by simp [NoneIn], (by repeat (first | (with_reducible exact Ext.refl _) | (with_reducible refine Ext.drewN ?_ _) | (with_reducible refine Ext.drew ?_) | (with_reducible refine Ext.alloc ?_ _) | ((with_reducible refine Ext.setCell ?_ ?_ _); rotate_left; focus (first | (simp; done) | (simp; omega) | omega)) | assumption | (with_reducible refine Ext.trans ?_ (by assumption))))⟩
      case round =>
        obtain ⟨j, hj, rfl, hno, hxj⟩ := hrel
        have Hhno := Lib.hid hno; clear hno
        by_cases hjt : j < k
        · have hjn : j < n := by omega
          have HN1 := Lib.hid (fun h => NoneIn.stepS (p := fun x => (gs D.pats k).toList == x.toList) (l := D.pats) (k := j) (by rw [HL.out]; exact hjn) h Hhno.out)
          have HN2 := Lib.hid (fun h => any_some (p := fun x => (gs D.pats k).toList == x.toList) (l := D.pats) (j := j) (k := k) (by rw [HL.out]; exact hjn) hjt h)
          cases heq : ((gs D.pats j).toList == (gs D.pats k).toList)
          · have HX := Lib.hid (HN1.out (by rw [BEq.comm]; exact heq))
            go_wp2
            (refine wp_region_up (by kernel_rfl) (by kernel_rfl) (by kernel_rfl) ?_; (repeat (first | (refine mix_q rfl ?_; go_big_quiet_step (fail); refine wpQuiet_nil ?_; show wpMix _ _ _ _ _ _ _) | (refine mix_s rfl ?_; go_wp2_with (fail); first | refine ⟨up_of (by repeat (first | (with_reducible exact Ext.refl _) | (with_reducible refine Ext.drewN ?_ _) | (with_reducible refine Ext.drew ?_) | (with_reducible refine Ext.alloc ?_ _) | ((with_reducible refine Ext.setCell ?_ ?_ _); rotate_left; focus (first | (simp; done) | (simp; omega) | omega)) | assumption | (with_reducible refine Ext.trans ?_ (by assumption)))), ?_⟩ | refine ⟨rfl, rfl, up_of (by repeat (first | (with_reducible exact Ext.refl _) | (with_reducible refine Ext.drewN ?_ _) | (with_reducible refine Ext.drew ?_) | (with_reducible refine Ext.alloc ?_ _) | ((with_reducible refine Ext.setCell ?_ ?_ _); rotate_left; focus (first | (simp; done) | (simp; omega) | omega)) | assumption | (with_reducible refine Ext.trans ?_ (by assumption)))), ?_⟩))); refine mix_nil ?_)
            go_wp2
            exact ⟨⟨j + 1, by omega, by go_num, HX.out, (by repeat (first | (with_reducible exact Ext.refl _) | (with_reducible refine Ext.drewN ?_ _) | (with_reducible refine Ext.drew ?_) | (with_reducible refine Ext.alloc ?_ _) | ((with_reducible refine Ext.setCell ?_ ?_ _); rotate_left; focus (first | (simp; done) | (simp; omega) | omega)) | assumption | (with_reducible refine Ext.trans ?_ (by assumption))))⟩, by simp [intOf]; omega⟩
          · have HX := Lib.hid (HN2.out (by rw [BEq.comm]; exact heq))
            go_wp2
            (refine wp_region_up (by kernel_rfl) (by kernel_rfl) (by kernel_rfl) ?_; (repeat (first | (refine mix_q rfl ?_; go_big_quiet_step (fail); refine wpQuiet_nil ?_; show wpMix _ _ _ _ _ _ _) | (refine mix_s rfl ?_; go_wp2_with (fail); first | refine ⟨up_of (by repeat (first | (with_reducible exact Ext.refl _) | (with_reducible refine Ext.drewN ?_ _) | (with_reducible refine Ext.drew ?_) | (with_reducible refine Ext.alloc ?_ _) | ((with_reducible refine Ext.setCell ?_ ?_ _); rotate_left; focus (first | (simp; done) | (simp; omega) | omega)) | assumption | (with_reducible refine Ext.trans ?_ (by assumption)))), ?_⟩ | refine ⟨rfl, rfl, up_of (by repeat (first | (with_reducible exact Ext.refl _) | (with_reducible refine Ext.drewN ?_ _) | (with_reducible refine Ext.drew ?_) | (with_reducible refine Ext.alloc ?_ _) | ((with_reducible refine Ext.setCell ?_ ?_ _); rotate_left; focus (first | (simp; done) | (simp; omega) | omega)) | assumption | (with_reducible refine Ext.trans ?_ (by assumption)))), ?_⟩))); refine mix_nil ?_)
            go_wp2
            go_ret
            exact ⟨rb (by rw [HV.out, HNo.out (by rw [HO2'.out, HX.out]; rfl)]; rfl), (by repeat (first | (with_reducible exact Ext.refl _) | (with_reducible refine Ext.drewN ?_ _) | (with_reducible refine Ext.drew ?_) | (with_reducible refine Ext.alloc ?_ _) | ((with_reducible refine Ext.setCell ?_ ?_ _); rotate_left; focus (first | (simp; done) | (simp; omega) | omega)) | assumption | (with_reducible refine Ext.trans ?_ (by assumption))))⟩
        · obtain rfl : j = k := by omega
          have HX := Lib.hid (any_none Hhno.out)
          go_wp2
          exact ⟨⟨j + 1, by omega, by go_num, by rw [allB, Hhal.out, HO2'.out, HX.out]; rfl, (by repeat (first | (with_reducible exact Ext.refl _) | (with_reducible refine Ext.drewN ?_ _) | (with_reducible refine Ext.drew ?_) | (with_reducible refine Ext.alloc ?_ _) | ((with_reducible refine Ext.setCell ?_ ?_ _); rotate_left; focus (first | (simp; done) | (simp; omega) | omega)) | assumption | (with_reducible refine Ext.trans ?_ (by assumption))))⟩, by simp [intOf]; omega⟩
    · obtain rfl : k = n := by omega
      have HF := Lib.hid (show validBc D = _ by rw [HV.out, Hhal.out, HT.out, Bool.true_and])
      go_wp2
      all_goals (go_ret; exact ⟨rb (by rw [HF.out]; simp_all), (by repeat (first | (with_reducible exact Ext.refl _) | (with_reducible refine Ext.drewN ?_ _) | (with_reducible refine Ext.drew ?_) | (with_reducible refine Ext.alloc ?_ _) | ((with_reducible refine Ext.setCell ?_ ?_ _); rotate_left; focus (first | (simp; done) | (simp; omega) | omega)) | assumption | (with_reducible refine Ext.trans ?_ (by assumption))))⟩)
end Go.Proofs.Ytnmkckghfckgbaa
