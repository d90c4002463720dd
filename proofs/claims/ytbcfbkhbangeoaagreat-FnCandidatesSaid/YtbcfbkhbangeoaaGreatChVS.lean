/- Walks: which chains are valid, in the reference. -/
import Derived.Test.YtbcfbkhbangeoaaGreatChV
import Derived.Test.YtbcfbkhbangeoaaGreatMix2
namespace Go.Proofs.YtbcfbkhbangeoaaGreat
set_option maxRecDepth 100000
open Go.RowKit

set_option maxHeartbeats 4000000 in
theorem spec_l02Is_no0 (D : Ch) (a : Option Addr) (n c : Nat) (a' : Option Addr) (n' c' : Nat) (q : Nat) (w : World) (hv : ChAt w q D a n c a' n' c') (_hn : n ≤ 1048576) (_hn' : n' ≤ 1048576) (e0 : (inB D.base 2 36) = false) :
    Calls Tryz.prog 86 #[.pointer (some ⟨q, 0, none⟩)] w (Ret (.bool false) w) := by
  obtain ⟨k0, k1, k2, k3, k4, k5, hts, hps⟩ := hv
  have Hhts := Lib.hid hts; clear hts; have Hhps := Lib.hid hps; clear hps
  go_enter Tryz.func86, Tryz.ntmps86
  go_wp2
  (refine wp_region_from w (by repeat (first | (with_reducible exact Ext.refl _) | (with_reducible refine Ext.drewN ?_ _) | (with_reducible refine Ext.drew ?_) | (with_reducible refine Ext.alloc ?_ _) | ((with_reducible refine Ext.setCell ?_ ?_ _); rotate_left; focus (first | (simp; done) | (simp; omega) | omega)) | assumption | (with_reducible refine Ext.trans ?_ (by assumption)))) (by kernel_rfl) (by kernel_rfl) (seqB_of (by kernel_rfl)) ?_; (repeat (first | (refine mix_q rfl ?_; go_big_quiet_step (fail); refine wpQuiet_nil ?_; show wpMix _ _ _ _ _ _ _) | (refine mix_s rfl ?_; go_wp2_with ((go_at_call 131; refine (spec_in _ _ _ _).mono ?_; rintro e w' ⟨rfl, rfl⟩)); first | refine ⟨up_of (by repeat (first | (with_reducible exact Ext.refl _) | (with_reducible refine Ext.drewN ?_ _) | (with_reducible refine Ext.drew ?_) | (with_reducible refine Ext.alloc ?_ _) | ((with_reducible refine Ext.setCell ?_ ?_ _); rotate_left; focus (first | (simp; done) | (simp; omega) | omega)) | assumption | (with_reducible refine Ext.trans ?_ (by assumption)))), ?_⟩ | refine ⟨rfl, rfl, up_of (by repeat (first | (with_reducible exact Ext.refl _) | (with_reducible refine Ext.drewN ?_ _) | (with_reducible refine Ext.drew ?_) | (with_reducible refine Ext.alloc ?_ _) | ((with_reducible refine Ext.setCell ?_ ?_ _); rotate_left; focus (first | (simp; done) | (simp; omega) | omega)) | assumption | (with_reducible refine Ext.trans ?_ (by assumption)))), ?_⟩))); refine mix_nil ?_)
  go_wp2
  go_ret
  exact ⟨rfl, (by repeat (first | (with_reducible exact Ext.refl _) | (with_reducible refine Ext.drewN ?_ _) | (with_reducible refine Ext.drew ?_) | (with_reducible refine Ext.alloc ?_ _) | ((with_reducible refine Ext.setCell ?_ ?_ _); rotate_left; focus (first | (simp; done) | (simp; omega) | omega)) | assumption | (with_reducible refine Ext.trans ?_ (by assumption))))⟩
set_option maxHeartbeats 4000000 in
theorem spec_l02Is_no1 (D : Ch) (a : Option Addr) (n c : Nat) (a' : Option Addr) (n' c' : Nat) (q : Nat) (w : World) (hv : ChAt w q D a n c a' n' c') (_hn : n ≤ 1048576) (_hn' : n' ≤ 1048576) (e0 : (inB D.base 2 36) = true) (e1 : (inB D.states 1 36) = false) :
    Calls Tryz.prog 86 #[.pointer (some ⟨q, 0, none⟩)] w (Ret (.bool false) w) := by
  obtain ⟨k0, k1, k2, k3, k4, k5, hts, hps⟩ := hv
  have Hhts := Lib.hid hts; clear hts; have Hhps := Lib.hid hps; clear hps
  go_enter Tryz.func86, Tryz.ntmps86
  go_wp2
  (refine wp_region_from w (by repeat (first | (with_reducible exact Ext.refl _) | (with_reducible refine Ext.drewN ?_ _) | (with_reducible refine Ext.drew ?_) | (with_reducible refine Ext.alloc ?_ _) | ((with_reducible refine Ext.setCell ?_ ?_ _); rotate_left; focus (first | (simp; done) | (simp; omega) | omega)) | assumption | (with_reducible refine Ext.trans ?_ (by assumption)))) (by kernel_rfl) (by kernel_rfl) (seqB_of (by kernel_rfl)) ?_; (repeat (first | (refine mix_q rfl ?_; go_big_quiet_step (fail); refine wpQuiet_nil ?_; show wpMix _ _ _ _ _ _ _) | (refine mix_s rfl ?_; go_wp2_with ((go_at_call 131; refine (spec_in _ _ _ _).mono ?_; rintro e w' ⟨rfl, rfl⟩)); first | refine ⟨up_of (by repeat (first | (with_reducible exact Ext.refl _) | (with_reducible refine Ext.drewN ?_ _) | (with_reducible refine Ext.drew ?_) | (with_reducible refine Ext.alloc ?_ _) | ((with_reducible refine Ext.setCell ?_ ?_ _); rotate_left; focus (first | (simp; done) | (simp; omega) | omega)) | assumption | (with_reducible refine Ext.trans ?_ (by assumption)))), ?_⟩ | refine ⟨rfl, rfl, up_of (by repeat (first | (with_reducible exact Ext.refl _) | (with_reducible refine Ext.drewN ?_ _) | (with_reducible refine Ext.drew ?_) | (with_reducible refine Ext.alloc ?_ _) | ((with_reducible refine Ext.setCell ?_ ?_ _); rotate_left; focus (first | (simp; done) | (simp; omega) | omega)) | assumption | (with_reducible refine Ext.trans ?_ (by assumption)))), ?_⟩))); refine mix_nil ?_)
  go_wp2
  go_ret
  exact ⟨rfl, (by repeat (first | (with_reducible exact Ext.refl _) | (with_reducible refine Ext.drewN ?_ _) | (with_reducible refine Ext.drew ?_) | (with_reducible refine Ext.alloc ?_ _) | ((with_reducible refine Ext.setCell ?_ ?_ _); rotate_left; focus (first | (simp; done) | (simp; omega) | omega)) | assumption | (with_reducible refine Ext.trans ?_ (by assumption))))⟩
set_option maxHeartbeats 4000000 in
theorem spec_l02Is_no2 (D : Ch) (a : Option Addr) (n c : Nat) (a' : Option Addr) (n' c' : Nat) (q : Nat) (w : World) (hv : ChAt w q D a n c a' n' c') (_hn : n ≤ 1048576) (_hn' : n' ≤ 1048576) (e0 : (inB D.base 2 36) = true) (e1 : (inB D.states 1 36) = true) (e2 : (inB D.start 0 (D.states - 1)) = false) :
    Calls Tryz.prog 86 #[.pointer (some ⟨q, 0, none⟩)] w (Ret (.bool false) w) := by
  obtain ⟨k0, k1, k2, k3, k4, k5, hts, hps⟩ := hv
  have Hhts := Lib.hid hts; clear hts; have Hhps := Lib.hid hps; clear hps
  obtain ⟨s1, s36⟩ := inB_t.1 e1
  go_enter Tryz.func86, Tryz.ntmps86
  go_wp2
  (refine wp_region_from w (by repeat (first | (with_reducible exact Ext.refl _) | (with_reducible refine Ext.drewN ?_ _) | (with_reducible refine Ext.drew ?_) | (with_reducible refine Ext.alloc ?_ _) | ((with_reducible refine Ext.setCell ?_ ?_ _); rotate_left; focus (first | (simp; done) | (simp; omega) | omega)) | assumption | (with_reducible refine Ext.trans ?_ (by assumption)))) (by kernel_rfl) (by kernel_rfl) (seqB_of (by kernel_rfl)) ?_; (repeat (first | (refine mix_q rfl ?_; go_big_quiet_step (fail); refine wpQuiet_nil ?_; show wpMix _ _ _ _ _ _ _) | (refine mix_s rfl ?_; go_wp2_with ((go_at_call 131; refine (spec_in _ _ _ _).mono ?_; rintro e w' ⟨rfl, rfl⟩)); first | refine ⟨up_of (by repeat (first | (with_reducible exact Ext.refl _) | (with_reducible refine Ext.drewN ?_ _) | (with_reducible refine Ext.drew ?_) | (with_reducible refine Ext.alloc ?_ _) | ((with_reducible refine Ext.setCell ?_ ?_ _); rotate_left; focus (first | (simp; done) | (simp; omega) | omega)) | assumption | (with_reducible refine Ext.trans ?_ (by assumption)))), ?_⟩ | refine ⟨rfl, rfl, up_of (by repeat (first | (with_reducible exact Ext.refl _) | (with_reducible refine Ext.drewN ?_ _) | (with_reducible refine Ext.drew ?_) | (with_reducible refine Ext.alloc ?_ _) | ((with_reducible refine Ext.setCell ?_ ?_ _); rotate_left; focus (first | (simp; done) | (simp; omega) | omega)) | assumption | (with_reducible refine Ext.trans ?_ (by assumption)))), ?_⟩))); refine mix_nil ?_)
  go_wp2
  go_ret
  exact ⟨rfl, (by repeat (first | (with_reducible exact Ext.refl _) | (with_reducible refine Ext.drewN ?_ _) | (with_reducible refine Ext.drew ?_) | (with_reducible refine Ext.alloc ?_ _) | ((with_reducible refine Ext.setCell ?_ ?_ _); rotate_left; focus (first | (simp; done) | (simp; omega) | omega)) | assumption | (with_reducible refine Ext.trans ?_ (by assumption))))⟩
set_option maxHeartbeats 4000000 in
theorem spec_l02Is_no3 (D : Ch) (a : Option Addr) (n c : Nat) (a' : Option Addr) (n' c' : Nat) (q : Nat) (w : World) (hv : ChAt w q D a n c a' n' c') (_hn : n ≤ 1048576) (_hn' : n' ≤ 1048576) (e0 : (inB D.base 2 36) = true) (e1 : (inB D.states 1 36) = true) (e2 : (inB D.start 0 (D.states - 1)) = true) (e3 : (inB D.fin 0 (D.states - 1)) = false) :
    Calls Tryz.prog 86 #[.pointer (some ⟨q, 0, none⟩)] w (Ret (.bool false) w) := by
  obtain ⟨k0, k1, k2, k3, k4, k5, hts, hps⟩ := hv
  have Hhts := Lib.hid hts; clear hts; have Hhps := Lib.hid hps; clear hps
  obtain ⟨s1, s36⟩ := inB_t.1 e1
  go_enter Tryz.func86, Tryz.ntmps86
  go_wp2
  (refine wp_region_from w (by repeat (first | (with_reducible exact Ext.refl _) | (with_reducible refine Ext.drewN ?_ _) | (with_reducible refine Ext.drew ?_) | (with_reducible refine Ext.alloc ?_ _) | ((with_reducible refine Ext.setCell ?_ ?_ _); rotate_left; focus (first | (simp; done) | (simp; omega) | omega)) | assumption | (with_reducible refine Ext.trans ?_ (by assumption)))) (by kernel_rfl) (by kernel_rfl) (seqB_of (by kernel_rfl)) ?_; (repeat (first | (refine mix_q rfl ?_; go_big_quiet_step (fail); refine wpQuiet_nil ?_; show wpMix _ _ _ _ _ _ _) | (refine mix_s rfl ?_; go_wp2_with ((go_at_call 131; refine (spec_in _ _ _ _).mono ?_; rintro e w' ⟨rfl, rfl⟩)); first | refine ⟨up_of (by repeat (first | (with_reducible exact Ext.refl _) | (with_reducible refine Ext.drewN ?_ _) | (with_reducible refine Ext.drew ?_) | (with_reducible refine Ext.alloc ?_ _) | ((with_reducible refine Ext.setCell ?_ ?_ _); rotate_left; focus (first | (simp; done) | (simp; omega) | omega)) | assumption | (with_reducible refine Ext.trans ?_ (by assumption)))), ?_⟩ | refine ⟨rfl, rfl, up_of (by repeat (first | (with_reducible exact Ext.refl _) | (with_reducible refine Ext.drewN ?_ _) | (with_reducible refine Ext.drew ?_) | (with_reducible refine Ext.alloc ?_ _) | ((with_reducible refine Ext.setCell ?_ ?_ _); rotate_left; focus (first | (simp; done) | (simp; omega) | omega)) | assumption | (with_reducible refine Ext.trans ?_ (by assumption)))), ?_⟩))); refine mix_nil ?_)
  go_wp2
  go_ret
  exact ⟨rfl, (by repeat (first | (with_reducible exact Ext.refl _) | (with_reducible refine Ext.drewN ?_ _) | (with_reducible refine Ext.drew ?_) | (with_reducible refine Ext.alloc ?_ _) | ((with_reducible refine Ext.setCell ?_ ?_ _); rotate_left; focus (first | (simp; done) | (simp; omega) | omega)) | assumption | (with_reducible refine Ext.trans ?_ (by assumption))))⟩
set_option maxHeartbeats 4000000 in
theorem spec_l02Is_no4 (D : Ch) (a : Option Addr) (n c : Nat) (a' : Option Addr) (n' c' : Nat) (q : Nat) (w : World) (hv : ChAt w q D a n c a' n' c') (_hn : n ≤ 1048576) (_hn' : n' ≤ 1048576) (e0 : (inB D.base 2 36) = true) (e1 : (inB D.states 1 36) = true) (e2 : (inB D.start 0 (D.states - 1)) = true) (e3 : (inB D.fin 0 (D.states - 1)) = true) (e4 : (inB n 1 20) = false) :
    Calls Tryz.prog 86 #[.pointer (some ⟨q, 0, none⟩)] w (Ret (.bool false) w) := by
  obtain ⟨k0, k1, k2, k3, k4, k5, hts, hps⟩ := hv
  have Hhts := Lib.hid hts; clear hts; have Hhps := Lib.hid hps; clear hps
  obtain ⟨s1, s36⟩ := inB_t.1 e1
  go_enter Tryz.func86, Tryz.ntmps86
  go_wp2
  (refine wp_region_from w (by repeat (first | (with_reducible exact Ext.refl _) | (with_reducible refine Ext.drewN ?_ _) | (with_reducible refine Ext.drew ?_) | (with_reducible refine Ext.alloc ?_ _) | ((with_reducible refine Ext.setCell ?_ ?_ _); rotate_left; focus (first | (simp; done) | (simp; omega) | omega)) | assumption | (with_reducible refine Ext.trans ?_ (by assumption)))) (by kernel_rfl) (by kernel_rfl) (seqB_of (by kernel_rfl)) ?_; (repeat (first | (refine mix_q rfl ?_; go_big_quiet_step (fail); refine wpQuiet_nil ?_; show wpMix _ _ _ _ _ _ _) | (refine mix_s rfl ?_; go_wp2_with ((go_at_call 131; refine (spec_in _ _ _ _).mono ?_; rintro e w' ⟨rfl, rfl⟩)); first | refine ⟨up_of (by repeat (first | (with_reducible exact Ext.refl _) | (with_reducible refine Ext.drewN ?_ _) | (with_reducible refine Ext.drew ?_) | (with_reducible refine Ext.alloc ?_ _) | ((with_reducible refine Ext.setCell ?_ ?_ _); rotate_left; focus (first | (simp; done) | (simp; omega) | omega)) | assumption | (with_reducible refine Ext.trans ?_ (by assumption)))), ?_⟩ | refine ⟨rfl, rfl, up_of (by repeat (first | (with_reducible exact Ext.refl _) | (with_reducible refine Ext.drewN ?_ _) | (with_reducible refine Ext.drew ?_) | (with_reducible refine Ext.alloc ?_ _) | ((with_reducible refine Ext.setCell ?_ ?_ _); rotate_left; focus (first | (simp; done) | (simp; omega) | omega)) | assumption | (with_reducible refine Ext.trans ?_ (by assumption)))), ?_⟩))); refine mix_nil ?_)
  go_wp2
  go_ret
  exact ⟨rfl, (by repeat (first | (with_reducible exact Ext.refl _) | (with_reducible refine Ext.drewN ?_ _) | (with_reducible refine Ext.drew ?_) | (with_reducible refine Ext.alloc ?_ _) | ((with_reducible refine Ext.setCell ?_ ?_ _); rotate_left; focus (first | (simp; done) | (simp; omega) | omega)) | assumption | (with_reducible refine Ext.trans ?_ (by assumption))))⟩
set_option maxHeartbeats 4000000 in
theorem spec_l02Is_no5 (D : Ch) (a : Option Addr) (n c : Nat) (a' : Option Addr) (n' c' : Nat) (q : Nat) (w : World) (hv : ChAt w q D a n c a' n' c') (_hn : n ≤ 1048576) (_hn' : n' ≤ 1048576) (e0 : (inB D.base 2 36) = true) (e1 : (inB D.states 1 36) = true) (e2 : (inB D.start 0 (D.states - 1)) = true) (e3 : (inB D.fin 0 (D.states - 1)) = true) (e4 : (inB n 1 20) = true) (e5 : (inB n' 1 20) = false) :
    Calls Tryz.prog 86 #[.pointer (some ⟨q, 0, none⟩)] w (Ret (.bool false) w) := by
  obtain ⟨k0, k1, k2, k3, k4, k5, hts, hps⟩ := hv
  have Hhts := Lib.hid hts; clear hts; have Hhps := Lib.hid hps; clear hps
  obtain ⟨s1, s36⟩ := inB_t.1 e1
  obtain ⟨n1, n20⟩ := inB_t.1 e4
  go_enter Tryz.func86, Tryz.ntmps86
  go_wp2
  (refine wp_region_from w (by repeat (first | (with_reducible exact Ext.refl _) | (with_reducible refine Ext.drewN ?_ _) | (with_reducible refine Ext.drew ?_) | (with_reducible refine Ext.alloc ?_ _) | ((with_reducible refine Ext.setCell ?_ ?_ _); rotate_left; focus (first | (simp; done) | (simp; omega) | omega)) | assumption | (with_reducible refine Ext.trans ?_ (by assumption)))) (by kernel_rfl) (by kernel_rfl) (seqB_of (by kernel_rfl)) ?_; (repeat (first | (refine mix_q rfl ?_; go_big_quiet_step (fail); refine wpQuiet_nil ?_; show wpMix _ _ _ _ _ _ _) | (refine mix_s rfl ?_; go_wp2_with ((go_at_call 131; refine (spec_in _ _ _ _).mono ?_; rintro e w' ⟨rfl, rfl⟩)); first | refine ⟨up_of (by repeat (first | (with_reducible exact Ext.refl _) | (with_reducible refine Ext.drewN ?_ _) | (with_reducible refine Ext.drew ?_) | (with_reducible refine Ext.alloc ?_ _) | ((with_reducible refine Ext.setCell ?_ ?_ _); rotate_left; focus (first | (simp; done) | (simp; omega) | omega)) | assumption | (with_reducible refine Ext.trans ?_ (by assumption)))), ?_⟩ | refine ⟨rfl, rfl, up_of (by repeat (first | (with_reducible exact Ext.refl _) | (with_reducible refine Ext.drewN ?_ _) | (with_reducible refine Ext.drew ?_) | (with_reducible refine Ext.alloc ?_ _) | ((with_reducible refine Ext.setCell ?_ ?_ _); rotate_left; focus (first | (simp; done) | (simp; omega) | omega)) | assumption | (with_reducible refine Ext.trans ?_ (by assumption)))), ?_⟩))); refine mix_nil ?_)
  go_wp2
  go_ret
  exact ⟨rfl, (by repeat (first | (with_reducible exact Ext.refl _) | (with_reducible refine Ext.drewN ?_ _) | (with_reducible refine Ext.drew ?_) | (with_reducible refine Ext.alloc ?_ _) | ((with_reducible refine Ext.setCell ?_ ?_ _); rotate_left; focus (first | (simp; done) | (simp; omega) | omega)) | assumption | (with_reducible refine Ext.trans ?_ (by assumption))))⟩
set_option maxHeartbeats 4000000 in
theorem spec_l02Is (D : Ch) (a : Option Addr) (n c : Nat) (a' : Option Addr) (n' c' : Nat) (q : Nat) (w : World) (hv : ChAt w q D a n c a' n' c') (hn : n ≤ 1048576) (hn' : n' ≤ 1048576) (hsm : SmallCh D) :
    Calls Tryz.prog 86 #[.pointer (some ⟨q, 0, none⟩)] w (Ret (.bool (validCh D)) w) := by
  have HVV := Lib.hid hv
  have HL := Lib.hid hv.ts.len
  have HP := Lib.hid hv.ps.len
  obtain ⟨k0, k1, k2, k3, k4, k5, hts, hps⟩ := hv
  have Hhts := Lib.hid hts; clear hts; have Hhps := Lib.hid hps; clear hps; have Hhsm := Lib.hid hsm; clear hsm
  cases e0 : inB D.base 2 36
  · have HF := show validCh D = false by unfold validCh headCh; rw [HL.out, HP.out]; simp only [e0, Bool.false_and]
    rw [HF]
    exact spec_l02Is_no0 D a n c a' n' c' q w HVV.out hn hn' e0
  cases e1 : inB D.states 1 36
  · have HF := show validCh D = false by unfold validCh headCh; rw [HL.out, HP.out]; simp only [e0, e1, Bool.false_and, Bool.and_false]
    rw [HF]
    exact spec_l02Is_no1 D a n c a' n' c' q w HVV.out hn hn' e0 e1
  obtain ⟨s1, s36⟩ := inB_t.1 e1
  cases e2 : inB D.start 0 (D.states - 1)
  · have HF := show validCh D = false by unfold validCh headCh; rw [HL.out, HP.out]; simp only [e0, e1, e2, Bool.false_and, Bool.and_false]
    rw [HF]
    exact spec_l02Is_no2 D a n c a' n' c' q w HVV.out hn hn' e0 e1 e2
  cases e3 : inB D.fin 0 (D.states - 1)
  · have HF := show validCh D = false by unfold validCh headCh; rw [HL.out, HP.out]; simp only [e0, e1, e2, e3, Bool.false_and, Bool.and_false]
    rw [HF]
    exact spec_l02Is_no3 D a n c a' n' c' q w HVV.out hn hn' e0 e1 e2 e3
  cases e4 : inB n 1 20
  · have HF := show validCh D = false by unfold validCh headCh; rw [HL.out, HP.out]; simp only [e0, e1, e2, e3, e4, Bool.false_and, Bool.and_false]
    rw [HF]
    exact spec_l02Is_no4 D a n c a' n' c' q w HVV.out hn hn' e0 e1 e2 e3 e4
  obtain ⟨n1, n20⟩ := inB_t.1 e4
  cases e5 : inB n' 1 20
  · have HF := show validCh D = false by unfold validCh headCh; rw [HL.out, HP.out]; simp only [e0, e1, e2, e3, e4, e5, Bool.false_and, Bool.and_false]
    rw [HF]
    exact spec_l02Is_no5 D a n c a' n' c' q w HVV.out hn hn' e0 e1 e2 e3 e4 e5
  obtain ⟨p1, p20⟩ := inB_t.1 e5
  obtain ⟨b2, b36⟩ := inB_t.1 e0
  have HH := Lib.hid (show headCh D = true by unfold headCh; rw [HL.out, HP.out, e0, e1, e2, e3, e4, e5]; rfl)
  have HV := Lib.hid (show validCh D = (decide (D.base ^ n' ≤ 1000000000000000) && (tabsCh D && placesCh D)) by rw [validCh, HH.out, powCh, HP.out]; rfl)
  go_enter Tryz.func86, Tryz.ntmps86
  go_wp2
  (refine wp_region_from w (by repeat (first | (with_reducible exact Ext.refl _) | (with_reducible refine Ext.drewN ?_ _) | (with_reducible refine Ext.drew ?_) | (with_reducible refine Ext.alloc ?_ _) | ((with_reducible refine Ext.setCell ?_ ?_ _); rotate_left; focus (first | (simp; done) | (simp; omega) | omega)) | assumption | (with_reducible refine Ext.trans ?_ (by assumption)))) (by kernel_rfl) (by kernel_rfl) (seqB_of (by kernel_rfl)) ?_; (repeat (first | (refine mix_q rfl ?_; go_big_quiet_step (fail); refine wpQuiet_nil ?_; show wpMix _ _ _ _ _ _ _) | (refine mix_s rfl ?_; go_wp2_with ((go_at_call 131; refine (spec_in _ _ _ _).mono ?_; rintro e w' ⟨rfl, rfl⟩)); first | refine ⟨up_of (by repeat (first | (with_reducible exact Ext.refl _) | (with_reducible refine Ext.drewN ?_ _) | (with_reducible refine Ext.drew ?_) | (with_reducible refine Ext.alloc ?_ _) | ((with_reducible refine Ext.setCell ?_ ?_ _); rotate_left; focus (first | (simp; done) | (simp; omega) | omega)) | assumption | (with_reducible refine Ext.trans ?_ (by assumption)))), ?_⟩ | refine ⟨rfl, rfl, up_of (by repeat (first | (with_reducible exact Ext.refl _) | (with_reducible refine Ext.drewN ?_ _) | (with_reducible refine Ext.drew ?_) | (with_reducible refine Ext.alloc ?_ _) | ((with_reducible refine Ext.setCell ?_ ?_ _); rotate_left; focus (first | (simp; done) | (simp; omega) | omega)) | assumption | (with_reducible refine Ext.trans ?_ (by assumption)))), ?_⟩))); refine mix_nil ?_)
  go_wp2
  clear e0 e1 e2 e3 e4 e5 HH
  go_loopw [3] (fun i wr => ∃ t : Nat, t ≤ n ∧ i = .int .i64 t ∧ (D.tabs.take t).all (tabCh D) = true ∧ Ext w wr) (fun i _ => n - (intOf i).toNat)
  case atStart => exact ⟨0, Nat.zero_le _, rfl, rfl, (by repeat (first | (with_reducible exact Ext.refl _) | (with_reducible refine Ext.drewN ?_ _) | (with_reducible refine Ext.drew ?_) | (with_reducible refine Ext.alloc ?_ _) | ((with_reducible refine Ext.setCell ?_ ?_ _); rotate_left; focus (first | (simp; done) | (simp; omega) | omega)) | assumption | (with_reducible refine Ext.trans ?_ (by assumption))))⟩
  case round =>
    obtain ⟨t, htn, rfl, hall, hx⟩ := hrel
    have hxr : Ext w wr := hx
    have Hhall := Lib.hid hall; clear hall
    by_cases hlt : t < n
    · obtain ⟨b1, o1, a1, n1', c1, ⟨f1, f2⟩, hm⟩ := (Hhts.out).one (P := Tryz.prog) 24 60 und_tabs cell_tab1 (t : Int) (by omega) (by omega)
      rw [show (t : Int).toNat = t by omega] at hm
      have HTl := Lib.hid hm.len
      have hsz : n1' ≤ 1048576 := by rw [← HTl.out]; exact Hhsm.out.tab (by rw [HL.out]; exact hlt)
      have HNo := Lib.hid (fun h => all_noG (p := tabCh D) (l := D.tabs) (k := t) (d := []) (by rw [HL.out]; exact hlt) h)
      have HSt := Lib.hid (fun h => all_stepG (p := tabCh D) (l := D.tabs) (k := t) (d := []) (by rw [HL.out]; exact hlt) h Hhall.out)
      have HSm := Lib.hid (fun x (hx : x < n1') => Hhsm.out.row (t := t) (x := x) (by rw [HL.out]; exact hlt) (by rw [HTl.out]; exact hx))
      have HTc := Lib.hid (show tabCh D (D.tabs.getD t []) = (decide (((gm D.tabs t).length : Int) = D.states) && (gm D.tabs t).all (rowCh D)) from rfl)
      rw [HTl.out] at HTc
      have Hhm := Lib.hid hm; clear hm
      generalize gm D.tabs t = tb at *
      by_cases hst : (n1' : Int) = D.states
      rotate_left
      · have hb : ((n1' : Int) != D.states) = true := by simpa using hst
        have HF := Lib.hid (HNo.out (by rw [HTc.out]; simp [hst]))
        clear hst
        go_wp2
        (refine wp_region_up (by kernel_rfl) (by kernel_rfl) (by kernel_rfl) ?_; (repeat (first | (refine mix_q rfl ?_; go_big_quiet_step (fail); refine wpQuiet_nil ?_; show wpMix _ _ _ _ _ _ _) | (refine mix_s rfl ?_; go_wp2_with (fail); first | refine ⟨up_of (by repeat (first | (with_reducible exact Ext.refl _) | (with_reducible refine Ext.drewN ?_ _) | (with_reducible refine Ext.drew ?_) | (with_reducible refine Ext.alloc ?_ _) | ((with_reducible refine Ext.setCell ?_ ?_ _); rotate_left; focus (first | (simp; done) | (simp; omega) | omega)) | assumption | (with_reducible refine Ext.trans ?_ (by assumption)))), ?_⟩ | refine ⟨rfl, rfl, up_of (by repeat (first | (with_reducible exact Ext.refl _) | (with_reducible refine Ext.drewN ?_ _) | (with_reducible refine Ext.drew ?_) | (with_reducible refine Ext.alloc ?_ _) | ((with_reducible refine Ext.setCell ?_ ?_ _); rotate_left; focus (first | (simp; done) | (simp; omega) | omega)) | assumption | (with_reducible refine Ext.trans ?_ (by assumption)))), ?_⟩))); refine mix_nil ?_)
        go_wp2
        go_ret
        exact ⟨rb (by rw [HV.out, tabsCh, HF.out]; simp), (by repeat (first | (with_reducible exact Ext.refl _) | (with_reducible refine Ext.drewN ?_ _) | (with_reducible refine Ext.drew ?_) | (with_reducible refine Ext.alloc ?_ _) | ((with_reducible refine Ext.setCell ?_ ?_ _); rotate_left; focus (first | (simp; done) | (simp; omega) | omega)) | assumption | (with_reducible refine Ext.trans ?_ (by assumption))))⟩
      have hb : ((n1' : Int) != D.states) = false := by simpa using hst
      have HTc2 := Lib.hid (show tabCh D (D.tabs.getD t []) = tb.all (rowCh D) by rw [HTc.out]; simp [hst])
      have Hhst := Lib.hid hst; clear hst
      go_wp2
      (refine wp_region_up (by kernel_rfl) (by kernel_rfl) (by kernel_rfl) ?_; (repeat (first | (refine mix_q rfl ?_; go_big_quiet_step (fail); refine wpQuiet_nil ?_; show wpMix _ _ _ _ _ _ _) | (refine mix_s rfl ?_; go_wp2_with (fail); first | refine ⟨up_of (by repeat (first | (with_reducible exact Ext.refl _) | (with_reducible refine Ext.drewN ?_ _) | (with_reducible refine Ext.drew ?_) | (with_reducible refine Ext.alloc ?_ _) | ((with_reducible refine Ext.setCell ?_ ?_ _); rotate_left; focus (first | (simp; done) | (simp; omega) | omega)) | assumption | (with_reducible refine Ext.trans ?_ (by assumption)))), ?_⟩ | refine ⟨rfl, rfl, up_of (by repeat (first | (with_reducible exact Ext.refl _) | (with_reducible refine Ext.drewN ?_ _) | (with_reducible refine Ext.drew ?_) | (with_reducible refine Ext.alloc ?_ _) | ((with_reducible refine Ext.setCell ?_ ?_ _); rotate_left; focus (first | (simp; done) | (simp; omega) | omega)) | assumption | (with_reducible refine Ext.trans ?_ (by assumption)))), ?_⟩))); refine mix_nil ?_)
      go_wp2
      go_loopw [4] (fun i wq => ∃ x : Nat, x ≤ n1' ∧ i = .int .i64 x ∧ (tb.take x).all (rowCh D) = true ∧ Ext w wq) (fun i _ => n1' - (intOf i).toNat)
      case atStart => exact ⟨0, Nat.zero_le _, rfl, rfl, (by repeat (first | (with_reducible exact Ext.refl _) | (with_reducible refine Ext.drewN ?_ _) | (with_reducible refine Ext.drew ?_) | (with_reducible refine Ext.alloc ?_ _) | ((with_reducible refine Ext.setCell ?_ ?_ _); rotate_left; focus (first | (simp; done) | (simp; omega) | omega)) | assumption | (with_reducible refine Ext.trans ?_ (by assumption))))⟩
      case round =>
        obtain ⟨x, hxn, rfl, hra, hx2⟩ := hrel
        have hxq : Ext w wr := hx2
        have Hhra := Lib.hid hra; clear hra
        by_cases hlx : x < n1'
        · obtain ⟨b2', o2, a2, n2, c2, ⟨f3, f4⟩, hr⟩ := (Hhm.out).one (P := Tryz.prog) 60 25 und_rows cell_row1 (x : Int) (by omega) (by omega)
          rw [show (x : Int).toNat = x by omega] at hr
          have HRl := Lib.hid hr.len
          have hsz2 : n2 ≤ 1048576 := by rw [← HRl.out]; exact HSm.out x hlx
          have HNo2 := Lib.hid (fun h => all_noG (p := rowCh D) (l := tb) (k := x) (d := []) (by rw [HTl.out]; exact hlx) h)
          have HSt2 := Lib.hid (fun h => all_stepG (p := rowCh D) (l := tb) (k := x) (d := []) (by rw [HTl.out]; exact hlx) h Hhra.out)
          have HRc := Lib.hid (show rowCh D (tb.getD x []) = (decide (((gl tb x).length : Int) = D.base) && (gl tb x).all fun z => inB z 0 (D.states - 1)) from rfl)
          rw [HRl.out] at HRc
          obtain ⟨b3, off3, hix3, hcell3⟩ := hr.ix (P := Tryz.prog) 25 2 und_int64s cell_int64
          have Hhr := Lib.hid hr; clear hr
          generalize gl tb x = r at *
          by_cases hrb : (n2 : Int) = D.base
          rotate_left
          · have hb2 : ((n2 : Int) != D.base) = true := by simpa using hrb
            have HF := Lib.hid (HNo.out (by rw [HTc2.out]; exact HNo2.out (by rw [HRc.out]; simp [hrb])))
            clear hrb
            go_wp2
            (refine wp_region_up (by kernel_rfl) (by kernel_rfl) (by kernel_rfl) ?_; (repeat (first | (refine mix_q rfl ?_; go_big_quiet_step (fail); refine wpQuiet_nil ?_; show wpMix _ _ _ _ _ _ _) | (refine mix_s rfl ?_; go_wp2_with (fail); first | refine ⟨up_of (by repeat (first | (with_reducible exact Ext.refl _) | (with_reducible refine Ext.drewN ?_ _) | (with_reducible refine Ext.drew ?_) | (with_reducible refine Ext.alloc ?_ _) | ((with_reducible refine Ext.setCell ?_ ?_ _); rotate_left; focus (first | (simp; done) | (simp; omega) | omega)) | assumption | (with_reducible refine Ext.trans ?_ (by assumption)))), ?_⟩ | refine ⟨rfl, rfl, up_of (by repeat (first | (with_reducible exact Ext.refl _) | (with_reducible refine Ext.drewN ?_ _) | (with_reducible refine Ext.drew ?_) | (with_reducible refine Ext.alloc ?_ _) | ((with_reducible refine Ext.setCell ?_ ?_ _); rotate_left; focus (first | (simp; done) | (simp; omega) | omega)) | assumption | (with_reducible refine Ext.trans ?_ (by assumption)))), ?_⟩))); refine mix_nil ?_)
            go_wp2
            go_ret
            exact ⟨rb (by rw [HV.out, tabsCh, HF.out]; simp), (by repeat (first | (with_reducible exact Ext.refl _) | (with_reducible refine Ext.drewN ?_ _) | (with_reducible refine Ext.drew ?_) | (with_reducible refine Ext.alloc ?_ _) | ((with_reducible refine Ext.setCell ?_ ?_ _); rotate_left; focus (first | (simp; done) | (simp; omega) | omega)) | assumption | (with_reducible refine Ext.trans ?_ (by assumption))))⟩
          have hb2 : ((n2 : Int) != D.base) = false := by simpa using hrb
          have HRc2 := Lib.hid (show rowCh D (tb.getD x []) = (r.all fun z => inB z 0 (D.states - 1)) by rw [HRc.out]; simp [hrb])
          have Hhrb := Lib.hid hrb; clear hrb
          go_wp2
          (refine wp_region_up (by kernel_rfl) (by kernel_rfl) (by kernel_rfl) ?_; (repeat (first | (refine mix_q rfl ?_; go_big_quiet_step (fail); refine wpQuiet_nil ?_; show wpMix _ _ _ _ _ _ _) | (refine mix_s rfl ?_; go_wp2_with (fail); first | refine ⟨up_of (by repeat (first | (with_reducible exact Ext.refl _) | (with_reducible refine Ext.drewN ?_ _) | (with_reducible refine Ext.drew ?_) | (with_reducible refine Ext.alloc ?_ _) | ((with_reducible refine Ext.setCell ?_ ?_ _); rotate_left; focus (first | (simp; done) | (simp; omega) | omega)) | assumption | (with_reducible refine Ext.trans ?_ (by assumption)))), ?_⟩ | refine ⟨rfl, rfl, up_of (by repeat (first | (with_reducible exact Ext.refl _) | (with_reducible refine Ext.drewN ?_ _) | (with_reducible refine Ext.drew ?_) | (with_reducible refine Ext.alloc ?_ _) | ((with_reducible refine Ext.setCell ?_ ?_ _); rotate_left; focus (first | (simp; done) | (simp; omega) | omega)) | assumption | (with_reducible refine Ext.trans ?_ (by assumption)))), ?_⟩))); refine mix_nil ?_)
          go_wp2
          go_loopw [5] (fun i wz => ∃ d : Nat, d ≤ n2 ∧ i = .int .i64 d ∧ (r.take d).all (fun z => inB z 0 (D.states - 1)) = true ∧ Ext w wz) (fun i _ => n2 - (intOf i).toNat)
          case atStart => exact ⟨0, Nat.zero_le _, rfl, rfl, (by repeat (first | (with_reducible exact Ext.refl _) | (with_reducible refine Ext.drewN ?_ _) | (with_reducible refine Ext.drew ?_) | (with_reducible refine Ext.alloc ?_ _) | ((with_reducible refine Ext.setCell ?_ ?_ _); rotate_left; focus (first | (simp; done) | (simp; omega) | omega)) | assumption | (with_reducible refine Ext.trans ?_ (by assumption))))⟩
          case round =>
            obtain ⟨d, hdn, rfl, hda, hx3⟩ := hrel
            have hxz : Ext w wr := hx3
            have Hhda := Lib.hid hda; clear hda
            by_cases hld : d < n2
            · have HNo3 := Lib.hid (fun h => all_noG (p := fun z => inB z 0 (D.states - 1)) (l := r) (k := d) (d := 0) (by rw [HRl.out]; exact hld) h)
              have HSt3 := Lib.hid (fun h => all_stepG (p := fun z => inB z 0 (D.states - 1)) (l := r) (k := d) (d := 0) (by rw [HRl.out]; exact hld) h Hhda.out)
              have HIn := Lib.hid (spec_in (gi r d) 0 (D.states - 1))
              cases hin : inB (gi r d) 0 (D.states - 1)
              · rw [hin] at HIn
                have HF := Lib.hid (HNo.out (by rw [HTc2.out]; exact HNo2.out (by rw [HRc2.out]; exact HNo3.out hin)))
                clear hin
                go_wp2
                (refine wp_region_up (by kernel_rfl) (by kernel_rfl) (by kernel_rfl) ?_; (repeat (first | (refine mix_q rfl ?_; go_big_quiet_step (fail); refine wpQuiet_nil ?_; show wpMix _ _ _ _ _ _ _) | (refine mix_s rfl ?_; go_wp2_with (((with_reducible refine (HIn.out _).mono ?_); rintro e w9 ⟨rfl, rfl⟩)); first | refine ⟨up_of (by repeat (first | (with_reducible exact Ext.refl _) | (with_reducible refine Ext.drewN ?_ _) | (with_reducible refine Ext.drew ?_) | (with_reducible refine Ext.alloc ?_ _) | ((with_reducible refine Ext.setCell ?_ ?_ _); rotate_left; focus (first | (simp; done) | (simp; omega) | omega)) | assumption | (with_reducible refine Ext.trans ?_ (by assumption)))), ?_⟩ | refine ⟨rfl, rfl, up_of (by repeat (first | (with_reducible exact Ext.refl _) | (with_reducible refine Ext.drewN ?_ _) | (with_reducible refine Ext.drew ?_) | (with_reducible refine Ext.alloc ?_ _) | ((with_reducible refine Ext.setCell ?_ ?_ _); rotate_left; focus (first | (simp; done) | (simp; omega) | omega)) | assumption | (with_reducible refine Ext.trans ?_ (by assumption)))), ?_⟩))); refine mix_nil ?_)
                go_wp2
                go_ret
                exact ⟨rb (by rw [HV.out, tabsCh, HF.out]; simp), (by repeat (first | (with_reducible exact Ext.refl _) | (with_reducible refine Ext.drewN ?_ _) | (with_reducible refine Ext.drew ?_) | (with_reducible refine Ext.alloc ?_ _) | ((with_reducible refine Ext.setCell ?_ ?_ _); rotate_left; focus (first | (simp; done) | (simp; omega) | omega)) | assumption | (with_reducible refine Ext.trans ?_ (by assumption))))⟩
              · rw [hin] at HIn
                have HX := Lib.hid (HSt3.out hin)
                clear hin
                go_wp2
                (refine wp_region_up (by kernel_rfl) (by kernel_rfl) (by kernel_rfl) ?_; (repeat (first | (refine mix_q rfl ?_; go_big_quiet_step (fail); refine wpQuiet_nil ?_; show wpMix _ _ _ _ _ _ _) | (refine mix_s rfl ?_; go_wp2_with (((with_reducible refine (HIn.out _).mono ?_); rintro e w9 ⟨rfl, rfl⟩)); first | refine ⟨up_of (by repeat (first | (with_reducible exact Ext.refl _) | (with_reducible refine Ext.drewN ?_ _) | (with_reducible refine Ext.drew ?_) | (with_reducible refine Ext.alloc ?_ _) | ((with_reducible refine Ext.setCell ?_ ?_ _); rotate_left; focus (first | (simp; done) | (simp; omega) | omega)) | assumption | (with_reducible refine Ext.trans ?_ (by assumption)))), ?_⟩ | refine ⟨rfl, rfl, up_of (by repeat (first | (with_reducible exact Ext.refl _) | (with_reducible refine Ext.drewN ?_ _) | (with_reducible refine Ext.drew ?_) | (with_reducible refine Ext.alloc ?_ _) | ((with_reducible refine Ext.setCell ?_ ?_ _); rotate_left; focus (first | (simp; done) | (simp; omega) | omega)) | assumption | (with_reducible refine Ext.trans ?_ (by assumption)))), ?_⟩))); refine mix_nil ?_)
                go_wp2
                exact ⟨⟨d + 1, by omega, by go_num, HX.out, (by repeat (first | (with_reducible exact Ext.refl _) | (with_reducible refine Ext.drewN ?_ _) | (with_reducible refine Ext.drew ?_) | (with_reducible refine Ext.alloc ?_ _) | ((with_reducible refine Ext.setCell ?_ ?_ _); rotate_left; focus (first | (simp; done) | (simp; omega) | omega)) | assumption | (with_reducible refine Ext.trans ?_ (by assumption))))⟩, by simp [intOf]; omega⟩
            · obtain rfl : d = n2 := by omega
              have HX := Lib.hid (HSt2.out (by rw [HRc2.out]; have := Hhda.out; rwa [take_full (by rw [HRl.out]; exact Nat.le_refl _)] at this))
              go_wp2
              exact ⟨⟨x + 1, by omega, by go_num, HX.out, (by repeat (first | (with_reducible exact Ext.refl _) | (with_reducible refine Ext.drewN ?_ _) | (with_reducible refine Ext.drew ?_) | (with_reducible refine Ext.alloc ?_ _) | ((with_reducible refine Ext.setCell ?_ ?_ _); rotate_left; focus (first | (simp; done) | (simp; omega) | omega)) | assumption | (with_reducible refine Ext.trans ?_ (by assumption))))⟩, by simp [intOf]; omega⟩
        · obtain rfl : x = n1' := by omega
          have HX := Lib.hid (HSt.out (by rw [HTc2.out]; have := Hhra.out; rwa [take_full (by rw [HTl.out]; exact Nat.le_refl _)] at this))
          go_wp2
          exact ⟨⟨t + 1, by omega, by go_num, HX.out, (by repeat (first | (with_reducible exact Ext.refl _) | (with_reducible refine Ext.drewN ?_ _) | (with_reducible refine Ext.drew ?_) | (with_reducible refine Ext.alloc ?_ _) | ((with_reducible refine Ext.setCell ?_ ?_ _); rotate_left; focus (first | (simp; done) | (simp; omega) | omega)) | assumption | (with_reducible refine Ext.trans ?_ (by assumption))))⟩, by simp [intOf]; omega⟩
    · obtain rfl : t = n := by omega
      have HTs := Lib.hid (show tabsCh D = true by have := Hhall.out; rwa [take_full (by rw [HL.out]; exact Nat.le_refl _)] at this)
      have HPc := Lib.hid (show placesCh D = (D.places.all fun z => inB z 0 ((t : Int) - 1)) by rw [placesCh, HL.out])
      obtain ⟨b4, off4, hix4, hcell4⟩ := (Hhps.out).ix (P := Tryz.prog) 25 2 und_int64s cell_int64
      go_wp2
      go_loopw [6, 7] (fun i v wz => ∃ k : Nat, k ≤ n' ∧ v = .int .i64 k ∧ i = .int .i64 (min (D.base ^ k) (1000000000000000 + 1)) ∧ (D.places.take k).all (fun z => inB z 0 ((t : Int) - 1)) = true ∧ Ext w wz) (fun _ i _ => n' - (intOf i).toNat)
      case atStart => exact ⟨0, Nat.zero_le _, rfl, (by rw [Int.pow_zero]; rfl), rfl, (by repeat (first | (with_reducible exact Ext.refl _) | (with_reducible refine Ext.drewN ?_ _) | (with_reducible refine Ext.drew ?_) | (with_reducible refine Ext.alloc ?_ _) | ((with_reducible refine Ext.setCell ?_ ?_ _); rotate_left; focus (first | (simp; done) | (simp; omega) | omega)) | assumption | (with_reducible refine Ext.trans ?_ (by assumption))))⟩
      case round =>
        obtain ⟨k, hkn, rfl, rfl, hda, hx3⟩ := hrel
        have hxz : Ext w wr := hx3
        have Hhda := Lib.hid hda; clear hda
        by_cases hlk : k < n'
        · have HNo3 := Lib.hid (fun h => all_noG (p := fun z => inB z 0 ((t : Int) - 1)) (l := D.places) (k := k) (d := 0) (by rw [HP.out]; exact hlk) h)
          have HSt3 := Lib.hid (fun h => all_stepG (p := fun z => inB z 0 ((t : Int) - 1)) (l := D.places) (k := k) (d := 0) (by rw [HP.out]; exact hlk) h Hhda.out)
          have HIn := Lib.hid (spec_in (gi D.places k) 0 ((t : Int) - 1))
          cases hin : inB (gi D.places k) 0 ((t : Int) - 1)
          · rw [hin] at HIn
            have HF := Lib.hid (show placesCh D = false by rw [HPc.out]; exact HNo3.out hin)
            clear hin
            go_wp2
            (refine wp_region_up (by kernel_rfl) (by kernel_rfl) (by kernel_rfl) ?_; (repeat (first | (refine mix_q rfl ?_; go_big_quiet_step (fail); refine wpQuiet_nil ?_; show wpMix _ _ _ _ _ _ _) | (refine mix_s rfl ?_; go_wp2_with (((with_reducible refine (HIn.out _).mono ?_); rintro e w9 ⟨rfl, rfl⟩)); first | refine ⟨up_of (by repeat (first | (with_reducible exact Ext.refl _) | (with_reducible refine Ext.drewN ?_ _) | (with_reducible refine Ext.drew ?_) | (with_reducible refine Ext.alloc ?_ _) | ((with_reducible refine Ext.setCell ?_ ?_ _); rotate_left; focus (first | (simp; done) | (simp; omega) | omega)) | assumption | (with_reducible refine Ext.trans ?_ (by assumption)))), ?_⟩ | refine ⟨rfl, rfl, up_of (by repeat (first | (with_reducible exact Ext.refl _) | (with_reducible refine Ext.drewN ?_ _) | (with_reducible refine Ext.drew ?_) | (with_reducible refine Ext.alloc ?_ _) | ((with_reducible refine Ext.setCell ?_ ?_ _); rotate_left; focus (first | (simp; done) | (simp; omega) | omega)) | assumption | (with_reducible refine Ext.trans ?_ (by assumption)))), ?_⟩))); refine mix_nil ?_)
            go_wp2
            go_ret
            exact ⟨rb (by rw [HV.out, HF.out]; simp), (by repeat (first | (with_reducible exact Ext.refl _) | (with_reducible refine Ext.drewN ?_ _) | (with_reducible refine Ext.drew ?_) | (with_reducible refine Ext.alloc ?_ _) | ((with_reducible refine Ext.setCell ?_ ?_ _); rotate_left; focus (first | (simp; done) | (simp; omega) | omega)) | assumption | (with_reducible refine Ext.trans ?_ (by assumption))))⟩
          · rw [hin] at HIn
            have HX := Lib.hid (HSt3.out hin)
            have hbd := min_bd (M := 1000000000000000) (pow_pos' b2 k) b2 b36 (by omega)
            have HMs := Lib.hid (show min (min (D.base ^ k) (1000000000000000 + 1) * D.base) (1000000000000000 + 1) = min (D.base ^ (k + 1)) (1000000000000000 + 1) by rw [Int.pow_succ]; exact min_step (pow_pos' b2 k) b2 (by omega))
            clear hin
            generalize min (D.base ^ k) (1000000000000000 + 1) = m at *
            go_wp2
            (refine wp_region_up (by kernel_rfl) (by kernel_rfl) (by kernel_rfl) ?_; (repeat (first | (refine mix_q rfl ?_; go_big_quiet_step (fail); refine wpQuiet_nil ?_; show wpMix _ _ _ _ _ _ _) | (refine mix_s rfl ?_; go_wp2_with (((with_reducible refine (HIn.out _).mono ?_); rintro e w9 ⟨rfl, rfl⟩)); first | refine ⟨up_of (by repeat (first | (with_reducible exact Ext.refl _) | (with_reducible refine Ext.drewN ?_ _) | (with_reducible refine Ext.drew ?_) | (with_reducible refine Ext.alloc ?_ _) | ((with_reducible refine Ext.setCell ?_ ?_ _); rotate_left; focus (first | (simp; done) | (simp; omega) | omega)) | assumption | (with_reducible refine Ext.trans ?_ (by assumption)))), ?_⟩ | refine ⟨rfl, rfl, up_of (by repeat (first | (with_reducible exact Ext.refl _) | (with_reducible refine Ext.drewN ?_ _) | (with_reducible refine Ext.drew ?_) | (with_reducible refine Ext.alloc ?_ _) | ((with_reducible refine Ext.setCell ?_ ?_ _); rotate_left; focus (first | (simp; done) | (simp; omega) | omega)) | assumption | (with_reducible refine Ext.trans ?_ (by assumption)))), ?_⟩))); refine mix_nil ?_)
            go_wp2_with (go_at_call 132; refine (spec_min _ _ _).mono ?_; rintro e w' ⟨rfl, rfl⟩)
            exact ⟨⟨k + 1, by omega, by go_num, by rw [← HMs.out]; rfl, HX.out, (by repeat (first | (with_reducible exact Ext.refl _) | (with_reducible refine Ext.drewN ?_ _) | (with_reducible refine Ext.drew ?_) | (with_reducible refine Ext.alloc ?_ _) | ((with_reducible refine Ext.setCell ?_ ?_ _); rotate_left; focus (first | (simp; done) | (simp; omega) | omega)) | assumption | (with_reducible refine Ext.trans ?_ (by assumption))))⟩, by simp [intOf]; omega⟩
        · obtain rfl : k = n' := by omega
          have HX := Lib.hid (show placesCh D = true by rw [HPc.out]; have := Hhda.out; rwa [take_full (by rw [HP.out]; exact Nat.le_refl _)] at this)
          have HM := Lib.hid (show ∀ x : Int, x = D.base ^ k → decide (min x (1000000000000000 + 1) ≤ 1000000000000000) = decide (x ≤ 1000000000000000) from fun x _ => by by_cases h : x ≤ 1000000000000000 <;> simp [h] <;> omega)
          have HM2 := Lib.hid (HM.out _ rfl)
          have HV2 := Lib.hid (show validCh D = decide (min (D.base ^ k) (1000000000000000 + 1) ≤ 1000000000000000) by rw [HV.out, HTs.out, HX.out, HM2.out]; simp)
          generalize min (D.base ^ k) (1000000000000000 + 1) = m at *
          go_wp2
          go_ret
          exact ⟨rb HV2.out.symm, (by repeat (first | (with_reducible exact Ext.refl _) | (with_reducible refine Ext.drewN ?_ _) | (with_reducible refine Ext.drew ?_) | (with_reducible refine Ext.alloc ?_ _) | ((with_reducible refine Ext.setCell ?_ ?_ _); rotate_left; focus (first | (simp; done) | (simp; omega) | omega)) | assumption | (with_reducible refine Ext.trans ?_ (by assumption))))⟩
end Go.Proofs.YtbcfbkhbangeoaaGreat
