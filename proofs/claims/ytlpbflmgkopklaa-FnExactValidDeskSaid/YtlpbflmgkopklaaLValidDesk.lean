/- The law on ValidDesk: walked. -/
import Derived.Test.YtlpbflmgkopklaaDeskL
import Derived.Test.YtlpbflmgkopklaaOpen
import Derived.Deep.RegionWith
import Derived.Deep.RegionHeld3
namespace Go.Proofs.Ytlpbflmgkopklaa
set_option maxRecDepth 100000
open Go.RowKit

set_option maxHeartbeats 4000000 in
theorem lawValidDesk (D : Dk) (a : Option Addr) (n c : Nat) (b : Option Addr) (m d : Nat) (w : World) (hv : RawDk w D a n c b m d) :
    Calls Try.prog 8 #[.agg #[.slice a n c, .slice b m d]] w (Ret (.bool true) w) := by
  have HV := Lib.hid hv
  have HSz := Lib.hid (fun W (h : Ext w W) => szDk D a n c b m d W (hv.ext h))
  have HTo := Lib.hid (fun W (h : Ext w W) hs => toDk D a n c b m d W (hv.ext h) hs)
  have HSp := Lib.hid (fun a' c' b' d' W h => spec_ValidDesk D a' n c' b' m d' W h)
  have HIm := Lib.hid (fun a' c' b' d' W h => impl_desk D a' n c' b' m d' W h)
  generalize deskB D = y at *
  clear hv
  go_enter Try.func8, Try.ntmps8
  go_wp2_with fail
  refine (HSz.out _ (by repeat (first | (with_reducible exact Ext.refl _) | (with_reducible refine Ext.drewN ?_ _) | (with_reducible refine Ext.drew ?_) | (with_reducible refine Ext.alloc ?_ _) | ((with_reducible refine Ext.setCell ?_ ?_ _); rotate_left; focus (first | (simp; done) | (simp; omega) | omega)) | assumption | (with_reducible refine Ext.trans ?_ (by assumption))))).mono ?_
  rintro e w1 ⟨x, rfl, hx, hy1⟩
  have hxw1 : Ext w w1 := Ext.trans (by repeat (first | (with_reducible exact Ext.refl _) | (with_reducible refine Ext.drewN ?_ _) | (with_reducible refine Ext.drew ?_) | (with_reducible refine Ext.alloc ?_ _) | ((with_reducible refine Ext.setCell ?_ ?_ _); rotate_left; focus (first | (simp; done) | (simp; omega) | omega)) | assumption | (with_reducible refine Ext.trans ?_ (by assumption)))) hy1
  rcases hx with rfl | ⟨h0, _, hs⟩
  · go_wp2
    go_ret
    exact ⟨rfl, hxw1⟩
  have h00 : ¬ x < 0 := by omega
  clear h0
  have HS := Lib.hid hs
  clear hs
  have hb := hy1.heap (heap_alloc_new w _)
  obtain ⟨k0, k1, k2, k3⟩ := blk2 hb
  go_wp2_with fail
  refine (HTo.out _ (by repeat (first | (with_reducible exact Ext.refl _) | (with_reducible refine Ext.drewN ?_ _) | (with_reducible refine Ext.drew ?_) | (with_reducible refine Ext.alloc ?_ _) | ((with_reducible refine Ext.setCell ?_ ?_ _); rotate_left; focus (first | (simp; done) | (simp; omega) | omega)) | assumption | (with_reducible refine Ext.trans ?_ (by assumption)))) HS.out).mono ?_
  rintro e w2 ⟨a2, c2, b2, d2, rfl, hd2, hy2⟩
  have hxw2 : Ext w w2 := Ext.trans (by repeat (first | (with_reducible exact Ext.refl _) | (with_reducible refine Ext.drewN ?_ _) | (with_reducible refine Ext.drew ?_) | (with_reducible refine Ext.alloc ?_ _) | ((with_reducible refine Ext.setCell ?_ ?_ _); rotate_left; focus (first | (simp; done) | (simp; omega) | omega)) | assumption | (with_reducible refine Ext.trans ?_ (by assumption)))) hy2
  have hb2 := hy2.heap hb
  have Hhd2 := Lib.hid hd2; clear hd2
  clear k0 k1 k2 k3 hb
  obtain ⟨k0, k1, k2, k3⟩ := blk2 hb2
  go_wp2_with fail
  refine (HSp.out _ _ _ _ _ Hhd2.out).mono ?_
  rintro e w3 ⟨rfl, hy3⟩
  have hxw3 : Ext w w3 := Ext.trans (by repeat (first | (with_reducible exact Ext.refl _) | (with_reducible refine Ext.drewN ?_ _) | (with_reducible refine Ext.drew ?_) | (with_reducible refine Ext.alloc ?_ _) | ((with_reducible refine Ext.setCell ?_ ?_ _); rotate_left; focus (first | (simp; done) | (simp; omega) | omega)) | assumption | (with_reducible refine Ext.trans ?_ (by assumption)))) hy3
  have hb3 := hy3.heap hb2
  clear k0 k1 k2 k3 hb2
  obtain ⟨k0, k1, k2, k3⟩ := blk2 hb3
  go_wp2_with fail
  refine (HTo.out _ (by repeat (first | (with_reducible exact Ext.refl _) | (with_reducible refine Ext.drewN ?_ _) | (with_reducible refine Ext.drew ?_) | (with_reducible refine Ext.alloc ?_ _) | ((with_reducible refine Ext.setCell ?_ ?_ _); rotate_left; focus (first | (simp; done) | (simp; omega) | omega)) | assumption | (with_reducible refine Ext.trans ?_ (by assumption)))) HS.out).mono ?_
  rintro e w4 ⟨a4, c4, b4, d4, rfl, hd4, hy4⟩
  have hxw4 : Ext w w4 := Ext.trans (by repeat (first | (with_reducible exact Ext.refl _) | (with_reducible refine Ext.drewN ?_ _) | (with_reducible refine Ext.drew ?_) | (with_reducible refine Ext.alloc ?_ _) | ((with_reducible refine Ext.setCell ?_ ?_ _); rotate_left; focus (first | (simp; done) | (simp; omega) | omega)) | assumption | (with_reducible refine Ext.trans ?_ (by assumption)))) hy4
  have hb4 := hy4.heap hb3
  have Hhd4 := Lib.hid hd4; clear hd4
  clear k0 k1 k2 k3 hb3
  obtain ⟨k0, k1, k2, k3⟩ := blk2 hb4
  go_wp2_with fail
  refine (HIm.out _ _ _ _ _ (Hhd4.out.ext (by repeat (first | (with_reducible exact Ext.refl _) | (with_reducible refine Ext.drewN ?_ _) | (with_reducible refine Ext.drew ?_) | (with_reducible refine Ext.alloc ?_ _) | ((with_reducible refine Ext.setCell ?_ ?_ _); rotate_left; focus (first | (simp; done) | (simp; omega) | omega)) | assumption | (with_reducible refine Ext.trans ?_ (by assumption)))))).mono ?_
  rintro e w5 ⟨rfl, hy5⟩
  have hxw5 : Ext w w5 := Ext.trans (by repeat (first | (with_reducible exact Ext.refl _) | (with_reducible refine Ext.drewN ?_ _) | (with_reducible refine Ext.drew ?_) | (with_reducible refine Ext.alloc ?_ _) | ((with_reducible refine Ext.setCell ?_ ?_ _); rotate_left; focus (first | (simp; done) | (simp; omega) | omega)) | assumption | (with_reducible refine Ext.trans ?_ (by assumption)))) hy5
  have hzw5 : Ext w4 w5 := Ext.trans (by repeat (first | (with_reducible exact Ext.refl _) | (with_reducible refine Ext.drewN ?_ _) | (with_reducible refine Ext.drew ?_) | (with_reducible refine Ext.alloc ?_ _) | ((with_reducible refine Ext.setCell ?_ ?_ _); rotate_left; focus (first | (simp; done) | (simp; omega) | omega)) | assumption | (with_reducible refine Ext.trans ?_ (by assumption)))) hy5
  have hb5 := hzw5.heap hb4
  have hq5 := hy5.heap (heap_alloc_new w4 _)
  clear k0 k1 k2 k3 hb4
  obtain ⟨k0, k1, k2, k3⟩ := blk2 hb5
  obtain ⟨l0, l1, l2, l3⟩ := blk2 hq5
  have K0 : ∀ w', Ext w5 w' → w'.cell? ⟨w.heap.size, 0, none⟩ = some (.slice a n c) := fun _ h => h.cell k0
  have K1 : ∀ w', Ext w5 w' → w'.cell? ⟨w.heap.size, 1, none⟩ = some (.slice b m d) := fun _ h => h.cell k1
  have K2 : ∀ w', Ext w5 w' → w'.cell? ⟨w4.heap.size, 0, none⟩ = some (.slice a4 n c4) := fun _ h => h.cell l0
  have K3 : ∀ w', Ext w5 w' → w'.cell? ⟨w4.heap.size, 1, none⟩ = some (.slice b4 m d4) := fun _ h => h.cell l1
  have HEq := Lib.hid (fun a' c' b' d' W (h : DkIn W D a4 n c4 b4 m d4) h' => eqDk D a4 n c4 b4 m d4 a' c' b' d' W h h' HS.out)
  clear k0 k1 k2 k3 l0 l1 l2 l3 hb5 hq5
  go_wp2
  (refine wp_region_from w5 (by repeat (first | (with_reducible exact Ext.refl _) | (with_reducible refine Ext.drewN ?_ _) | (with_reducible refine Ext.drew ?_) | (with_reducible refine Ext.alloc ?_ _) | ((with_reducible refine Ext.setCell ?_ ?_ _); rotate_left; focus (first | (simp; done) | (simp; omega) | omega)) | assumption | (with_reducible refine Ext.trans ?_ (by assumption)))) (by kernel_rfl) (by kernel_rfl) (seqB_of (by kernel_rfl)) ?_; (repeat (first | (refine mix_q rfl ?_; go_big_quiet_step (fail); refine wpQuiet_nil ?_; show wpMix _ _ _ _ _ _ _) | (refine mix_s rfl ?_; go_wp2_with ((first | ((with_reducible refine (HTo.out _ (Ext.trans (b := w5) (by assumption) (by repeat (first | (with_reducible exact Ext.refl _) | (with_reducible refine Ext.drewN ?_ _) | (with_reducible refine Ext.drew ?_) | (with_reducible refine Ext.alloc ?_ _) | ((with_reducible refine Ext.setCell ?_ ?_ _); rotate_left; focus (first | (simp; done) | (simp; omega) | omega)) | assumption | (with_reducible refine Ext.trans ?_ (by assumption))))) HS.out).mono ?_); rintro e w6 ⟨a6, c6, b6, d6, rfl, hd6, hy6⟩; have hxw6 : Ext w5 w6 := Ext.trans (by repeat (first | (with_reducible exact Ext.refl _) | (with_reducible refine Ext.drewN ?_ _) | (with_reducible refine Ext.drew ?_) | (with_reducible refine Ext.alloc ?_ _) | ((with_reducible refine Ext.setCell ?_ ?_ _); rotate_left; focus (first | (simp; done) | (simp; omega) | omega)) | assumption | (with_reducible refine Ext.trans ?_ (by assumption)))) hy6; have hz6 := hy6; have Hd6 := Lib.hid hd6; clear hy6 hd6) | ((with_reducible refine (HEq.out _ _ _ _ _ (Hhd4.out.ext (Ext.trans (b := w5) (by assumption) (by repeat (first | (with_reducible exact Ext.refl _) | (with_reducible refine Ext.drewN ?_ _) | (with_reducible refine Ext.drew ?_) | (with_reducible refine Ext.alloc ?_ _) | ((with_reducible refine Ext.setCell ?_ ?_ _); rotate_left; focus (first | (simp; done) | (simp; omega) | omega)) | assumption | (with_reducible refine Ext.trans ?_ (by assumption)))))) (Hd6.out.ext (by repeat (first | (with_reducible exact Ext.refl _) | (with_reducible refine Ext.drewN ?_ _) | (with_reducible refine Ext.drew ?_) | (with_reducible refine Ext.alloc ?_ _) | ((with_reducible refine Ext.setCell ?_ ?_ _); rotate_left; focus (first | (simp; done) | (simp; omega) | omega)) | assumption | (with_reducible refine Ext.trans ?_ (by assumption)))))).mono ?_); rintro e w7 ⟨rfl, hy7⟩; have hxw7 : Ext w5 w7 := Ext.trans (by repeat (first | (with_reducible exact Ext.refl _) | (with_reducible refine Ext.drewN ?_ _) | (with_reducible refine Ext.drew ?_) | (with_reducible refine Ext.alloc ?_ _) | ((with_reducible refine Ext.setCell ?_ ?_ _); rotate_left; focus (first | (simp; done) | (simp; omega) | omega)) | assumption | (with_reducible refine Ext.trans ?_ (by assumption)))) hy7; have hz7 := hy7; clear hy7))); first | refine ⟨up_of (by repeat (first | (with_reducible exact Ext.refl _) | (with_reducible refine Ext.drewN ?_ _) | (with_reducible refine Ext.drew ?_) | (with_reducible refine Ext.alloc ?_ _) | ((with_reducible refine Ext.setCell ?_ ?_ _); rotate_left; focus (first | (simp; done) | (simp; omega) | omega)) | assumption | (with_reducible refine Ext.trans ?_ (by assumption)))), ?_⟩ | refine ⟨rfl, rfl, up_of (by repeat (first | (with_reducible exact Ext.refl _) | (with_reducible refine Ext.drewN ?_ _) | (with_reducible refine Ext.drew ?_) | (with_reducible refine Ext.alloc ?_ _) | ((with_reducible refine Ext.setCell ?_ ?_ _); rotate_left; focus (first | (simp; done) | (simp; omega) | omega)) | assumption | (with_reducible refine Ext.trans ?_ (by assumption)))), ?_⟩))); refine mix_nil ?_)
  all_goals (go_wp2; go_ret; exact ⟨rfl, Ext.trans (b := w5) (by assumption) (by repeat (first | (with_reducible exact Ext.refl _) | (with_reducible refine Ext.drewN ?_ _) | (with_reducible refine Ext.drew ?_) | (with_reducible refine Ext.alloc ?_ _) | ((with_reducible refine Ext.setCell ?_ ?_ _); rotate_left; focus (first | (simp; done) | (simp; omega) | omega)) | assumption | (with_reducible refine Ext.trans ?_ (by assumption))))⟩)
end Go.Proofs.Ytlpbflmgkopklaa
