/- The law on JournalOf: walked. -/
import Derived.Test.YtkiolfmdofldbaaDoorJrS
import Derived.Test.YtkiolfmdofldbaaDoorStrs
namespace Go.Proofs.YtkiolfmdofldbaaDoor
set_option maxRecDepth 100000
open Go.RowKit

theorem leftS_no {n : Nat} (h : ¬ n ≤ 1048576) : leftOf 1048576 n = -1 := by unfold leftOf; rw [if_pos (by omega)]
theorem leftS_yes {n : Nat} (h : n ≤ 1048576) : leftOf 1048576 n = 1048576 - (n : Int) := by unfold leftOf; rw [if_neg (by omega)]
set_option maxHeartbeats 4000000 in
theorem lawJournalOf (a : Option Addr) (n c : Nat) (l : List ByteArray) (w : World) (hv : Strs w a n c l) (hn : n ≤ 9223372036854775807) (hm : ∀ x ∈ l, x.size ≤ 9223372036854775807) (ht : TabW w) :
    Calls Tryd.prog 3 #[.slice a n c] w (Ret (.bool true) w) := by
  have HSz := Lib.hid (szStrs a n c l 1048576 w hv hn hm (by omega) (by omega))
  have HV := Lib.hid hv
  have HT := Lib.hid ht
  by_cases hsz : n + sizeS l ≤ 1048576
  rotate_left
  · rw [leftS_no hsz] at HSz
    clear hv hm ht
    go_enter Tryd.func3, Tryd.ntmps3
    go_wp2_with (refine HSz.out.mono ?_; rintro e w1 ⟨rfl, rfl⟩)
    go_ret
    exact ⟨rfl, Ext.refl _⟩
  rw [leftS_yes hsz] at HSz
  have HX := Lib.hid (fun x (h : x ∈ l) => Nat.le_trans (sizeS_mem h) (by omega : sizeS l ≤ 1048576))
  have hn1 : n ≤ 1048576 := by omega
  have HLl := Lib.hid hv.len
  clear hv hm ht
  have HTo := Lib.hid (fun W (h : Ext w W) => toStrs a n c l W (HV.out.ext h) (by omega))
  have HSp := Lib.hid (fun a' c' W (h : Strs W a' n c' l) => spec_JournalOf a' n c' l W h hn1 HX.out)
  have HIm := Lib.hid (fun a' c' W (h : Strs W a' n c' l) (hx : Ext w W) => impl_JournalOf a' n c' l W h hn1 HX.out (HT.out.ext hx))
  have HEq := Lib.hid (fun a' c' a2 c2 W (h : Strs W a' n c' l) (h2 : Strs W a2 n c2 l) => show Calls Tryd.prog 10 #[.slice a' n c', .slice a2 n c2] W (Ret (.bool true) W) by
    have h3 := eqStrs a' a2 n n c' c2 l l W h h2 (by omega) (by omega)
    rwa [show decide (l = l) = true by simp] at h3)
  obtain ⟨t, ht⟩ : ∃ t, t = jrT l := ⟨_, rfl⟩
  obtain ⟨ok, hok⟩ : ∃ ok, ok = jrOk l := ⟨_, rfl⟩
  rw [← ht, ← hok] at HSp HIm
  clear ht hok
  have hll : (St l).length = n := by rw [St_len, HLl.out]
  have hxw : Ext w w := Ext.refl w
  generalize sizeS l = z at *
  go_enter Tryd.func3, Tryd.ntmps3
  go_wp2_with (refine HSz.out.mono ?_; rintro e w1 ⟨rfl, rfl⟩)
  refine (HTo.out _ (by repeat (first | (with_reducible exact Ext.refl _) | (with_reducible refine Ext.drewN ?_ _) | (with_reducible refine Ext.drew ?_) | (with_reducible refine Ext.alloc ?_ _) | ((with_reducible refine Ext.setCell ?_ ?_ _); rotate_left; focus (first | (simp; done) | (simp; omega) | omega)) | assumption | (with_reducible refine Ext.trans ?_ (by assumption))))).mono ?_
  rintro e w2 ⟨a2, c2, rfl, ho2, hx2⟩
  rw [hll] at ho2 ⊢
  have HS2 := Lib.hid (show Strs w2 a2 n c2 l from ho2.sl)
  clear ho2
  go_wp2_with fail
  refine (HSp.out a2 c2 _ (HS2.out.ext (by repeat (first | (with_reducible exact Ext.refl _) | (with_reducible refine Ext.drewN ?_ _) | (with_reducible refine Ext.drew ?_) | (with_reducible refine Ext.alloc ?_ _) | ((with_reducible refine Ext.setCell ?_ ?_ _); rotate_left; focus (first | (simp; done) | (simp; omega) | omega)) | assumption | (with_reducible refine Ext.trans ?_ (by assumption)))))).mono ?_
  rintro e w3 ⟨rfl, hy3⟩
  have hx3 : Ext w w3 := hx2.trans (Ext.trans (by repeat (first | (with_reducible exact Ext.refl _) | (with_reducible refine Ext.drewN ?_ _) | (with_reducible refine Ext.drew ?_) | (with_reducible refine Ext.alloc ?_ _) | ((with_reducible refine Ext.setCell ?_ ?_ _); rotate_left; focus (first | (simp; done) | (simp; omega) | omega)) | assumption | (with_reducible refine Ext.trans ?_ (by assumption)))) hy3)
  go_wp2_with fail
  refine (HTo.out _ (hx3.trans (by repeat (first | (with_reducible exact Ext.refl _) | (with_reducible refine Ext.drewN ?_ _) | (with_reducible refine Ext.drew ?_) | (with_reducible refine Ext.alloc ?_ _) | ((with_reducible refine Ext.setCell ?_ ?_ _); rotate_left; focus (first | (simp; done) | (simp; omega) | omega)) | assumption | (with_reducible refine Ext.trans ?_ (by assumption)))))).mono ?_
  rintro e w4 ⟨a4, c4, rfl, ho4, hy4⟩
  rw [hll] at ho4 ⊢
  have hx4 : Ext w w4 := hx3.trans (Ext.trans (by repeat (first | (with_reducible exact Ext.refl _) | (with_reducible refine Ext.drewN ?_ _) | (with_reducible refine Ext.drew ?_) | (with_reducible refine Ext.alloc ?_ _) | ((with_reducible refine Ext.setCell ?_ ?_ _); rotate_left; focus (first | (simp; done) | (simp; omega) | omega)) | assumption | (with_reducible refine Ext.trans ?_ (by assumption)))) hy4)
  have HS4 := Lib.hid (show Strs w4 a4 n c4 l from ho4.sl)
  clear ho4 hy4 hy3
  go_wp2_with fail
  refine (HIm.out a4 c4 _ (HS4.out.ext (by repeat (first | (with_reducible exact Ext.refl _) | (with_reducible refine Ext.drewN ?_ _) | (with_reducible refine Ext.drew ?_) | (with_reducible refine Ext.alloc ?_ _) | ((with_reducible refine Ext.setCell ?_ ?_ _); rotate_left; focus (first | (simp; done) | (simp; omega) | omega)) | assumption | (with_reducible refine Ext.trans ?_ (by assumption))))) (hx4.trans (by repeat (first | (with_reducible exact Ext.refl _) | (with_reducible refine Ext.drewN ?_ _) | (with_reducible refine Ext.drew ?_) | (with_reducible refine Ext.alloc ?_ _) | ((with_reducible refine Ext.setCell ?_ ?_ _); rotate_left; focus (first | (simp; done) | (simp; omega) | omega)) | assumption | (with_reducible refine Ext.trans ?_ (by assumption)))))).mono ?_
  rintro e w5 ⟨rfl, hy5⟩
  have hx45 : Ext w4 w5 := Ext.trans (by repeat (first | (with_reducible exact Ext.refl _) | (with_reducible refine Ext.drewN ?_ _) | (with_reducible refine Ext.drew ?_) | (with_reducible refine Ext.alloc ?_ _) | ((with_reducible refine Ext.setCell ?_ ?_ _); rotate_left; focus (first | (simp; done) | (simp; omega) | omega)) | assumption | (with_reducible refine Ext.trans ?_ (by assumption)))) hy5
  have hx5 : Ext w w5 := hx4.trans hx45
  have HS5 := Lib.hid (HS4.out.ext hx45)
  clear hy5
  go_wp2_with fail
  refine (HTo.out _ (hx5.trans (by repeat (first | (with_reducible exact Ext.refl _) | (with_reducible refine Ext.drewN ?_ _) | (with_reducible refine Ext.drew ?_) | (with_reducible refine Ext.alloc ?_ _) | ((with_reducible refine Ext.setCell ?_ ?_ _); rotate_left; focus (first | (simp; done) | (simp; omega) | omega)) | assumption | (with_reducible refine Ext.trans ?_ (by assumption)))))).mono ?_
  rintro e w6 ⟨a6, c6, rfl, ho6, hy6⟩
  rw [hll] at ho6 ⊢
  have hx56 : Ext w5 w6 := Ext.trans (by repeat (first | (with_reducible exact Ext.refl _) | (with_reducible refine Ext.drewN ?_ _) | (with_reducible refine Ext.drew ?_) | (with_reducible refine Ext.alloc ?_ _) | ((with_reducible refine Ext.setCell ?_ ?_ _); rotate_left; focus (first | (simp; done) | (simp; omega) | omega)) | assumption | (with_reducible refine Ext.trans ?_ (by assumption)))) hy6
  have hx6 : Ext w w6 := hx5.trans hx56
  have HS6 := Lib.hid (show Strs w6 a6 n c6 l from ho6.sl)
  clear ho6 hy6
  go_wp2_with (refine (HEq.out a4 c4 a6 c6 _ (HS5.out.ext (hx56.trans (by repeat (first | (with_reducible exact Ext.refl _) | (with_reducible refine Ext.drewN ?_ _) | (with_reducible refine Ext.drew ?_) | (with_reducible refine Ext.alloc ?_ _) | ((with_reducible refine Ext.setCell ?_ ?_ _); rotate_left; focus (first | (simp; done) | (simp; omega) | omega)) | assumption | (with_reducible refine Ext.trans ?_ (by assumption)))))) (HS6.out.ext (by repeat (first | (with_reducible exact Ext.refl _) | (with_reducible refine Ext.drewN ?_ _) | (with_reducible refine Ext.drew ?_) | (with_reducible refine Ext.alloc ?_ _) | ((with_reducible refine Ext.setCell ?_ ?_ _); rotate_left; focus (first | (simp; done) | (simp; omega) | omega)) | assumption | (with_reducible refine Ext.trans ?_ (by assumption)))))).mono ?_; rintro e w7 ⟨rfl, hx7⟩)
  go_ret
  exact ⟨rfl, hx6.trans (Ext.trans (by repeat (first | (with_reducible exact Ext.refl _) | (with_reducible refine Ext.drewN ?_ _) | (with_reducible refine Ext.drew ?_) | (with_reducible refine Ext.alloc ?_ _) | ((with_reducible refine Ext.setCell ?_ ?_ _); rotate_left; focus (first | (simp; done) | (simp; omega) | omega)) | assumption | (with_reducible refine Ext.trans ?_ (by assumption)))) hx7)⟩
end Go.Proofs.YtkiolfmdofldbaaDoor
