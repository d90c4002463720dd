/- The law on RecoverJournal: walked. -/
import Derived.Test.YtkiolfmdofldbaaDoorRcS
import Derived.Test.YtkiolfmdofldbaaDoorLTs
namespace Go.Proofs.YtkiolfmdofldbaaDoor
set_option maxRecDepth 100000
open Go.RowKit

theorem rcL_len (s : ByteArray) : (rcL s).length ≤ s.size := by
  unfold rcL
  split
  · rw [recLines_len]
    have h1 := (partsB_len 10 s).2
    have h2 : rcK s ≤ (partsB 10 s).length - 1 := by
      unfold rcK recN
      have := (List.takeWhile_sublist (recOk (partsB 10 s)) (l := List.range ((partsB 10 s).length - 1))).length_le
      simpa using this
    omega
  · simp
set_option maxHeartbeats 4000000 in
theorem lawRecoverJournal (s : ByteArray) (w : World) (hz : s.size ≤ 9223372036854775807) (ht : TabW w) :
    Calls Tryd.prog 4 #[.string s] w (Ret (.bool true) w) := by
  have HT := Lib.hid ht
  clear ht
  by_cases hz1 : s.size ≤ 1048576
  rotate_left
  · go_enter Tryd.func4, Tryd.ntmps4
    go_wp2_with fail
    go_ret
    exact ⟨rfl, Ext.refl _⟩
  have HSp := Lib.hid (fun W => spec_RecoverJournal s W hz1)
  have HIm := Lib.hid (fun W (h : Ext w W) => impl_RecoverJournal s W hz1 (HT.out.ext h))
  have htn := rcL_len s
  unfold RetRcS at HSp
  unfold RetRcO at HIm
  obtain ⟨ts, hts⟩ : ∃ ts, ts = rcL s := ⟨_, rfl⟩
  obtain ⟨nn, hnn⟩ : ∃ nn, nn = rcN s := ⟨_, rfl⟩
  obtain ⟨ok, hok⟩ : ∃ ok, ok = rcOk s := ⟨_, rfl⟩
  rw [← hts, ← hnn, ← hok] at HSp HIm
  rw [← hts] at htn
  have htn2 : ts.length ≤ 1048576 := by omega
  clear hts hnn hok htn
  have hxw : Ext w w := Ext.refl w
  go_enter Tryd.func4, Tryd.ntmps4
  go_wp2_with fail
  refine (HSp.out _).mono ?_
  rintro e w3 ⟨a3, c3, rfl, hs3, hy3⟩
  have hx3 : Ext w w3 := Ext.trans (by repeat (first | (with_reducible exact Ext.refl _) | (with_reducible refine Ext.drewN ?_ _) | (with_reducible refine Ext.drew ?_) | (with_reducible refine Ext.alloc ?_ _) | ((with_reducible refine Ext.setCell ?_ ?_ _); rotate_left; focus (first | (simp; done) | (simp; omega) | omega)) | assumption | (with_reducible refine Ext.trans ?_ (by assumption)))) hy3
  have HL3 := Lib.hid hs3
  clear hs3 hy3
  go_wp2_with fail
  refine (HIm.out _ (hx3.trans (by repeat (first | (with_reducible exact Ext.refl _) | (with_reducible refine Ext.drewN ?_ _) | (with_reducible refine Ext.drew ?_) | (with_reducible refine Ext.alloc ?_ _) | ((with_reducible refine Ext.setCell ?_ ?_ _); rotate_left; focus (first | (simp; done) | (simp; omega) | omega)) | assumption | (with_reducible refine Ext.trans ?_ (by assumption)))))).mono ?_
  rintro e w5 ⟨a5, c5, rfl, ho5, hy5⟩
  have hx5 : Ext w3 w5 := Ext.trans (by repeat (first | (with_reducible exact Ext.refl _) | (with_reducible refine Ext.drewN ?_ _) | (with_reducible refine Ext.drew ?_) | (with_reducible refine Ext.alloc ?_ _) | ((with_reducible refine Ext.setCell ?_ ?_ _); rotate_left; focus (first | (simp; done) | (simp; omega) | omega)) | assumption | (with_reducible refine Ext.trans ?_ (by assumption)))) hy5
  have hxb5 : Ext w w5 := hx3.trans hx5
  have HO5 := Lib.hid (show OwnIn w5 w3.heap.size w5.heap.size 9 a5 ts.length c5 (St ts) from (ho5.mono (Ext.le (by repeat (first | (with_reducible exact Ext.refl _) | (with_reducible refine Ext.drewN ?_ _) | (with_reducible refine Ext.drew ?_) | (with_reducible refine Ext.alloc ?_ _) | ((with_reducible refine Ext.setCell ?_ ?_ _); rotate_left; focus (first | (simp; done) | (simp; omega) | omega)) | assumption | (with_reducible refine Ext.trans ?_ (by assumption)))))).in)
  have HLg5 := Lib.hid (show Strs w5 a5 ts.length c5 ts from ho5.sl)
  have HL5 := Lib.hid (Strs.ext HL3.out hx5)
  clear ho5 hy5
  go_wp2_with (go_at_call 10; (with_reducible refine (eqTsT a5 a3 ts.length c5 c3 ts _ (Strs.ext HLg5.out (by repeat (first | (with_reducible exact Ext.refl _) | (with_reducible assumption) | (with_reducible refine Ext.drewN ?_ _) | (with_reducible refine Ext.drew ?_) | (with_reducible refine Ext.alloc ?_ _) | ((with_reducible refine Ext.setCell ?_ ?_ _); rotate_left; focus (first | (simp; done) | (simp; omega) | omega)) | (with_reducible refine Ext.trans ?_ (by with_reducible assumption))))) (Strs.ext HL5.out (by repeat (first | (with_reducible exact Ext.refl _) | (with_reducible assumption) | (with_reducible refine Ext.drewN ?_ _) | (with_reducible refine Ext.drew ?_) | (with_reducible refine Ext.alloc ?_ _) | ((with_reducible refine Ext.setCell ?_ ?_ _); rotate_left; focus (first | (simp; done) | (simp; omega) | omega)) | (with_reducible refine Ext.trans ?_ (by with_reducible assumption))))) (by omega)).mono ?_); rintro e w6 ⟨rfl, hys⟩; have hx6 : Ext w5 w6 := Ext.trans (by repeat (first | (with_reducible exact Ext.refl _) | (with_reducible assumption) | (with_reducible refine Ext.drewN ?_ _) | (with_reducible refine Ext.drew ?_) | (with_reducible refine Ext.alloc ?_ _) | ((with_reducible refine Ext.setCell ?_ ?_ _); rotate_left; focus (first | (simp; done) | (simp; omega) | omega)) | (with_reducible refine Ext.trans ?_ (by with_reducible assumption)))) hys; clear hys)
  have hl6 : w5.heap.size ≤ w6.heap.size := hx6.le
  have hl35 : w3.heap.size ≤ w5.heap.size := hx5.le
  refine (markTs1 a5 ts.length c5 (St ts) w3.heap.size w5.heap.size _ (HO5.out.ext (hx6.trans (by repeat (first | (with_reducible exact Ext.refl _) | (with_reducible assumption) | (with_reducible refine Ext.drewN ?_ _) | (with_reducible refine Ext.drew ?_) | (with_reducible refine Ext.alloc ?_ _) | ((with_reducible refine Ext.setCell ?_ ?_ _); rotate_left; focus (first | (simp; done) | (simp; omega) | omega)) | (with_reducible refine Ext.trans ?_ (by with_reducible assumption)))))) (by first | omega | (simp; omega)) (by omega)).mono ?_
  rintro e w11 ⟨rfl, hc11, ho11⟩
  have hc11 : Chg w3.heap.size w5.heap.size w5 w11 := (Chg.ext (hx6.trans (by repeat (first | (with_reducible exact Ext.refl _) | (with_reducible assumption) | (with_reducible refine Ext.drewN ?_ _) | (with_reducible refine Ext.drew ?_) | (with_reducible refine Ext.alloc ?_ _) | ((with_reducible refine Ext.setCell ?_ ?_ _); rotate_left; focus (first | (simp; done) | (simp; omega) | omega)) | (with_reducible refine Ext.trans ?_ (by with_reducible assumption))))) _ _).trans hc11
  have hx311 : Ext w3 w11 := hc11.to hx5 (Nat.le_refl _)
  have hxb11 : Ext w w11 := hx3.trans hx311
  have HL11 := Lib.hid (Strs.ext HL3.out hx311)
  have HHd := Lib.hid (fun W (h : Ext w11 W) => heldTs1 a5 ts.length c5 W (Strs.ext (show Strs w11 a5 ts.length c5 (markTs 1 ts.length) from ho11.1.sl) h) (by omega))
  clear hc11 ho11
  go_wp2_with (go_at_call 14; (with_reducible refine (HHd.out _ (by repeat (first | (with_reducible exact Ext.refl _) | (with_reducible assumption) | (with_reducible refine Ext.drewN ?_ _) | (with_reducible refine Ext.drew ?_) | (with_reducible refine Ext.alloc ?_ _) | ((with_reducible refine Ext.setCell ?_ ?_ _); rotate_left; focus (first | (simp; done) | (simp; omega) | omega)) | (with_reducible refine Ext.trans ?_ (by with_reducible assumption))))).mono ?_); rintro e w12 ⟨rfl, hyh⟩; have hx12 : Ext w11 w12 := Ext.trans (by repeat (first | (with_reducible exact Ext.refl _) | (with_reducible assumption) | (with_reducible refine Ext.drewN ?_ _) | (with_reducible refine Ext.drew ?_) | (with_reducible refine Ext.alloc ?_ _) | ((with_reducible refine Ext.setCell ?_ ?_ _); rotate_left; focus (first | (simp; done) | (simp; omega) | omega)) | (with_reducible refine Ext.trans ?_ (by with_reducible assumption)))) hyh; clear hyh)
  refine (HIm.out _ (hxb11.trans (hx12.trans (by repeat (first | (with_reducible exact Ext.refl _) | (with_reducible refine Ext.drewN ?_ _) | (with_reducible refine Ext.drew ?_) | (with_reducible refine Ext.alloc ?_ _) | ((with_reducible refine Ext.setCell ?_ ?_ _); rotate_left; focus (first | (simp; done) | (simp; omega) | omega)) | assumption | (with_reducible refine Ext.trans ?_ (by assumption))))))).mono ?_
  rintro e w14 ⟨a14, c14, rfl, ho14, hy14⟩
  have hx14 : Ext w11 w14 := hx12.trans (Ext.trans (by repeat (first | (with_reducible exact Ext.refl _) | (with_reducible refine Ext.drewN ?_ _) | (with_reducible refine Ext.drew ?_) | (with_reducible refine Ext.alloc ?_ _) | ((with_reducible refine Ext.setCell ?_ ?_ _); rotate_left; focus (first | (simp; done) | (simp; omega) | omega)) | assumption | (with_reducible refine Ext.trans ?_ (by assumption)))) hy14)
  have HLg14 := Lib.hid (show Strs w14 a14 ts.length c14 ts from ho14.sl)
  have HL14 := Lib.hid (Strs.ext HL11.out hx14)
  clear ho14 hy14
  go_wp2_with (first | (go_at_call 10; (with_reducible refine (eqTsT a14 a3 ts.length c14 c3 ts _ (Strs.ext HLg14.out (by repeat (first | (with_reducible exact Ext.refl _) | (with_reducible assumption) | (with_reducible refine Ext.drewN ?_ _) | (with_reducible refine Ext.drew ?_) | (with_reducible refine Ext.alloc ?_ _) | ((with_reducible refine Ext.setCell ?_ ?_ _); rotate_left; focus (first | (simp; done) | (simp; omega) | omega)) | (with_reducible refine Ext.trans ?_ (by with_reducible assumption))))) (Strs.ext HL14.out (by repeat (first | (with_reducible exact Ext.refl _) | (with_reducible assumption) | (with_reducible refine Ext.drewN ?_ _) | (with_reducible refine Ext.drew ?_) | (with_reducible refine Ext.alloc ?_ _) | ((with_reducible refine Ext.setCell ?_ ?_ _); rotate_left; focus (first | (simp; done) | (simp; omega) | omega)) | (with_reducible refine Ext.trans ?_ (by with_reducible assumption))))) (by omega)).mono ?_); rintro e w15 ⟨rfl, hys⟩; have hx15 : Ext w14 w15 := Ext.trans (by repeat (first | (with_reducible exact Ext.refl _) | (with_reducible assumption) | (with_reducible refine Ext.drewN ?_ _) | (with_reducible refine Ext.drew ?_) | (with_reducible refine Ext.alloc ?_ _) | ((with_reducible refine Ext.setCell ?_ ?_ _); rotate_left; focus (first | (simp; done) | (simp; omega) | omega)) | (with_reducible refine Ext.trans ?_ (by with_reducible assumption)))) hys; have hxy15 : Ext w11 w15 := hx14.trans hx15; clear hys) | (go_at_call 14; (with_reducible refine (HHd.out _ (by repeat (first | (with_reducible exact Ext.refl _) | (with_reducible assumption) | (with_reducible refine Ext.drewN ?_ _) | (with_reducible refine Ext.drew ?_) | (with_reducible refine Ext.alloc ?_ _) | ((with_reducible refine Ext.setCell ?_ ?_ _); rotate_left; focus (first | (simp; done) | (simp; omega) | omega)) | (with_reducible refine Ext.trans ?_ (by with_reducible assumption))))).mono ?_); rintro e w16 ⟨rfl, hyh⟩; have hx16 : Ext w11 w16 := Ext.trans (by repeat (first | (with_reducible exact Ext.refl _) | (with_reducible assumption) | (with_reducible refine Ext.drewN ?_ _) | (with_reducible refine Ext.drew ?_) | (with_reducible refine Ext.alloc ?_ _) | ((with_reducible refine Ext.setCell ?_ ?_ _); rotate_left; focus (first | (simp; done) | (simp; omega) | omega)) | (with_reducible refine Ext.trans ?_ (by with_reducible assumption)))) hyh; clear hyh))
  go_ret
  exact ⟨rfl, hxb11.trans (by repeat (first | (with_reducible exact Ext.refl _) | (with_reducible assumption) | (with_reducible refine Ext.drewN ?_ _) | (with_reducible refine Ext.drew ?_) | (with_reducible refine Ext.alloc ?_ _) | ((with_reducible refine Ext.setCell ?_ ?_ _); rotate_left; focus (first | (simp; done) | (simp; omega) | omega)) | (with_reducible refine Ext.trans ?_ (by with_reducible assumption))))⟩
end Go.Proofs.YtkiolfmdofldbaaDoor
