/- Walks: MeasurePattern, MeasureEdges. -/
import Derived.Test.YtnmkckghfckgbaaMeas
namespace Go.Proofs.Ytnmkckghfckgbaa
set_option maxRecDepth 100000
open Go.RowKit

theorem widths1 (x : Int) (w : World) : Calls Try.prog 126 #[.int .i64 x] w (Ret (.bool (!inB x 1 100000)) w) := by
  go_enter Try.func126, Try.ntmps126
  go_wp2_with (go_at_call 87; refine (impl_in _ _ _ _).mono ?_; rintro e w' ⟨rfl, rfl⟩)
  go_ret
  exact ⟨rfl, Ext.refl _⟩
theorem any_not_all (l : List Int) (p : Int → Bool) : (!(l.any fun x => !p x)) = l.all p := by
  simp [List.all_eq_not_any_not]
set_option maxHeartbeats 1000000 in
theorem impl_widthsOk (D : Bc) (p : Nat) (a b : Option Addr) (n c m d : Nat) (ws : List Int) (w : World) (hv : BcAt w p D a n c) (hw : Ints w b m d ws) (hn : 1 ≤ n) (hm : m ≤ 4611686018427387904) :
    Calls Try.prog 100 #[.pointer (some ⟨p, 0, none⟩), .slice b m d] w (Ret (.bool (widthsB D ws)) w) := by
  have HWl := Lib.hid hw.len
  obtain ⟨c0, c1, c2, c3, hps⟩ := hv
  obtain ⟨pb, off, hix, hcell⟩ := hps.ix (P := Try.prog) 22 9 und_strings cell_string
  have HC := Lib.hid (containsFunc_ints b m d ws 126 #[] (fun x => !inB x 1 100000) (ofI fun x => !inB x 1 100000) w hw hm (fun x => rfl)
      ⟨fun _ _ => rfl, fun v hvl w' _ => by obtain ⟨x, _, rfl⟩ := mem_I hvl; exact widths1 x w'⟩)
  have HA := Lib.hid (any_not_all ws fun x => inB x 1 100000)
  have hz : 0 < n := by omega
  have hcell0 : ∀ w', Ext w w' → w'.cell? ⟨pb, off, none⟩ = some (.string (gs D.pats 0)) := fun w' h => hcell 0 w' (by omega) h
  have Hhps := Lib.hid hps; clear hps; have Hhw := Lib.hid hw; clear hw
  by_cases he : m = (gs D.pats 0).size
  · have hb : ((m : Int) == (gs D.pats 0).size) = true := by simp; omega
    have Hhe := Lib.hid he; clear he
    go_enter Try.func100, Try.ntmps100
    go_wp2_with (refine HC.out.mono ?_; rintro e w1 ⟨rfl, hx⟩)
    go_ret
    exact ⟨rb (by rw [widthsB, HWl.out, ← HA.out]; simp [Hhe.out]), (by repeat (first | (with_reducible exact Ext.refl _) | (with_reducible refine Ext.drewN ?_ _) | (with_reducible refine Ext.drew ?_) | (with_reducible refine Ext.alloc ?_ _) | ((with_reducible refine Ext.setCell ?_ ?_ _); rotate_left; focus (first | (simp; done) | (simp; omega) | omega)) | assumption | (with_reducible refine Ext.trans ?_ (by assumption))))⟩
  · have hb : ((m : Int) == (gs D.pats 0).size) = false := by simp; omega
    go_enter Try.func100, Try.ntmps100
    go_wp2
    go_ret
    exact ⟨rb (by rw [widthsB, HWl.out]; simp; intro h; omega), (by repeat (first | (with_reducible exact Ext.refl _) | (with_reducible refine Ext.drewN ?_ _) | (with_reducible refine Ext.drew ?_) | (with_reducible refine Ext.alloc ?_ _) | ((with_reducible refine Ext.setCell ?_ ?_ _); rotate_left; focus (first | (simp; done) | (simp; omega) | omega)) | assumption | (with_reducible refine Ext.trans ?_ (by assumption))))⟩
def measOkB (D : Bc) (ws : List Int) (of : List Int → List Int) : Bool := validBc D && (widthsB D ws && (measS D ws of).2.2 == 1)
def measRes (D : Bc) (ws : List Int) (of : List Int → List Int) : Int := if measOkB D ws of then (measS D ws of).1 else 0
theorem meas_no1 {D : Bc} {ws : List Int} {of : List Int → List Int} (h : validBc D = false) : measOkB D ws of = false ∧ measRes D ws of = 0 := by simp [measRes, measOkB, h]
theorem meas_no2 {D : Bc} {ws : List Int} {of : List Int → List Int} (h : widthsB D ws = false) : measOkB D ws of = false ∧ measRes D ws of = 0 := by simp [measRes, measOkB, h]
theorem meas_no3 {D : Bc} {ws : List Int} {of : List Int → List Int} (h : ((measS D ws of).2.2 == 1) = false) : measOkB D ws of = false ∧ measRes D ws of = 0 := by
  have e : measOkB D ws of = false := by rw [measOkB, h]; simp
  exact ⟨e, by rw [measRes, e]; rfl⟩
theorem meas_yes {D : Bc} {ws : List Int} {of : List Int → List Int} (h : validBc D = true) (h2 : widthsB D ws = true) (h3 : ((measS D ws of).2.2 == 1) = true) : measOkB D ws of = true ∧ measRes D ws of = (measS D ws of).1 := by
  have e : measOkB D ws of = true := by rw [measOkB, h, h2, h3]; rfl
  exact ⟨e, by rw [measRes, e]; rfl⟩
theorem ret2_mk {x y : Int} {a b : Bool} {w w' : World} (h1 : x = y) (h2 : a = b) (hx : Ext w w') : Ret2 (.int .i64 x) (.bool a) w (.returned (.tuple #[.int .i64 y, .bool b])) w' := by
  subst h1; subst h2; exact ⟨rfl, hx⟩

set_option maxHeartbeats 1000000 in
theorem impl_measured_id (D : Bc) (a b : Option Addr) (n c m d : Nat) (ws : List Int) (w : World) (hv : Strs w a n c D.pats) (hn : n ≤ 1048576) (hs : D.start.size ≤ 1048576) (ht : D.stop.size ≤ 1048576) (hp : ∀ p ∈ D.pats, p.size ≤ 1048576) (hw : Ints w b m d ws) (hm : m ≤ 1048576) :
    Calls Try.prog 57 #[.agg #[.string D.start, .string D.stop, .slice a n c, .int .i64 D.gap], .slice b m d, .func (.func 58) #[] #[]] w (Ret2 (.int .i64 (measRes D ws idL)) (.bool (measOkB D ws idL)) w) := by
  have HL := Lib.hid hv.len
  have HWl := Lib.hid hw.len
  have HW := Lib.hid hw
  have HB := Lib.hid (bc_box w D a n c 28 hv)
  have HVB := Lib.hid (fun W h => impl_ValidBarcode D a n c W h hn hs ht hp)
  clear hv hw
  cases hval : validBc D
  · rw [hval] at HVB
    have HO := Lib.hid (meas_no1 (ws := ws) (of := idL) hval)
    clear hval
    go_enter Try.func57, Try.ntmps57
    go_wp2_with (go_at_call 45; refine (HVB.out _ HB.out.ps).mono ?_; rintro e w1 ⟨rfl, hx⟩)
    go_ret2
    exact ret2_mk HO.out.2 HO.out.1 (by repeat (first | (with_reducible exact Ext.refl _) | (with_reducible refine Ext.drewN ?_ _) | (with_reducible refine Ext.drew ?_) | (with_reducible refine Ext.alloc ?_ _) | ((with_reducible refine Ext.setCell ?_ ?_ _); rotate_left; focus (first | (simp; done) | (simp; omega) | omega)) | assumption | (with_reducible refine Ext.trans ?_ (by assumption))))
  rw [hval] at HVB
  have hok := validBc_ok hval
  have hn1 := hok.n1
  rw [HL.out] at hn1
  have HWo := Lib.hid (fun W h h' => impl_widthsOk D w.heap.size a b n c m d ws W h h' hn1 (by omega))
  cases hwb : widthsB D ws
  · rw [hwb] at HWo
    have HO := Lib.hid (meas_no2 (D := D) (of := idL) hwb)
    clear hval hwb hok
    go_enter Try.func57, Try.ntmps57
    go_wp2_with (first | (go_at_call 45; refine (HVB.out _ HB.out.ps).mono ?_; rintro e w1 ⟨rfl, hx⟩) | ((with_reducible refine (HWo.out _ (HB.out.ext hx) (HW.out.ext (by repeat (first | (with_reducible exact Ext.refl _) | (with_reducible refine Ext.drewN ?_ _) | (with_reducible refine Ext.drew ?_) | (with_reducible refine Ext.alloc ?_ _) | ((with_reducible refine Ext.setCell ?_ ?_ _); rotate_left; focus (first | (simp; done) | (simp; omega) | omega)) | assumption | (with_reducible refine Ext.trans ?_ (by assumption)))))).mono ?_); rintro e w2 ⟨rfl, hx2⟩))
    go_ret2
    exact ret2_mk HO.out.2 HO.out.1 (by repeat (first | (with_reducible exact Ext.refl _) | (with_reducible refine Ext.drewN ?_ _) | (with_reducible refine Ext.drew ?_) | (with_reducible refine Ext.alloc ?_ _) | ((with_reducible refine Ext.setCell ?_ ?_ _); rotate_left; focus (first | (simp; done) | (simp; omega) | omega)) | assumption | (with_reducible refine Ext.trans ?_ (by assumption))))
  rw [hwb] at HWo
  have hwt := widthsB_t hwb
  have HM := Lib.hid (fun W h h' => impl_measure_id D w.heap.size a b n c m d ws W h h' (measOk hok HL.out HWl.out hwt.1 hwt.2))
  have HY := Lib.hid (fun h => meas_yes (of := idL) hval hwb h)
  have HN := Lib.hid (fun h => meas_no3 (D := D) (ws := ws) (of := idL) h)
  clear hval hwb hok hwt
  generalize measS D ws idL = ms at *
  obtain ⟨ms1, ms2, ms3⟩ := ms
  simp only at HM HY HN
  go_enter Try.func57, Try.ntmps57
  go_wp2_with (first | (go_at_call 45; refine (HVB.out _ HB.out.ps).mono ?_; rintro e w1 ⟨rfl, hx⟩) | ((with_reducible refine (HWo.out _ (HB.out.ext hx) (HW.out.ext (by repeat (first | (with_reducible exact Ext.refl _) | (with_reducible refine Ext.drewN ?_ _) | (with_reducible refine Ext.drew ?_) | (with_reducible refine Ext.alloc ?_ _) | ((with_reducible refine Ext.setCell ?_ ?_ _); rotate_left; focus (first | (simp; done) | (simp; omega) | omega)) | assumption | (with_reducible refine Ext.trans ?_ (by assumption)))))).mono ?_); rintro e w2 ⟨rfl, hx2⟩) | ((with_reducible refine (HM.out _ ((HB.out.ext hx).ext hx2) (HW.out.ext (by repeat (first | (with_reducible exact Ext.refl _) | (with_reducible refine Ext.drewN ?_ _) | (with_reducible refine Ext.drew ?_) | (with_reducible refine Ext.alloc ?_ _) | ((with_reducible refine Ext.setCell ?_ ?_ _); rotate_left; focus (first | (simp; done) | (simp; omega) | omega)) | assumption | (with_reducible refine Ext.trans ?_ (by assumption)))))).mono ?_); rintro e w3 ⟨rfl, hx3⟩))
  · have h := HN.out (by simpa using ‹(!(ms3 == 1)) = true›)
    go_ret2
    exact ret2_mk h.2 h.1 (by repeat (first | (with_reducible exact Ext.refl _) | (with_reducible refine Ext.drewN ?_ _) | (with_reducible refine Ext.drew ?_) | (with_reducible refine Ext.alloc ?_ _) | ((with_reducible refine Ext.setCell ?_ ?_ _); rotate_left; focus (first | (simp; done) | (simp; omega) | omega)) | assumption | (with_reducible refine Ext.trans ?_ (by assumption))))
  · have h := HY.out (by simpa using ‹(!(ms3 == 1)) = false›)
    go_ret2
    exact ret2_mk h.2 h.1 (by repeat (first | (with_reducible exact Ext.refl _) | (with_reducible refine Ext.drewN ?_ _) | (with_reducible refine Ext.drew ?_) | (with_reducible refine Ext.alloc ?_ _) | ((with_reducible refine Ext.setCell ?_ ?_ _); rotate_left; focus (first | (simp; done) | (simp; omega) | omega)) | assumption | (with_reducible refine Ext.trans ?_ (by assumption))))
set_option maxHeartbeats 1000000 in
theorem impl_MeasurePattern (D : Bc) (a : Option Addr) (n c : Nat) (b : Option Addr) (m d : Nat) (ws : List Int) (w : World) (hv : Strs w a n c D.pats) (hn : n ≤ 1048576) (hs : D.start.size ≤ 1048576) (ht : D.stop.size ≤ 1048576) (hp : ∀ p ∈ D.pats, p.size ≤ 1048576) (hw : Ints w b m d ws) (hm : m ≤ 1048576) :
    Calls Try.prog 23 #[.agg #[.string D.start, .string D.stop, .slice a n c, .int .i64 D.gap], .slice b m d] w (Ret2 (.int .i64 (measRes D ws idL)) (.bool (measOkB D ws idL)) w) := by
  have HB := Lib.hid (bc_box w D a n c 28 hv)
  have H := Lib.hid (fun W h h' => impl_measured_id D a b n c m d ws W h hn hs ht hp h' hm)
  have Hhv := Lib.hid hv; clear hv; have Hhw := Lib.hid hw; clear hw
  go_enter Try.func23, Try.ntmps23
  go_wp2_with (refine (H.out _ HB.out.ps (Hhw.out.ext (by repeat (first | (with_reducible exact Ext.refl _) | (with_reducible refine Ext.drewN ?_ _) | (with_reducible refine Ext.drew ?_) | (with_reducible refine Ext.alloc ?_ _) | ((with_reducible refine Ext.setCell ?_ ?_ _); rotate_left; focus (first | (simp; done) | (simp; omega) | omega)) | assumption | (with_reducible refine Ext.trans ?_ (by assumption)))))).mono ?_; rintro e w1 ⟨rfl, hx⟩)
  go_ret2
  exact ⟨rfl, (by repeat (first | (with_reducible exact Ext.refl _) | (with_reducible refine Ext.drewN ?_ _) | (with_reducible refine Ext.drew ?_) | (with_reducible refine Ext.alloc ?_ _) | ((with_reducible refine Ext.setCell ?_ ?_ _); rotate_left; focus (first | (simp; done) | (simp; omega) | omega)) | assumption | (with_reducible refine Ext.trans ?_ (by assumption))))⟩
set_option maxHeartbeats 1000000 in
theorem impl_measured_ed (D : Bc) (a b : Option Addr) (n c m d : Nat) (ws : List Int) (w : World) (hv : Strs w a n c D.pats) (hn : n ≤ 1048576) (hs : D.start.size ≤ 1048576) (ht : D.stop.size ≤ 1048576) (hp : ∀ p ∈ D.pats, p.size ≤ 1048576) (hw : Ints w b m d ws) (hm : m ≤ 1048576) :
    Calls Try.prog 57 #[.agg #[.string D.start, .string D.stop, .slice a n c, .int .i64 D.gap], .slice b m d, .func (.func 63) #[] #[]] w (Ret2 (.int .i64 (measRes D ws edgesL)) (.bool (measOkB D ws edgesL)) w) := by
  have HL := Lib.hid hv.len
  have HWl := Lib.hid hw.len
  have HW := Lib.hid hw
  have HB := Lib.hid (bc_box w D a n c 28 hv)
  have HVB := Lib.hid (fun W h => impl_ValidBarcode D a n c W h hn hs ht hp)
  clear hv hw
  cases hval : validBc D
  · rw [hval] at HVB
    have HO := Lib.hid (meas_no1 (ws := ws) (of := edgesL) hval)
    clear hval
    go_enter Try.func57, Try.ntmps57
    go_wp2_with (go_at_call 45; refine (HVB.out _ HB.out.ps).mono ?_; rintro e w1 ⟨rfl, hx⟩)
    go_ret2
    exact ret2_mk HO.out.2 HO.out.1 (by repeat (first | (with_reducible exact Ext.refl _) | (with_reducible refine Ext.drewN ?_ _) | (with_reducible refine Ext.drew ?_) | (with_reducible refine Ext.alloc ?_ _) | ((with_reducible refine Ext.setCell ?_ ?_ _); rotate_left; focus (first | (simp; done) | (simp; omega) | omega)) | assumption | (with_reducible refine Ext.trans ?_ (by assumption))))
  rw [hval] at HVB
  have hok := validBc_ok hval
  have hn1 := hok.n1
  rw [HL.out] at hn1
  have HWo := Lib.hid (fun W h h' => impl_widthsOk D w.heap.size a b n c m d ws W h h' hn1 (by omega))
  cases hwb : widthsB D ws
  · rw [hwb] at HWo
    have HO := Lib.hid (meas_no2 (D := D) (of := edgesL) hwb)
    clear hval hwb hok
    go_enter Try.func57, Try.ntmps57
    go_wp2_with (first | (go_at_call 45; refine (HVB.out _ HB.out.ps).mono ?_; rintro e w1 ⟨rfl, hx⟩) | ((with_reducible refine (HWo.out _ (HB.out.ext hx) (HW.out.ext (by repeat (first | (with_reducible exact Ext.refl _) | (with_reducible refine Ext.drewN ?_ _) | (with_reducible refine Ext.drew ?_) | (with_reducible refine Ext.alloc ?_ _) | ((with_reducible refine Ext.setCell ?_ ?_ _); rotate_left; focus (first | (simp; done) | (simp; omega) | omega)) | assumption | (with_reducible refine Ext.trans ?_ (by assumption)))))).mono ?_); rintro e w2 ⟨rfl, hx2⟩))
    go_ret2
    exact ret2_mk HO.out.2 HO.out.1 (by repeat (first | (with_reducible exact Ext.refl _) | (with_reducible refine Ext.drewN ?_ _) | (with_reducible refine Ext.drew ?_) | (with_reducible refine Ext.alloc ?_ _) | ((with_reducible refine Ext.setCell ?_ ?_ _); rotate_left; focus (first | (simp; done) | (simp; omega) | omega)) | assumption | (with_reducible refine Ext.trans ?_ (by assumption))))
  rw [hwb] at HWo
  have hwt := widthsB_t hwb
  have HM := Lib.hid (fun W h h' => impl_measure_ed D w.heap.size a b n c m d ws W h h' (measOk hok HL.out HWl.out hwt.1 hwt.2))
  have HY := Lib.hid (fun h => meas_yes (of := edgesL) hval hwb h)
  have HN := Lib.hid (fun h => meas_no3 (D := D) (ws := ws) (of := edgesL) h)
  clear hval hwb hok hwt
  generalize measS D ws edgesL = ms at *
  obtain ⟨ms1, ms2, ms3⟩ := ms
  simp only at HM HY HN
  go_enter Try.func57, Try.ntmps57
  go_wp2_with (first | (go_at_call 45; refine (HVB.out _ HB.out.ps).mono ?_; rintro e w1 ⟨rfl, hx⟩) | ((with_reducible refine (HWo.out _ (HB.out.ext hx) (HW.out.ext (by repeat (first | (with_reducible exact Ext.refl _) | (with_reducible refine Ext.drewN ?_ _) | (with_reducible refine Ext.drew ?_) | (with_reducible refine Ext.alloc ?_ _) | ((with_reducible refine Ext.setCell ?_ ?_ _); rotate_left; focus (first | (simp; done) | (simp; omega) | omega)) | assumption | (with_reducible refine Ext.trans ?_ (by assumption)))))).mono ?_); rintro e w2 ⟨rfl, hx2⟩) | ((with_reducible refine (HM.out _ ((HB.out.ext hx).ext hx2) (HW.out.ext (by repeat (first | (with_reducible exact Ext.refl _) | (with_reducible refine Ext.drewN ?_ _) | (with_reducible refine Ext.drew ?_) | (with_reducible refine Ext.alloc ?_ _) | ((with_reducible refine Ext.setCell ?_ ?_ _); rotate_left; focus (first | (simp; done) | (simp; omega) | omega)) | assumption | (with_reducible refine Ext.trans ?_ (by assumption)))))).mono ?_); rintro e w3 ⟨rfl, hx3⟩))
  · have h := HN.out (by simpa using ‹(!(ms3 == 1)) = true›)
    go_ret2
    exact ret2_mk h.2 h.1 (by repeat (first | (with_reducible exact Ext.refl _) | (with_reducible refine Ext.drewN ?_ _) | (with_reducible refine Ext.drew ?_) | (with_reducible refine Ext.alloc ?_ _) | ((with_reducible refine Ext.setCell ?_ ?_ _); rotate_left; focus (first | (simp; done) | (simp; omega) | omega)) | assumption | (with_reducible refine Ext.trans ?_ (by assumption))))
  · have h := HY.out (by simpa using ‹(!(ms3 == 1)) = false›)
    go_ret2
    exact ret2_mk h.2 h.1 (by repeat (first | (with_reducible exact Ext.refl _) | (with_reducible refine Ext.drewN ?_ _) | (with_reducible refine Ext.drew ?_) | (with_reducible refine Ext.alloc ?_ _) | ((with_reducible refine Ext.setCell ?_ ?_ _); rotate_left; focus (first | (simp; done) | (simp; omega) | omega)) | assumption | (with_reducible refine Ext.trans ?_ (by assumption))))
set_option maxHeartbeats 1000000 in
theorem impl_MeasureEdges (D : Bc) (a : Option Addr) (n c : Nat) (b : Option Addr) (m d : Nat) (ws : List Int) (w : World) (hv : Strs w a n c D.pats) (hn : n ≤ 1048576) (hs : D.start.size ≤ 1048576) (ht : D.stop.size ≤ 1048576) (hp : ∀ p ∈ D.pats, p.size ≤ 1048576) (hw : Ints w b m d ws) (hm : m ≤ 1048576) :
    Calls Try.prog 30 #[.agg #[.string D.start, .string D.stop, .slice a n c, .int .i64 D.gap], .slice b m d] w (Ret2 (.int .i64 (measRes D ws edgesL)) (.bool (measOkB D ws edgesL)) w) := by
  have HB := Lib.hid (bc_box w D a n c 28 hv)
  have H := Lib.hid (fun W h h' => impl_measured_ed D a b n c m d ws W h hn hs ht hp h' hm)
  have Hhv := Lib.hid hv; clear hv; have Hhw := Lib.hid hw; clear hw
  go_enter Try.func30, Try.ntmps30
  go_wp2_with (refine (H.out _ HB.out.ps (Hhw.out.ext (by repeat (first | (with_reducible exact Ext.refl _) | (with_reducible refine Ext.drewN ?_ _) | (with_reducible refine Ext.drew ?_) | (with_reducible refine Ext.alloc ?_ _) | ((with_reducible refine Ext.setCell ?_ ?_ _); rotate_left; focus (first | (simp; done) | (simp; omega) | omega)) | assumption | (with_reducible refine Ext.trans ?_ (by assumption)))))).mono ?_; rintro e w1 ⟨rfl, hx⟩)
  go_ret2
  exact ⟨rfl, (by repeat (first | (with_reducible exact Ext.refl _) | (with_reducible refine Ext.drewN ?_ _) | (with_reducible refine Ext.drew ?_) | (with_reducible refine Ext.alloc ?_ _) | ((with_reducible refine Ext.setCell ?_ ?_ _); rotate_left; focus (first | (simp; done) | (simp; omega) | omega)) | assumption | (with_reducible refine Ext.trans ?_ (by assumption))))⟩
end Go.Proofs.Ytnmkckghfckgbaa
