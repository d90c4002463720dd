/- Walks: completions and shortenings, in the program and in the reference. -/
import Derived.Test.YtcdoanookiimaaaIns
import Derived.Test.YtcdoanookiimaaaPut
import Derived.Test.YtcdoanookiimaaaMixC
import Derived.Test.YtcdoanookiimaaaChL
namespace Go.Proofs.Ytcdoanookiimaaa
set_option maxRecDepth 100000
open Go.RowKit

def cmpB (C : Ch) (s : ByteArray) : Bool := validCh C && (wordB s.data.toList C.base 20 && decide (s.size + 1 = C.places.length))
def cmpL (C : Ch) (s : ByteArray) : List ByteArray := if cmpB C s then putAll ((insT s C.base.toNat (s.size + 1)).filter (chkB C)) else []
def shoB (C : Ch) (s : ByteArray) : Bool := validCh C && (wordB s.data.toList C.base 20 && decide (s.size = C.places.length + 1))
def shoL (C : Ch) (s : ByteArray) : List ByteArray := if shoB C s then putAll ((cutT s s.size).filter (chkB C)) else []
theorem wordB_len {s : ByteArray} {b : Int} (h : wordB s.data.toList b 20 = true) : s.size ≤ 20 := by
  unfold wordB at h
  simp only [Bool.and_eq_true, decide_eq_true_eq] at h
  have h1 := h.2.2
  have h2 : s.data.toList.length = s.size := by simp
  omega
/-- a list and whether it is there: of its own; as it reads -/
def RetTO (l : List ByteArray) (b : Bool) (w : World) (e : Ending) (w' : World) : Prop :=
  ∃ a c, e = .returned (.tuple #[.slice a l.length c, .bool b]) ∧ Own w' w.heap.size 9 a l.length c (St l) ∧ Ext w w'
def RetTS (l : List ByteArray) (b : Bool) (w : World) (e : Ending) (w' : World) : Prop :=
  ∃ a c, e = .returned (.tuple #[.slice a l.length c, .bool b]) ∧ Strs w' a l.length c l ∧ Ext w w'
theorem RetTO.no {l : List ByteArray} {b : Bool} {w w' : World} (hb : b = false) (hl : l = []) (hx : Ext w w') : RetTO l b w (.returned (.tuple #[.slice none 0 0, .bool false])) w' := by
  subst hb; subst hl
  exact ⟨none, 0, rfl, Own.nil _ _ _, hx⟩
theorem RetTO.toS {l : List ByteArray} {b : Bool} {w w' : World} {e : Ending} (h : RetTO l b w e w') : RetTS l b w e w' :=
  let ⟨a, c, h1, h2, h3⟩ := h; ⟨a, c, h1, h2.sl, h3⟩
theorem cmpL_no {C : Ch} {s : ByteArray} (h : cmpB C s = false) : cmpL C s = [] := by unfold cmpL; rw [h]; rfl
theorem shoL_no {C : Ch} {s : ByteArray} (h : shoB C s = false) : shoL C s = [] := by unfold shoL; rw [h]; rfl
theorem cmpL_yes {C : Ch} {s : ByteArray} (h : cmpB C s = true) : cmpL C s = putAll ((insT s C.base.toNat (s.size + 1)).filter (chkB C)) := by unfold cmpL; rw [h]; rfl
theorem shoL_yes {C : Ch} {s : ByteArray} (h : shoB C s = true) : shoL C s = putAll ((cutT s s.size).filter (chkB C)) := by unfold shoL; rw [h]; rfl
theorem cmpL_len (C : Ch) (s : ByteArray) : (cmpL C s).length ≤ 1048576 := by
  cases h : cmpB C s with
  | false => rw [cmpL_no h]; simp
  | true =>
    rw [cmpL_yes h]
    have h1 := putAll_len ((insT s C.base.toNat (s.size + 1)).filter (chkB C))
    have h2 := List.length_filter_le (chkB C) (insT s C.base.toNat (s.size + 1))
    rw [insT_len] at h2
    unfold cmpB at h
    simp only [Bool.and_eq_true, decide_eq_true_eq] at h
    have h3 := wordB_len h.2.1
    have h4 := (validCh_ok h.1).b36
    have h5 := Nat.mul_le_mul (show s.size + 1 ≤ 21 by omega) (show C.base.toNat ≤ 36 by omega)
    omega
theorem shoL_len (C : Ch) (s : ByteArray) : (shoL C s).length ≤ 1048576 := by
  cases h : shoB C s with
  | false => rw [shoL_no h]; simp
  | true =>
    rw [shoL_yes h]
    have h1 := putAll_len ((cutT s s.size).filter (chkB C))
    have h2 := List.length_filter_le (chkB C) (cutT s s.size)
    rw [cutT_len] at h2
    unfold shoB at h
    simp only [Bool.and_eq_true, decide_eq_true_eq] at h
    have h3 := wordB_len h.2.1
    omega
theorem insT_sizes {s : ByteArray} {b k : Nat} (hk : k ≤ s.size + 1) : ∀ x ∈ insT s b k, x.size = s.size + 1 := fun x hx => by
  unfold insT at hx
  rw [List.mem_flatten] at hx
  obtain ⟨r, hr, hx⟩ := hx
  obtain ⟨i, hi, rfl⟩ := List.mem_map.1 hr
  unfold insRow at hx
  obtain ⟨d, _, rfl⟩ := List.mem_map.1 hx
  exact insAt_size (by have := List.mem_range.1 hi; omega) _
theorem cutT_sizes {s : ByteArray} {k : Nat} (hk : k ≤ s.size) : ∀ x ∈ cutT s k, x.size + 1 = s.size := fun x hx => by
  unfold cutT at hx
  obtain ⟨i, hi, rfl⟩ := List.mem_map.1 hx
  exact cutAt_size (by have := List.mem_range.1 hi; omega)
set_option maxHeartbeats 400000 in
theorem impl_isWordOf (s : ByteArray) (base : Int) (w : World) (hs : s.size ≤ 4611686018427387904) : Calls Try.prog 78 #[.string s, .int .i64 base] w (Ret (.bool (wordB s.data.toList base 20)) w) := by
  have H := Lib.hid (impl_digitsOf s base 20 w hs (by omega) (by omega))
  go_enter Try.func78, Try.ntmps78
  go_wp2_with (refine H.out.mono ?_; rintro e w' ⟨a, n, c, rfl, hx, ho⟩)
  go_ret
  exact ⟨rfl, hx⟩
set_option maxHeartbeats 4000000 in
theorem impl_Completions (C : Ch) (a : Option Addr) (n c : Nat) (b : Option Addr) (m d : Nat) (s : ByteArray) (w : World) (hv : ChIn w C a n c b m d) (hs : s.size ≤ 1048576) :
    Calls Try.prog 31 #[.agg #[.int .i64 C.base, .int .i64 C.states, .int .i64 C.start, .int .i64 C.fin, .slice a n c, .slice b m d], .string s] w (RetTO (cmpL C s) (cmpB C s) w) := by
  have HB := Lib.hid (hv.box 27)
  have HI := Lib.hid hv
  have HPl := hv.ps.len
  have hm1 := hv.hn'
  have hxa : Ext w (w.alloc (.cells #[.int .i64 C.base, .int .i64 C.states, .int .i64 C.start, .int .i64 C.fin, .slice a n c, .slice b m d] 27)) := (by repeat (first | (with_reducible exact Ext.refl _) | (with_reducible refine Ext.drewN ?_ _) | (with_reducible refine Ext.drew ?_) | (with_reducible refine Ext.alloc ?_ _) | ((with_reducible refine Ext.setCell ?_ ?_ _); rotate_left; focus (first | (simp; done) | (simp; omega) | omega)) | assumption | (with_reducible refine Ext.trans ?_ (by assumption))))
  have HV := Lib.hid (fun W (h : Ext w W) => impl_ValidChain C a n c b m d W (Cube.ext HI.out.ts h) (HI.out.ps.ext h) HI.out.hn HI.out.hn' HI.out.sm)
  have HW := Lib.hid (fun W => impl_isWordOf s C.base W (by omega))
  have hxw : Ext w w := Ext.refl w
  obtain ⟨wb, hwb⟩ : ∃ wb, wb = w.alloc (.cells #[.int .i64 C.base, .int .i64 C.states, .int .i64 C.start, .int .i64 C.fin, .slice a n c, .slice b m d] 27) := ⟨_, rfl⟩
  rw [← hwb] at HB hxa
  obtain ⟨k0, k1, k2, k3, k4, k5, _, _⟩ := HB.out
  have hbb : Ext wb wb := Ext.refl wb
  obtain ⟨q, hq⟩ : ∃ q, q = w.heap.size := ⟨_, rfl⟩
  rw [← hq] at k0 k1 k2 k3 k4 k5
  clear hv HB
  cases hval : validCh C with
  | false =>
    have HN := Lib.hid (show cmpB C s = false by unfold cmpB; rw [hval]; rfl)
    rw [hval] at HV
    clear hval
    go_enter Try.func31, Try.ntmps31
    go_wp2_with fail
    rw [← hwb, ← hq]
    clear hwb hq
    go_wp2_with (refine (HV.out _ (hxa.trans (by repeat (first | (with_reducible exact Ext.refl _) | (with_reducible refine Ext.drewN ?_ _) | (with_reducible refine Ext.drew ?_) | (with_reducible refine Ext.alloc ?_ _) | ((with_reducible refine Ext.setCell ?_ ?_ _); rotate_left; focus (first | (simp; done) | (simp; omega) | omega)) | assumption | (with_reducible refine Ext.trans ?_ (by assumption)))))).mono ?_; rintro e w1 ⟨rfl, hx1⟩)
    go_ret2
    exact RetTO.no HN.out (cmpL_no HN.out) (hxa.trans hx1)
  | true =>
    rw [hval] at HV
    have hok := validCh_ok hval
    cases hwd : wordB s.data.toList C.base 20 with
    | false =>
      have HN := Lib.hid (show cmpB C s = false by unfold cmpB; rw [hwd, Bool.false_and, Bool.and_false])
      rw [hwd] at HW
      clear hwd hok hval
      go_enter Try.func31, Try.ntmps31
      go_wp2_with fail
      rw [← hwb, ← hq]
      clear hwb hq
      go_wp2_with (first | (go_at_call 61; refine (HV.out _ (hxa.trans (by repeat (first | (with_reducible exact Ext.refl _) | (with_reducible refine Ext.drewN ?_ _) | (with_reducible refine Ext.drew ?_) | (with_reducible refine Ext.alloc ?_ _) | ((with_reducible refine Ext.setCell ?_ ?_ _); rotate_left; focus (first | (simp; done) | (simp; omega) | omega)) | assumption | (with_reducible refine Ext.trans ?_ (by assumption)))))).mono ?_; rintro e w1 ⟨rfl, hy1⟩; have hx1 : Ext wb w1 := Ext.trans (by repeat (first | (with_reducible exact Ext.refl _) | (with_reducible refine Ext.drewN ?_ _) | (with_reducible refine Ext.drew ?_) | (with_reducible refine Ext.alloc ?_ _) | ((with_reducible refine Ext.setCell ?_ ?_ _); rotate_left; focus (first | (simp; done) | (simp; omega) | omega)) | assumption | (with_reducible refine Ext.trans ?_ (by assumption)))) hy1; clear hy1) | (go_at_call 78; refine (HW.out _).mono ?_; rintro e w2 ⟨rfl, hy2⟩; have hx2 : Ext wb w2 := hx1.trans (Ext.trans (by repeat (first | (with_reducible exact Ext.refl _) | (with_reducible refine Ext.drewN ?_ _) | (with_reducible refine Ext.drew ?_) | (with_reducible refine Ext.alloc ?_ _) | ((with_reducible refine Ext.setCell ?_ ?_ _); rotate_left; focus (first | (simp; done) | (simp; omega) | omega)) | assumption | (with_reducible refine Ext.trans ?_ (by assumption)))) hy2); clear hy2))
      go_ret2
      exact RetTO.no HN.out (cmpL_no HN.out) (hxa.trans hx2)
    | true =>
      rw [hwd] at HW
      have hs20 := wordB_len hwd
      have hb2 := hok.b2
      have hb36 := hok.b36
      by_cases hsz : s.size + 1 = m
      · have hB : cmpB C s = true := by unfold cmpB; rw [hval, hwd, HPl, decide_eq_true hsz]; rfl
        have HBt := Lib.hid hB
        have HLt := Lib.hid (cmpL_yes hB)
        obtain ⟨bN, hbN⟩ := Int.eq_ofNat_of_zero_le (show 0 ≤ C.base by omega)
        have hbn : C.base.toNat = bN := by omega
        rw [hbn] at HLt
        have HIns := Lib.hid (fun W => impl_inserted s bN W hs20 (by omega) (by omega))
        rw [← hbN] at HIns
        have HLn := Lib.hid (insT_len s bN (s.size + 1))
        have hln : (s.size + 1) * bN ≤ 1048576 := by
          have := Nat.mul_le_mul (show s.size + 1 ≤ 21 by omega) (show bN ≤ 36 by omega)
          omega
        have HSz := Lib.hid (fun x (hx : x ∈ insT s bN (s.size + 1)) => show x.size ≤ 1048576 by have := insT_sizes (s := s) (b := bN) (Nat.le_refl _) x hx; omega)
        have HCk := Lib.hid (fun g p cp W (ho : Own W wb.heap.size 9 (some ⟨g, 0, none⟩) p cp (St (insT s bN (s.size + 1)))) (hx : Ext wb W) hp => impl_checkedOf g p cp C a n c b m d (insT s bN (s.size + 1)) wb W (HI.out.ext hxa) ho hx hp HSz.out)
        rw [← HLt.out] at HCk
        have hne : ((s.size : Int) != (m : Int) - 1) = false := by simp; omega
        generalize insT s bN (s.size + 1) = L at *
        clear hB hval hwd hbN hbn
        go_enter Try.func31, Try.ntmps31
        go_wp2_with fail
        rw [← hwb, ← hq]
        clear hwb hq
        go_wp2_with (first | (go_at_call 61; refine (HV.out _ (hxa.trans (by repeat (first | (with_reducible exact Ext.refl _) | (with_reducible refine Ext.drewN ?_ _) | (with_reducible refine Ext.drew ?_) | (with_reducible refine Ext.alloc ?_ _) | ((with_reducible refine Ext.setCell ?_ ?_ _); rotate_left; focus (first | (simp; done) | (simp; omega) | omega)) | assumption | (with_reducible refine Ext.trans ?_ (by assumption)))))).mono ?_; rintro e w1 ⟨rfl, hy1⟩; have hx1 : Ext wb w1 := Ext.trans (by repeat (first | (with_reducible exact Ext.refl _) | (with_reducible refine Ext.drewN ?_ _) | (with_reducible refine Ext.drew ?_) | (with_reducible refine Ext.alloc ?_ _) | ((with_reducible refine Ext.setCell ?_ ?_ _); rotate_left; focus (first | (simp; done) | (simp; omega) | omega)) | assumption | (with_reducible refine Ext.trans ?_ (by assumption)))) hy1; clear hy1) | (go_at_call 78; refine (HW.out _).mono ?_; rintro e w2 ⟨rfl, hy2⟩; have hx2 : Ext wb w2 := hx1.trans (Ext.trans (by repeat (first | (with_reducible exact Ext.refl _) | (with_reducible refine Ext.drewN ?_ _) | (with_reducible refine Ext.drew ?_) | (with_reducible refine Ext.alloc ?_ _) | ((with_reducible refine Ext.setCell ?_ ?_ _); rotate_left; focus (first | (simp; done) | (simp; omega) | omega)) | assumption | (with_reducible refine Ext.trans ?_ (by assumption)))) hy2); clear hy2))
        (refine wp_region_from wb (by repeat (first | (with_reducible exact Ext.refl _) | (with_reducible refine Ext.drewN ?_ _) | (with_reducible refine Ext.drew ?_) | (with_reducible refine Ext.alloc ?_ _) | ((with_reducible refine Ext.setCell ?_ ?_ _); rotate_left; focus (first | (simp; done) | (simp; omega) | omega)) | assumption | (with_reducible refine Ext.trans ?_ (by assumption)))) (by kernel_rfl) (by kernel_rfl) (by kernel_rfl) ?_; (repeat (first | (refine mix_q rfl ?_; go_big_quiet_step (fail); refine wpQuiet_nil ?_; show wpMix _ _ _ _ _ _ _) | (refine mix_s rfl ?_; go_wp2_with ((first | (go_at_call 80; refine (HIns.out _).mono ?_; rintro e w3 ⟨g3, c3, rfl, ho3, hy3⟩; have hx3 : Ext wb w3 := hx2.trans (Ext.trans (by repeat (first | (with_reducible exact Ext.refl _) | (with_reducible refine Ext.drewN ?_ _) | (with_reducible refine Ext.drew ?_) | (with_reducible refine Ext.alloc ?_ _) | ((with_reducible refine Ext.setCell ?_ ?_ _); rotate_left; focus (first | (simp; done) | (simp; omega) | omega)) | assumption | (with_reducible refine Ext.trans ?_ (by assumption)))) hy3); have HO3 := Lib.hid (Own.mono ho3 (Ext.le (hx2.trans (by repeat (first | (with_reducible exact Ext.refl _) | (with_reducible refine Ext.drewN ?_ _) | (with_reducible refine Ext.drew ?_) | (with_reducible refine Ext.alloc ?_ _) | ((with_reducible refine Ext.setCell ?_ ?_ _); rotate_left; focus (first | (simp; done) | (simp; omega) | omega)) | assumption | (with_reducible refine Ext.trans ?_ (by assumption))))))); clear ho3 hy3) | (go_at_call 79; refine (HCk.out g3 _ c3 _ (HO3.out.ext (by repeat (first | (with_reducible exact Ext.refl _) | (with_reducible refine Ext.drewN ?_ _) | (with_reducible refine Ext.drew ?_) | (with_reducible refine Ext.alloc ?_ _) | ((with_reducible refine Ext.setCell ?_ ?_ _); rotate_left; focus (first | (simp; done) | (simp; omega) | omega)) | assumption | (with_reducible refine Ext.trans ?_ (by assumption))))) (hx3.trans (by repeat (first | (with_reducible exact Ext.refl _) | (with_reducible refine Ext.drewN ?_ _) | (with_reducible refine Ext.drew ?_) | (with_reducible refine Ext.alloc ?_ _) | ((with_reducible refine Ext.setCell ?_ ?_ _); rotate_left; focus (first | (simp; done) | (simp; omega) | omega)) | assumption | (with_reducible refine Ext.trans ?_ (by assumption))))) (by rw [HLn.out]; exact hln)).mono ?_; rintro e w4 ⟨c4, rfl, ho4, hx4⟩; have HO4 := Lib.hid ho4; clear ho4))); first | refine ⟨up_of (by repeat (first | (with_reducible exact Ext.refl _) | (with_reducible refine Ext.drewN ?_ _) | (with_reducible refine Ext.drew ?_) | (with_reducible refine Ext.alloc ?_ _) | ((with_reducible refine Ext.setCell ?_ ?_ _); rotate_left; focus (first | (simp; done) | (simp; omega) | omega)) | assumption | (with_reducible refine Ext.trans ?_ (by assumption)))), ?_⟩ | refine ⟨rfl, rfl, up_of (by repeat (first | (with_reducible exact Ext.refl _) | (with_reducible refine Ext.drewN ?_ _) | (with_reducible refine Ext.drew ?_) | (with_reducible refine Ext.alloc ?_ _) | ((with_reducible refine Ext.setCell ?_ ?_ _); rotate_left; focus (first | (simp; done) | (simp; omega) | omega)) | assumption | (with_reducible refine Ext.trans ?_ (by assumption)))), ?_⟩))); refine mix_nil ?_)
        go_wp2
        go_ret2
        rw [HBt.out]
        exact ⟨_, c4, rfl, Own.mono (Own.ext HO4.out (by repeat (first | (with_reducible exact Ext.refl _) | (with_reducible refine Ext.drewN ?_ _) | (with_reducible refine Ext.drew ?_) | (with_reducible refine Ext.alloc ?_ _) | ((with_reducible refine Ext.setCell ?_ ?_ _); rotate_left; focus (first | (simp; done) | (simp; omega) | omega)) | assumption | (with_reducible refine Ext.trans ?_ (by assumption))))) hxa.le, hxa.trans (hx4.trans (by repeat (first | (with_reducible exact Ext.refl _) | (with_reducible refine Ext.drewN ?_ _) | (with_reducible refine Ext.drew ?_) | (with_reducible refine Ext.alloc ?_ _) | ((with_reducible refine Ext.setCell ?_ ?_ _); rotate_left; focus (first | (simp; done) | (simp; omega) | omega)) | assumption | (with_reducible refine Ext.trans ?_ (by assumption)))))⟩
      · have HN := Lib.hid (show cmpB C s = false by unfold cmpB; rw [HPl, decide_eq_false hsz, Bool.and_false, Bool.and_false])
        have hne : ((s.size : Int) != (m : Int) - 1) = true := by simp; omega
        clear hwd hval
        go_enter Try.func31, Try.ntmps31
        go_wp2_with fail
        rw [← hwb, ← hq]
        clear hwb hq
        go_wp2_with (first | (go_at_call 61; refine (HV.out _ (hxa.trans (by repeat (first | (with_reducible exact Ext.refl _) | (with_reducible refine Ext.drewN ?_ _) | (with_reducible refine Ext.drew ?_) | (with_reducible refine Ext.alloc ?_ _) | ((with_reducible refine Ext.setCell ?_ ?_ _); rotate_left; focus (first | (simp; done) | (simp; omega) | omega)) | assumption | (with_reducible refine Ext.trans ?_ (by assumption)))))).mono ?_; rintro e w1 ⟨rfl, hy1⟩; have hx1 : Ext wb w1 := Ext.trans (by repeat (first | (with_reducible exact Ext.refl _) | (with_reducible refine Ext.drewN ?_ _) | (with_reducible refine Ext.drew ?_) | (with_reducible refine Ext.alloc ?_ _) | ((with_reducible refine Ext.setCell ?_ ?_ _); rotate_left; focus (first | (simp; done) | (simp; omega) | omega)) | assumption | (with_reducible refine Ext.trans ?_ (by assumption)))) hy1; clear hy1) | (go_at_call 78; refine (HW.out _).mono ?_; rintro e w2 ⟨rfl, hy2⟩; have hx2 : Ext wb w2 := hx1.trans (Ext.trans (by repeat (first | (with_reducible exact Ext.refl _) | (with_reducible refine Ext.drewN ?_ _) | (with_reducible refine Ext.drew ?_) | (with_reducible refine Ext.alloc ?_ _) | ((with_reducible refine Ext.setCell ?_ ?_ _); rotate_left; focus (first | (simp; done) | (simp; omega) | omega)) | assumption | (with_reducible refine Ext.trans ?_ (by assumption)))) hy2); clear hy2))
        go_ret2
        exact RetTO.no HN.out (cmpL_no HN.out) (hxa.trans hx2)
set_option maxHeartbeats 4000000 in
theorem impl_Shortenings (C : Ch) (a : Option Addr) (n c : Nat) (b : Option Addr) (m d : Nat) (s : ByteArray) (w : World) (hv : ChIn w C a n c b m d) (hs : s.size ≤ 1048576) :
    Calls Try.prog 32 #[.agg #[.int .i64 C.base, .int .i64 C.states, .int .i64 C.start, .int .i64 C.fin, .slice a n c, .slice b m d], .string s] w (RetTO (shoL C s) (shoB C s) w) := by
  have HB := Lib.hid (hv.box 27)
  have HI := Lib.hid hv
  have HPl := hv.ps.len
  have hm1 := hv.hn'
  have hxa : Ext w (w.alloc (.cells #[.int .i64 C.base, .int .i64 C.states, .int .i64 C.start, .int .i64 C.fin, .slice a n c, .slice b m d] 27)) := (by repeat (first | (with_reducible exact Ext.refl _) | (with_reducible refine Ext.drewN ?_ _) | (with_reducible refine Ext.drew ?_) | (with_reducible refine Ext.alloc ?_ _) | ((with_reducible refine Ext.setCell ?_ ?_ _); rotate_left; focus (first | (simp; done) | (simp; omega) | omega)) | assumption | (with_reducible refine Ext.trans ?_ (by assumption))))
  have HV := Lib.hid (fun W (h : Ext w W) => impl_ValidChain C a n c b m d W (Cube.ext HI.out.ts h) (HI.out.ps.ext h) HI.out.hn HI.out.hn' HI.out.sm)
  have HW := Lib.hid (fun W => impl_isWordOf s C.base W (by omega))
  have hxw : Ext w w := Ext.refl w
  obtain ⟨wb, hwb⟩ : ∃ wb, wb = w.alloc (.cells #[.int .i64 C.base, .int .i64 C.states, .int .i64 C.start, .int .i64 C.fin, .slice a n c, .slice b m d] 27) := ⟨_, rfl⟩
  rw [← hwb] at HB hxa
  obtain ⟨k0, k1, k2, k3, k4, k5, _, _⟩ := HB.out
  have hbb : Ext wb wb := Ext.refl wb
  obtain ⟨q, hq⟩ : ∃ q, q = w.heap.size := ⟨_, rfl⟩
  rw [← hq] at k0 k1 k2 k3 k4 k5
  clear hv HB
  cases hval : validCh C with
  | false =>
    have HN := Lib.hid (show shoB C s = false by unfold shoB; rw [hval]; rfl)
    rw [hval] at HV
    clear hval
    go_enter Try.func32, Try.ntmps32
    go_wp2_with fail
    rw [← hwb, ← hq]
    clear hwb hq
    go_wp2_with (refine (HV.out _ (hxa.trans (by repeat (first | (with_reducible exact Ext.refl _) | (with_reducible refine Ext.drewN ?_ _) | (with_reducible refine Ext.drew ?_) | (with_reducible refine Ext.alloc ?_ _) | ((with_reducible refine Ext.setCell ?_ ?_ _); rotate_left; focus (first | (simp; done) | (simp; omega) | omega)) | assumption | (with_reducible refine Ext.trans ?_ (by assumption)))))).mono ?_; rintro e w1 ⟨rfl, hx1⟩)
    go_ret2
    exact RetTO.no HN.out (shoL_no HN.out) (hxa.trans hx1)
  | true =>
    rw [hval] at HV
    have hok := validCh_ok hval
    cases hwd : wordB s.data.toList C.base 20 with
    | false =>
      have HN := Lib.hid (show shoB C s = false by unfold shoB; rw [hwd, Bool.false_and, Bool.and_false])
      rw [hwd] at HW
      clear hwd hok hval
      go_enter Try.func32, Try.ntmps32
      go_wp2_with fail
      rw [← hwb, ← hq]
      clear hwb hq
      go_wp2_with (first | (go_at_call 61; refine (HV.out _ (hxa.trans (by repeat (first | (with_reducible exact Ext.refl _) | (with_reducible refine Ext.drewN ?_ _) | (with_reducible refine Ext.drew ?_) | (with_reducible refine Ext.alloc ?_ _) | ((with_reducible refine Ext.setCell ?_ ?_ _); rotate_left; focus (first | (simp; done) | (simp; omega) | omega)) | assumption | (with_reducible refine Ext.trans ?_ (by assumption)))))).mono ?_; rintro e w1 ⟨rfl, hy1⟩; have hx1 : Ext wb w1 := Ext.trans (by repeat (first | (with_reducible exact Ext.refl _) | (with_reducible refine Ext.drewN ?_ _) | (with_reducible refine Ext.drew ?_) | (with_reducible refine Ext.alloc ?_ _) | ((with_reducible refine Ext.setCell ?_ ?_ _); rotate_left; focus (first | (simp; done) | (simp; omega) | omega)) | assumption | (with_reducible refine Ext.trans ?_ (by assumption)))) hy1; clear hy1) | (go_at_call 78; refine (HW.out _).mono ?_; rintro e w2 ⟨rfl, hy2⟩; have hx2 : Ext wb w2 := hx1.trans (Ext.trans (by repeat (first | (with_reducible exact Ext.refl _) | (with_reducible refine Ext.drewN ?_ _) | (with_reducible refine Ext.drew ?_) | (with_reducible refine Ext.alloc ?_ _) | ((with_reducible refine Ext.setCell ?_ ?_ _); rotate_left; focus (first | (simp; done) | (simp; omega) | omega)) | assumption | (with_reducible refine Ext.trans ?_ (by assumption)))) hy2); clear hy2))
      go_ret2
      exact RetTO.no HN.out (shoL_no HN.out) (hxa.trans hx2)
    | true =>
      rw [hwd] at HW
      have hs20 := wordB_len hwd
      have hb2 := hok.b2
      have hb36 := hok.b36
      by_cases hsz : s.size = m + 1
      · have hB : shoB C s = true := by unfold shoB; rw [hval, hwd, HPl, decide_eq_true hsz]; rfl
        have HBt := Lib.hid hB
        have HLt := Lib.hid (shoL_yes hB)
        have HIns := Lib.hid (fun W => impl_shortened s W hs20 (by omega))
        have HLn := Lib.hid (cutT_len s s.size)
        have hln : s.size ≤ 1048576 := by omega
        have HSz := Lib.hid (fun x (hx : x ∈ cutT s s.size) => show x.size ≤ 1048576 by have := cutT_sizes (s := s) (Nat.le_refl _) x hx; omega)
        have HCk := Lib.hid (fun g p cp W (ho : Own W wb.heap.size 9 (some ⟨g, 0, none⟩) p cp (St (cutT s s.size))) (hx : Ext wb W) hp => impl_checkedOf g p cp C a n c b m d (cutT s s.size) wb W (HI.out.ext hxa) ho hx hp HSz.out)
        rw [← HLt.out] at HCk
        have hne : ((s.size : Int) != (m : Int) + 1) = false := by simp; omega
        generalize cutT s s.size = L at *
        clear hB hval hwd
        go_enter Try.func32, Try.ntmps32
        go_wp2_with fail
        rw [← hwb, ← hq]
        clear hwb hq
        go_wp2_with (first | (go_at_call 61; refine (HV.out _ (hxa.trans (by repeat (first | (with_reducible exact Ext.refl _) | (with_reducible refine Ext.drewN ?_ _) | (with_reducible refine Ext.drew ?_) | (with_reducible refine Ext.alloc ?_ _) | ((with_reducible refine Ext.setCell ?_ ?_ _); rotate_left; focus (first | (simp; done) | (simp; omega) | omega)) | assumption | (with_reducible refine Ext.trans ?_ (by assumption)))))).mono ?_; rintro e w1 ⟨rfl, hy1⟩; have hx1 : Ext wb w1 := Ext.trans (by repeat (first | (with_reducible exact Ext.refl _) | (with_reducible refine Ext.drewN ?_ _) | (with_reducible refine Ext.drew ?_) | (with_reducible refine Ext.alloc ?_ _) | ((with_reducible refine Ext.setCell ?_ ?_ _); rotate_left; focus (first | (simp; done) | (simp; omega) | omega)) | assumption | (with_reducible refine Ext.trans ?_ (by assumption)))) hy1; clear hy1) | (go_at_call 78; refine (HW.out _).mono ?_; rintro e w2 ⟨rfl, hy2⟩; have hx2 : Ext wb w2 := hx1.trans (Ext.trans (by repeat (first | (with_reducible exact Ext.refl _) | (with_reducible refine Ext.drewN ?_ _) | (with_reducible refine Ext.drew ?_) | (with_reducible refine Ext.alloc ?_ _) | ((with_reducible refine Ext.setCell ?_ ?_ _); rotate_left; focus (first | (simp; done) | (simp; omega) | omega)) | assumption | (with_reducible refine Ext.trans ?_ (by assumption)))) hy2); clear hy2))
        (refine wp_region_from wb (by repeat (first | (with_reducible exact Ext.refl _) | (with_reducible refine Ext.drewN ?_ _) | (with_reducible refine Ext.drew ?_) | (with_reducible refine Ext.alloc ?_ _) | ((with_reducible refine Ext.setCell ?_ ?_ _); rotate_left; focus (first | (simp; done) | (simp; omega) | omega)) | assumption | (with_reducible refine Ext.trans ?_ (by assumption)))) (by kernel_rfl) (by kernel_rfl) (by kernel_rfl) ?_; (repeat (first | (refine mix_q rfl ?_; go_big_quiet_step (fail); refine wpQuiet_nil ?_; show wpMix _ _ _ _ _ _ _) | (refine mix_s rfl ?_; go_wp2_with ((first | (go_at_call 81; refine (HIns.out _).mono ?_; rintro e w3 ⟨g3, c3, rfl, ho3, hy3⟩; have hx3 : Ext wb w3 := hx2.trans (Ext.trans (by repeat (first | (with_reducible exact Ext.refl _) | (with_reducible refine Ext.drewN ?_ _) | (with_reducible refine Ext.drew ?_) | (with_reducible refine Ext.alloc ?_ _) | ((with_reducible refine Ext.setCell ?_ ?_ _); rotate_left; focus (first | (simp; done) | (simp; omega) | omega)) | assumption | (with_reducible refine Ext.trans ?_ (by assumption)))) hy3); have HO3 := Lib.hid (Own.mono ho3 (Ext.le (hx2.trans (by repeat (first | (with_reducible exact Ext.refl _) | (with_reducible refine Ext.drewN ?_ _) | (with_reducible refine Ext.drew ?_) | (with_reducible refine Ext.alloc ?_ _) | ((with_reducible refine Ext.setCell ?_ ?_ _); rotate_left; focus (first | (simp; done) | (simp; omega) | omega)) | assumption | (with_reducible refine Ext.trans ?_ (by assumption))))))); clear ho3 hy3) | (go_at_call 79; refine (HCk.out g3 _ c3 _ (HO3.out.ext (by repeat (first | (with_reducible exact Ext.refl _) | (with_reducible refine Ext.drewN ?_ _) | (with_reducible refine Ext.drew ?_) | (with_reducible refine Ext.alloc ?_ _) | ((with_reducible refine Ext.setCell ?_ ?_ _); rotate_left; focus (first | (simp; done) | (simp; omega) | omega)) | assumption | (with_reducible refine Ext.trans ?_ (by assumption))))) (hx3.trans (by repeat (first | (with_reducible exact Ext.refl _) | (with_reducible refine Ext.drewN ?_ _) | (with_reducible refine Ext.drew ?_) | (with_reducible refine Ext.alloc ?_ _) | ((with_reducible refine Ext.setCell ?_ ?_ _); rotate_left; focus (first | (simp; done) | (simp; omega) | omega)) | assumption | (with_reducible refine Ext.trans ?_ (by assumption))))) (by rw [HLn.out]; exact hln)).mono ?_; rintro e w4 ⟨c4, rfl, ho4, hx4⟩; have HO4 := Lib.hid ho4; clear ho4))); first | refine ⟨up_of (by repeat (first | (with_reducible exact Ext.refl _) | (with_reducible refine Ext.drewN ?_ _) | (with_reducible refine Ext.drew ?_) | (with_reducible refine Ext.alloc ?_ _) | ((with_reducible refine Ext.setCell ?_ ?_ _); rotate_left; focus (first | (simp; done) | (simp; omega) | omega)) | assumption | (with_reducible refine Ext.trans ?_ (by assumption)))), ?_⟩ | refine ⟨rfl, rfl, up_of (by repeat (first | (with_reducible exact Ext.refl _) | (with_reducible refine Ext.drewN ?_ _) | (with_reducible refine Ext.drew ?_) | (with_reducible refine Ext.alloc ?_ _) | ((with_reducible refine Ext.setCell ?_ ?_ _); rotate_left; focus (first | (simp; done) | (simp; omega) | omega)) | assumption | (with_reducible refine Ext.trans ?_ (by assumption)))), ?_⟩))); refine mix_nil ?_)
        go_wp2
        go_ret2
        rw [HBt.out]
        exact ⟨_, c4, rfl, Own.mono (Own.ext HO4.out (by repeat (first | (with_reducible exact Ext.refl _) | (with_reducible refine Ext.drewN ?_ _) | (with_reducible refine Ext.drew ?_) | (with_reducible refine Ext.alloc ?_ _) | ((with_reducible refine Ext.setCell ?_ ?_ _); rotate_left; focus (first | (simp; done) | (simp; omega) | omega)) | assumption | (with_reducible refine Ext.trans ?_ (by assumption))))) hxa.le, hxa.trans (hx4.trans (by repeat (first | (with_reducible exact Ext.refl _) | (with_reducible refine Ext.drewN ?_ _) | (with_reducible refine Ext.drew ?_) | (with_reducible refine Ext.alloc ?_ _) | ((with_reducible refine Ext.setCell ?_ ?_ _); rotate_left; focus (first | (simp; done) | (simp; omega) | omega)) | assumption | (with_reducible refine Ext.trans ?_ (by assumption)))))⟩
      · have HN := Lib.hid (show shoB C s = false by unfold shoB; rw [HPl, decide_eq_false hsz, Bool.and_false, Bool.and_false])
        have hne : ((s.size : Int) != (m : Int) + 1) = true := by simp; omega
        clear hwd hval
        go_enter Try.func32, Try.ntmps32
        go_wp2_with fail
        rw [← hwb, ← hq]
        clear hwb hq
        go_wp2_with (first | (go_at_call 61; refine (HV.out _ (hxa.trans (by repeat (first | (with_reducible exact Ext.refl _) | (with_reducible refine Ext.drewN ?_ _) | (with_reducible refine Ext.drew ?_) | (with_reducible refine Ext.alloc ?_ _) | ((with_reducible refine Ext.setCell ?_ ?_ _); rotate_left; focus (first | (simp; done) | (simp; omega) | omega)) | assumption | (with_reducible refine Ext.trans ?_ (by assumption)))))).mono ?_; rintro e w1 ⟨rfl, hy1⟩; have hx1 : Ext wb w1 := Ext.trans (by repeat (first | (with_reducible exact Ext.refl _) | (with_reducible refine Ext.drewN ?_ _) | (with_reducible refine Ext.drew ?_) | (with_reducible refine Ext.alloc ?_ _) | ((with_reducible refine Ext.setCell ?_ ?_ _); rotate_left; focus (first | (simp; done) | (simp; omega) | omega)) | assumption | (with_reducible refine Ext.trans ?_ (by assumption)))) hy1; clear hy1) | (go_at_call 78; refine (HW.out _).mono ?_; rintro e w2 ⟨rfl, hy2⟩; have hx2 : Ext wb w2 := hx1.trans (Ext.trans (by repeat (first | (with_reducible exact Ext.refl _) | (with_reducible refine Ext.drewN ?_ _) | (with_reducible refine Ext.drew ?_) | (with_reducible refine Ext.alloc ?_ _) | ((with_reducible refine Ext.setCell ?_ ?_ _); rotate_left; focus (first | (simp; done) | (simp; omega) | omega)) | assumption | (with_reducible refine Ext.trans ?_ (by assumption)))) hy2); clear hy2))
        go_ret2
        exact RetTO.no HN.out (shoL_no HN.out) (hxa.trans hx2)
theorem sym_bytes (d : Int) (w : World) : (convert 22 9 (.slice (some ⟨w.heap.size, 0, none⟩) 1 1)).run Try.prog (w.alloc (.cells #[.int .u8 (sym d)] 5)) = .ok (.string (textOf [d])) (w.alloc (.cells #[.int .u8 (sym d)] 5)) :=
  run_convert_bytes_arg _ 22 5 (by kernel_rfl) (by kernel_rfl) w.heap.size 0 1 1 [sym d] rfl (fun i hi => by
    obtain rfl : i = 0 := by omega
    exact cell_of_row _ _ 0 _ _ (0, 0) (heap_alloc_new w _)) 9 (by kernel_rfl)
theorem sym_bytesD (d : Int) (w : World) : (convert 22 9 (.slice (some ⟨w.heap.size, 0, none⟩) 1 1)).run Try.prog (w.alloc (.cells #[.int .u8 (sym d)] 5)).drew = .ok (.string (textOf [d])) (w.alloc (.cells #[.int .u8 (sym d)] 5)).drew := sym_bytes d w.drew
theorem RetTS.no {l : List ByteArray} {b : Bool} {w w' : World} (hb : b = false) (hl : l = []) (hx : Ext w w') : RetTS l b w (.returned (.tuple #[.slice none 0 0, .bool false])) w' := (RetTO.no hb hl hx).toS
theorem putAll_step (p : ByteArray → Bool) (l : List ByteArray) (t : ByteArray) (h : p t = true) : putAll ((l ++ [t]).filter p) = putS (putAll (l.filter p)) t := by rw [putAll_filter, h]; rfl
theorem putAll_skip (p : ByteArray → Bool) (l : List ByteArray) (t : ByteArray) (h : p t = false) : putAll ((l ++ [t]).filter p) = putAll (l.filter p) := by rw [putAll_filter, h]; rfl
set_option maxHeartbeats 4000000 in
theorem spec_Shortenings (C : Ch) (a : Option Addr) (n c : Nat) (b : Option Addr) (m d : Nat) (s : ByteArray) (w : World) (hv : ChIn w C a n c b m d) (hs : s.size ≤ 1048576) :
    Calls Try.prog 43 #[.agg #[.int .i64 C.base, .int .i64 C.states, .int .i64 C.start, .int .i64 C.fin, .slice a n c, .slice b m d], .string s] w (RetTS (shoL C s) (shoB C s) w) := by
  have HB := Lib.hid (hv.box 27)
  have HI := Lib.hid hv
  have HPl := hv.ps.len
  have hm1 := hv.hn'
  have hxa : Ext w (w.alloc (.cells #[.int .i64 C.base, .int .i64 C.states, .int .i64 C.start, .int .i64 C.fin, .slice a n c, .slice b m d] 27)) := (by repeat (first | (with_reducible exact Ext.refl _) | (with_reducible refine Ext.drewN ?_ _) | (with_reducible refine Ext.drew ?_) | (with_reducible refine Ext.alloc ?_ _) | ((with_reducible refine Ext.setCell ?_ ?_ _); rotate_left; focus (first | (simp; done) | (simp; omega) | omega)) | assumption | (with_reducible refine Ext.trans ?_ (by assumption))))
  have HW := Lib.hid (fun W (hb : -9223372036854775807 ≤ C.base) (hb2 : C.base ≤ 9223372036854775807) => spec_word s C.base W (by omega) hb hb2)
  obtain ⟨wb, hwb⟩ : ∃ wb, wb = w.alloc (.cells #[.int .i64 C.base, .int .i64 C.states, .int .i64 C.start, .int .i64 C.fin, .slice a n c, .slice b m d] 27) := ⟨_, rfl⟩
  rw [← hwb] at HB hxa
  obtain ⟨q, hq⟩ : ∃ q, q = w.heap.size := ⟨_, rfl⟩
  rw [← hq] at HB
  obtain ⟨k0, k1, k2, k3, k4, k5, _, _⟩ := HB.out
  have hbb : Ext wb wb := Ext.refl wb
  have HV := Lib.hid (fun W (h : Ext wb W) => spec_l02Is C a n c b m d q W (HB.out.ext h) HI.out.hn HI.out.hn' HI.out.sm)
  have HK := Lib.hid (fun x W (h : Ext wb W) (hx : x.size ≤ 1048576) => spec_l02Checked C q a n c b m d x W (HB.out.ext h) HI.out.hn HI.out.hn' HI.out.sm hx)
  clear hv
  cases hval : validCh C with
  | false =>
    have HN := Lib.hid (show shoB C s = false by unfold shoB; rw [hval]; rfl)
    rw [hval] at HV
    clear hval HK
    go_enter Try.func43, Try.ntmps43
    go_wp2_with fail
    rw [← hwb, ← hq]
    clear hwb hq
    go_wp2_with (refine (HV.out _ (by repeat (first | (with_reducible exact Ext.refl _) | (with_reducible refine Ext.drewN ?_ _) | (with_reducible refine Ext.drew ?_) | (with_reducible refine Ext.alloc ?_ _) | ((with_reducible refine Ext.setCell ?_ ?_ _); rotate_left; focus (first | (simp; done) | (simp; omega) | omega)) | assumption | (with_reducible refine Ext.trans ?_ (by assumption))))).mono ?_; rintro e w1 ⟨rfl, hx1⟩)
    go_ret2
    exact RetTS.no HN.out (shoL_no HN.out) (hxa.trans (Ext.trans (by repeat (first | (with_reducible exact Ext.refl _) | (with_reducible refine Ext.drewN ?_ _) | (with_reducible refine Ext.drew ?_) | (with_reducible refine Ext.alloc ?_ _) | ((with_reducible refine Ext.setCell ?_ ?_ _); rotate_left; focus (first | (simp; done) | (simp; omega) | omega)) | assumption | (with_reducible refine Ext.trans ?_ (by assumption)))) hx1))
  | true =>
    rw [hval] at HV
    have hok := validCh_ok hval
    have hb2 := hok.b2
    have hb36 := hok.b36
    by_cases hsz : s.size = m + 1
    rotate_left
    · have HN := Lib.hid (show shoB C s = false by unfold shoB; rw [HPl, decide_eq_false hsz, Bool.and_false, Bool.and_false])
      have hne : ((s.size : Int) != (m : Int) + 1) = true := by simp; omega
      clear hval hok HK
      go_enter Try.func43, Try.ntmps43
      go_wp2_with fail
      rw [← hwb, ← hq]
      clear hwb hq
      go_wp2_with (refine (HV.out _ (by repeat (first | (with_reducible exact Ext.refl _) | (with_reducible refine Ext.drewN ?_ _) | (with_reducible refine Ext.drew ?_) | (with_reducible refine Ext.alloc ?_ _) | ((with_reducible refine Ext.setCell ?_ ?_ _); rotate_left; focus (first | (simp; done) | (simp; omega) | omega)) | assumption | (with_reducible refine Ext.trans ?_ (by assumption))))).mono ?_; rintro e w1 ⟨rfl, hy1⟩; have hx1 : Ext wb w1 := Ext.trans (by repeat (first | (with_reducible exact Ext.refl _) | (with_reducible refine Ext.drewN ?_ _) | (with_reducible refine Ext.drew ?_) | (with_reducible refine Ext.alloc ?_ _) | ((with_reducible refine Ext.setCell ?_ ?_ _); rotate_left; focus (first | (simp; done) | (simp; omega) | omega)) | assumption | (with_reducible refine Ext.trans ?_ (by assumption)))) hy1; clear hy1)
      go_ret2
      exact RetTS.no HN.out (shoL_no HN.out) (hxa.trans hx1)
    have hne : ((s.size : Int) != (m : Int) + 1) = false := by simp; omega
    have Hhsz := Lib.hid hsz; clear hsz
    cases hwd : wordB s.data.toList C.base 20 with
    | false =>
      have HN := Lib.hid (show shoB C s = false by unfold shoB; rw [hwd, Bool.false_and, Bool.and_false])
      rw [hwd] at HW
      clear hval hok HK hwd
      by_cases h20 : 20 < s.size
      · go_enter Try.func43, Try.ntmps43
        go_wp2_with fail
        rw [← hwb, ← hq]
        clear hwb hq
        go_wp2_with (refine (HV.out _ (by repeat (first | (with_reducible exact Ext.refl _) | (with_reducible refine Ext.drewN ?_ _) | (with_reducible refine Ext.drew ?_) | (with_reducible refine Ext.alloc ?_ _) | ((with_reducible refine Ext.setCell ?_ ?_ _); rotate_left; focus (first | (simp; done) | (simp; omega) | omega)) | assumption | (with_reducible refine Ext.trans ?_ (by assumption))))).mono ?_; rintro e w1 ⟨rfl, hy1⟩; have hx1 : Ext wb w1 := Ext.trans (by repeat (first | (with_reducible exact Ext.refl _) | (with_reducible refine Ext.drewN ?_ _) | (with_reducible refine Ext.drew ?_) | (with_reducible refine Ext.alloc ?_ _) | ((with_reducible refine Ext.setCell ?_ ?_ _); rotate_left; focus (first | (simp; done) | (simp; omega) | omega)) | assumption | (with_reducible refine Ext.trans ?_ (by assumption)))) hy1; clear hy1)
        go_ret2
        exact RetTS.no HN.out (shoL_no HN.out) (hxa.trans hx1)
      · go_enter Try.func43, Try.ntmps43
        go_wp2_with fail
        rw [← hwb, ← hq]
        clear hwb hq
        go_wp2_with (first | (go_at_call 85; refine (HV.out _ (by repeat (first | (with_reducible exact Ext.refl _) | (with_reducible refine Ext.drewN ?_ _) | (with_reducible refine Ext.drew ?_) | (with_reducible refine Ext.alloc ?_ _) | ((with_reducible refine Ext.setCell ?_ ?_ _); rotate_left; focus (first | (simp; done) | (simp; omega) | omega)) | assumption | (with_reducible refine Ext.trans ?_ (by assumption))))).mono ?_; rintro e w1 ⟨rfl, hy1⟩; have hx1 : Ext wb w1 := Ext.trans (by repeat (first | (with_reducible exact Ext.refl _) | (with_reducible refine Ext.drewN ?_ _) | (with_reducible refine Ext.drew ?_) | (with_reducible refine Ext.alloc ?_ _) | ((with_reducible refine Ext.setCell ?_ ?_ _); rotate_left; focus (first | (simp; done) | (simp; omega) | omega)) | assumption | (with_reducible refine Ext.trans ?_ (by assumption)))) hy1; clear hy1) | (go_at_call 86; refine (HW.out _ (by omega) (by omega)).mono ?_; rintro e w2 ⟨rfl, rfl⟩))
        go_ret2
        exact RetTS.no HN.out (shoL_no HN.out) (hxa.trans hx1)
    | true =>
      rw [hwd] at HW
      have hs20 := wordB_len hwd
      have hB : shoB C s = true := by unfold shoB; rw [hval, hwd, HPl, decide_eq_true Hhsz.out]; rfl
      have HBt := Lib.hid hB
      have HLt := Lib.hid (shoL_yes hB)
      clear hB hval hwd hok
      go_enter Try.func43, Try.ntmps43
      go_wp2_with fail
      rw [← hwb, ← hq]
      clear hwb hq
      go_wp2_with (first | (go_at_call 85; refine (HV.out _ (by repeat (first | (with_reducible exact Ext.refl _) | (with_reducible refine Ext.drewN ?_ _) | (with_reducible refine Ext.drew ?_) | (with_reducible refine Ext.alloc ?_ _) | ((with_reducible refine Ext.setCell ?_ ?_ _); rotate_left; focus (first | (simp; done) | (simp; omega) | omega)) | assumption | (with_reducible refine Ext.trans ?_ (by assumption))))).mono ?_; rintro e w1 ⟨rfl, hy1⟩; have hx1 : Ext wb w1 := Ext.trans (by repeat (first | (with_reducible exact Ext.refl _) | (with_reducible refine Ext.drewN ?_ _) | (with_reducible refine Ext.drew ?_) | (with_reducible refine Ext.alloc ?_ _) | ((with_reducible refine Ext.setCell ?_ ?_ _); rotate_left; focus (first | (simp; done) | (simp; omega) | omega)) | assumption | (with_reducible refine Ext.trans ?_ (by assumption)))) hy1; clear hy1) | (go_at_call 86; refine (HW.out _ (by omega) (by omega)).mono ?_; rintro e w2 ⟨rfl, rfl⟩))
      go_loopw [6, 7] (fun o ii wr => ∃ (i : Nat) (L : List ByteArray) (ad : Option Addr) (cc : Nat), i ≤ s.size ∧ ii = .int .i64 i ∧ o = .slice ad L.length cc ∧ Hid (L = putAll ((cutT s i).filter (chkB C))) ∧ L.length ≤ i ∧ Hid (Strs wr ad L.length cc L) ∧ Ext wb wr) (fun _ ii _ => s.size - (intOf ii).toNat)
      case atStart => exact ⟨0, [], _, _, Nat.zero_le _, rfl, rfl, rfl, Nat.le_refl _, (Own.lit0 _ 9).sl, (by repeat (first | (with_reducible exact Ext.refl _) | (with_reducible refine Ext.drewN ?_ _) | (with_reducible refine Ext.drew ?_) | (with_reducible refine Ext.alloc ?_ _) | ((with_reducible refine Ext.setCell ?_ ?_ _); rotate_left; focus (first | (simp; done) | (simp; omega) | omega)) | assumption | (with_reducible refine Ext.trans ?_ (by assumption))))⟩
      case round =>
        obtain ⟨i, L, ad, cc, hi, rfl, rfl, HLe, hLl, HS, hx⟩ := hrel
        have hrr : Ext wr wr := Ext.refl _
        by_cases hlt : i < s.size
        · have hcs := cutAt_size hlt
          have HCt := Lib.hid (show cutAt s i = s.extract 0 i ++ s.extract (i + 1) s.size from rfl)
          have HK1 := Lib.hid (fun W (h : Ext wb W) => HK.out (cutAt s i) W h (by omega))
          have HP := Lib.hid (fun W (h : Ext wr W) => spec_putTs ad L.length cc L (cutAt s i) W (Strs.ext HS.out h) (by omega))
          have HpL := putS_len (cutAt s i) L
          cases hck : chkB C (cutAt s i) with
          | false =>
            rw [hck] at HK1
            have HE := Lib.hid (show L = putAll ((cutT s (i + 1)).filter (chkB C)) by rw [cutT_step, putAll_skip _ _ _ hck, HLe.out])
            clear hck
            go_wp2
            (refine wp_region_up (by kernel_rfl) (by kernel_rfl) (by kernel_rfl) ?_; (repeat (first | (refine mix_q rfl ?_; go_big_quiet_step (fail); refine wpQuiet_nil ?_; show wpMix _ _ _ _ _ _ _) | (refine mix_s rfl ?_; go_wp2_with (fail); first | refine ⟨up_of (by repeat (first | (with_reducible exact Ext.refl _) | (with_reducible refine Ext.drewN ?_ _) | (with_reducible refine Ext.drew ?_) | (with_reducible refine Ext.alloc ?_ _) | ((with_reducible refine Ext.setCell ?_ ?_ _); rotate_left; focus (first | (simp; done) | (simp; omega) | omega)) | assumption | (with_reducible refine Ext.trans ?_ (by assumption)))), ?_⟩ | refine ⟨rfl, rfl, up_of (by repeat (first | (with_reducible exact Ext.refl _) | (with_reducible refine Ext.drewN ?_ _) | (with_reducible refine Ext.drew ?_) | (with_reducible refine Ext.alloc ?_ _) | ((with_reducible refine Ext.setCell ?_ ?_ _); rotate_left; focus (first | (simp; done) | (simp; omega) | omega)) | assumption | (with_reducible refine Ext.trans ?_ (by assumption)))), ?_⟩))); refine mix_nil ?_)
            go_wp2_with (rw [← HCt.out]; go_at_call 88; refine (HK1.out _ (hx.trans (by repeat (first | (with_reducible exact Ext.refl _) | (with_reducible refine Ext.drewN ?_ _) | (with_reducible refine Ext.drew ?_) | (with_reducible refine Ext.alloc ?_ _) | ((with_reducible refine Ext.setCell ?_ ?_ _); rotate_left; focus (first | (simp; done) | (simp; omega) | omega)) | assumption | (with_reducible refine Ext.trans ?_ (by assumption)))))).mono ?_; rintro e w3 ⟨rfl, hx3⟩)
            exact ⟨⟨i + 1, L, ad, cc, hlt, by go_num, rfl, HE.out, by omega, Strs.ext HS.out (Ext.trans (by repeat (first | (with_reducible exact Ext.refl _) | (with_reducible refine Ext.drewN ?_ _) | (with_reducible refine Ext.drew ?_) | (with_reducible refine Ext.alloc ?_ _) | ((with_reducible refine Ext.setCell ?_ ?_ _); rotate_left; focus (first | (simp; done) | (simp; omega) | omega)) | assumption | (with_reducible refine Ext.trans ?_ (by assumption)))) hx3), hx.trans (Ext.trans (by repeat (first | (with_reducible exact Ext.refl _) | (with_reducible refine Ext.drewN ?_ _) | (with_reducible refine Ext.drew ?_) | (with_reducible refine Ext.alloc ?_ _) | ((with_reducible refine Ext.setCell ?_ ?_ _); rotate_left; focus (first | (simp; done) | (simp; omega) | omega)) | assumption | (with_reducible refine Ext.trans ?_ (by assumption)))) hx3)⟩, by simp [intOf]; omega⟩
          | true =>
            rw [hck] at HK1
            have HE := Lib.hid (show putS L (cutAt s i) = putAll ((cutT s (i + 1)).filter (chkB C)) by rw [cutT_step, putAll_step _ _ _ hck, HLe.out])
            clear hck
            go_wp2
            (refine wp_region_up (by kernel_rfl) (by kernel_rfl) (by kernel_rfl) ?_; (repeat (first | (refine mix_q rfl ?_; go_big_quiet_step (fail); refine wpQuiet_nil ?_; show wpMix _ _ _ _ _ _ _) | (refine mix_s rfl ?_; go_wp2_with (fail); first | refine ⟨up_of (by repeat (first | (with_reducible exact Ext.refl _) | (with_reducible refine Ext.drewN ?_ _) | (with_reducible refine Ext.drew ?_) | (with_reducible refine Ext.alloc ?_ _) | ((with_reducible refine Ext.setCell ?_ ?_ _); rotate_left; focus (first | (simp; done) | (simp; omega) | omega)) | assumption | (with_reducible refine Ext.trans ?_ (by assumption)))), ?_⟩ | refine ⟨rfl, rfl, up_of (by repeat (first | (with_reducible exact Ext.refl _) | (with_reducible refine Ext.drewN ?_ _) | (with_reducible refine Ext.drew ?_) | (with_reducible refine Ext.alloc ?_ _) | ((with_reducible refine Ext.setCell ?_ ?_ _); rotate_left; focus (first | (simp; done) | (simp; omega) | omega)) | assumption | (with_reducible refine Ext.trans ?_ (by assumption)))), ?_⟩))); refine mix_nil ?_)
            go_wp2_with (first | (rw [← HCt.out]; go_at_call 88; refine (HK1.out _ (hx.trans (by repeat (first | (with_reducible exact Ext.refl _) | (with_reducible refine Ext.drewN ?_ _) | (with_reducible refine Ext.drew ?_) | (with_reducible refine Ext.alloc ?_ _) | ((with_reducible refine Ext.setCell ?_ ?_ _); rotate_left; focus (first | (simp; done) | (simp; omega) | omega)) | assumption | (with_reducible refine Ext.trans ?_ (by assumption)))))).mono ?_; rintro e w3 ⟨rfl, hy3⟩; have hx3 : Ext wr w3 := Ext.trans (by repeat (first | (with_reducible exact Ext.refl _) | (with_reducible refine Ext.drewN ?_ _) | (with_reducible refine Ext.drew ?_) | (with_reducible refine Ext.alloc ?_ _) | ((with_reducible refine Ext.setCell ?_ ?_ _); rotate_left; focus (first | (simp; done) | (simp; omega) | omega)) | assumption | (with_reducible refine Ext.trans ?_ (by assumption)))) hy3; clear hy3) | (go_at_call 89; refine (HP.out _ (hx3.trans (by repeat (first | (with_reducible exact Ext.refl _) | (with_reducible refine Ext.drewN ?_ _) | (with_reducible refine Ext.drew ?_) | (with_reducible refine Ext.alloc ?_ _) | ((with_reducible refine Ext.setCell ?_ ?_ _); rotate_left; focus (first | (simp; done) | (simp; omega) | omega)) | assumption | (with_reducible refine Ext.trans ?_ (by assumption)))))).mono ?_; rintro e w4 ⟨a4, c4, rfl, hs4, hy4⟩; have hx4 : Ext wr w4 := hx3.trans (Ext.trans (by repeat (first | (with_reducible exact Ext.refl _) | (with_reducible refine Ext.drewN ?_ _) | (with_reducible refine Ext.drew ?_) | (with_reducible refine Ext.alloc ?_ _) | ((with_reducible refine Ext.setCell ?_ ?_ _); rotate_left; focus (first | (simp; done) | (simp; omega) | omega)) | assumption | (with_reducible refine Ext.trans ?_ (by assumption)))) hy4); clear hy4))
            exact ⟨⟨i + 1, _, a4, c4, hlt, by go_num, rfl, HE.out, by omega, hs4, hx.trans hx4⟩, by simp [intOf]; omega⟩
        · obtain rfl : i = s.size := by omega
          have HF := Lib.hid (HLe.out.trans HLt.out.symm)
          go_wp2
          go_ret2
          rw [HBt.out]
          have h := HS.out
          rw [HF.out] at h ⊢
          exact ⟨ad, cc, rfl, h, hxa.trans hx⟩
set_option maxHeartbeats 4000000 in
theorem spec_Completions (C : Ch) (a : Option Addr) (n c : Nat) (b : Option Addr) (m d : Nat) (s : ByteArray) (w : World) (hv : ChIn w C a n c b m d) (hs : s.size ≤ 1048576) :
    Calls Try.prog 36 #[.agg #[.int .i64 C.base, .int .i64 C.states, .int .i64 C.start, .int .i64 C.fin, .slice a n c, .slice b m d], .string s] w (RetTS (cmpL C s) (cmpB C s) w) := by
  have HB := Lib.hid (hv.box 27)
  have HI := Lib.hid hv
  have HPl := hv.ps.len
  have hm1 := hv.hn'
  have hxa : Ext w (w.alloc (.cells #[.int .i64 C.base, .int .i64 C.states, .int .i64 C.start, .int .i64 C.fin, .slice a n c, .slice b m d] 27)) := (by repeat (first | (with_reducible exact Ext.refl _) | (with_reducible refine Ext.drewN ?_ _) | (with_reducible refine Ext.drew ?_) | (with_reducible refine Ext.alloc ?_ _) | ((with_reducible refine Ext.setCell ?_ ?_ _); rotate_left; focus (first | (simp; done) | (simp; omega) | omega)) | assumption | (with_reducible refine Ext.trans ?_ (by assumption))))
  have HW := Lib.hid (fun W (hb : -9223372036854775807 ≤ C.base) (hb2 : C.base ≤ 9223372036854775807) => spec_word s C.base W (by omega) hb hb2)
  obtain ⟨wb, hwb⟩ : ∃ wb, wb = w.alloc (.cells #[.int .i64 C.base, .int .i64 C.states, .int .i64 C.start, .int .i64 C.fin, .slice a n c, .slice b m d] 27) := ⟨_, rfl⟩
  rw [← hwb] at HB hxa
  obtain ⟨q, hq⟩ : ∃ q, q = w.heap.size := ⟨_, rfl⟩
  rw [← hq] at HB
  obtain ⟨k0, k1, k2, k3, k4, k5, _, _⟩ := HB.out
  have hbb : Ext wb wb := Ext.refl wb
  have HV := Lib.hid (fun W (h : Ext wb W) => spec_l02Is C a n c b m d q W (HB.out.ext h) HI.out.hn HI.out.hn' HI.out.sm)
  have HK := Lib.hid (fun x W (h : Ext wb W) (hx : x.size ≤ 1048576) => spec_l02Checked C q a n c b m d x W (HB.out.ext h) HI.out.hn HI.out.hn' HI.out.sm hx)
  clear hv
  cases hval : validCh C with
  | false =>
    have HN := Lib.hid (show cmpB C s = false by unfold cmpB; rw [hval]; rfl)
    rw [hval] at HV
    clear hval HK
    go_enter Try.func36, Try.ntmps36
    go_wp2_with fail
    rw [← hwb, ← hq]
    clear hwb hq
    go_wp2_with (refine (HV.out _ (by repeat (first | (with_reducible exact Ext.refl _) | (with_reducible refine Ext.drewN ?_ _) | (with_reducible refine Ext.drew ?_) | (with_reducible refine Ext.alloc ?_ _) | ((with_reducible refine Ext.setCell ?_ ?_ _); rotate_left; focus (first | (simp; done) | (simp; omega) | omega)) | assumption | (with_reducible refine Ext.trans ?_ (by assumption))))).mono ?_; rintro e w1 ⟨rfl, hx1⟩)
    go_ret2
    exact RetTS.no HN.out (cmpL_no HN.out) (hxa.trans (Ext.trans (by repeat (first | (with_reducible exact Ext.refl _) | (with_reducible refine Ext.drewN ?_ _) | (with_reducible refine Ext.drew ?_) | (with_reducible refine Ext.alloc ?_ _) | ((with_reducible refine Ext.setCell ?_ ?_ _); rotate_left; focus (first | (simp; done) | (simp; omega) | omega)) | assumption | (with_reducible refine Ext.trans ?_ (by assumption)))) hx1))
  | true =>
    rw [hval] at HV
    have hok := validCh_ok hval
    have hb2 := hok.b2
    have hb36 := hok.b36
    by_cases hsz : s.size + 1 = m
    rotate_left
    · have HN := Lib.hid (show cmpB C s = false by unfold cmpB; rw [HPl, decide_eq_false hsz, Bool.and_false, Bool.and_false])
      have hne : ((s.size : Int) + 1 != (m : Int)) = true := by simp; omega
      clear hval hok HK
      go_enter Try.func36, Try.ntmps36
      go_wp2_with fail
      rw [← hwb, ← hq]
      clear hwb hq
      go_wp2_with (refine (HV.out _ (by repeat (first | (with_reducible exact Ext.refl _) | (with_reducible refine Ext.drewN ?_ _) | (with_reducible refine Ext.drew ?_) | (with_reducible refine Ext.alloc ?_ _) | ((with_reducible refine Ext.setCell ?_ ?_ _); rotate_left; focus (first | (simp; done) | (simp; omega) | omega)) | assumption | (with_reducible refine Ext.trans ?_ (by assumption))))).mono ?_; rintro e w1 ⟨rfl, hy1⟩; have hx1 : Ext wb w1 := Ext.trans (by repeat (first | (with_reducible exact Ext.refl _) | (with_reducible refine Ext.drewN ?_ _) | (with_reducible refine Ext.drew ?_) | (with_reducible refine Ext.alloc ?_ _) | ((with_reducible refine Ext.setCell ?_ ?_ _); rotate_left; focus (first | (simp; done) | (simp; omega) | omega)) | assumption | (with_reducible refine Ext.trans ?_ (by assumption)))) hy1; clear hy1)
      go_ret2
      exact RetTS.no HN.out (cmpL_no HN.out) (hxa.trans hx1)
    have hne : ((s.size : Int) + 1 != (m : Int)) = false := by simp; omega
    have Hhsz := Lib.hid hsz; clear hsz
    cases hwd : wordB s.data.toList C.base 20 with
    | false =>
      have HN := Lib.hid (show cmpB C s = false by unfold cmpB; rw [hwd, Bool.false_and, Bool.and_false])
      rw [hwd] at HW
      have HWd := Lib.hid hwd
      clear hval hok HK hwd
      have hs0 : ¬ s.toList = [] := by
        intro h
        have h2 : s = ⟨#[]⟩ := bs_eq (by rw [h, ByteArray.toList_eq])
        have h3 := HWd.out
        rw [h2] at h3
        have h4 : wordB (⟨#[]⟩ : ByteArray).data.toList C.base 20 = true := wordB_yes rfl (inB_t.2 ⟨hb2, hb36⟩) (by simp)
        rw [h4] at h3; cases h3
      clear HWd
      go_enter Try.func36, Try.ntmps36
      go_wp2_with fail
      rw [← hwb, ← hq]
      clear hwb hq
      go_wp2_with (first | (go_at_call 85; refine (HV.out _ (by repeat (first | (with_reducible exact Ext.refl _) | (with_reducible refine Ext.drewN ?_ _) | (with_reducible refine Ext.drew ?_) | (with_reducible refine Ext.alloc ?_ _) | ((with_reducible refine Ext.setCell ?_ ?_ _); rotate_left; focus (first | (simp; done) | (simp; omega) | omega)) | assumption | (with_reducible refine Ext.trans ?_ (by assumption))))).mono ?_; rintro e w1 ⟨rfl, hy1⟩; have hx1 : Ext wb w1 := Ext.trans (by repeat (first | (with_reducible exact Ext.refl _) | (with_reducible refine Ext.drewN ?_ _) | (with_reducible refine Ext.drew ?_) | (with_reducible refine Ext.alloc ?_ _) | ((with_reducible refine Ext.setCell ?_ ?_ _); rotate_left; focus (first | (simp; done) | (simp; omega) | omega)) | assumption | (with_reducible refine Ext.trans ?_ (by assumption)))) hy1; clear hy1) | (go_at_call 86; refine (HW.out _ (by omega) (by omega)).mono ?_; rintro e w2 ⟨rfl, rfl⟩))
      all_goals first | (go_ret2; exact RetTS.no HN.out (cmpL_no HN.out) (hxa.trans hx1)) | (exact absurd (by simpa using ‹(!s.toList.isEmpty) = false›) hs0)
    | true =>
      rw [hwd] at HW
      have hs20 := wordB_len hwd
      have hB : cmpB C s = true := by unfold cmpB; rw [hval, hwd, HPl, decide_eq_true Hhsz.out]; rfl
      have HBt := Lib.hid hB
      have HLt := Lib.hid (cmpL_yes hB)
      obtain ⟨bN, hbN⟩ := Int.eq_ofNat_of_zero_le (show 0 ≤ C.base by omega)
      have hbn : C.base.toNat = bN := by omega
      rw [hbn] at HLt
      rw [hbN] at k0 HW
      have HBn := Lib.hid hbN
      have hbN36 : 2 ≤ bN ∧ bN ≤ 36 := by omega
      clear hB hval hwd hok hbn hb2 hb36
      clear hbN
      by_cases he : s.toList = []
      all_goals
        go_enter Try.func36, Try.ntmps36
        go_wp2_with fail
        rw [← hwb, ← hq]
        clear hwb hq
        go_wp2_with (first | (go_at_call 85; refine (HV.out _ (by repeat (first | (with_reducible exact Ext.refl _) | (with_reducible refine Ext.drewN ?_ _) | (with_reducible refine Ext.drew ?_) | (with_reducible refine Ext.alloc ?_ _) | ((with_reducible refine Ext.setCell ?_ ?_ _); rotate_left; focus (first | (simp; done) | (simp; omega) | omega)) | assumption | (with_reducible refine Ext.trans ?_ (by assumption))))).mono ?_; rintro e w1 ⟨rfl, hy1⟩; have hx1 : Ext wb w1 := Ext.trans (by repeat (first | (with_reducible exact Ext.refl _) | (with_reducible refine Ext.drewN ?_ _) | (with_reducible refine Ext.drew ?_) | (with_reducible refine Ext.alloc ?_ _) | ((with_reducible refine Ext.setCell ?_ ?_ _); rotate_left; focus (first | (simp; done) | (simp; omega) | omega)) | assumption | (with_reducible refine Ext.trans ?_ (by assumption)))) hy1; clear hy1) | (go_at_call 86; refine (HW.out _ (by omega) (by omega)).mono ?_; rintro e w2 ⟨rfl, rfl⟩))
        clear he
        have HLb := Lib.hid (fun (k : Nat) (h : k ≤ s.size + 1) => show k * bN ≤ 1000 from Nat.le_trans (Nat.mul_le_mul h hbN36.2) (by omega))
        go_loopw [6, 7] (fun o ii wr => ∃ (i : Nat) (L : List ByteArray) (ad : Option Addr) (cc : Nat), i ≤ s.size + 1 ∧ ii = .int .i64 i ∧ o = .slice ad L.length cc ∧ Hid (L = putAll ((insT s bN i).filter (chkB C))) ∧ Hid (L.length ≤ i * bN) ∧ Hid (Strs wr ad L.length cc L) ∧ Ext wb wr) (fun _ ii _ => s.size + 1 - (intOf ii).toNat)
        case atStart => exact ⟨0, [], _, _, Nat.zero_le _, rfl, rfl, rfl, Nat.zero_le _, (Own.lit0 _ 9).sl, (by repeat (first | (with_reducible exact Ext.refl _) | (with_reducible refine Ext.drewN ?_ _) | (with_reducible refine Ext.drew ?_) | (with_reducible refine Ext.alloc ?_ _) | ((with_reducible refine Ext.setCell ?_ ?_ _); rotate_left; focus (first | (simp; done) | (simp; omega) | omega)) | assumption | (with_reducible refine Ext.trans ?_ (by assumption))))⟩
        case round =>
          obtain ⟨i, L, ad, cc, hi, rfl, rfl, HLe, HLl, HS, hx⟩ := hrel
          by_cases hlt : i < s.size + 1
          · have hlt2 : i ≤ s.size := by omega
            have hlb := HLb.out (i + 1) (by omega)
            have HMl := Lib.hid (show (i + 1) * bN = i * bN + bN from Nat.succ_mul i bN)
            rw [HMl.out] at hlb
            obtain ⟨p, hp⟩ : ∃ p, p = i * bN := ⟨_, rfl⟩
            rw [← hp] at HLl hlb HMl
            clear hp
            obtain ⟨wo, hwo⟩ : ∃ wo, wo = wr := ⟨_, rfl⟩
            subst hwo
            go_wp2_with fail
            have hdt : decide ((i : Int) ≤ (s.size : Int)) = true := decide_eq_true (by omega)
            try rw [hdt]
            clear hdt
            go_loopw [6, 8] (fun o dd wr => ∃ (d : Nat) (M : List ByteArray) (ad : Option Addr) (cc : Nat), d ≤ bN ∧ dd = .int .i64 d ∧ o = .slice ad M.length cc ∧ Hid (M = putAll ((insT s bN i ++ insRow s d i).filter (chkB C))) ∧ M.length ≤ p + d ∧ Hid (Strs wr ad M.length cc M) ∧ Ext wb wr) (fun _ dd _ => bN - (intOf dd).toNat)
            case atStart => exact ⟨0, L, ad, cc, Nat.zero_le _, rfl, rfl, by rw [Hid]; simp only [insRow, List.range_zero, List.map_nil, List.append_nil]; exact HLe.out, HLl.out, HS.out, hx⟩
            case round =>
              obtain ⟨d', M, ad2, cc2, hd, rfl, rfl, HMe, hMl, HS2, hx2⟩ := hrel
              have hrr : Ext wr wr := Ext.refl _
              by_cases hltd : d' < bN
              · have hcs := insAt_size (s := s) hlt2 (d' : Int)
                have HCt := Lib.hid (show insAt s i d' = s.extract 0 i ++ textOf [(d' : Int)] ++ s.extract i s.size from rfl)
                have HK1 := Lib.hid (fun W (h : Ext wb W) => HK.out (insAt s i d') W h (by omega))
                have HP := Lib.hid (fun W (h : Ext wr W) => spec_putTs ad2 M.length cc2 M (insAt s i d') W (Strs.ext HS2.out h) (by omega))
                have HpL := putS_len (insAt s i d') M
                have HSy := Lib.hid (fun W => spec_symbol (d' : Int) W (by omega) (by omega))
                have hcv := fun W => sym_bytesD (d' : Int) W
                have hts : (textOf [(d' : Int)]).size = 1 := textOf_size _
                have HIs : Hid (∀ x, (insT s bN i ++ insRow s (d' + 1) i) = x → x = (insT s bN i ++ insRow s d' i) ++ [insAt s i d']) := Lib.hid fun x hx => by rw [← hx, insRow_step, List.append_assoc]
                cases hck : chkB C (insAt s i d') with
                | false =>
                  rw [hck] at HK1
                  have HE := Lib.hid (show M = putAll ((insT s bN i ++ insRow s (d' + 1) i).filter (chkB C)) by rw [HIs.out _ rfl, putAll_skip _ _ _ hck, HMe.out])
                  clear hck
                  go_wp2
                  (refine wp_region_fromC (D := [51]) wr (by repeat (first | (with_reducible exact Ext.refl _) | (with_reducible refine Ext.drewN ?_ _) | (with_reducible refine Ext.drew ?_) | (with_reducible refine Ext.alloc ?_ _) | ((with_reducible refine Ext.setCell ?_ ?_ _); rotate_left; focus (first | (simp; done) | (simp; omega) | omega)) | assumption | (with_reducible refine Ext.trans ?_ (by assumption)))) (by kernel_rfl) (by kernel_rfl) (by kernel_rfl) ?_; (repeat (first | (refine mixc_q rfl ?_; go_big_quiet_step (fail); refine wpQuiet_nil ?_; show wpMixC _ _ _ _ _ _ _ _) | (refine mixc_s rfl ?_; go_wp2_with ((go_at_call 87; refine (HSy.out _).mono ?_; rintro e w3 ⟨rfl, rfl⟩)); first | refine ⟨up_of (by repeat (first | (with_reducible exact Ext.refl _) | (with_reducible refine Ext.drewN ?_ _) | (with_reducible refine Ext.drew ?_) | (with_reducible refine Ext.alloc ?_ _) | ((with_reducible refine Ext.setCell ?_ ?_ _); rotate_left; focus (first | (simp; done) | (simp; omega) | omega)) | assumption | (with_reducible refine Ext.trans ?_ (by assumption)))), ?_⟩ | refine ⟨rfl, rfl, up_of (by repeat (first | (with_reducible exact Ext.refl _) | (with_reducible refine Ext.drewN ?_ _) | (with_reducible refine Ext.drew ?_) | (with_reducible refine Ext.alloc ?_ _) | ((with_reducible refine Ext.setCell ?_ ?_ _); rotate_left; focus (first | (simp; done) | (simp; omega) | omega)) | assumption | (with_reducible refine Ext.trans ?_ (by assumption)))), ?_⟩))); refine mixc_nil ?_)
                  rw [← HCt.out]
                  go_wp2_with (go_at_call 88; refine (HK1.out _ (hx2.trans (by repeat (first | (with_reducible exact Ext.refl _) | (with_reducible refine Ext.drewN ?_ _) | (with_reducible refine Ext.drew ?_) | (with_reducible refine Ext.alloc ?_ _) | ((with_reducible refine Ext.setCell ?_ ?_ _); rotate_left; focus (first | (simp; done) | (simp; omega) | omega)) | assumption | (with_reducible refine Ext.trans ?_ (by assumption)))))).mono ?_; rintro e w4 ⟨rfl, hx4⟩)
                  exact ⟨⟨d' + 1, M, ad2, cc2, hltd, by go_num, rfl, HE.out, by omega, Strs.ext HS2.out (Ext.trans (by repeat (first | (with_reducible exact Ext.refl _) | (with_reducible refine Ext.drewN ?_ _) | (with_reducible refine Ext.drew ?_) | (with_reducible refine Ext.alloc ?_ _) | ((with_reducible refine Ext.setCell ?_ ?_ _); rotate_left; focus (first | (simp; done) | (simp; omega) | omega)) | assumption | (with_reducible refine Ext.trans ?_ (by assumption)))) hx4), hx2.trans (Ext.trans (by repeat (first | (with_reducible exact Ext.refl _) | (with_reducible refine Ext.drewN ?_ _) | (with_reducible refine Ext.drew ?_) | (with_reducible refine Ext.alloc ?_ _) | ((with_reducible refine Ext.setCell ?_ ?_ _); rotate_left; focus (first | (simp; done) | (simp; omega) | omega)) | assumption | (with_reducible refine Ext.trans ?_ (by assumption)))) hx4)⟩, by simp [intOf]; omega⟩
                | true =>
                  rw [hck] at HK1
                  have HE := Lib.hid (show putS M (insAt s i d') = putAll ((insT s bN i ++ insRow s (d' + 1) i).filter (chkB C)) by rw [HIs.out _ rfl, putAll_step _ _ _ hck, HMe.out])
                  clear hck
                  go_wp2
                  (refine wp_region_fromC (D := [51]) wr (by repeat (first | (with_reducible exact Ext.refl _) | (with_reducible refine Ext.drewN ?_ _) | (with_reducible refine Ext.drew ?_) | (with_reducible refine Ext.alloc ?_ _) | ((with_reducible refine Ext.setCell ?_ ?_ _); rotate_left; focus (first | (simp; done) | (simp; omega) | omega)) | assumption | (with_reducible refine Ext.trans ?_ (by assumption)))) (by kernel_rfl) (by kernel_rfl) (by kernel_rfl) ?_; (repeat (first | (refine mixc_q rfl ?_; go_big_quiet_step (fail); refine wpQuiet_nil ?_; show wpMixC _ _ _ _ _ _ _ _) | (refine mixc_s rfl ?_; go_wp2_with ((go_at_call 87; refine (HSy.out _).mono ?_; rintro e w3 ⟨rfl, rfl⟩)); first | refine ⟨up_of (by repeat (first | (with_reducible exact Ext.refl _) | (with_reducible refine Ext.drewN ?_ _) | (with_reducible refine Ext.drew ?_) | (with_reducible refine Ext.alloc ?_ _) | ((with_reducible refine Ext.setCell ?_ ?_ _); rotate_left; focus (first | (simp; done) | (simp; omega) | omega)) | assumption | (with_reducible refine Ext.trans ?_ (by assumption)))), ?_⟩ | refine ⟨rfl, rfl, up_of (by repeat (first | (with_reducible exact Ext.refl _) | (with_reducible refine Ext.drewN ?_ _) | (with_reducible refine Ext.drew ?_) | (with_reducible refine Ext.alloc ?_ _) | ((with_reducible refine Ext.setCell ?_ ?_ _); rotate_left; focus (first | (simp; done) | (simp; omega) | omega)) | assumption | (with_reducible refine Ext.trans ?_ (by assumption)))), ?_⟩))); refine mixc_nil ?_)
                  rw [← HCt.out]
                  go_wp2_with (first | (go_at_call 88; refine (HK1.out _ (hx2.trans (by repeat (first | (with_reducible exact Ext.refl _) | (with_reducible refine Ext.drewN ?_ _) | (with_reducible refine Ext.drew ?_) | (with_reducible refine Ext.alloc ?_ _) | ((with_reducible refine Ext.setCell ?_ ?_ _); rotate_left; focus (first | (simp; done) | (simp; omega) | omega)) | assumption | (with_reducible refine Ext.trans ?_ (by assumption)))))).mono ?_; rintro e w4 ⟨rfl, hy4⟩; have hx4 : Ext wr w4 := Ext.trans (by repeat (first | (with_reducible exact Ext.refl _) | (with_reducible refine Ext.drewN ?_ _) | (with_reducible refine Ext.drew ?_) | (with_reducible refine Ext.alloc ?_ _) | ((with_reducible refine Ext.setCell ?_ ?_ _); rotate_left; focus (first | (simp; done) | (simp; omega) | omega)) | assumption | (with_reducible refine Ext.trans ?_ (by assumption)))) hy4; clear hy4) | (go_at_call 89; refine (HP.out _ (hx4.trans (by repeat (first | (with_reducible exact Ext.refl _) | (with_reducible refine Ext.drewN ?_ _) | (with_reducible refine Ext.drew ?_) | (with_reducible refine Ext.alloc ?_ _) | ((with_reducible refine Ext.setCell ?_ ?_ _); rotate_left; focus (first | (simp; done) | (simp; omega) | omega)) | assumption | (with_reducible refine Ext.trans ?_ (by assumption)))))).mono ?_; rintro e w5 ⟨a5, c5, rfl, hs5, hy5⟩; have hx5 : Ext wr w5 := hx4.trans (Ext.trans (by repeat (first | (with_reducible exact Ext.refl _) | (with_reducible refine Ext.drewN ?_ _) | (with_reducible refine Ext.drew ?_) | (with_reducible refine Ext.alloc ?_ _) | ((with_reducible refine Ext.setCell ?_ ?_ _); rotate_left; focus (first | (simp; done) | (simp; omega) | omega)) | assumption | (with_reducible refine Ext.trans ?_ (by assumption)))) hy5); clear hy5))
                  exact ⟨⟨d' + 1, _, a5, c5, hltd, by go_num, rfl, HE.out, by omega, hs5, hx2.trans hx5⟩, by simp [intOf]; omega⟩
              · obtain rfl : d' = bN := by omega
                go_wp2
                exact ⟨⟨i + 1, M, ad2, cc2, by omega, by go_num, rfl, by rw [Hid, insT_step]; exact HMe.out, by rw [Hid, HMl.out]; exact hMl, HS2.out, hx2⟩, by simp [intOf]; omega⟩
          · obtain rfl : i = s.size + 1 := by omega
            have HF := Lib.hid (HLe.out.trans HLt.out.symm)
            go_wp2
            go_ret2
            rw [HBt.out]
            have h := HS.out
            rw [HF.out] at h ⊢
            exact ⟨ad, cc, rfl, h, hxa.trans hx⟩
end Go.Proofs.Ytcdoanookiimaaa

/- How long the lists of completions and shortenings are. -/
namespace Go.Proofs.Ytcdoanookiimaaa
theorem tslenCompletionsOf {C : Ch} {s : ByteArray} (_h : SmallCh C) (_h2 : chSize C ≤ 1048576) : (cmpL C s).length ≤ 1048576 := cmpL_len C s
theorem tslenShorteningsOf {C : Ch} {s : ByteArray} (_h : SmallCh C) (_h2 : chSize C ≤ 1048576) : (shoL C s).length ≤ 1048576 := shoL_len C s
end Go.Proofs.Ytcdoanookiimaaa
