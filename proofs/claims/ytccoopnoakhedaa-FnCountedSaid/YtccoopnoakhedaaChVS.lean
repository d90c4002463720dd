/- Walks: which chains are valid. -/
import Derived.Test.YtccoopnoakhedaaCh
import Derived.Test.YtccoopnoakhedaaPow
import Derived.Test.YtccoopnoakhedaaMix2
namespace Go.Proofs.Ytccoopnoakhedaa
set_option maxRecDepth 100000
open Go.RowKit

def rowCh (D : Ch) (r : List Int) : Bool := decide ((r.length : Int) = D.base) && r.all fun x => inB x 0 (D.states - 1)
def tabCh (D : Ch) (t : List (List Int)) : Bool := decide ((t.length : Int) = D.states) && t.all (rowCh D)
def tabsCh (D : Ch) : Bool := D.tabs.all (tabCh D)
def placesCh (D : Ch) : Bool := D.places.all fun x => inB x 0 ((D.tabs.length : Int) - 1)
def powCh (D : Ch) : Bool := decide (D.base ^ D.places.length ≤ 1000000000000000)
def headCh (D : Ch) : Bool := inB D.base 2 36 && (inB D.states 1 36 && (inB D.start 0 (D.states - 1) && (inB D.fin 0 (D.states - 1) && (inB D.tabs.length 1 20 && inB D.places.length 1 20))))
def validCh (D : Ch) : Bool := headCh D && (powCh D && (tabsCh D && placesCh D))
theorem all_noG {α : Type} {p : α → Bool} {l : List α} {k : Nat} {d : α} (hk : k < l.length) (h : p (l.getD k d) = false) : l.all p = false := by
  rw [List.all_eq_false]; exact ⟨_, getD_mem l d k hk, by rw [h]; simp⟩
theorem all_stepG {α : Type} {p : α → Bool} {l : List α} {k : Nat} {d : α} (hk : k < l.length) (h : p (l.getD k d) = true) (hp : (l.take k).all p = true) : (l.take (k + 1)).all p = true := by
  rw [take_snoc l d k hk, List.all_append, hp]; simp only [List.all_cons, List.all_nil, h, Bool.and_true]
theorem validCh_ok {D : Ch} (h : validCh D = true) : OkCh D := by
  unfold validCh headCh powCh tabsCh placesCh at h
  simp only [Bool.and_eq_true, List.all_eq_true, decide_eq_true_eq, inB_t] at h
  obtain ⟨⟨⟨h1, h2⟩, ⟨h3, h4⟩, ⟨h5, h6⟩, ⟨h7, h8⟩, ⟨h9, h10⟩, h11, h12⟩, hp, ht, hq⟩ := h
  have tb : ∀ t, t < D.tabs.length → tabCh D (gm D.tabs t) = true := fun t hk => ht _ (gm_mem hk)
  have tb' : ∀ t, t < D.tabs.length → ((gm D.tabs t).length : Int) = D.states ∧ ∀ r ∈ gm D.tabs t, rowCh D r = true := fun t hk => by
    have := tb t hk
    unfold tabCh at this
    simp only [Bool.and_eq_true, List.all_eq_true, decide_eq_true_eq] at this
    exact this
  have rb' : ∀ t, t < D.tabs.length → ∀ x, x < (gm D.tabs t).length → ((gl (gm D.tabs t) x).length : Int) = D.base ∧ ∀ d ∈ gl (gm D.tabs t) x, inB d 0 (D.states - 1) = true := fun t hk x hx => by
    have := (tb' t hk).2 _ (gl_mem hx)
    unfold rowCh at this
    simp only [Bool.and_eq_true, List.all_eq_true, decide_eq_true_eq] at this
    exact this
  exact ⟨h1, h2, h3, h4, h5, by omega, h7, by omega, by omega, by omega, by omega, by omega, hp, fun t hk => (tb' t hk).1, fun t hk x hx => (rb' t hk x hx).1,
    fun t hk x hx d hd => by have := inB_t.1 ((rb' t hk x hx).2 d hd); omega, fun k hk => by have := hq k hk; omega⟩
/-- no table is too large -/
def SmallCh (D : Ch) : Prop := ∀ t ∈ D.tabs, t.length ≤ 1048576 ∧ ∀ r ∈ t, r.length ≤ 1048576
theorem SmallCh.tab {D : Ch} (h : SmallCh D) {t : Nat} (ht : t < D.tabs.length) : (gm D.tabs t).length ≤ 1048576 := (h _ (gm_mem ht)).1
theorem SmallCh.row {D : Ch} (h : SmallCh D) {t x : Nat} (ht : t < D.tabs.length) (hx : x < (gm D.tabs t).length) : (gl (gm D.tabs t) x).length ≤ 1048576 := (h _ (gm_mem ht)).2 _ (gl_mem hx)
theorem valid1 (x s : Int) (q : Nat) (w : World) (hc : w.cell? ⟨q, 1, none⟩ = some (.int .i64 s)) (h1 : 1 ≤ s) (h2 : s ≤ 36) :
    Calls Try.prog 39 (#[.int .i64 x] ++ #[.pointer (some ⟨q, 0, none⟩)]) w (Ret (.bool (!inB x 0 (s - 1))) w) := by
  go_enter Try.func39, Try.ntmps39
  go_wp2_with (go_at_call 23; refine (impl_in _ _ _ _).mono ?_; rintro e w' ⟨rfl, rfl⟩)
  go_ret
  exact ⟨rfl, Ext.refl _⟩
theorem valid2 (x : Int) (a : Option Addr) (n c q : Nat) (w : World) (hc : w.cell? ⟨q, 4, none⟩ = some (.slice a n c)) (h2 : n ≤ 1048576) :
    Calls Try.prog 40 (#[.int .i64 x] ++ #[.pointer (some ⟨q, 0, none⟩)]) w (Ret (.bool (!inB x 0 ((n : Int) - 1))) w) := by
  go_enter Try.func40, Try.ntmps40
  go_wp2_with (go_at_call 23; refine (impl_in _ _ _ _).mono ?_; rintro e w' ⟨rfl, rfl⟩)
  go_ret
  exact ⟨rfl, Ext.refl _⟩
theorem any_not_allI (l : List Int) (p : Int → Bool) : (!(l.any fun x => !p x)) = l.all p := by
  simp [List.all_eq_not_any_not]
theorem min_step {p b M : Int} (_hp : 1 ≤ p) (hb : 2 ≤ b) (hM : 0 ≤ M) : min (min p (M + 1) * b) (M + 1) = min (p * b) (M + 1) := by
  rcases Int.le_total p (M + 1) with h | h
  · rw [Int.min_eq_left h]
  · rw [Int.min_eq_right h]
    have h1 : (M + 1) * 1 ≤ (M + 1) * b := Int.mul_le_mul_of_nonneg_left (by omega) (by omega)
    have h2 : (M + 1) * b ≤ p * b := Int.mul_le_mul_of_nonneg_right h (by omega)
    omega
theorem min_bd {p b M : Int} (hp : 1 ≤ p) (hb : 2 ≤ b) (hb2 : b ≤ 36) (hM : 0 ≤ M) : 1 ≤ min p (M + 1) * b ∧ min p (M + 1) * b ≤ (M + 1) * 36 := by
  have h1 : 1 ≤ min p (M + 1) := by omega
  have h2 : min p (M + 1) ≤ M + 1 := by omega
  have h3 : min p (M + 1) * b ≤ (M + 1) * 36 := Int.mul_le_mul h2 hb2 (by omega) (by omega)
  have h4 : min p (M + 1) * 1 ≤ min p (M + 1) * b := Int.mul_le_mul_of_nonneg_left (by omega) (by omega)
  omega
theorem pow_pos' {b : Int} (hb : 2 ≤ b) (k : Nat) : 1 ≤ b ^ k := Int.pow_pos (by omega)
set_option maxHeartbeats 4000000 in
theorem impl_ValidChain (D : Ch) (a : Option Addr) (n c : Nat) (a' : Option Addr) (n' c' : Nat) (w : World) (ht : Cube w a n c D.tabs) (hp : Ints w a' n' c' D.places) (hn : n ≤ 1048576) (hn' : n' ≤ 1048576) (hsm : SmallCh D) :
    Calls Try.prog 18 #[.agg #[.int .i64 D.base, .int .i64 D.states, .int .i64 D.start, .int .i64 D.fin, .slice a n c, .slice a' n' c']] w (Ret (.bool (validCh D)) w) := by
  have HL := Lib.hid ht.len
  have HP := Lib.hid hp.len
  have HB := Lib.hid (ch_box w D a n c a' n' c' 27 ht hp)
  have Hht := Lib.hid ht; clear ht; have Hhp := Lib.hid hp; clear hp; have Hhsm := Lib.hid hsm; clear hsm
  cases e0 : inB D.base 2 36
  · have HF := Lib.hid (show validCh D = false by unfold validCh headCh; rw [HL.out, HP.out]; simp only [e0, Bool.false_and])
    go_enter Try.func18, Try.ntmps18
    go_wp2_with (first | ((with_reducible refine (impl_base _ _).mono ?_); unfold baseB; rintro e w1 ⟨rfl, rfl⟩) | (go_at_call 23; refine (impl_in _ _ _ _).mono ?_; rintro e w' ⟨rfl, rfl⟩))
    go_ret
    exact ⟨rb HF.out.symm, (by repeat (first | (with_reducible exact Ext.refl _) | (with_reducible refine Ext.drewN ?_ _) | (with_reducible refine Ext.drew ?_) | (with_reducible refine Ext.alloc ?_ _) | ((with_reducible refine Ext.setCell ?_ ?_ _); rotate_left; focus (first | (simp; done) | (simp; omega) | omega)) | assumption | (with_reducible refine Ext.trans ?_ (by assumption))))⟩
  cases e1 : inB D.states 1 36
  · have HF := Lib.hid (show validCh D = false by unfold validCh headCh; rw [HL.out, HP.out]; simp only [e0, e1, Bool.false_and, Bool.and_false])
    go_enter Try.func18, Try.ntmps18
    go_wp2_with (first | ((with_reducible refine (impl_base _ _).mono ?_); unfold baseB; rintro e w1 ⟨rfl, rfl⟩) | (go_at_call 23; refine (impl_in _ _ _ _).mono ?_; rintro e w' ⟨rfl, rfl⟩))
    go_ret
    exact ⟨rb HF.out.symm, (by repeat (first | (with_reducible exact Ext.refl _) | (with_reducible refine Ext.drewN ?_ _) | (with_reducible refine Ext.drew ?_) | (with_reducible refine Ext.alloc ?_ _) | ((with_reducible refine Ext.setCell ?_ ?_ _); rotate_left; focus (first | (simp; done) | (simp; omega) | omega)) | assumption | (with_reducible refine Ext.trans ?_ (by assumption))))⟩
  obtain ⟨s1, s36⟩ := inB_t.1 e1
  cases e2 : inB D.start 0 (D.states - 1)
  · have HF := Lib.hid (show validCh D = false by unfold validCh headCh; rw [HL.out, HP.out]; simp only [e0, e1, e2, Bool.false_and, Bool.and_false])
    go_enter Try.func18, Try.ntmps18
    go_wp2_with (first | ((with_reducible refine (impl_base _ _).mono ?_); unfold baseB; rintro e w1 ⟨rfl, rfl⟩) | (go_at_call 23; refine (impl_in _ _ _ _).mono ?_; rintro e w' ⟨rfl, rfl⟩))
    go_ret
    exact ⟨rb HF.out.symm, (by repeat (first | (with_reducible exact Ext.refl _) | (with_reducible refine Ext.drewN ?_ _) | (with_reducible refine Ext.drew ?_) | (with_reducible refine Ext.alloc ?_ _) | ((with_reducible refine Ext.setCell ?_ ?_ _); rotate_left; focus (first | (simp; done) | (simp; omega) | omega)) | assumption | (with_reducible refine Ext.trans ?_ (by assumption))))⟩
  cases e3 : inB D.fin 0 (D.states - 1)
  · have HF := Lib.hid (show validCh D = false by unfold validCh headCh; rw [HL.out, HP.out]; simp only [e0, e1, e2, e3, Bool.false_and, Bool.and_false])
    go_enter Try.func18, Try.ntmps18
    go_wp2_with (first | ((with_reducible refine (impl_base _ _).mono ?_); unfold baseB; rintro e w1 ⟨rfl, rfl⟩) | (go_at_call 23; refine (impl_in _ _ _ _).mono ?_; rintro e w' ⟨rfl, rfl⟩))
    go_ret
    exact ⟨rb HF.out.symm, (by repeat (first | (with_reducible exact Ext.refl _) | (with_reducible refine Ext.drewN ?_ _) | (with_reducible refine Ext.drew ?_) | (with_reducible refine Ext.alloc ?_ _) | ((with_reducible refine Ext.setCell ?_ ?_ _); rotate_left; focus (first | (simp; done) | (simp; omega) | omega)) | assumption | (with_reducible refine Ext.trans ?_ (by assumption))))⟩
  cases e4 : inB n 1 20
  · have HF := Lib.hid (show validCh D = false by unfold validCh headCh; rw [HL.out, HP.out]; simp only [e0, e1, e2, e3, e4, Bool.false_and, Bool.and_false])
    go_enter Try.func18, Try.ntmps18
    go_wp2_with (first | ((with_reducible refine (impl_base _ _).mono ?_); unfold baseB; rintro e w1 ⟨rfl, rfl⟩) | (go_at_call 23; refine (impl_in _ _ _ _).mono ?_; rintro e w' ⟨rfl, rfl⟩))
    go_ret
    exact ⟨rb HF.out.symm, (by repeat (first | (with_reducible exact Ext.refl _) | (with_reducible refine Ext.drewN ?_ _) | (with_reducible refine Ext.drew ?_) | (with_reducible refine Ext.alloc ?_ _) | ((with_reducible refine Ext.setCell ?_ ?_ _); rotate_left; focus (first | (simp; done) | (simp; omega) | omega)) | assumption | (with_reducible refine Ext.trans ?_ (by assumption))))⟩
  obtain ⟨n1, n20⟩ := inB_t.1 e4
  cases e5 : inB n' 1 20
  · have HF := Lib.hid (show validCh D = false by unfold validCh headCh; rw [HL.out, HP.out]; simp only [e0, e1, e2, e3, e4, e5, Bool.false_and, Bool.and_false])
    go_enter Try.func18, Try.ntmps18
    go_wp2_with (first | ((with_reducible refine (impl_base _ _).mono ?_); unfold baseB; rintro e w1 ⟨rfl, rfl⟩) | (go_at_call 23; refine (impl_in _ _ _ _).mono ?_; rintro e w' ⟨rfl, rfl⟩))
    go_ret
    exact ⟨rb HF.out.symm, (by repeat (first | (with_reducible exact Ext.refl _) | (with_reducible refine Ext.drewN ?_ _) | (with_reducible refine Ext.drew ?_) | (with_reducible refine Ext.alloc ?_ _) | ((with_reducible refine Ext.setCell ?_ ?_ _); rotate_left; focus (first | (simp; done) | (simp; omega) | omega)) | assumption | (with_reducible refine Ext.trans ?_ (by assumption))))⟩
  obtain ⟨p1, p20⟩ := inB_t.1 e5
  obtain ⟨b2, b36⟩ := inB_t.1 e0
  have HH := Lib.hid (show headCh D = true by unfold headCh; rw [HL.out, HP.out, e0, e1, e2, e3, e4, e5]; rfl)
  have HV := Lib.hid (show validCh D = (decide (D.base ^ n' ≤ 1000000000000000) && (tabsCh D && placesCh D)) by rw [validCh, HH.out, powCh, HP.out]; rfl)
  have HPw := Lib.hid (fun W => impl_power D.base 1000000000000000 n' W b2 (by omega) (by omega) (by omega) (by omega))
  by_cases hpw : D.base ^ n' ≤ 1000000000000000
  rotate_left
  · rw [show decide (D.base ^ n' ≤ 1000000000000000) = false by simpa using hpw] at HV HPw
    clear hpw
    go_enter Try.func18, Try.ntmps18
    go_wp2_with (first | ((with_reducible refine (impl_base _ _).mono ?_); unfold baseB; rintro e w1 ⟨rfl, rfl⟩) | (go_at_call 23; refine (impl_in _ _ _ _).mono ?_; rintro e w' ⟨rfl, rfl⟩) | ((with_reducible refine (HPw.out _).mono ?_); rintro e w1 ⟨rfl, rfl⟩))
    go_ret
    exact ⟨rb (by rw [HV.out]; rfl), (by repeat (first | (with_reducible exact Ext.refl _) | (with_reducible refine Ext.drewN ?_ _) | (with_reducible refine Ext.drew ?_) | (with_reducible refine Ext.alloc ?_ _) | ((with_reducible refine Ext.setCell ?_ ?_ _); rotate_left; focus (first | (simp; done) | (simp; omega) | omega)) | assumption | (with_reducible refine Ext.trans ?_ (by assumption))))⟩
  rw [show decide (D.base ^ n' ≤ 1000000000000000) = true by simpa using hpw, Bool.true_and] at HV
  rw [show decide (D.base ^ n' ≤ 1000000000000000) = true by simpa using hpw] at HPw
  clear hpw
  go_enter Try.func18, Try.ntmps18
  go_wp2_with fail
  obtain ⟨wb, hwb⟩ : ∃ wb, wb = w.alloc (.cells #[.int .i64 D.base, .int .i64 D.states, .int .i64 D.start, .int .i64 D.fin, .slice a n c, .slice a' n' c'] 27) := ⟨_, rfl⟩
  rw [← hwb] at HB ⊢
  have hxb : Ext w wb := by rw [hwb]; exact (by repeat (first | (with_reducible exact Ext.refl _) | (with_reducible refine Ext.drewN ?_ _) | (with_reducible refine Ext.drew ?_) | (with_reducible refine Ext.alloc ?_ _) | ((with_reducible refine Ext.setCell ?_ ?_ _); rotate_left; focus (first | (simp; done) | (simp; omega) | omega)) | assumption | (with_reducible refine Ext.trans ?_ (by assumption))))
  obtain ⟨k0, k1, k2, k3, k4, k5, hts, hps⟩ := HB.out
  generalize w.heap.size = q at *
  clear hwb
  have Hhts := Lib.hid hts; clear hts; have Hhps := Lib.hid hps; clear hps
  go_wp2_with (first | ((with_reducible refine (impl_base _ _).mono ?_); unfold baseB; rintro e w1 ⟨rfl, rfl⟩) | (go_at_call 23; refine (impl_in _ _ _ _).mono ?_; rintro e w' ⟨rfl, rfl⟩) | ((with_reducible refine (HPw.out _).mono ?_); rintro e w1 ⟨rfl, rfl⟩))
  clear e0 e1 e2 e3 e4 e5 HPw HH
  go_loopw [59] (fun i wr => ∃ t : Nat, t ≤ n ∧ i = .int .i64 t ∧ (D.tabs.take t).all (tabCh D) = true ∧ Ext wb wr) (fun i _ => n - (intOf i).toNat)
  case atStart => exact ⟨0, Nat.zero_le _, rfl, rfl, (by repeat (first | (with_reducible exact Ext.refl _) | (with_reducible refine Ext.drewN ?_ _) | (with_reducible refine Ext.drew ?_) | (with_reducible refine Ext.alloc ?_ _) | ((with_reducible refine Ext.setCell ?_ ?_ _); rotate_left; focus (first | (simp; done) | (simp; omega) | omega)) | assumption | (with_reducible refine Ext.trans ?_ (by assumption))))⟩
  case round =>
    obtain ⟨t, htn, rfl, hall, hx⟩ := hrel
    have hxr : Ext wb wr := hx
    have Hhall := Lib.hid hall; clear hall
    by_cases hlt : t < n
    · obtain ⟨b1, o1, a1, n1', c1, ⟨f1, f2⟩, hm⟩ := (Hhts.out).one (P := Try.prog) 24 53 und_tabs cell_tab1 (t : Int) (by omega) (by omega)
      rw [show (t : Int).toNat = t by omega] at hm
      have HTl := Lib.hid hm.len
      have hsz : n1' ≤ 1048576 := by rw [← HTl.out]; exact Hhsm.out.tab (by rw [HL.out]; exact hlt)
      have HNo := Lib.hid (fun h => all_noG (p := tabCh D) (l := D.tabs) (k := t) (d := []) (by rw [HL.out]; exact hlt) h)
      have HSt := Lib.hid (fun h => all_stepG (p := tabCh D) (l := D.tabs) (k := t) (d := []) (by rw [HL.out]; exact hlt) h Hhall.out)
      have HSm := Lib.hid (fun x (hx : x < n1') => Hhsm.out.row (t := t) (x := x) (by rw [HL.out]; exact hlt) (by rw [HTl.out]; exact hx))
      have HTc := Lib.hid (show tabCh D (D.tabs.getD t []) = (decide (((gm D.tabs t).length : Int) = D.states) && (gm D.tabs t).all (rowCh D)) from rfl)
      rw [HTl.out] at HTc
      have Hhm := Lib.hid hm; clear hm
      generalize gm D.tabs t = tb at *
      by_cases hst : (n1' : Int) = D.states
      rotate_left
      · have hb : ((n1' : Int) != D.states) = true := by simpa using hst
        have HF := Lib.hid (HNo.out (by rw [HTc.out]; simp [hst]))
        clear hst
        go_wp2
        go_ret
        exact ⟨rb (by rw [HV.out, tabsCh, HF.out]; rfl), hxb.trans hx⟩
      have hb : ((n1' : Int) != D.states) = false := by simpa using hst
      have HTc2 := Lib.hid (show tabCh D (D.tabs.getD t []) = tb.all (rowCh D) by rw [HTc.out]; simp [hst])
      have Hhst := Lib.hid hst; clear hst
      go_wp2
      go_loopw [70] (fun i wq => ∃ x : Nat, x ≤ n1' ∧ i = .int .i64 x ∧ (tb.take x).all (rowCh D) = true ∧ Ext wb wq) (fun i _ => n1' - (intOf i).toNat)
      case atStart => exact ⟨0, Nat.zero_le _, rfl, rfl, hx⟩
      case round =>
        obtain ⟨x, hxn, rfl, hra, hx2⟩ := hrel
        have hxq : Ext wb wr := hx2
        have Hhra := Lib.hid hra; clear hra
        by_cases hlx : x < n1'
        · obtain ⟨b2', o2, a2, n2, c2, ⟨f3, f4⟩, hr⟩ := (Hhm.out).one (P := Try.prog) 53 25 und_rows cell_row1 (x : Int) (by omega) (by omega)
          rw [show (x : Int).toNat = x by omega] at hr
          have HRl := Lib.hid hr.len
          have hsz2 : n2 ≤ 1048576 := by rw [← HRl.out]; exact HSm.out x hlx
          have HNo2 := Lib.hid (fun h => all_noG (p := rowCh D) (l := tb) (k := x) (d := []) (by rw [HTl.out]; exact hlx) h)
          have HSt2 := Lib.hid (fun h => all_stepG (p := rowCh D) (l := tb) (k := x) (d := []) (by rw [HTl.out]; exact hlx) h Hhra.out)
          have HRc := Lib.hid (show rowCh D (tb.getD x []) = (decide (((gl tb x).length : Int) = D.base) && (gl tb x).all fun z => inB z 0 (D.states - 1)) from rfl)
          rw [HRl.out] at HRc
          have HC := Lib.hid (containsFunc_ints a2 n2 c2 (gl tb x) 39 #[.pointer (some ⟨q, 0, none⟩)] (fun z => !inB z 0 (D.states - 1)) (ofI fun z => !inB z 0 (D.states - 1)) wr (hr.ext hx2) (by omega) (fun z => rfl)
            ⟨fun _ _ => rfl, fun v hvl w' hx' => by obtain ⟨z, _, rfl⟩ := mem_I hvl; exact valid1 z D.states q w' (k1 w' (hx2.trans hx')) s1 s36⟩)
          have HA := Lib.hid (any_not_allI (gl tb x) fun z => inB z 0 (D.states - 1))
          have Hhr := Lib.hid hr; clear hr
          generalize gl tb x = r at *
          by_cases hrb : (n2 : Int) = D.base
          rotate_left
          · have hb2 : ((n2 : Int) != D.base) = true := by simpa using hrb
            have HF := Lib.hid (HNo.out (by rw [HTc2.out]; exact HNo2.out (by rw [HRc.out]; simp [hrb])))
            clear hrb
            go_wp2
            go_ret
            exact ⟨rb (by rw [HV.out, tabsCh, HF.out]; rfl), hxb.trans hx2⟩
          have hb2 : ((n2 : Int) != D.base) = false := by simpa using hrb
          have HRc2 := Lib.hid (show rowCh D (tb.getD x []) = (r.all fun z => inB z 0 (D.states - 1)) by rw [HRc.out]; simp [hrb])
          have Hhrb := Lib.hid hrb; clear hrb
          cases hany : r.any fun z => !inB z 0 (D.states - 1)
          · rw [hany] at HC HA
            clear hany
            go_wp2_with (refine HC.out.mono ?_; rintro e w3 ⟨rfl, hx3⟩)
            exact ⟨⟨x + 1, by omega, by go_num, HSt2.out (by rw [HRc2.out, ← HA.out]; rfl), hx2.trans hx3⟩, by simp [intOf]; omega⟩
          · rw [hany] at HC HA
            have HF := Lib.hid (HNo.out (by rw [HTc2.out]; exact HNo2.out (by rw [HRc2.out, ← HA.out]; rfl)))
            clear hany
            go_wp2_with (refine HC.out.mono ?_; rintro e w3 ⟨rfl, hx3⟩)
            go_ret
            exact ⟨rb (by rw [HV.out, tabsCh, HF.out]; rfl), hxb.trans (hx2.trans hx3)⟩
        · obtain rfl : x = n1' := by omega
          have HX := Lib.hid (HSt.out (by rw [HTc2.out]; have := Hhra.out; rwa [take_full (by rw [HTl.out]; exact Nat.le_refl _)] at this))
          go_wp2
          exact ⟨⟨t + 1, by omega, by go_num, HX.out, hx2⟩, by simp [intOf]; omega⟩
    · obtain rfl : t = n := by omega
      have HTs := Lib.hid (show tabsCh D = true by have := Hhall.out; rwa [take_full (by rw [HL.out]; exact Nat.le_refl _)] at this)
      have HC := Lib.hid (containsFunc_ints a' n' c' D.places 40 #[.pointer (some ⟨q, 0, none⟩)] (fun z => !inB z 0 ((t : Int) - 1)) (ofI fun z => !inB z 0 ((t : Int) - 1)) wr (Hhps.out.ext hx) (by omega) (fun z => rfl)
        ⟨fun _ _ => rfl, fun v hvl w' hx' => by obtain ⟨z, _, rfl⟩ := mem_I hvl; exact valid2 z a t c q w' (k4 w' (hx.trans hx')) hn⟩)
      have HA := Lib.hid (any_not_allI D.places fun z => inB z 0 ((t : Int) - 1))
      obtain ⟨y, hy⟩ : ∃ y, y = D.places.any fun z => !inB z 0 ((t : Int) - 1) := ⟨_, rfl⟩
      rw [← hy] at HC HA
      clear hy
      go_wp2_with (refine HC.out.mono ?_; rintro e w3 ⟨rfl, hx3⟩)
      go_ret
      exact ⟨rb (by rw [HV.out, HTs.out, placesCh, HL.out, ← HA.out]; rfl), hxb.trans (hx.trans hx3)⟩
end Go.Proofs.Ytccoopnoakhedaa

/- Walks: which chains are valid, in the reference. -/
namespace Go.Proofs.Ytccoopnoakhedaa
set_option maxRecDepth 100000
open Go.RowKit

end Go.Proofs.Ytccoopnoakhedaa
