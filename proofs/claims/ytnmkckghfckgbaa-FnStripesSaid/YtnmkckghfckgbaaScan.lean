/- Walks: scans of stripes. -/
import Derived.Test.YtnmkckghfckgbaaDir
import Derived.Test.YtnmkckghfckgbaaMeas3
namespace Go.Proofs.Ytnmkckghfckgbaa
set_option maxRecDepth 100000
open Go.RowKit

/-- how far width i is from element i, for their sums -/
def offI (m t : Int) (ws es : List Int) (i : Nat) : Int := max (m * gi ws i - t * gi es i) (-(m * gi ws i - t * gi es i))
def nearB (ws es : List Int) : Bool := (List.range ws.length).all fun i => decide (2 * offI es.sum ws.sum ws es i < ws.sum)
theorem nearB_no {ws es : List Int} {k : Nat} (hk : k < ws.length) (h : ¬ 2 * offI es.sum ws.sum ws es k < ws.sum) : nearB ws es = false := by
  unfold nearB
  rw [List.all_eq_false]
  exact ⟨k, List.mem_range.2 hk, by simpa using h⟩
theorem nearB_yes {ws es : List Int} (h : ∀ k, k < ws.length → 2 * offI es.sum ws.sum ws es k < ws.sum) : nearB ws es = true := by
  unfold nearB
  rw [List.all_eq_true]
  exact fun k hk => by simpa using h k (List.mem_range.1 hk)
/-- what the walks want of widths and elements -/
structure NearOk (ws es : List Int) (n : Nat) : Prop where
  n10 : n ≤ 10
  wl : ws.length = n
  el : es.length = n
  up : Up ws 100000
  ue : Up es 4
theorem NearOk.sums {ws es : List Int} {n : Nat} (h : NearOk ws es n) : (0 ≤ ws.sum ∧ ws.sum ≤ 1000000) ∧ 0 ≤ es.sum ∧ es.sum ≤ 40 := by
  have h1 := sum_up h.up
  have h2 := sum_up h.ue
  have := h.n10
  have := h.wl
  have := h.el
  exact ⟨by omega, by omega⟩
theorem NearOk.prods {ws es : List Int} {n : Nat} (h : NearOk ws es n) {k : Nat} (hk : k < n) : (0 ≤ es.sum * gi ws k ∧ es.sum * gi ws k ≤ 4000000) ∧ 0 ≤ ws.sum * gi es k ∧ ws.sum * gi es k ≤ 4000000 := by
  obtain ⟨⟨h1, h2⟩, h3, h4⟩ := h.sums
  have h5 := h.up.gi (k := k) (by rw [h.wl]; exact hk)
  have h6 := h.ue.gi (k := k) (by rw [h.el]; exact hk)
  have h7 := mul_up h3 h4 h5.1 h5.2
  have h8 := mul_up h1 h2 h6.1 h6.2
  exact ⟨by omega, by omega⟩

set_option maxHeartbeats 1000000 in
theorem impl_near (a : Option Addr) (n c : Nat) (ws : List Int) (s : ByteArray) (w : World) (hv : Ints w a n c ws) (hc : charsB s.data.toList = true) (hs : s.size ≤ 10) (hok : NearOk ws (elsL s.data.toList) n) :
    Calls Try.prog 122 #[.slice a n c, .string s] w (Ret (.bool (nearB ws (elsL s.data.toList))) w) := by
  have HL := Lib.hid hv.len
  have hsz : s.size = n := by have := hok.el; rwa [elsL_len, size_eq] at this
  obtain ⟨⟨t0, t1⟩, m0, m1⟩ := hok.sums
  have HPr := Lib.hid (fun k hk => hok.prods (k := k) hk)
  have HE := Lib.hid (fun W => impl_elements s W (by omega) hc)
  have HSw := Lib.hid (fun W h => impl_sum a n c ws W h (fun x hx => by have := hok.up x hx; omega) (by have := hok.n10; omega))
  have HSe := Lib.hid (fun a c W h => impl_sum a n c (elsL s.data.toList) W h (fun x hx => by have := hok.ue x hx; omega) (by have := hok.n10; omega))
  have HEl := Lib.hid hok.el
  have hn10 := hok.n10
  have HOF := Lib.hid (fun k => show offI (elsL s.data.toList).sum ws.sum ws (elsL s.data.toList) k = max ((elsL s.data.toList).sum * gi ws k - ws.sum * gi (elsL s.data.toList) k) (-((elsL s.data.toList).sum * gi ws k - ws.sum * gi (elsL s.data.toList) k)) from rfl)
  have HNo := Lib.hid (fun k (hk : k < n) => nearB_no (ws := ws) (es := elsL s.data.toList) (k := k) (by rw [HL.out]; exact hk))
  have HYes := Lib.hid (nearB_yes (ws := ws) (es := elsL s.data.toList))
  have HV := Lib.hid hv
  obtain ⟨b, off, hix, hcell⟩ := hv.ix (P := Try.prog) 36 2 und_int64s cell_int64
  have Hhsz := Lib.hid hsz; clear hsz; have Hhok := Lib.hid hok; clear hok
  clear hv
  go_enter Try.func122, Try.ntmps122
  go_wp2_with fail
  refine (HE.out _).mono ?_
  rintro e w1 ⟨a1, c1, rfl, ho1, hx1⟩
  rw [I_len, HEl.out] at ho1 ⊢
  generalize elsL s.data.toList = es at *
  obtain ⟨b1, off1, hix1, hcell1⟩ := ho1.ints.ix (P := Try.prog) 36 2 und_int64s cell_int64
  have Hho1 := Lib.hid ho1; clear ho1
  go_wp2_with (first | ((with_reducible refine (HSw.out _ (HV.out.ext hx1)).mono ?_); rintro e w' ⟨rfl, rfl⟩) | ((with_reducible refine (HSe.out _ _ _ Hho1.out.ints).mono ?_); rintro e w' ⟨rfl, rfl⟩))
  generalize ht : ws.sum = t at *
  generalize hm : es.sum = m at *
  have Hht := Lib.hid ht; clear ht; have Hhm := Lib.hid hm; clear hm
  go_loopw [8, 9, 18] (fun _ _ i wr => ∃ k : Nat, k ≤ n ∧ i = .int .i64 k ∧ (∀ j, j < k → 2 * offI m t ws es j < t) ∧ Ext w1 wr) (fun _ _ i _ => n - (intOf i).toNat)
  case atStart => exact ⟨0, Nat.zero_le _, rfl, (fun j hj => by omega), Ext.refl _⟩
  case round =>
    obtain ⟨k, hk, rfl, hp, hx⟩ := hrel
    have hxw : Ext w wr := hx1.trans hx
    have Hhp := Lib.hid hp; clear hp
    by_cases hlt : k < n
    · obtain ⟨⟨p0, p1⟩, p2, p3⟩ := HPr.out k hlt
      have HOk := HOF.out k
      have HNk := Lib.hid (HNo.out k hlt)
      have HPn := Lib.hid (fun (h : 2 * offI m t ws es k < t) => show ∀ j, j < k + 1 → 2 * offI m t ws es j < t from fun j hj => by
        by_cases e : j < k
        · exact Hhp.out j e
        · obtain rfl : j = k := by omega
          exact h)
      generalize offI m t ws es k = o at *
      have HHOk := Lib.hid HOk; clear HOk
      go_wp2_with (go_at_call 96; refine (impl_size _ _ (by omega) (by omega)).mono ?_; rintro e w' ⟨rfl, rfl⟩)
      · go_ret
        exact ⟨rb (HNk.out (by rw [HHOk.out]; omega)).symm, (by repeat (first | (with_reducible exact Ext.refl _) | (with_reducible refine Ext.drewN ?_ _) | (with_reducible refine Ext.drew ?_) | (with_reducible refine Ext.alloc ?_ _) | ((with_reducible refine Ext.setCell ?_ ?_ _); rotate_left; focus (first | (simp; done) | (simp; omega) | omega)) | assumption | (with_reducible refine Ext.trans ?_ (by assumption))))⟩
      · exact ⟨⟨k + 1, by omega, by go_num, HPn.out (by rw [HHOk.out]; omega), (by repeat (first | (with_reducible exact Ext.refl _) | (with_reducible refine Ext.drewN ?_ _) | (with_reducible refine Ext.drew ?_) | (with_reducible refine Ext.alloc ?_ _) | ((with_reducible refine Ext.setCell ?_ ?_ _); rotate_left; focus (first | (simp; done) | (simp; omega) | omega)) | assumption | (with_reducible refine Ext.trans ?_ (by assumption))))⟩, by simp [intOf]; omega⟩
    · obtain rfl : k = n := by omega
      go_wp2
      go_ret
      exact ⟨rb (HYes.out (by rw [HL.out]; exact Hhp.out)).symm, hxw⟩
set_option maxHeartbeats 1000000 in
theorem spec_near (a : Option Addr) (n c : Nat) (ws : List Int) (s : ByteArray) (w : World) (hv : Ints w a n c ws) (hc : charsB s.data.toList = true) (hs : s.size ≤ 10) (hok : NearOk ws (elsL s.data.toList) n) :
    Calls Try.prog 123 #[.slice a n c, .string s] w (Ret (.bool (nearB ws (elsL s.data.toList))) w) := by
  have HL := Lib.hid hv.len
  have hsz : s.size = n := by have := hok.el; rwa [elsL_len, size_eq] at this
  obtain ⟨⟨t0, t1⟩, m0, m1⟩ := hok.sums
  have HPr := Lib.hid (fun k hk => hok.prods (k := k) hk)
  have HE := Lib.hid (fun W => spec_elements s W (by omega) hc)
  have HSw := Lib.hid (fun W h => spec_l08Sum a n c ws W h (fun x hx => by have := hok.up x hx; omega) (by have := hok.n10; omega))
  have HSe := Lib.hid (fun a c W h => spec_l08Sum a n c (elsL s.data.toList) W h (fun x hx => by have := hok.ue x hx; omega) (by have := hok.n10; omega))
  have HEl := Lib.hid hok.el
  have hn10 := hok.n10
  have HOF := Lib.hid (fun k => show offI (elsL s.data.toList).sum ws.sum ws (elsL s.data.toList) k = max ((elsL s.data.toList).sum * gi ws k - ws.sum * gi (elsL s.data.toList) k) (-((elsL s.data.toList).sum * gi ws k - ws.sum * gi (elsL s.data.toList) k)) from rfl)
  have HNo := Lib.hid (fun k (hk : k < n) => nearB_no (ws := ws) (es := elsL s.data.toList) (k := k) (by rw [HL.out]; exact hk))
  have HYes := Lib.hid (nearB_yes (ws := ws) (es := elsL s.data.toList))
  have HV := Lib.hid hv
  obtain ⟨b, off, hix, hcell⟩ := hv.ix (P := Try.prog) 36 2 und_int64s cell_int64
  have Hhsz := Lib.hid hsz; clear hsz; have Hhok := Lib.hid hok; clear hok
  clear hv
  go_enter Try.func123, Try.ntmps123
  go_wp2_with fail
  refine (HE.out _).mono ?_
  rintro e w1 ⟨a1, c1, rfl, ho1, hx1⟩
  rw [I_len, HEl.out] at ho1 ⊢
  generalize elsL s.data.toList = es at *
  obtain ⟨b1, off1, hix1, hcell1⟩ := ho1.ints.ix (P := Try.prog) 36 2 und_int64s cell_int64
  have Hho1 := Lib.hid ho1; clear ho1
  go_wp2_with (first | ((with_reducible refine (HSw.out _ (HV.out.ext hx1)).mono ?_); rintro e w' ⟨rfl, rfl⟩) | ((with_reducible refine (HSe.out _ _ _ Hho1.out.ints).mono ?_); rintro e w' ⟨rfl, rfl⟩))
  generalize ht : ws.sum = t at *
  generalize hm : es.sum = m at *
  have Hht := Lib.hid ht; clear ht; have Hhm := Lib.hid hm; clear hm
  go_loopw [8, 9] (fun i _ wr => ∃ k : Nat, k ≤ n ∧ i = .int .i64 k ∧ (∀ j, j < k → 2 * offI m t ws es j < t) ∧ Ext w1 wr) (fun i _ _ => n - (intOf i).toNat)
  case atStart => exact ⟨0, Nat.zero_le _, rfl, (fun j hj => by omega), Ext.refl _⟩
  case round =>
    obtain ⟨k, hk, rfl, hp, hx⟩ := hrel
    have hxw : Ext w wr := hx1.trans hx
    have Hhp := Lib.hid hp; clear hp
    by_cases hlt : k < n
    · obtain ⟨⟨p0, p1⟩, p2, p3⟩ := HPr.out k hlt
      have HOk := HOF.out k
      have HNk := Lib.hid (HNo.out k hlt)
      have HPn := Lib.hid (fun (h : 2 * offI m t ws es k < t) => show ∀ j, j < k + 1 → 2 * offI m t ws es j < t from fun j hj => by
        by_cases e : j < k
        · exact Hhp.out j e
        · obtain rfl : j = k := by omega
          exact h)
      generalize offI m t ws es k = o at *
      have HHOk := Lib.hid HOk; clear HOk
      go_wp2
      (refine wp_region_up (by kernel_rfl) (by kernel_rfl) (by kernel_rfl) ?_; (repeat (first | (refine mix_q rfl ?_; go_big_quiet_step (fail); refine wpQuiet_nil ?_; show wpMix _ _ _ _ _ _ _) | (refine mix_s rfl ?_; go_wp2_with (fail); first | refine ⟨up_of (by repeat (first | (with_reducible exact Ext.refl _) | (with_reducible refine Ext.drewN ?_ _) | (with_reducible refine Ext.drew ?_) | (with_reducible refine Ext.alloc ?_ _) | ((with_reducible refine Ext.setCell ?_ ?_ _); rotate_left; focus (first | (simp; done) | (simp; omega) | omega)) | assumption | (with_reducible refine Ext.trans ?_ (by assumption)))), ?_⟩ | refine ⟨rfl, rfl, up_of (by repeat (first | (with_reducible exact Ext.refl _) | (with_reducible refine Ext.drewN ?_ _) | (with_reducible refine Ext.drew ?_) | (with_reducible refine Ext.alloc ?_ _) | ((with_reducible refine Ext.setCell ?_ ?_ _); rotate_left; focus (first | (simp; done) | (simp; omega) | omega)) | assumption | (with_reducible refine Ext.trans ?_ (by assumption)))), ?_⟩))); refine mix_nil ?_)
      go_wp2_with (go_at_call 95; refine (spec_max _ _ _).mono ?_; rintro e w' ⟨rfl, rfl⟩)
      · go_ret
        exact ⟨rb (HNk.out (by rw [HHOk.out]; omega)).symm, (by repeat (first | (with_reducible exact Ext.refl _) | (with_reducible refine Ext.drewN ?_ _) | (with_reducible refine Ext.drew ?_) | (with_reducible refine Ext.alloc ?_ _) | ((with_reducible refine Ext.setCell ?_ ?_ _); rotate_left; focus (first | (simp; done) | (simp; omega) | omega)) | assumption | (with_reducible refine Ext.trans ?_ (by assumption))))⟩
      · exact ⟨⟨k + 1, by omega, by go_num, HPn.out (by rw [HHOk.out]; omega), (by repeat (first | (with_reducible exact Ext.refl _) | (with_reducible refine Ext.drewN ?_ _) | (with_reducible refine Ext.drew ?_) | (with_reducible refine Ext.alloc ?_ _) | ((with_reducible refine Ext.setCell ?_ ?_ _); rotate_left; focus (first | (simp; done) | (simp; omega) | omega)) | assumption | (with_reducible refine Ext.trans ?_ (by assumption))))⟩, by simp [intOf]; omega⟩
    · obtain rfl : k = n := by omega
      go_wp2
      go_ret
      exact ⟨rb (HYes.out (by rw [HL.out]; exact Hhp.out)).symm, hxw⟩
theorem nearOk {ws : List Int} {s : ByteArray} (h : patB s.data.toList = true) (hl : ws.length = s.size) (hb : ∀ x ∈ ws, 1 ≤ x ∧ x ≤ 100000) : NearOk ws (elsL s.data.toList) s.size := by
  obtain ⟨h1, h2, h3, h4⟩ := patB_t h
  exact ⟨h3, hl, by rw [elsL_len, size_eq], fun x hx => by have := hb x hx; omega, fun x hx => by have := elsL_bd h1 x hx; omega⟩
end Go.Proofs.Ytnmkckghfckgbaa
