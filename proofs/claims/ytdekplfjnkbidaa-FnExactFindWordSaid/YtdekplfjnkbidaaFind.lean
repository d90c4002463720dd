/- Walks: FindWord, on both sides. -/
import Derived.Test.YtdekplfjnkbidaaNear
namespace Go.Proofs.Ytdekplfjnkbidaa
set_option maxRecDepth 100000
open Go.RowKit

theorem Strs.one1 {P : Program} {w : World} {a : Option Addr} {n c : Nat} {l : List ByteArray} (h : Strs w a n c l) (T E : TypeId) (ht : P.underlying T = some (.slice E)) (he : P.cellsOf E = 1) (i : Int) (h0 : 0 ≤ i) (h1 : i < n) :
    ∃ b off, One P T w a n c i b off (.string (gs l i.toNat)) := by
  obtain ⟨b, off, h2⟩ := Sl.one h T E ht he i h0 h1
  rw [gv_St (by rw [h.len]; omega)] at h2
  exact ⟨b, off, h2⟩
theorem find_no {D : Rg} {s : ByteArray} (h : findB D s = false) : findT D s = .empty := by rw [findT, h]; rfl
theorem find_yes {D : Rg} {s : ByteArray} (h : findB D s = true) : findT D s = gs (nearL D s) 0 := by rw [findT, h]; rfl
set_option maxHeartbeats 2000000 in
theorem impl_FindWord (D : Rg) (a : Option Addr) (n c : Nat) (b : Option Addr) (m d : Nat) (ia : Option Addr) (im ic : Nat) (ra : Option Addr) (rm rc : Nat) (s : ByteArray) (w : World) (hv : RgIn w D a n c b m d ia im ic ra rm rc) (hs : s.size ≤ 1048576) : Calls Try.prog 44 #[.agg #[.int .i64 D.ch.base, .int .i64 D.ch.states, .int .i64 D.ch.start, .int .i64 D.ch.fin, .slice a n c, .slice b m d, .int .i64 D.apart, .slice ia im ic, .slice ra rm rc], .string s] w (Ret2 (.string (findT D s)) (.bool (findB D s)) w) := by
  have HB := Lib.hid (hv.box 33)
  have HNr := Lib.hid (fun W h => impl_Nearest D a n c b m d ia im ic ra rm rc s W (RgIn.ext hv h) hs)
  clear hv
  have HF := Lib.hid (show findB D s = (nearB D s && decide (nearN D s ≤ (D.apart - 1) / 2)) from rfl)
  cases hnb : nearB D s
  · have HO := Lib.hid (show findB D s = false by rw [HF.out, hnb]; rfl)
    have HR := Lib.hid (find_no HO.out)
    rw [hnb] at HNr
    clear hnb
    go_enter Try.func44, Try.ntmps44
    go_wp2_with (refine (HNr.out _ ((Ext.refl w).alloc _)).mono ?_; rintro e w1 ⟨a1, c1, rfl, ho1, hx1⟩)
    go_ret2
    exact ⟨by rw [HR.out, HO.out]; rfl, ((Ext.refl w).alloc _).trans hx1⟩
  have hask : askB D s = true := by unfold nearB at hnb; simp only [Bool.and_eq_true] at hnb; exact hnb.1
  have hval : validRg D = true := by unfold askB at hask; simp only [Bool.and_eq_true] at hask; exact hask.1
  have hok := validRg_ok hval
  have hne : nearL D s ≠ [] := by
    intro h
    have h1 : nearL D s = putAll (nearS D s D.issued.length).1 := by rw [nearL, hnb]; rfl
    have h2 : (nearS D s D.issued.length).1 = [] := by
      cases h3 : (nearS D s D.issued.length).1 with
      | nil => rfl
      | cons x l => have := (mem_putAll (x := x) (nearS D s D.issued.length).1).2 (by rw [h3]; exact List.mem_cons_self ..); rw [← h1, h] at this; cases this
    have h3 := (near_nil D s _).1 h2
    unfold nearB at hnb
    simp only [Bool.and_eq_true, Bool.not_eq_true', decide_eq_false_iff_not] at hnb
    exact hnb.2 h3
  have hpos : 0 < (nearL D s).length := List.length_pos_iff.2 hne
  rw [hnb] at HNr HF
  have Hhok := Lib.hid hok; clear hok; have Hhask := Lib.hid hask; clear hask; have Hhval := Lib.hid hval; clear hval; have Hhne := Lib.hid hne; clear hne
  clear hnb
  go_enter Try.func44, Try.ntmps44
  go_wp2_with fail
  obtain ⟨wb, hwb⟩ : ∃ wb, wb = w.alloc (.cells #[.int .i64 D.ch.base, .int .i64 D.ch.states, .int .i64 D.ch.start, .int .i64 D.ch.fin, .slice a n c, .slice b m d, .int .i64 D.apart, .slice ia im ic, .slice ra rm rc] 33) := ⟨_, rfl⟩
  have hxb : Ext w wb := by rw [hwb]; exact (by repeat (first | (with_reducible exact Ext.refl _) | (with_reducible refine Ext.drewN ?_ _) | (with_reducible refine Ext.drew ?_) | (with_reducible refine Ext.alloc ?_ _) | ((with_reducible refine Ext.setCell ?_ ?_ _); rotate_left; focus (first | (simp; done) | (simp; omega) | omega)) | assumption | (with_reducible refine Ext.trans ?_ (by assumption))))
  rw [← hwb] at HB ⊢
  generalize w.heap.size = q at *
  clear hwb
  refine (HNr.out _ hxb).mono ?_
  rintro e w1 ⟨a1, c1, rfl, ho1, hx1⟩
  have HRd := Lib.hid (fun W (h : Ext wb W) => impl_radius D q a n c b m d ia im ic ra rm rc W (HB.out.ext h) Hhok.out.a1 Hhok.out.a6)
  obtain ⟨b1, o1, x1, x2⟩ := (show Strs w1 a1 (nearL D s).length c1 (nearL D s) from ho1.sl).one1 (P := Try.prog) 26 9 und_strs cell_str 0 (by omega) (by omega)
  clear ho1
  rw [show ((0 : Int)).toNat = 0 from rfl] at x2
  by_cases hle : nearN D s ≤ (D.apart - 1) / 2
  · have HO := Lib.hid (show findB D s = true by rw [HF.out]; simpa using hle)
    have HR := Lib.hid (find_yes HO.out)
    have hd : decide ((D.apart - 1) / 2 < nearN D s) = false := by simpa using hle
    generalize nearN D s = nn at *
    generalize (D.apart - 1) / 2 = rr at *
    generalize (nearL D s).length = nl at *
    go_wp2_with ((with_reducible refine (HRd.out _ hx1).mono ?_); rintro e w2 ⟨rfl, hx2⟩)
    go_ret2
    exact ⟨by rw [HR.out, HO.out]; rfl, (hxb.trans hx1).trans hx2⟩
  · have HO := Lib.hid (show findB D s = false by rw [HF.out]; simpa using hle)
    have HR := Lib.hid (find_no HO.out)
    have hd : decide ((D.apart - 1) / 2 < nearN D s) = true := by simp; omega
    generalize nearN D s = nn at *
    generalize (D.apart - 1) / 2 = rr at *
    go_wp2_with ((with_reducible refine (HRd.out _ hx1).mono ?_); rintro e w2 ⟨rfl, hx2⟩)
    go_ret2
    exact ⟨by rw [HR.out, HO.out]; rfl, (hxb.trans hx1).trans hx2⟩
set_option maxHeartbeats 2000000 in
theorem spec_FindWord (D : Rg) (a : Option Addr) (n c : Nat) (b : Option Addr) (m d : Nat) (ia : Option Addr) (im ic : Nat) (ra : Option Addr) (rm rc : Nat) (s : ByteArray) (w : World) (hv : RgIn w D a n c b m d ia im ic ra rm rc) (hs : s.size ≤ 1048576) : Calls Try.prog 43 #[.agg #[.int .i64 D.ch.base, .int .i64 D.ch.states, .int .i64 D.ch.start, .int .i64 D.ch.fin, .slice a n c, .slice b m d, .int .i64 D.apart, .slice ia im ic, .slice ra rm rc], .string s] w (Ret2 (.string (findT D s)) (.bool (findB D s)) w) := by
  have HB := Lib.hid (hv.box 33)
  have HN := Lib.hid hv
  have HL := Lib.hid hv.is.len
  have HF := Lib.hid (show findB D s = (nearB D s && decide (nearN D s ≤ (D.apart - 1) / 2)) from rfl)
  clear hv
  cases hask : askB D s
  · have HA := Lib.hid (spec_l10Ask D _ a n c b m d ia im ic ra rm rc s _ HB.out (HN.out.ext ((Ext.refl w).alloc _)) hs)
    have HO := Lib.hid (show findB D s = false by rw [HF.out, ask_no hask]; rfl)
    have HR := Lib.hid (find_no HO.out)
    rw [hask] at HA
    clear hask
    go_enter Try.func43, Try.ntmps43
    go_wp2_with (refine HA.out.mono ?_; rintro e w1 ⟨rfl, hx1⟩)
    go_ret2
    exact ⟨by rw [HR.out, HO.out]; rfl, ((Ext.refl w).alloc _).trans hx1⟩
  have hval : validRg D = true := by have h := hask; unfold askB at h; simp only [Bool.and_eq_true] at h; exact h.1
  have hwd : wordB s.data.toList 36 20 = true := by have h := hask; unfold askB at h; simp only [Bool.and_eq_true] at h; exact h.2
  have hok := validRg_ok hval
  have hs20 := wordB_size hwd
  have hnil := near_nil D s im
  have HNb := Lib.hid (show nearB D s = !decide ((nearS D s im).2 < 0) by rw [nearB, hask, HL.out]; rfl)
  have HNl := Lib.hid (show nearB D s = true → nearL D s = putAll (nearS D s im).1 from fun h => by rw [nearL, h, HL.out]; rfl)
  have HNn := Lib.hid (show nearB D s = true → nearN D s = (nearS D s im).2 from fun h => by rw [nearN, h, HL.out]; rfl)
  have HPn := Lib.hid (show (putAll (nearS D s im).1).length = 0 ↔ (nearS D s im).2 < 0 by
    rw [← hnil]
    constructor
    · intro h
      cases h3 : (nearS D s im).1 with
      | nil => rfl
      | cons x l => have := (mem_putAll (x := x) (nearS D s im).1).2 (by rw [h3]; exact List.mem_cons_self ..); rw [List.eq_nil_of_length_eq_zero h] at this; cases this
    · intro h; rw [h]; rfl)
  have ha1 := hok.a1
  have ha6 := hok.a6
  have Hhok := Lib.hid hok; clear hok; have Hhval := Lib.hid hval; clear hval; have Hhwd := Lib.hid hwd; clear hwd; have Hhnil := Lib.hid hnil; clear hnil
  go_enter Try.func43, Try.ntmps43
  go_wp2_with fail
  obtain ⟨wb, hwb⟩ : ∃ wb, wb = w.alloc (.cells #[.int .i64 D.ch.base, .int .i64 D.ch.states, .int .i64 D.ch.start, .int .i64 D.ch.fin, .slice a n c, .slice b m d, .int .i64 D.apart, .slice ia im ic, .slice ra rm rc] 33) := ⟨_, rfl⟩
  have hxb : Ext w wb := by rw [hwb]; exact (by repeat (first | (with_reducible exact Ext.refl _) | (with_reducible refine Ext.drewN ?_ _) | (with_reducible refine Ext.drew ?_) | (with_reducible refine Ext.alloc ?_ _) | ((with_reducible refine Ext.setCell ?_ ?_ _); rotate_left; focus (first | (simp; done) | (simp; omega) | omega)) | assumption | (with_reducible refine Ext.trans ?_ (by assumption))))
  rw [← hwb] at HB ⊢
  generalize w.heap.size = q at *
  clear hwb
  have HA := Lib.hid (spec_l10Ask D q a n c b m d ia im ic ra rm rc s wb HB.out (HN.out.ext hxb) hs)
  rw [hask] at HA
  clear hask
  obtain ⟨_, k6, k7, k8, _, _⟩ := HB.out
  refine HA.out.mono ?_
  rintro e w1 ⟨rfl, hx1⟩
  have hx1' : Ext wb w1 := hx1
  have HS := Lib.hid (spec_l10Nearest D q a n c b m d ia im ic ra rm rc s w1 (HB.out.ext hx1) (HN.out.ext (hxb.trans hx1)) Hhok.out hs20)
  go_wp2_with fail
  refine HS.out.mono ?_
  rintro e w2 ⟨a2, c2, rfl, hs2, hx2⟩
  have hx2' : Ext wb w2 := hx1.trans hx2
  have HS2 := Lib.hid hs2
  clear hs2
  by_cases hz : (nearS D s im).2 < 0
  · have h0 := HPn.out.2 hz
    have HO := Lib.hid (show findB D s = false by rw [HF.out, HNb.out, decide_eq_true hz]; rfl)
    have HR := Lib.hid (find_no HO.out)
    clear hz
    generalize (nearS D s im).2 = nn at *
    rw [h0]
    clear h0
    go_wp2
    go_ret2
    exact ⟨by rw [HR.out, HO.out]; rfl, hxb.trans hx2'⟩
  · have hB : nearB D s = true := by rw [HNb.out]; simpa using hz
    have hpos : ¬ (putAll (nearS D s im).1).length = 0 := fun h => hz (HPn.out.1 h)
    obtain ⟨b1, o1, x1, x2⟩ := HS2.out.one1 (P := Try.prog) 26 9 und_strs cell_str 0 (by omega) (by omega)
    rw [show ((0 : Int)).toNat = 0 from rfl] at x2
    have HLl := Lib.hid (HNl.out hB)
    have hNn := HNn.out hB
    have hp0 : decide ((putAll (nearS D s im).1).length = 0) = false := decide_eq_false hpos
    by_cases hle : nearN D s ≤ (D.apart - 1) / 2
    · have HO := Lib.hid (show findB D s = true by rw [HF.out, hB]; simpa using hle)
      have HR := Lib.hid (find_yes HO.out)
      rw [HLl.out] at HR
      have hd : decide ((D.apart - 1) / 2 < (nearS D s im).2) = false := by rw [← hNn]; simpa using hle
      rw [hNn] at hle
      clear hNn hz
      generalize (nearS D s im).2 = nn at *
      generalize (putAll (nearS D s im).1).length = nl at *
      go_wp2
      go_ret2
      exact ⟨by rw [HR.out, HO.out]; rfl, hxb.trans hx2'⟩
    · have HO := Lib.hid (show findB D s = false by rw [HF.out]; simp [hle])
      have HR := Lib.hid (find_no HO.out)
      have hd : decide ((D.apart - 1) / 2 < (nearS D s im).2) = true := by rw [← hNn]; simp; omega
      rw [hNn] at hle
      clear hNn hz
      generalize (nearS D s im).2 = nn at *
      generalize (putAll (nearS D s im).1).length = nl at *
      go_wp2
      go_ret2
      exact ⟨by rw [HR.out, HO.out]; rfl, hxb.trans hx2'⟩
end Go.Proofs.Ytdekplfjnkbidaa
