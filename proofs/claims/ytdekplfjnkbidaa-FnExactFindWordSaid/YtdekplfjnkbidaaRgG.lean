/- Walks: registries: RadiusOf, StatusOf, LeastApart, on both sides. -/
import Derived.Test.YtdekplfjnkbidaaRgV
namespace Go.Proofs.Ytdekplfjnkbidaa
set_option maxRecDepth 100000
open Go.RowKit

theorem NoneIn.stepI {p : Int → Bool} {l : List Int} {k : Nat} (hk : k < l.length) (h : p (gi l k) = false) (hp : NoneIn p (l.take k)) : NoneIn p (l.take (k + 1)) := NoneIn.step (d := 0) hk rfl h hp
theorem idx_hitI {p : Int → Bool} {l : List Int} {k : Nat} (hk : k < l.length) (hp : NoneIn p (l.take k)) (h : p (gi l k) = true) : idx p l = k := idx_hit (d := 0) hk rfl h hp
set_option maxHeartbeats 400000 in
theorem indexI (a : Option Addr) (n c : Nat) (l : List Int) (x : Int) (w : World) (hv : Ints w a n c l) (hn : n ≤ 4294967296) :
    Calls Try.prog 104 #[.slice a n c, .int .i64 x] w (Same (.int .i64 (idx (fun y => x == y) l)) w) := by
  have HL := Lib.hid hv.len
  obtain ⟨b, off, hix, hcell⟩ := hv.ix (P := Try.prog) 23 2 und_int64s cell_int64
  have Hhv := Lib.hid hv; clear hv
  go_enter Try.func104, Try.ntmps104
  go_wp2
  go_loop [5, 8] (fun _ i => ∃ k : Nat, k ≤ n ∧ i = .int .i64 k ∧ NoneIn (fun y => x == y) (l.take k)) (fun _ i => n - (intOf i).toNat)
  case atStart => exact ⟨0, Nat.zero_le _, rfl, by simp [NoneIn]⟩
  case round =>
    obtain ⟨k, hk, rfl, hp⟩ := hrel
    have Hhp := Lib.hid hp; clear hp
    by_cases hlt : k < n
    · have hkl : k < l.length := by rw [HL.out]; exact hlt
      have HS := Lib.hid (fun h => NoneIn.stepI (p := fun y => x == y) hkl h Hhp.out)
      have HT := Lib.hid (idx_hitI (p := fun y => x == y) hkl Hhp.out)
      clear hkl
      go_wp2
      · go_ret
        exact ⟨ri (HT.out (by assumption)).symm, rfl⟩
      · exact ⟨⟨k + 1, by omega, by go_num, HS.out (by assumption)⟩, by simp [intOf]; omega⟩
    · go_wp2
      go_ret
      exact ⟨ri (idx_none (by have := Hhp.out; rwa [take_full (by rw [HL.out]; omega)] at this)).symm, rfl⟩
theorem any_flip (l : List Int) (x : Int) : (l.any fun y => x == y) = l.any fun y => y == x := by
  congr 1; funext y; rw [Bool.eq_iff_iff, beq_iff_eq, beq_iff_eq]; exact ⟨Eq.symm, Eq.symm⟩
set_option maxHeartbeats 400000 in
theorem containsI (a : Option Addr) (n c : Nat) (l : List Int) (x : Int) (w : World) (hv : Ints w a n c l) (hn : n ≤ 4294967296) :
    Calls Try.prog 64 #[.slice a n c, .int .i64 x] w (Same (.bool (l.any fun y => y == x)) w) := by
  have HC := Lib.hid (indexI a n c l x w hv hn)
  have HA := Lib.hid ((idx_ge (fun y => x == y) l).trans (any_flip l x))
  clear hv
  go_enter Try.func64, Try.ntmps64
  go_wp2_with (refine HC.out.mono ?_; rintro e w' ⟨rfl, rfl⟩)
  go_ret
  exact ⟨rb HA.out, rfl⟩
theorem any_step {l : List Int} {p : Int → Bool} {k : Nat} (hk : k < l.length) (h : p (gi l k) = true) : l.any p = true := List.any_eq_true.2 ⟨_, gi_mem hk, h⟩
set_option maxHeartbeats 400000 in
theorem spec_has (a : Option Addr) (n c : Nat) (l : List Int) (x : Int) (w : World) (hv : Ints w a n c l) (hn : n ≤ 4294967296) :
    Calls Try.prog 61 #[.slice a n c, .int .i64 x] w (Same (.bool (l.any fun y => y == x)) w) := by
  have HL := Lib.hid hv.len
  obtain ⟨b, off, hix, hcell⟩ := hv.ix (P := Try.prog) 23 2 und_int64s cell_int64
  have Hhv := Lib.hid hv; clear hv
  go_enter Try.func61, Try.ntmps61
  go_wp2
  go_loop [5] (fun i => ∃ k : Nat, k ≤ n ∧ i = .int .i64 k ∧ NoneIn (fun y => y == x) (l.take k)) (fun i => n - (intOf i).toNat)
  case atStart => exact ⟨0, Nat.zero_le _, rfl, by simp [NoneIn]⟩
  case round =>
    obtain ⟨k, hk, rfl, hp⟩ := hrel
    have Hhp := Lib.hid hp; clear hp
    by_cases hlt : k < n
    · have hkl : k < l.length := by rw [HL.out]; exact hlt
      have HS := Lib.hid (fun h => NoneIn.stepI (p := fun y => y == x) hkl h Hhp.out)
      have HT := Lib.hid (any_step (p := fun y => y == x) hkl)
      clear hkl
      go_wp2
      · go_ret
        exact ⟨rb (HT.out (by assumption)).symm, rfl⟩
      · exact ⟨⟨k + 1, by omega, by go_num, HS.out (by assumption)⟩, by simp [intOf]; omega⟩
    · go_wp2
      go_ret
      refine ⟨rb (Eq.symm ?_), rfl⟩
      have := Hhp.out
      rw [take_full (by rw [HL.out]; omega)] at this
      exact List.any_eq_false.2 fun y hy => by have h : (y == x) = false := this y hy; rw [h]; simp
/-! ### RadiusOf -/
def radRes (D : Rg) : Int := if validRg D then (D.apart - 1) / 2 else 0
set_option maxHeartbeats 400000 in
theorem impl_radius (D : Rg) (q : Nat) (a : Option Addr) (n c : Nat) (b : Option Addr) (m d : Nat) (ia : Option Addr) (im ic : Nat) (ra : Option Addr) (rm rc : Nat) (w : World) (hv : RgAt w q D a n c b m d ia im ic ra rm rc) (h1 : 1 ≤ D.apart) (h6 : D.apart ≤ 6) :
    Calls Try.prog 55 #[.pointer (some ⟨q, 0, none⟩)] w (Ret (.int .i64 ((D.apart - 1) / 2)) w) := by
  obtain ⟨_, k6, k7, k8, _, _⟩ := hv
  go_enter Try.func55, Try.ntmps55
  go_wp2
  go_ret
  exact ⟨ri (by omega), Ext.refl _⟩
set_option maxHeartbeats 1000000 in
theorem impl_RadiusOf (D : Rg) (a : Option Addr) (n c : Nat) (b : Option Addr) (m d : Nat) (ia : Option Addr) (im ic : Nat) (ra : Option Addr) (rm rc : Nat) (w : World) (hv : RgIn w D a n c b m d ia im ic ra rm rc) : Calls Try.prog 19 #[.agg #[.int .i64 D.ch.base, .int .i64 D.ch.states, .int .i64 D.ch.start, .int .i64 D.ch.fin, .slice a n c, .slice b m d, .int .i64 D.apart, .slice ia im ic, .slice ra rm rc]] w (Ret2 (.int .i64 (radRes D)) (.bool (validRg D)) w) := by
  have HB := Lib.hid (hv.box 33)
  have HVal := Lib.hid (fun W h => impl_ValidRegistry D a n c b m d ia im ic ra rm rc W (RgIn.ext hv h))
  clear hv
  cases hval : validRg D
  · rw [hval] at HVal
    have HR := Lib.hid (show radRes D = 0 by rw [radRes, hval]; rfl)
    go_enter Try.func19, Try.ntmps19
    go_wp2_with (refine (HVal.out _ ((Ext.refl w).alloc _)).mono ?_; rintro e w1 ⟨rfl, hx1⟩)
    go_ret2
    exact ⟨by rw [HR.out]; rfl, ((Ext.refl w).alloc _).trans hx1⟩
  · rw [hval] at HVal
    have hok := validRg_ok hval
    have h1 := hok.a1
    have h6 := hok.a6
    have HR := Lib.hid (show radRes D = (D.apart - 1) / 2 by rw [radRes, hval]; rfl)
    have Hhok := Lib.hid hok; clear hok; have Hhval := Lib.hid hval; clear hval
    go_enter Try.func19, Try.ntmps19
    go_wp2_with fail
    obtain ⟨wb, hwb⟩ : ∃ wb, wb = w.alloc (.cells #[.int .i64 D.ch.base, .int .i64 D.ch.states, .int .i64 D.ch.start, .int .i64 D.ch.fin, .slice a n c, .slice b m d, .int .i64 D.apart, .slice ia im ic, .slice ra rm rc] 33) := ⟨_, rfl⟩
    have hxb : Ext w wb := by rw [hwb]; exact (by repeat (first | (with_reducible exact Ext.refl _) | (with_reducible refine Ext.drewN ?_ _) | (with_reducible refine Ext.drew ?_) | (with_reducible refine Ext.alloc ?_ _) | ((with_reducible refine Ext.setCell ?_ ?_ _); rotate_left; focus (first | (simp; done) | (simp; omega) | omega)) | assumption | (with_reducible refine Ext.trans ?_ (by assumption))))
    rw [← hwb] at HB ⊢
    generalize w.heap.size = q at *
    clear hwb
    refine (HVal.out _ hxb).mono ?_
    rintro e w1 ⟨rfl, hx1⟩
    go_wp2_with (refine (impl_radius D q a n c b m d ia im ic ra rm rc w1 (HB.out.ext hx1) h1 h6).mono ?_; rintro e w2 ⟨rfl, hx2⟩)
    go_ret2
    exact ⟨by rw [HR.out]; rfl, (hxb.trans hx1).trans hx2⟩
set_option maxHeartbeats 1000000 in
theorem spec_RadiusOf (D : Rg) (a : Option Addr) (n c : Nat) (b : Option Addr) (m d : Nat) (ia : Option Addr) (im ic : Nat) (ra : Option Addr) (rm rc : Nat) (w : World) (hv : RgIn w D a n c b m d ia im ic ra rm rc) : Calls Try.prog 18 #[.agg #[.int .i64 D.ch.base, .int .i64 D.ch.states, .int .i64 D.ch.start, .int .i64 D.ch.fin, .slice a n c, .slice b m d, .int .i64 D.apart, .slice ia im ic, .slice ra rm rc]] w (Ret2 (.int .i64 (radRes D)) (.bool (validRg D)) w) := by
  have HB := Lib.hid (hv.box 33)
  have HVal := Lib.hid (fun q W W' (hx : Ext w W) hq (hx2 : Ext W W') => spec_l10Is D q a n c b m d ia im ic ra rm rc W' (RgAt.ext (w := W) hq hx2) (RgIn.ext hv (hx.trans hx2)))
  clear hv
  cases hval : validRg D
  · rw [hval] at HVal
    have HR := Lib.hid (show radRes D = 0 by rw [radRes, hval]; rfl)
    go_enter Try.func18, Try.ntmps18
    go_wp2_with (refine (HVal.out _ _ _ ((Ext.refl w).alloc _) HB.out (Ext.refl _)).mono ?_; rintro e w1 ⟨rfl, hx1⟩)
    go_ret2
    exact ⟨by rw [HR.out]; rfl, ((Ext.refl w).alloc _).trans hx1⟩
  · rw [hval] at HVal
    have hok := validRg_ok hval
    have h1 := hok.a1
    have h6 := hok.a6
    have HR := Lib.hid (show radRes D = (D.apart - 1) / 2 by rw [radRes, hval]; rfl)
    have Hhok := Lib.hid hok; clear hok; have Hhval := Lib.hid hval; clear hval
    go_enter Try.func18, Try.ntmps18
    go_wp2_with fail
    obtain ⟨wb, hwb⟩ : ∃ wb, wb = w.alloc (.cells #[.int .i64 D.ch.base, .int .i64 D.ch.states, .int .i64 D.ch.start, .int .i64 D.ch.fin, .slice a n c, .slice b m d, .int .i64 D.apart, .slice ia im ic, .slice ra rm rc] 33) := ⟨_, rfl⟩
    have hxb : Ext w wb := by rw [hwb]; exact (by repeat (first | (with_reducible exact Ext.refl _) | (with_reducible refine Ext.drewN ?_ _) | (with_reducible refine Ext.drew ?_) | (with_reducible refine Ext.alloc ?_ _) | ((with_reducible refine Ext.setCell ?_ ?_ _); rotate_left; focus (first | (simp; done) | (simp; omega) | omega)) | assumption | (with_reducible refine Ext.trans ?_ (by assumption))))
    rw [← hwb] at HB ⊢
    generalize w.heap.size = q at *
    clear hwb
    obtain ⟨_, k6, k7, k8, _, _⟩ := HB.out
    refine (HVal.out q wb wb hxb HB.out (Ext.refl _)).mono ?_
    rintro e w1 ⟨rfl, hx1⟩
    have hxw1 : Ext wb w1 := hx1
    go_wp2
    go_ret2
    exact ⟨by rw [HR.out]; rfl, hxb.trans hx1⟩
end Go.Proofs.Ytdekplfjnkbidaa

/- Walks: registries: StatusOf, on both sides; ValidRegistry of the reference. -/
namespace Go.Proofs.Ytdekplfjnkbidaa
open Go.RowKit

set_option maxHeartbeats 400000 in
theorem spec_ValidRegistry (D : Rg) (a : Option Addr) (n c : Nat) (b : Option Addr) (m d : Nat) (ia : Option Addr) (im ic : Nat) (ra : Option Addr) (rm rc : Nat) (w : World) (hv : RgIn w D a n c b m d ia im ic ra rm rc) : Calls Try.prog 14 #[.agg #[.int .i64 D.ch.base, .int .i64 D.ch.states, .int .i64 D.ch.start, .int .i64 D.ch.fin, .slice a n c, .slice b m d, .int .i64 D.apart, .slice ia im ic, .slice ra rm rc]] w (Ret (.bool (validRg D)) w) := by
  have HB := Lib.hid (hv.box 33)
  have HN := Lib.hid hv
  clear hv
  go_enter Try.func14, Try.ntmps14
  go_wp2_with (refine (spec_l10Is D _ a n c b m d ia im ic ra rm rc _ HB.out (HN.out.ext ((Ext.refl w).alloc _))).mono ?_; rintro e w1 ⟨rfl, hx1⟩)
  go_ret
  exact ⟨rfl, ((Ext.refl w).alloc _).trans hx1⟩
theorem atRg_flip (D : Rg) (s : ByteArray) : idx (fun x => x.toList == s.toList) D.issued = atRg D s := by
  unfold atRg; congr 1; funext x; rw [Bool.eq_iff_iff, beq_iff_eq, beq_iff_eq]; exact ⟨Eq.symm, Eq.symm⟩
theorem idx_bd {α : Type} (p : α → Bool) (l : List α) : -1 ≤ idx p l ∧ idx p l < l.length := by
  unfold idx
  cases h : l.findIdx? p with
  | none => simp only; omega
  | some i => rw [List.findIdx?_eq_some_iff_getElem] at h; obtain ⟨hi, _⟩ := h; simp only; omega
set_option maxHeartbeats 400000 in
theorem impl_indexOf (D : Rg) (q : Nat) (a : Option Addr) (n c : Nat) (b : Option Addr) (m d : Nat) (ia : Option Addr) (im ic : Nat) (ra : Option Addr) (rm rc : Nat) (s : ByteArray) (w : World) (hv : RgAt w q D a n c b m d ia im ic ra rm rc) (hi : im ≤ 1048576) :
    Calls Try.prog 63 #[.pointer (some ⟨q, 0, none⟩), .string s] w (Ret (.int .i64 (atRg D s)) w) := by
  have HX := Lib.hid (fun W h => indexT ia im ic D.issued s W (Strs.ext hv.is h) (by omega))
  have HA := Lib.hid (show idx (fun x => s.toList == x.toList) D.issued = atRg D s from rfl)
  rw [HA.out] at HX
  have hb := idx_bd (fun x : ByteArray => s.toList == x.toList) D.issued
  rw [HA.out, hv.is.len] at hb
  obtain ⟨_, k6, k7, k8, _, _⟩ := hv
  go_enter Try.func63, Try.ntmps63
  go_wp2_with (refine (HX.out _ (Ext.refl _)).mono ?_; rintro e w1 ⟨rfl, rfl⟩)
  go_ret
  exact ⟨ri (by omega), Ext.refl _⟩
set_option maxHeartbeats 1000000 in
theorem spec_l10At (D : Rg) (q : Nat) (a : Option Addr) (n c : Nat) (b : Option Addr) (m d : Nat) (ia : Option Addr) (im ic : Nat) (ra : Option Addr) (rm rc : Nat) (s : ByteArray) (w : World) (hv : RgAt w q D a n c b m d ia im ic ra rm rc) (hi : im ≤ 1048576) :
    Calls Try.prog 60 #[.pointer (some ⟨q, 0, none⟩), .string s] w (Ret (.int .i64 (atRg D s)) w) := by
  have HL := Lib.hid hv.is.len
  have HA := Lib.hid (atRg_flip D s)
  rw [← HA.out]
  obtain ⟨b1, o1, hix, hcell⟩ := hv.is.ix (P := Try.prog) 26 9 und_strs cell_str
  obtain ⟨_, k6, k7, k8, _, _⟩ := hv
  go_enter Try.func60, Try.ntmps60
  go_wp2
  go_loopw [5] (fun i wr => ∃ k : Nat, k ≤ im ∧ i = .int .i64 k ∧ NoneIn (fun x => x.toList == s.toList) (D.issued.take k) ∧ Ext w wr) (fun i _ => im - (intOf i).toNat)
  case atStart => exact ⟨0, Nat.zero_le _, rfl, by simp [NoneIn], Ext.refl _⟩
  case round =>
    obtain ⟨k, hk, rfl, hp, hx⟩ := hrel
    have Hhp := Lib.hid hp; clear hp
    by_cases hlt : k < im
    · have hkl : k < D.issued.length := by rw [HL.out]; exact hlt
      have HS := Lib.hid (fun h => NoneIn.stepT (p := fun x => x.toList == s.toList) hkl h Hhp.out)
      have HT := Lib.hid (idx_hitT (p := fun x => x.toList == s.toList) hkl Hhp.out)
      clear hkl
      go_wp2
      · go_ret
        exact ⟨ri (HT.out (by assumption)).symm, hx⟩
      · exact ⟨⟨k + 1, by omega, by go_num, HS.out (by assumption), hx⟩, by simp [intOf]; omega⟩
    · go_wp2
      go_ret
      exact ⟨ri (idx_none (by have := Hhp.out; rwa [take_full (by rw [HL.out]; omega)] at this)).symm, hx⟩
theorem stat_no {D : Rg} {s : ByteArray} (h : statOk D s = false) : statOf D s = 0 := by rw [statOf, h]; rfl
theorem stat_none {D : Rg} {s : ByteArray} (h : atRg D s < 0) : statOf D s = 0 := by rw [statOf, if_pos h]; split <;> rfl
theorem stat_rev {D : Rg} {s : ByteArray} (h : statOk D s = true) (h1 : ¬ atRg D s < 0) (h2 : revHas D (atRg D s) = true) : statOf D s = 2 := by rw [statOf, h, if_neg h1, h2]; rfl
theorem stat_iss {D : Rg} {s : ByteArray} (h : statOk D s = true) (h1 : ¬ atRg D s < 0) (h2 : revHas D (atRg D s) = false) : statOf D s = 1 := by rw [statOf, h, if_neg h1, h2]; rfl
set_option maxHeartbeats 2000000 in
theorem impl_StatusOf (D : Rg) (a : Option Addr) (n c : Nat) (b : Option Addr) (m d : Nat) (ia : Option Addr) (im ic : Nat) (ra : Option Addr) (rm rc : Nat) (s : ByteArray) (w : World) (hv : RgIn w D a n c b m d ia im ic ra rm rc) (hs : s.size ≤ 1048576) : Calls Try.prog 23 #[.agg #[.int .i64 D.ch.base, .int .i64 D.ch.states, .int .i64 D.ch.start, .int .i64 D.ch.fin, .slice a n c, .slice b m d, .int .i64 D.apart, .slice ia im ic, .slice ra rm rc], .string s] w (Ret2 (.int .i64 (statOf D s)) (.bool (statOk D s)) w) := by
  have HB := Lib.hid (hv.box 33)
  have HVal := Lib.hid (fun W h => impl_ValidRegistry D a n c b m d ia im ic ra rm rc W (RgIn.ext hv h))
  have him := hv.hi
  have hrm := hv.hr
  clear hv
  cases hval : validRg D
  · rw [hval] at HVal
    have HO := Lib.hid (show statOk D s = false by rw [statOk, hval]; rfl)
    have HR := Lib.hid (stat_no HO.out)
    clear hval
    go_enter Try.func23, Try.ntmps23
    go_wp2_with (refine (HVal.out _ ((Ext.refl w).alloc _)).mono ?_; rintro e w1 ⟨rfl, hx1⟩)
    go_ret2
    exact ⟨by rw [HR.out, HO.out]; rfl, ((Ext.refl w).alloc _).trans hx1⟩
  rw [hval] at HVal
  have HS := Lib.hid (show statOk D s = wordCh D.ch s by rw [statOk, hval]; rfl)
  clear hval
  go_enter Try.func23, Try.ntmps23
  go_wp2_with fail
  obtain ⟨wb, hwb⟩ : ∃ wb, wb = w.alloc (.cells #[.int .i64 D.ch.base, .int .i64 D.ch.states, .int .i64 D.ch.start, .int .i64 D.ch.fin, .slice a n c, .slice b m d, .int .i64 D.apart, .slice ia im ic, .slice ra rm rc] 33) := ⟨_, rfl⟩
  have hxb : Ext w wb := by rw [hwb]; exact (by repeat (first | (with_reducible exact Ext.refl _) | (with_reducible refine Ext.drewN ?_ _) | (with_reducible refine Ext.drew ?_) | (with_reducible refine Ext.alloc ?_ _) | ((with_reducible refine Ext.setCell ?_ ?_ _); rotate_left; focus (first | (simp; done) | (simp; omega) | omega)) | assumption | (with_reducible refine Ext.trans ?_ (by assumption))))
  rw [← hwb] at HB ⊢
  generalize w.heap.size = q at *
  clear hwb
  obtain ⟨_, k6, k7, k8, _, _⟩ := HB.out
  refine (HVal.out _ hxb).mono ?_
  rintro e w1 ⟨rfl, hx1⟩
  have hx1' : Ext wb w1 := hx1
  have HW := Lib.hid (impl_chWord D.ch q a n c b m d s w1 (HB.out.ch.ext hx1) hs)
  cases hw : wordCh D.ch s
  · rw [hw] at HW HS
    have HR := Lib.hid (stat_no HS.out)
    go_wp2_with (refine HW.out.mono ?_; rintro e w2 ⟨a2, n2, c2, rfl, hx2, _⟩)
    go_ret2
    exact ⟨by rw [HR.out, HS.out]; rfl, (hxb.trans hx1).trans hx2⟩
  rw [hw] at HW HS
  clear hw
  go_wp2_with fail
  refine HW.out.mono ?_
  rintro e w2 ⟨a2, n2, c2, rfl, hx2, _⟩
  have hx2' : Ext wb w2 := hx1.trans hx2
  go_wp2_with fail
  refine (impl_indexOf D q a n c b m d ia im ic ra rm rc s w2 (HB.out.ext hx2') him).mono ?_
  rintro e w3 ⟨rfl, hx3⟩
  have hx3' : Ext wb w3 := hx2'.trans hx3
  have HC := Lib.hid (containsI ra rm rc D.revoked (atRg D s) w3 (HB.out.rs.ext hx3') (by omega))
  rw [show (D.revoked.any fun y => y == atRg D s) = revHas D (atRg D s) from rfl] at HC
  by_cases hneg : atRg D s < 0
  · have HR := Lib.hid (stat_none hneg)
    generalize atRg D s = z at *
    go_wp2
    go_ret2
    exact ⟨by rw [HR.out, HS.out]; rfl, hxb.trans hx3'⟩
  · cases hrev : revHas D (atRg D s)
    · have HR := Lib.hid (stat_iss HS.out hneg hrev)
      rw [hrev] at HC
      clear hrev
      generalize atRg D s = z at *
      go_wp2_with (refine HC.out.mono ?_; rintro e w4 ⟨rfl, rfl⟩)
      go_ret2
      exact ⟨by rw [HR.out, HS.out]; rfl, hxb.trans hx3'⟩
    · have HR := Lib.hid (stat_rev HS.out hneg hrev)
      rw [hrev] at HC
      clear hrev
      generalize atRg D s = z at *
      go_wp2_with (refine HC.out.mono ?_; rintro e w4 ⟨rfl, rfl⟩)
      go_ret2
      exact ⟨by rw [HR.out, HS.out]; rfl, hxb.trans hx3'⟩
set_option maxHeartbeats 2000000 in
theorem spec_StatusOf (D : Rg) (a : Option Addr) (n c : Nat) (b : Option Addr) (m d : Nat) (ia : Option Addr) (im ic : Nat) (ra : Option Addr) (rm rc : Nat) (s : ByteArray) (w : World) (hv : RgIn w D a n c b m d ia im ic ra rm rc) (hs : s.size ≤ 1048576) : Calls Try.prog 22 #[.agg #[.int .i64 D.ch.base, .int .i64 D.ch.states, .int .i64 D.ch.start, .int .i64 D.ch.fin, .slice a n c, .slice b m d, .int .i64 D.apart, .slice ia im ic, .slice ra rm rc], .string s] w (Ret2 (.int .i64 (statOf D s)) (.bool (statOk D s)) w) := by
  have HB := Lib.hid (hv.box 33)
  have HN := Lib.hid hv
  have him := hv.hi
  have hrm := hv.hr
  clear hv
  cases hval : validRg D
  · have HO := Lib.hid (show statOk D s = false by rw [statOk, hval]; rfl)
    have HR := Lib.hid (stat_no HO.out)
    have HVal := Lib.hid (spec_l10Is D _ a n c b m d ia im ic ra rm rc _ HB.out (HN.out.ext ((Ext.refl w).alloc _)))
    rw [hval] at HVal
    clear hval
    go_enter Try.func22, Try.ntmps22
    go_wp2_with (refine HVal.out.mono ?_; rintro e w1 ⟨rfl, hx1⟩)
    go_ret2
    exact ⟨by rw [HR.out, HO.out]; rfl, ((Ext.refl w).alloc _).trans hx1⟩
  have hok := validRg_ok hval
  have HRun := Lib.hid (show runOk D.ch s = wordCh D.ch s by rw [runOk, hok.vc]; rfl)
  have HS := Lib.hid (show statOk D s = wordCh D.ch s by rw [statOk, hval]; rfl)
  have Hhok := Lib.hid hok; clear hok
  go_enter Try.func22, Try.ntmps22
  go_wp2_with fail
  obtain ⟨wb, hwb⟩ : ∃ wb, wb = w.alloc (.cells #[.int .i64 D.ch.base, .int .i64 D.ch.states, .int .i64 D.ch.start, .int .i64 D.ch.fin, .slice a n c, .slice b m d, .int .i64 D.apart, .slice ia im ic, .slice ra rm rc] 33) := ⟨_, rfl⟩
  have hxb : Ext w wb := by rw [hwb]; exact (by repeat (first | (with_reducible exact Ext.refl _) | (with_reducible refine Ext.drewN ?_ _) | (with_reducible refine Ext.drew ?_) | (with_reducible refine Ext.alloc ?_ _) | ((with_reducible refine Ext.setCell ?_ ?_ _); rotate_left; focus (first | (simp; done) | (simp; omega) | omega)) | assumption | (with_reducible refine Ext.trans ?_ (by assumption))))
  rw [← hwb] at HB ⊢
  generalize w.heap.size = q at *
  clear hwb
  obtain ⟨_, k6, k7, k8, _, _⟩ := HB.out
  have HVal := Lib.hid (spec_l10Is D q a n c b m d ia im ic ra rm rc wb HB.out (HN.out.ext hxb))
  rw [hval] at HVal
  clear hval
  refine HVal.out.mono ?_
  rintro e w1 ⟨rfl, hx1⟩
  have hx1' : Ext wb w1 := hx1
  have HW := Lib.hid (spec_l02Both D.ch q a n c b m d s w1 (HB.out.ch.ext hx1) HN.out.ch.hn HN.out.ch.hn' HN.out.ch.sm hs)
  rw [HRun.out] at HW
  cases hw : wordCh D.ch s
  · rw [hw] at HW HS
    have HR := Lib.hid (stat_no HS.out)
    go_wp2_with (refine HW.out.mono ?_; rintro e w2 ⟨rfl, hx2⟩)
    go_ret2
    exact ⟨by rw [HR.out, HS.out]; rfl, (hxb.trans hx1).trans hx2⟩
  rw [hw] at HW HS
  clear hw
  go_wp2_with fail
  refine HW.out.mono ?_
  rintro e w2 ⟨rfl, hx2⟩
  have hx2' : Ext wb w2 := hx1.trans hx2
  go_wp2_with fail
  refine (spec_l10At D q a n c b m d ia im ic ra rm rc s w2 (HB.out.ext hx2') him).mono ?_
  rintro e w3 ⟨rfl, hx3⟩
  have hx3' : Ext wb w3 := hx2'.trans hx3
  have HC := Lib.hid (spec_has ra rm rc D.revoked (atRg D s) w3 (HB.out.rs.ext hx3') (by omega))
  rw [show (D.revoked.any fun y => y == atRg D s) = revHas D (atRg D s) from rfl] at HC
  by_cases hneg : atRg D s < 0
  · have HR := Lib.hid (stat_none hneg)
    generalize atRg D s = z at *
    go_wp2
    go_ret2
    exact ⟨by rw [HR.out, HS.out]; rfl, hxb.trans hx3'⟩
  · cases hrev : revHas D (atRg D s)
    · have HR := Lib.hid (stat_iss HS.out hneg hrev)
      rw [hrev] at HC
      clear hrev
      generalize atRg D s = z at *
      go_wp2_with (refine HC.out.mono ?_; rintro e w4 ⟨rfl, rfl⟩)
      go_ret2
      exact ⟨by rw [HR.out, HS.out]; rfl, hxb.trans hx3'⟩
    · have HR := Lib.hid (stat_rev HS.out hneg hrev)
      rw [hrev] at HC
      clear hrev
      generalize atRg D s = z at *
      go_wp2_with (refine HC.out.mono ?_; rintro e w4 ⟨rfl, rfl⟩)
      go_ret2
      exact ⟨by rw [HR.out, HS.out]; rfl, hxb.trans hx3'⟩
end Go.Proofs.Ytdekplfjnkbidaa
