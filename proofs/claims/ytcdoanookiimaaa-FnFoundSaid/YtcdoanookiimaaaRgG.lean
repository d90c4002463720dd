/- Walks: registries: RadiusOf, StatusOf, LeastApart, on both sides. -/
import Derived.Test.YtcdoanookiimaaaRgV
namespace Go.Proofs.Ytcdoanookiimaaa
set_option maxRecDepth 100000
open Go.RowKit

theorem NoneIn.stepI {p : Int → Bool} {l : List Int} {k : Nat} (hk : k < l.length) (h : p (gi l k) = false) (hp : NoneIn p (l.take k)) : NoneIn p (l.take (k + 1)) := NoneIn.step (d := 0) hk rfl h hp
theorem idx_hitI {p : Int → Bool} {l : List Int} {k : Nat} (hk : k < l.length) (hp : NoneIn p (l.take k)) (h : p (gi l k) = true) : idx p l = k := idx_hit (d := 0) hk rfl h hp
set_option maxHeartbeats 400000 in
theorem indexI (a : Option Addr) (n c : Nat) (l : List Int) (x : Int) (w : World) (hv : Ints w a n c l) (hn : n ≤ 4294967296) :
    Calls Try.prog 131 #[.slice a n c, .int .i64 x] w (Same (.int .i64 (idx (fun y => x == y) l)) w) := by
  have HL := Lib.hid hv.len
  obtain ⟨b, off, hix, hcell⟩ := hv.ix (P := Try.prog) 25 2 und_int64s cell_int64
  have Hhv := Lib.hid hv; clear hv
  go_enter Try.func131, Try.ntmps131
  go_wp2
  go_loop [5, 8] (fun _ i => ∃ k : Nat, k ≤ n ∧ i = .int .i64 k ∧ NoneIn (fun y => x == y) (l.take k)) (fun _ i => n - (intOf i).toNat)
  case atStart => exact ⟨0, Nat.zero_le _, rfl, by simp [NoneIn]⟩
  case round =>
    obtain ⟨k, hk, rfl, hp⟩ := hrel
    have Hhp := Lib.hid hp; clear hp
    by_cases hlt : k < n
    · have hkl : k < l.length := by rw [HL.out]; exact hlt
      have HS := Lib.hid (fun h => NoneIn.stepI (p := fun y => x == y) hkl h Hhp.out)
      have HT := Lib.hid (idx_hitI (p := fun y => x == y) hkl Hhp.out)
      clear hkl
      go_wp2
      · go_ret
        exact ⟨ri (HT.out (by assumption)).symm, rfl⟩
      · exact ⟨⟨k + 1, by omega, by go_num, HS.out (by assumption)⟩, by simp [intOf]; omega⟩
    · go_wp2
      go_ret
      exact ⟨ri (idx_none (by have := Hhp.out; rwa [take_full (by rw [HL.out]; omega)] at this)).symm, rfl⟩
theorem any_flip (l : List Int) (x : Int) : (l.any fun y => x == y) = l.any fun y => y == x := by
  congr 1; funext y; rw [Bool.eq_iff_iff, beq_iff_eq, beq_iff_eq]; exact ⟨Eq.symm, Eq.symm⟩
set_option maxHeartbeats 400000 in
theorem containsI (a : Option Addr) (n c : Nat) (l : List Int) (x : Int) (w : World) (hv : Ints w a n c l) (hn : n ≤ 4294967296) :
    Calls Try.prog 66 #[.slice a n c, .int .i64 x] w (Same (.bool (l.any fun y => y == x)) w) := by
  have HC := Lib.hid (indexI a n c l x w hv hn)
  have HA := Lib.hid ((idx_ge (fun y => x == y) l).trans (any_flip l x))
  clear hv
  go_enter Try.func66, Try.ntmps66
  go_wp2_with (refine HC.out.mono ?_; rintro e w' ⟨rfl, rfl⟩)
  go_ret
  exact ⟨rb HA.out, rfl⟩
theorem any_step {l : List Int} {p : Int → Bool} {k : Nat} (hk : k < l.length) (h : p (gi l k) = true) : l.any p = true := List.any_eq_true.2 ⟨_, gi_mem hk, h⟩
/-! ### RadiusOf -/
def radRes (D : Rg) : Int := if validRg D then (D.apart - 1) / 2 else 0
set_option maxHeartbeats 400000 in
theorem impl_radius (D : Rg) (q : Nat) (a : Option Addr) (n c : Nat) (b : Option Addr) (m d : Nat) (ia : Option Addr) (im ic : Nat) (ra : Option Addr) (rm rc : Nat) (w : World) (hv : RgAt w q D a n c b m d ia im ic ra rm rc) (h1 : 1 ≤ D.apart) (h6 : D.apart ≤ 6) :
    Calls Try.prog 64 #[.pointer (some ⟨q, 0, none⟩)] w (Ret (.int .i64 ((D.apart - 1) / 2)) w) := by
  obtain ⟨_, k6, k7, k8, _, _⟩ := hv
  go_enter Try.func64, Try.ntmps64
  go_wp2
  go_ret
  exact ⟨ri (by omega), Ext.refl _⟩
set_option maxHeartbeats 1000000 in
theorem impl_RadiusOf (D : Rg) (a : Option Addr) (n c : Nat) (b : Option Addr) (m d : Nat) (ia : Option Addr) (im ic : Nat) (ra : Option Addr) (rm rc : Nat) (w : World) (hv : RgIn w D a n c b m d ia im ic ra rm rc) : Calls Try.prog 21 #[.agg #[.int .i64 D.ch.base, .int .i64 D.ch.states, .int .i64 D.ch.start, .int .i64 D.ch.fin, .slice a n c, .slice b m d, .int .i64 D.apart, .slice ia im ic, .slice ra rm rc]] w (Ret2 (.int .i64 (radRes D)) (.bool (validRg D)) w) := by
  have HB := Lib.hid (hv.box 30)
  have HVal := Lib.hid (fun W h => impl_ValidRegistry D a n c b m d ia im ic ra rm rc W (RgIn.ext hv h))
  clear hv
  cases hval : validRg D
  · rw [hval] at HVal
    have HR := Lib.hid (show radRes D = 0 by rw [radRes, hval]; rfl)
    go_enter Try.func21, Try.ntmps21
    go_wp2_with (refine (HVal.out _ ((Ext.refl w).alloc _)).mono ?_; rintro e w1 ⟨rfl, hx1⟩)
    go_ret2
    exact ⟨by rw [HR.out]; rfl, ((Ext.refl w).alloc _).trans hx1⟩
  · rw [hval] at HVal
    have hok := validRg_ok hval
    have h1 := hok.a1
    have h6 := hok.a6
    have HR := Lib.hid (show radRes D = (D.apart - 1) / 2 by rw [radRes, hval]; rfl)
    have Hhok := Lib.hid hok; clear hok; have Hhval := Lib.hid hval; clear hval
    go_enter Try.func21, Try.ntmps21
    go_wp2_with fail
    obtain ⟨wb, hwb⟩ : ∃ wb, wb = w.alloc (.cells #[.int .i64 D.ch.base, .int .i64 D.ch.states, .int .i64 D.ch.start, .int .i64 D.ch.fin, .slice a n c, .slice b m d, .int .i64 D.apart, .slice ia im ic, .slice ra rm rc] 30) := ⟨_, rfl⟩
    have hxb : Ext w wb := by rw [hwb]; exact (by repeat (first | (with_reducible exact Ext.refl _) | (with_reducible refine Ext.drewN ?_ _) | (with_reducible refine Ext.drew ?_) | (with_reducible refine Ext.alloc ?_ _) | ((with_reducible refine Ext.setCell ?_ ?_ _); rotate_left; focus (first | (simp; done) | (simp; omega) | omega)) | assumption | (with_reducible refine Ext.trans ?_ (by assumption))))
    rw [← hwb] at HB ⊢
    generalize w.heap.size = q at *
    clear hwb
    refine (HVal.out _ hxb).mono ?_
    rintro e w1 ⟨rfl, hx1⟩
    go_wp2_with (refine (impl_radius D q a n c b m d ia im ic ra rm rc w1 (HB.out.ext hx1) h1 h6).mono ?_; rintro e w2 ⟨rfl, hx2⟩)
    go_ret2
    exact ⟨by rw [HR.out]; rfl, (hxb.trans hx1).trans hx2⟩
end Go.Proofs.Ytcdoanookiimaaa

/- Walks: registries: StatusOf, on both sides; ValidRegistry of the reference. -/
namespace Go.Proofs.Ytcdoanookiimaaa
set_option maxRecDepth 100000
open Go.RowKit

theorem atRg_flip (D : Rg) (s : ByteArray) : idx (fun x => x.toList == s.toList) D.issued = atRg D s := by
  unfold atRg; congr 1; funext x; rw [Bool.eq_iff_iff, beq_iff_eq, beq_iff_eq]; exact ⟨Eq.symm, Eq.symm⟩
theorem idx_bd {α : Type} (p : α → Bool) (l : List α) : -1 ≤ idx p l ∧ idx p l < l.length := by
  unfold idx
  cases h : l.findIdx? p with
  | none => simp only; omega
  | some i => rw [List.findIdx?_eq_some_iff_getElem] at h; obtain ⟨hi, _⟩ := h; simp only; omega
set_option maxHeartbeats 400000 in
theorem impl_indexOf (D : Rg) (q : Nat) (a : Option Addr) (n c : Nat) (b : Option Addr) (m d : Nat) (ia : Option Addr) (im ic : Nat) (ra : Option Addr) (rm rc : Nat) (s : ByteArray) (w : World) (hv : RgAt w q D a n c b m d ia im ic ra rm rc) (hi : im ≤ 1048576) :
    Calls Try.prog 69 #[.pointer (some ⟨q, 0, none⟩), .string s] w (Ret (.int .i64 (atRg D s)) w) := by
  have HX := Lib.hid (fun W h => indexT ia im ic D.issued s W (Strs.ext hv.is h) (by omega))
  have HA := Lib.hid (show idx (fun x => s.toList == x.toList) D.issued = atRg D s from rfl)
  rw [HA.out] at HX
  have hb := idx_bd (fun x : ByteArray => s.toList == x.toList) D.issued
  rw [HA.out, hv.is.len] at hb
  obtain ⟨_, k6, k7, k8, _, _⟩ := hv
  go_enter Try.func69, Try.ntmps69
  go_wp2_with (refine (HX.out _ (Ext.refl _)).mono ?_; rintro e w1 ⟨rfl, rfl⟩)
  go_ret
  exact ⟨ri (by omega), Ext.refl _⟩
theorem stat_no {D : Rg} {s : ByteArray} (h : statOk D s = false) : statOf D s = 0 := by rw [statOf, h]; rfl
theorem stat_none {D : Rg} {s : ByteArray} (h : atRg D s < 0) : statOf D s = 0 := by rw [statOf, if_pos h]; split <;> rfl
theorem stat_rev {D : Rg} {s : ByteArray} (h : statOk D s = true) (h1 : ¬ atRg D s < 0) (h2 : revHas D (atRg D s) = true) : statOf D s = 2 := by rw [statOf, h, if_neg h1, h2]; rfl
theorem stat_iss {D : Rg} {s : ByteArray} (h : statOk D s = true) (h1 : ¬ atRg D s < 0) (h2 : revHas D (atRg D s) = false) : statOf D s = 1 := by rw [statOf, h, if_neg h1, h2]; rfl
set_option maxHeartbeats 2000000 in
theorem impl_StatusOf (D : Rg) (a : Option Addr) (n c : Nat) (b : Option Addr) (m d : Nat) (ia : Option Addr) (im ic : Nat) (ra : Option Addr) (rm rc : Nat) (s : ByteArray) (w : World) (hv : RgIn w D a n c b m d ia im ic ra rm rc) (hs : s.size ≤ 1048576) : Calls Try.prog 23 #[.agg #[.int .i64 D.ch.base, .int .i64 D.ch.states, .int .i64 D.ch.start, .int .i64 D.ch.fin, .slice a n c, .slice b m d, .int .i64 D.apart, .slice ia im ic, .slice ra rm rc], .string s] w (Ret2 (.int .i64 (statOf D s)) (.bool (statOk D s)) w) := by
  have HB := Lib.hid (hv.box 30)
  have HVal := Lib.hid (fun W h => impl_ValidRegistry D a n c b m d ia im ic ra rm rc W (RgIn.ext hv h))
  have him := hv.hi
  have hrm := hv.hr
  clear hv
  cases hval : validRg D
  · rw [hval] at HVal
    have HO := Lib.hid (show statOk D s = false by rw [statOk, hval]; rfl)
    have HR := Lib.hid (stat_no HO.out)
    clear hval
    go_enter Try.func23, Try.ntmps23
    go_wp2_with (refine (HVal.out _ ((Ext.refl w).alloc _)).mono ?_; rintro e w1 ⟨rfl, hx1⟩)
    go_ret2
    exact ⟨by rw [HR.out, HO.out]; rfl, ((Ext.refl w).alloc _).trans hx1⟩
  rw [hval] at HVal
  have HS := Lib.hid (show statOk D s = wordCh D.ch s by rw [statOk, hval]; rfl)
  clear hval
  go_enter Try.func23, Try.ntmps23
  go_wp2_with fail
  obtain ⟨wb, hwb⟩ : ∃ wb, wb = w.alloc (.cells #[.int .i64 D.ch.base, .int .i64 D.ch.states, .int .i64 D.ch.start, .int .i64 D.ch.fin, .slice a n c, .slice b m d, .int .i64 D.apart, .slice ia im ic, .slice ra rm rc] 30) := ⟨_, rfl⟩
  have hxb : Ext w wb := by rw [hwb]; exact (by repeat (first | (with_reducible exact Ext.refl _) | (with_reducible refine Ext.drewN ?_ _) | (with_reducible refine Ext.drew ?_) | (with_reducible refine Ext.alloc ?_ _) | ((with_reducible refine Ext.setCell ?_ ?_ _); rotate_left; focus (first | (simp; done) | (simp; omega) | omega)) | assumption | (with_reducible refine Ext.trans ?_ (by assumption))))
  rw [← hwb] at HB ⊢
  generalize w.heap.size = q at *
  clear hwb
  obtain ⟨_, k6, k7, k8, _, _⟩ := HB.out
  refine (HVal.out _ hxb).mono ?_
  rintro e w1 ⟨rfl, hx1⟩
  have hx1' : Ext wb w1 := hx1
  have HW := Lib.hid (impl_chWord D.ch q a n c b m d s w1 (HB.out.ch.ext hx1) hs)
  cases hw : wordCh D.ch s
  · rw [hw] at HW HS
    have HR := Lib.hid (stat_no HS.out)
    go_wp2_with (refine HW.out.mono ?_; rintro e w2 ⟨a2, n2, c2, rfl, hx2, _⟩)
    go_ret2
    exact ⟨by rw [HR.out, HS.out]; rfl, (hxb.trans hx1).trans hx2⟩
  rw [hw] at HW HS
  clear hw
  go_wp2_with fail
  refine HW.out.mono ?_
  rintro e w2 ⟨a2, n2, c2, rfl, hx2, _⟩
  have hx2' : Ext wb w2 := hx1.trans hx2
  go_wp2_with fail
  refine (impl_indexOf D q a n c b m d ia im ic ra rm rc s w2 (HB.out.ext hx2') him).mono ?_
  rintro e w3 ⟨rfl, hx3⟩
  have hx3' : Ext wb w3 := hx2'.trans hx3
  have HC := Lib.hid (containsI ra rm rc D.revoked (atRg D s) w3 (HB.out.rs.ext hx3') (by omega))
  rw [show (D.revoked.any fun y => y == atRg D s) = revHas D (atRg D s) from rfl] at HC
  by_cases hneg : atRg D s < 0
  · have HR := Lib.hid (stat_none hneg)
    generalize atRg D s = z at *
    go_wp2
    go_ret2
    exact ⟨by rw [HR.out, HS.out]; rfl, hxb.trans hx3'⟩
  · cases hrev : revHas D (atRg D s)
    · have HR := Lib.hid (stat_iss HS.out hneg hrev)
      rw [hrev] at HC
      clear hrev
      generalize atRg D s = z at *
      go_wp2_with (refine HC.out.mono ?_; rintro e w4 ⟨rfl, rfl⟩)
      go_ret2
      exact ⟨by rw [HR.out, HS.out]; rfl, hxb.trans hx3'⟩
    · have HR := Lib.hid (stat_rev HS.out hneg hrev)
      rw [hrev] at HC
      clear hrev
      generalize atRg D s = z at *
      go_wp2_with (refine HC.out.mono ?_; rintro e w4 ⟨rfl, rfl⟩)
      go_ret2
      exact ⟨by rw [HR.out, HS.out]; rfl, hxb.trans hx3'⟩
end Go.Proofs.Ytcdoanookiimaaa

/- Walks: registries: LeastApart, on both sides. -/
namespace Go.Proofs.Ytcdoanookiimaaa
set_option maxRecDepth 100000
open Go.RowKit

theorem cost_max : ∀ (n : Nat) (a b : List UInt8), a.length + b.length ≤ n → costS a b ≤ max a.length b.length
  | _, [], b, _ => by rw [cost_nil]; simp
  | _, a, [], _ => by rw [cost_nil']; simp
  | 0, x :: xs, y :: ys, h => by simp at h
  | n + 1, x :: xs, y :: ys, h => by
    simp only [List.length_cons] at h
    have := cost_max n xs ys (by omega)
    rw [cost_cons]
    simp only [List.length_cons]
    split <;> omega
theorem dist_max (a b : ByteArray) : distS a b ≤ max a.size b.size := by
  have := cost_max _ a.data.toList b.data.toList (Nat.le_refl _)
  rw [ba_len, ba_len] at this
  exact this
def dL (D : Rg) (i j : Nat) : Int := distS (gs D.issued i) (gs D.issued j)
/-- all distances that come before words i and j -/
def distL (D : Rg) (i j : Nat) : List Int := ((List.range i).flatMap fun a => (List.range a).map (dL D a)) ++ (List.range j).map (dL D i)
theorem distL_succ (D : Rg) (i j : Nat) : distL D i (j + 1) = distL D i j ++ [dL D i j] := by
  unfold distL; rw [List.range_succ, List.map_append, List.append_assoc]; rfl
theorem distL_next (D : Rg) (i : Nat) : distL D (i + 1) 0 = distL D i i := by
  unfold distL; rw [List.range_succ, List.flatMap_append]; simp
def minL (s : Int) (l : List Int) : Int := l.foldl min s
theorem minL_snoc (s : Int) (l : List Int) (x : Int) : minL s (l ++ [x]) = min (minL s l) x := by simp [minL]
theorem minL_start : ∀ (l : List Int) (s t x : Int), x ∈ l → x ≤ s → x ≤ t → minL s l = minL t l
  | [], _, _, _, h, _, _ => by cases h
  | y :: ys, s, t, x, h, h1, h2 => by
    show minL (min s y) ys = minL (min t y) ys
    by_cases e : y ≤ x
    · rw [show min s y = y by omega, show min t y = y by omega]
    · rcases List.mem_cons.1 h with rfl | h
      · omega
      · exact minL_start ys _ _ x h (by omega) (by omega)
def laOk (D : Rg) : Bool := validRg D && decide (2 ≤ D.issued.length)
def laRes (D : Rg) : Int := if laOk D then minL 1099511627776 (distL D D.issued.length 0) else 0
theorem la_no {D : Rg} (h : laOk D = false) : laRes D = 0 := by rw [laRes, h]; rfl
theorem la_yes {D : Rg} (h : laOk D = true) : laRes D = minL 1099511627776 (distL D D.issued.length 0) := by rw [laRes, h]; rfl
theorem la_yes' {D : Rg} (h : laOk D = true) : laRes D = minL 20 (distL D D.issued.length 0) := by
  rw [la_yes h]
  unfold laOk at h
  simp only [Bool.and_eq_true, decide_eq_true_eq] at h
  have hok := validRg_ok h.1
  have h1 := hok.s20 0 (by omega)
  have h2 := hok.s20 1 (by omega)
  have h3 := dist_max (gs D.issued 1) (gs D.issued 0)
  have h4 : dL D 1 0 ≤ 20 := by unfold dL; omega
  refine minL_start _ _ _ (dL D 1 0) ?_ (by omega) h4
  unfold distL
  refine List.mem_append_left _ (List.mem_flatMap.2 ⟨1, List.mem_range.2 (by omega), List.mem_map.2 ⟨0, List.mem_range.2 (by omega), rfl⟩⟩)
set_option maxHeartbeats 2000000 in
theorem impl_LeastApart (D : Rg) (a : Option Addr) (n c : Nat) (b : Option Addr) (m d : Nat) (ia : Option Addr) (im ic : Nat) (ra : Option Addr) (rm rc : Nat) (w : World) (hv : RgIn w D a n c b m d ia im ic ra rm rc) : Calls Try.prog 20 #[.agg #[.int .i64 D.ch.base, .int .i64 D.ch.states, .int .i64 D.ch.start, .int .i64 D.ch.fin, .slice a n c, .slice b m d, .int .i64 D.apart, .slice ia im ic, .slice ra rm rc]] w (Ret2 (.int .i64 (laRes D)) (.bool (laOk D)) w) := by
  have HB := Lib.hid (hv.box 30)
  have HN := Lib.hid hv
  have HVal := Lib.hid (fun W h => impl_ValidRegistry D a n c b m d ia im ic ra rm rc W (RgIn.ext hv h))
  have him := hv.hi
  have HL := Lib.hid hv.is.len
  obtain ⟨bi, oi, hix, hcell⟩ := hv.is.ix (P := Try.prog) 28 9 und_strs cell_str
  clear hv
  cases hval : validRg D
  · rw [hval] at HVal
    have HO := Lib.hid (show laOk D = false by rw [laOk, hval]; rfl)
    have HR := Lib.hid (la_no HO.out)
    clear hval
    go_enter Try.func20, Try.ntmps20
    go_wp2_with (refine (HVal.out _ ((Ext.refl w).alloc _)).mono ?_; rintro e w1 ⟨rfl, hx1⟩)
    go_ret2
    exact ⟨by rw [HR.out, HO.out]; rfl, ((Ext.refl w).alloc _).trans hx1⟩
  rw [hval] at HVal
  have hok := validRg_ok hval
  have HS := Lib.hid (show laOk D = decide (2 ≤ im) by rw [laOk, hval, HL.out]; rfl)
  have Hhok := Lib.hid hok; clear hok; have Hhval := Lib.hid hval; clear hval
  by_cases h2 : 2 ≤ im
  rotate_left
  · have HO := Lib.hid (show laOk D = false by rw [HS.out]; simpa using h2)
    have HR := Lib.hid (la_no HO.out)
    go_enter Try.func20, Try.ntmps20
    go_wp2_with fail
    obtain ⟨wb, hwb⟩ : ∃ wb, wb = w.alloc (.cells #[.int .i64 D.ch.base, .int .i64 D.ch.states, .int .i64 D.ch.start, .int .i64 D.ch.fin, .slice a n c, .slice b m d, .int .i64 D.apart, .slice ia im ic, .slice ra rm rc] 30) := ⟨_, rfl⟩
    have hxb : Ext w wb := by rw [hwb]; exact (by repeat (first | (with_reducible exact Ext.refl _) | (with_reducible refine Ext.drewN ?_ _) | (with_reducible refine Ext.drew ?_) | (with_reducible refine Ext.alloc ?_ _) | ((with_reducible refine Ext.setCell ?_ ?_ _); rotate_left; focus (first | (simp; done) | (simp; omega) | omega)) | assumption | (with_reducible refine Ext.trans ?_ (by assumption))))
    rw [← hwb] at HB ⊢
    generalize w.heap.size = q at *
    clear hwb
    obtain ⟨_, k6, k7, k8, _, _⟩ := HB.out
    refine (HVal.out _ hxb).mono ?_
    rintro e w1 ⟨rfl, hx1⟩
    have hx1' : Ext wb w1 := hx1
    go_wp2
    go_ret2
    exact ⟨by rw [HR.out, HO.out]; rfl, hxb.trans hx1⟩
  have HO := Lib.hid (show laOk D = true by rw [HS.out]; simpa using h2)
  have HR := Lib.hid (la_yes HO.out)
  rw [HL.out] at HR
  go_enter Try.func20, Try.ntmps20
  go_wp2_with fail
  obtain ⟨wb, hwb⟩ : ∃ wb, wb = w.alloc (.cells #[.int .i64 D.ch.base, .int .i64 D.ch.states, .int .i64 D.ch.start, .int .i64 D.ch.fin, .slice a n c, .slice b m d, .int .i64 D.apart, .slice ia im ic, .slice ra rm rc] 30) := ⟨_, rfl⟩
  have hxb : Ext w wb := by rw [hwb]; exact (by repeat (first | (with_reducible exact Ext.refl _) | (with_reducible refine Ext.drewN ?_ _) | (with_reducible refine Ext.drew ?_) | (with_reducible refine Ext.alloc ?_ _) | ((with_reducible refine Ext.setCell ?_ ?_ _); rotate_left; focus (first | (simp; done) | (simp; omega) | omega)) | assumption | (with_reducible refine Ext.trans ?_ (by assumption))))
  rw [← hwb] at HB ⊢
  generalize w.heap.size = q at *
  clear hwb
  obtain ⟨_, k6, k7, k8, _, _⟩ := HB.out
  refine (HVal.out _ hxb).mono ?_
  rintro e w1 ⟨rfl, hx1⟩
  have hx1' : Ext wb w1 := hx1
  go_wp2
  go_loopw [4, 5, 6, 8, 21] (fun v _ _ _ i wr => ∃ k : Nat, k ≤ im ∧ i = .int .i64 k ∧ v = .int .i64 (minL 1099511627776 (distL D k 0)) ∧ Ext wb wr) (fun _ _ _ _ i _ => im - (intOf i).toNat)
  case atStart => exact ⟨0, Nat.zero_le _, rfl, rfl, hx1⟩
  case round =>
    obtain ⟨k, hk, rfl, rfl, hx⟩ := hrel
    have hxr : Ext wb wr := hx
    have hxq : Ext w wr := hxb.trans hx
    by_cases hlt : k < im
    · obtain ⟨a9, hsl, hpre⟩ := HN.out.is.pre (P := Try.prog) 28 9 und_strs cell_str elem_strs k hk
      have HPre := Lib.hid hpre
      have HGs := Lib.hid (fun j (hj : j < k) => show gs (D.issued.take k) j = gs D.issued j by simp [gs, List.getD_eq_getElem?_getD, List.getElem?_take_of_lt hj])
      obtain ⟨b9, o9, hix9, hcell9⟩ := hpre.ix (P := Try.prog) 28 9 und_strs cell_str
      clear hpre
      obtain ⟨mz, hmz⟩ : ∃ z, z = minL 1099511627776 (distL D k 0) := ⟨_, rfl⟩
      rw [← hmz]
      have Hmz := Lib.hid hmz
      clear hmz
      go_wp2
      go_loopw [4, 8, 31] (fun v _ i wr => ∃ j : Nat, j ≤ k ∧ i = .int .i64 j ∧ v = .int .i64 (minL 1099511627776 (distL D k j)) ∧ Ext wb wr) (fun _ _ i _ => k - (intOf i).toNat)
      case atStart => exact ⟨0, Nat.zero_le _, rfl, by rw [Hmz.out], hx⟩
      case round =>
        obtain ⟨j, hj, rfl, rfl, hx⟩ := hrel
        have hxr : Ext wb wr := hx
        have hxq : Ext w wr := hxb.trans hx
        by_cases hlt2 : j < k
        · have hji : j < im := by omega
          have hs1 := Hhok.out.s20 k (by rw [HL.out]; exact hlt)
          have hs2 := Hhok.out.s20 j (by rw [HL.out]; omega)
          have HD := Lib.hid (fun W => impl_distance (gs D.issued k) (gs D.issued j) W (by omega) (by omega))
          have HM := Lib.hid (show minL 1099511627776 (distL D k (j + 1)) = min (minL 1099511627776 (distL D k j)) (distS (gs D.issued k) (gs D.issued j)) by rw [distL_succ, minL_snoc]; rfl)
          have hg := HGs.out j hlt2
          have hc9 := hcell9 j
          rw [hg] at hc9
          clear hcell9 hg
          generalize minL 1099511627776 (distL D k j) = mz at *
          go_wp2_with ((with_reducible refine (HD.out _).mono ?_); rintro e w2 ⟨rfl, hx2⟩)
          exact ⟨⟨j + 1, by omega, by go_num, by rw [HM.out]; congr 1; split <;> omega, hx.trans hx2⟩, by simp [intOf]; omega⟩
        · obtain rfl : j = k := by omega
          have HM := Lib.hid (distL_next D j)
          go_wp2
          exact ⟨⟨j + 1, by omega, by go_num, by rw [HM.out], hx⟩, by simp [intOf]; omega⟩
    · obtain rfl : k = im := by omega
      go_wp2
      go_ret2
      exact ⟨by rw [HR.out, HO.out]; rfl, hxq⟩
end Go.Proofs.Ytcdoanookiimaaa
