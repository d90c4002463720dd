/- Walks: registries: RadiusOf, StatusOf, LeastApart, on both sides. -/
import Derived.Test.YthbdnkokklahcaaGreatRgV
namespace Go.Proofs.YthbdnkokklahcaaGreat
set_option maxRecDepth 100000
open Go.RowKit

theorem NoneIn.stepI {p : Int → Bool} {l : List Int} {k : Nat} (hk : k < l.length) (h : p (gi l k) = false) (hp : NoneIn p (l.take k)) : NoneIn p (l.take (k + 1)) := NoneIn.step (d := 0) hk rfl h hp
theorem idx_hitI {p : Int → Bool} {l : List Int} {k : Nat} (hk : k < l.length) (hp : NoneIn p (l.take k)) (h : p (gi l k) = true) : idx p l = k := idx_hit (d := 0) hk rfl h hp
set_option maxHeartbeats 400000 in
theorem indexI (a : Option Addr) (n c : Nat) (l : List Int) (x : Int) (w : World) (hv : Ints w a n c l) (hn : n ≤ 4294967296) :
    Calls Tryz.prog 51 #[.slice a n c, .int .i64 x] w (Same (.int .i64 (idx (fun y => x == y) l)) w) := by
  have HL := Lib.hid hv.len
  obtain ⟨b, off, hix, hcell⟩ := hv.ix (P := Tryz.prog) 23 2 und_int64s cell_int64
  have Hhv := Lib.hid hv; clear hv
  go_enter Tryz.func51, Tryz.ntmps51
  go_wp2
  go_loop [5, 8] (fun _ i => ∃ k : Nat, k ≤ n ∧ i = .int .i64 k ∧ NoneIn (fun y => x == y) (l.take k)) (fun _ i => n - (intOf i).toNat)
  case atStart => exact ⟨0, Nat.zero_le _, rfl, by simp [NoneIn]⟩
  case round =>
    obtain ⟨k, hk, rfl, hp⟩ := hrel
    have Hhp := Lib.hid hp; clear hp
    by_cases hlt : k < n
    · have hkl : k < l.length := by rw [HL.out]; exact hlt
      have HS := Lib.hid (fun h => NoneIn.stepI (p := fun y => x == y) hkl h Hhp.out)
      have HT := Lib.hid (idx_hitI (p := fun y => x == y) hkl Hhp.out)
      clear hkl
      go_wp2
      · go_ret
        exact ⟨ri (HT.out (by assumption)).symm, rfl⟩
      · exact ⟨⟨k + 1, by omega, by go_num, HS.out (by assumption)⟩, by simp [intOf]; omega⟩
    · go_wp2
      go_ret
      exact ⟨ri (idx_none (by have := Hhp.out; rwa [take_full (by rw [HL.out]; omega)] at this)).symm, rfl⟩
theorem any_flip (l : List Int) (x : Int) : (l.any fun y => x == y) = l.any fun y => y == x := by
  congr 1; funext y; rw [Bool.eq_iff_iff, beq_iff_eq, beq_iff_eq]; exact ⟨Eq.symm, Eq.symm⟩
set_option maxHeartbeats 400000 in
theorem containsI (a : Option Addr) (n c : Nat) (l : List Int) (x : Int) (w : World) (hv : Ints w a n c l) (hn : n ≤ 4294967296) :
    Calls Tryz.prog 24 #[.slice a n c, .int .i64 x] w (Same (.bool (l.any fun y => y == x)) w) := by
  have HC := Lib.hid (indexI a n c l x w hv hn)
  have HA := Lib.hid ((idx_ge (fun y => x == y) l).trans (any_flip l x))
  clear hv
  go_enter Tryz.func24, Tryz.ntmps24
  go_wp2_with (refine HC.out.mono ?_; rintro e w' ⟨rfl, rfl⟩)
  go_ret
  exact ⟨rb HA.out, rfl⟩
theorem any_step {l : List Int} {p : Int → Bool} {k : Nat} (hk : k < l.length) (h : p (gi l k) = true) : l.any p = true := List.any_eq_true.2 ⟨_, gi_mem hk, h⟩
set_option maxHeartbeats 400000 in
theorem spec_has (a : Option Addr) (n c : Nat) (l : List Int) (x : Int) (w : World) (hv : Ints w a n c l) (hn : n ≤ 4294967296) :
    Calls Tryz.prog 16 #[.slice a n c, .int .i64 x] w (Same (.bool (l.any fun y => y == x)) w) := by
  have HL := Lib.hid hv.len
  obtain ⟨b, off, hix, hcell⟩ := hv.ix (P := Tryz.prog) 23 2 und_int64s cell_int64
  have Hhv := Lib.hid hv; clear hv
  go_enter Tryz.func16, Tryz.ntmps16
  go_wp2
  go_loop [5] (fun i => ∃ k : Nat, k ≤ n ∧ i = .int .i64 k ∧ NoneIn (fun y => y == x) (l.take k)) (fun i => n - (intOf i).toNat)
  case atStart => exact ⟨0, Nat.zero_le _, rfl, by simp [NoneIn]⟩
  case round =>
    obtain ⟨k, hk, rfl, hp⟩ := hrel
    have Hhp := Lib.hid hp; clear hp
    by_cases hlt : k < n
    · have hkl : k < l.length := by rw [HL.out]; exact hlt
      have HS := Lib.hid (fun h => NoneIn.stepI (p := fun y => y == x) hkl h Hhp.out)
      have HT := Lib.hid (any_step (p := fun y => y == x) hkl)
      clear hkl
      go_wp2
      · go_ret
        exact ⟨rb (HT.out (by assumption)).symm, rfl⟩
      · exact ⟨⟨k + 1, by omega, by go_num, HS.out (by assumption)⟩, by simp [intOf]; omega⟩
    · go_wp2
      go_ret
      refine ⟨rb (Eq.symm ?_), rfl⟩
      have := Hhp.out
      rw [take_full (by rw [HL.out]; omega)] at this
      exact List.any_eq_false.2 fun y hy => by have h : (y == x) = false := this y hy; rw [h]; simp
/-! ### RadiusOf -/
def radRes (D : Rg) : Int := if validRg D then (D.apart - 1) / 2 else 0
end Go.Proofs.YthbdnkokklahcaaGreat

/- Walks: registries: StatusOf, on both sides; ValidRegistry of the reference. -/
namespace Go.Proofs.YthbdnkokklahcaaGreat
set_option maxRecDepth 100000
open Go.RowKit

theorem atRg_flip (D : Rg) (s : ByteArray) : idx (fun x => x.toList == s.toList) D.issued = atRg D s := by
  unfold atRg; congr 1; funext x; rw [Bool.eq_iff_iff, beq_iff_eq, beq_iff_eq]; exact ⟨Eq.symm, Eq.symm⟩
theorem idx_bd {α : Type} (p : α → Bool) (l : List α) : -1 ≤ idx p l ∧ idx p l < l.length := by
  unfold idx
  cases h : l.findIdx? p with
  | none => simp only; omega
  | some i => rw [List.findIdx?_eq_some_iff_getElem] at h; obtain ⟨hi, _⟩ := h; simp only; omega
set_option maxHeartbeats 400000 in
theorem impl_indexOf (D : Rg) (q : Nat) (a : Option Addr) (n c : Nat) (b : Option Addr) (m d : Nat) (ia : Option Addr) (im ic : Nat) (ra : Option Addr) (rm rc : Nat) (s : ByteArray) (w : World) (hv : RgAt w q D a n c b m d ia im ic ra rm rc) (hi : im ≤ 1048576) :
    Calls Tryz.prog 23 #[.pointer (some ⟨q, 0, none⟩), .string s] w (Ret (.int .i64 (atRg D s)) w) := by
  have HX := Lib.hid (fun W h => indexT ia im ic D.issued s W (Strs.ext hv.is h) (by omega))
  have HA := Lib.hid (show idx (fun x => s.toList == x.toList) D.issued = atRg D s from rfl)
  rw [HA.out] at HX
  have hb := idx_bd (fun x : ByteArray => s.toList == x.toList) D.issued
  rw [HA.out, hv.is.len] at hb
  obtain ⟨_, k6, k7, k8, _, _⟩ := hv
  go_enter Tryz.func23, Tryz.ntmps23
  go_wp2_with (refine (HX.out _ (Ext.refl _)).mono ?_; rintro e w1 ⟨rfl, rfl⟩)
  go_ret
  exact ⟨ri (by omega), Ext.refl _⟩
set_option maxHeartbeats 1000000 in
theorem spec_l10At (D : Rg) (q : Nat) (a : Option Addr) (n c : Nat) (b : Option Addr) (m d : Nat) (ia : Option Addr) (im ic : Nat) (ra : Option Addr) (rm rc : Nat) (s : ByteArray) (w : World) (hv : RgAt w q D a n c b m d ia im ic ra rm rc) (hi : im ≤ 1048576) :
    Calls Tryz.prog 15 #[.pointer (some ⟨q, 0, none⟩), .string s] w (Ret (.int .i64 (atRg D s)) w) := by
  have HL := Lib.hid hv.is.len
  have HA := Lib.hid (atRg_flip D s)
  rw [← HA.out]
  obtain ⟨b1, o1, hix, hcell⟩ := hv.is.ix (P := Tryz.prog) 26 9 und_strs cell_str
  obtain ⟨_, k6, k7, k8, _, _⟩ := hv
  go_enter Tryz.func15, Tryz.ntmps15
  go_wp2
  go_loopw [5] (fun i wr => ∃ k : Nat, k ≤ im ∧ i = .int .i64 k ∧ NoneIn (fun x => x.toList == s.toList) (D.issued.take k) ∧ Ext w wr) (fun i _ => im - (intOf i).toNat)
  case atStart => exact ⟨0, Nat.zero_le _, rfl, by simp [NoneIn], Ext.refl _⟩
  case round =>
    obtain ⟨k, hk, rfl, hp, hx⟩ := hrel
    have Hhp := Lib.hid hp; clear hp
    by_cases hlt : k < im
    · have hkl : k < D.issued.length := by rw [HL.out]; exact hlt
      have HS := Lib.hid (fun h => NoneIn.stepT (p := fun x => x.toList == s.toList) hkl h Hhp.out)
      have HT := Lib.hid (idx_hitT (p := fun x => x.toList == s.toList) hkl Hhp.out)
      clear hkl
      go_wp2
      · go_ret
        exact ⟨ri (HT.out (by assumption)).symm, hx⟩
      · exact ⟨⟨k + 1, by omega, by go_num, HS.out (by assumption), hx⟩, by simp [intOf]; omega⟩
    · go_wp2
      go_ret
      exact ⟨ri (idx_none (by have := Hhp.out; rwa [take_full (by rw [HL.out]; omega)] at this)).symm, hx⟩
theorem stat_no {D : Rg} {s : ByteArray} (h : statOk D s = false) : statOf D s = 0 := by rw [statOf, h]; rfl
theorem stat_none {D : Rg} {s : ByteArray} (h : atRg D s < 0) : statOf D s = 0 := by rw [statOf, if_pos h]; split <;> rfl
theorem stat_rev {D : Rg} {s : ByteArray} (h : statOk D s = true) (h1 : ¬ atRg D s < 0) (h2 : revHas D (atRg D s) = true) : statOf D s = 2 := by rw [statOf, h, if_neg h1, h2]; rfl
theorem stat_iss {D : Rg} {s : ByteArray} (h : statOk D s = true) (h1 : ¬ atRg D s < 0) (h2 : revHas D (atRg D s) = false) : statOf D s = 1 := by rw [statOf, h, if_neg h1, h2]; rfl
end Go.Proofs.YthbdnkokklahcaaGreat

/- Walks: registries: LeastApart, on both sides. -/
namespace Go.Proofs.YthbdnkokklahcaaGreat
set_option maxRecDepth 100000
open Go.RowKit

theorem cost_max : ∀ (n : Nat) (a b : List UInt8), a.length + b.length ≤ n → costS a b ≤ max a.length b.length
  | _, [], b, _ => by rw [cost_nil]; simp
  | _, a, [], _ => by rw [cost_nil']; simp
  | 0, x :: xs, y :: ys, h => by simp at h
  | n + 1, x :: xs, y :: ys, h => by
    simp only [List.length_cons] at h
    have := cost_max n xs ys (by omega)
    rw [cost_cons]
    simp only [List.length_cons]
    split <;> omega
theorem dist_max (a b : ByteArray) : distS a b ≤ max a.size b.size := by
  have := cost_max _ a.data.toList b.data.toList (Nat.le_refl _)
  rw [ba_len, ba_len] at this
  exact this
def dL (D : Rg) (i j : Nat) : Int := distS (gs D.issued i) (gs D.issued j)
/-- all distances that come before words i and j -/
def distL (D : Rg) (i j : Nat) : List Int := ((List.range i).flatMap fun a => (List.range a).map (dL D a)) ++ (List.range j).map (dL D i)
theorem distL_succ (D : Rg) (i j : Nat) : distL D i (j + 1) = distL D i j ++ [dL D i j] := by
  unfold distL; rw [List.range_succ, List.map_append, List.append_assoc]; rfl
theorem distL_next (D : Rg) (i : Nat) : distL D (i + 1) 0 = distL D i i := by
  unfold distL; rw [List.range_succ, List.flatMap_append]; simp
def minL (s : Int) (l : List Int) : Int := l.foldl min s
theorem minL_snoc (s : Int) (l : List Int) (x : Int) : minL s (l ++ [x]) = min (minL s l) x := by simp [minL]
theorem minL_start : ∀ (l : List Int) (s t x : Int), x ∈ l → x ≤ s → x ≤ t → minL s l = minL t l
  | [], _, _, _, h, _, _ => by cases h
  | y :: ys, s, t, x, h, h1, h2 => by
    show minL (min s y) ys = minL (min t y) ys
    by_cases e : y ≤ x
    · rw [show min s y = y by omega, show min t y = y by omega]
    · rcases List.mem_cons.1 h with rfl | h
      · omega
      · exact minL_start ys _ _ x h (by omega) (by omega)
def laOk (D : Rg) : Bool := validRg D && decide (2 ≤ D.issued.length)
def laRes (D : Rg) : Int := if laOk D then minL 1099511627776 (distL D D.issued.length 0) else 0
theorem la_no {D : Rg} (h : laOk D = false) : laRes D = 0 := by rw [laRes, h]; rfl
theorem la_yes {D : Rg} (h : laOk D = true) : laRes D = minL 1099511627776 (distL D D.issued.length 0) := by rw [laRes, h]; rfl
theorem la_yes' {D : Rg} (h : laOk D = true) : laRes D = minL 20 (distL D D.issued.length 0) := by
  rw [la_yes h]
  unfold laOk at h
  simp only [Bool.and_eq_true, decide_eq_true_eq] at h
  have hok := validRg_ok h.1
  have h1 := hok.s20 0 (by omega)
  have h2 := hok.s20 1 (by omega)
  have h3 := dist_max (gs D.issued 1) (gs D.issued 0)
  have h4 : dL D 1 0 ≤ 20 := by unfold dL; omega
  refine minL_start _ _ _ (dL D 1 0) ?_ (by omega) h4
  unfold distL
  refine List.mem_append_left _ (List.mem_flatMap.2 ⟨1, List.mem_range.2 (by omega), List.mem_map.2 ⟨0, List.mem_range.2 (by omega), rfl⟩⟩)
end Go.Proofs.YthbdnkokklahcaaGreat
