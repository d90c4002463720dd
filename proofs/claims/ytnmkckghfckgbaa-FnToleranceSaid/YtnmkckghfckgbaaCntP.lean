/- Plain: how many patterns there are, and the one with a rank. -/
import Derived.Test.YtnmkckghfckgbaaPat
import Derived.Test.YtnmkckghfckgbaaBc
import Derived.Test.YtnmkckghfckgbaaText
namespace Go.Proofs.Ytnmkckghfckgbaa
set_option maxRecDepth 100000
open Go.RowKit

/-- the pushes of one sum: w of them -/
def cIn (v : Int) (k : Nat) : Nat → List Int → List Int
  | 0, l => l
  | w + 1, l => (cIn v k w l).set (k + (w + 1)) (gi (cIn v k w l) (k + (w + 1)) + v)
/-- the pushes of the first k sums -/
def cOut (ways : List Int) (m : Nat) : Nat → List Int
  | 0 => List.replicate (m + 1) 0
  | k + 1 => cIn (gi ways k) k (min 4 (m - k)) (cOut ways m k)
def cWays (m : Nat) : Nat → List Int
  | 0 => (List.replicate (m + 1) 0).set 0 1
  | e + 1 => cOut (cWays m e) m (m + 1)
def cnt (e m : Nat) : Int := gi (cWays m e) m
theorem cIn_len (v : Int) (k w : Nat) (l : List Int) : (cIn v k w l).length = l.length := by
  induction w with
  | zero => rfl
  | succ w ih => simp [cIn, ih]
theorem cOut_len (ways : List Int) (m k : Nat) : (cOut ways m k).length = m + 1 := by
  induction k with
  | zero => simp [cOut]
  | succ k ih => rw [cOut, cIn_len, ih]
theorem cWays_len (m e : Nat) : (cWays m e).length = m + 1 := by
  cases e with
  | zero => simp [cWays]
  | succ e => rw [cWays, cOut_len]
/-- all numbers lie from 0 to B -/
def Bd0 (l : List Int) (B : Int) : Prop := ∀ j, 0 ≤ gi l j ∧ gi l j ≤ B
theorem gi_set (l : List Int) (i j : Nat) (u : Int) : gi (l.set i u) j = if i = j ∧ i < l.length then u else gi l j := by
  unfold gi
  rw [List.getD_eq_getElem?_getD, List.getElem?_set, List.getD_eq_getElem?_getD]
  by_cases h : i = j
  · subst h
    by_cases h2 : i < l.length
    · simp [h2]
    · simp [h2]
  · simp [h]
theorem Bd0.set {l : List Int} {B : Int} (h : Bd0 l B) (i : Nat) {u : Int} (h0 : 0 ≤ u) {B' : Int} (h1 : u ≤ B') (hB : B ≤ B') : Bd0 (l.set i u) B' := fun j => by
  have := h j
  rw [gi_set]; split <;> omega
theorem cIn_bd {v V B : Int} {l : List Int} (h : Bd0 l B) (hv : 0 ≤ v) (hV : v ≤ V) (k w : Nat) : Bd0 (cIn v k w l) (B + V * w) := by
  induction w with
  | zero => simpa [cIn] using h
  | succ w ih =>
    have := ih (k + (w + 1))
    have e : B + V * ((w + 1 : Nat) : Int) = B + V * (w : Int) + V := by rw [Int.natCast_add, Int.mul_add]; omega
    rw [e]
    exact ih.set _ (by omega) (by omega) (by omega)
theorem cOut_bd {V : Int} {ways : List Int} {m : Nat} (h : Bd0 ways V) (hV : 0 ≤ V) (k : Nat) : Bd0 (cOut ways m k) (V * (4 * k)) := by
  induction k with
  | zero => intro j; simp [cOut, gi, List.getD_eq_getElem?_getD, List.getElem?_replicate]; split <;> simp
  | succ k ih =>
    have h1 := cIn_bd ih (h k).1 (h k).2 k (min 4 (m - k))
    intro j
    have h2 := h1 j
    rw [cOut]
    refine ⟨h2.1, Int.le_trans h2.2 ?_⟩
    rw [show (4 * ((k + 1 : Nat) : Int)) = 4 * (k : Int) + 4 by omega, Int.mul_add]
    have : V * ((min 4 (m - k) : Nat) : Int) ≤ V * 4 := Int.mul_le_mul_of_nonneg_left (by omega) hV
    omega
/-- what stands in the sums with e elements -/
theorem cWays_bd {m : Nat} (hm : m ≤ 11) : ∀ e, Bd0 (cWays m e) (48 ^ e)
  | 0 => by
    intro j
    rw [cWays, gi_set]
    split
    · simp
    · simp [gi, List.getD_eq_getElem?_getD, List.getElem?_replicate]; split <;> simp
  | e + 1 => by
    have h := cWays_bd hm e
    have hp : (0 : Int) ≤ 48 ^ e := Int.pow_nonneg (by omega)
    intro j
    have h1 := cOut_bd (m := m) h hp (m + 1) j
    rw [cWays]
    refine ⟨h1.1, Int.le_trans h1.2 ?_⟩
    rw [Int.pow_succ]
    exact Int.mul_le_mul_of_nonneg_left (by omega) hp
theorem pow48 {e : Nat} (he : e ≤ 6) : (48 : Int) ^ e ≤ 12230590464 := by
  have : (48 : Nat) ^ e ≤ 48 ^ 6 := Nat.pow_le_pow_right (by omega) he
  have h2 : ((48 ^ e : Nat) : Int) ≤ ((48 ^ 6 : Nat) : Int) := Int.ofNat_le.2 this
  rw [Int.natCast_pow] at h2
  exact h2
/-- the counts of what follows: j first elements are left, from 5 - j on -/
def tc (i m : Nat) : Nat → Int
  | 0 => 0
  | j + 1 => (if 4 - j ≤ m then cnt i (m - (4 - j)) else 0) + tc i m j
theorem cnt_all : ∀ i : Fin 6, ∀ m : Fin 12, cnt (i.val + 1) m.val = tc i.val m.val 4 := by decide +kernel
theorem cnt_zero : ∀ m : Fin 12, cnt 0 m.val = if m.val = 0 then 1 else 0 := by decide +kernel
theorem cnt_bd : ∀ i : Fin 7, ∀ m : Fin 12, 0 ≤ cnt i.val m.val ∧ cnt i.val m.val ≤ 100000 := by decide +kernel
theorem cnt_some : ∀ i : Fin 5, ∀ j : Fin 5, 1 ≤ cnt (i.val + 2) (i.val + 2 + 1 + j.val) := by decide +kernel
theorem tc_none (i m : Nat) : ∀ j, m < 5 - j → j ≤ 4 → tc i m j = 0
  | 0, _, _ => rfl
  | j + 1, h, hj => by rw [tc, if_neg (by omega), tc_none i m j (by omega) (by omega)]; rfl
/-- half of a pattern: the elements so far, what is left -/
structure Half (E M : Nat) (ds : List Int) (i m : Nat) (rank : Int) : Prop where
  len : ds.length + i = E
  sum : ds.sum + m = M
  bd : ∀ d ∈ ds, 1 ≤ d ∧ d ≤ 4
  m11 : m ≤ 11
  i6 : i ≤ 6
  r0 : 0 ≤ rank
  r1 : rank < cnt i m
/-- the element w is tried: the rank among what is left -/
structure Try1 (i m : Nat) (w : Nat) (rank : Int) : Prop where
  w1 : 1 ≤ w
  w4 : w ≤ 4
  wm : w ≤ m
  r0 : 0 ≤ rank
  r1 : rank < tc i m (5 - w)
  rb : rank ≤ 100000
theorem Half.start {E M i m : Nat} {ds : List Int} {rank : Int} (h : Half E M ds (i + 1) m rank) : Try1 i m 1 rank := by
  have h1 := h.m11; have h2 := h.i6; have h3 := h.r1
  have h4 := cnt_bd ⟨i + 1, by omega⟩ ⟨m, by omega⟩
  simp only at h4
  have h5 : rank ≤ 100000 := by omega
  rw [show cnt (i + 1) m = tc i m 4 from cnt_all ⟨i, by omega⟩ ⟨m, by omega⟩] at h3
  refine ⟨by omega, by omega, ?_, h.r0, h3, h5⟩
  by_cases hm : m = 0
  · subst hm
    rw [tc_none i 0 4 (by omega) (by omega)] at h3
    have := h.r0; omega
  · omega
theorem Try1.next {i m w : Nat} {rank : Int} (h : Try1 i m w rank) (hw : w < m) (hr : cnt i (m - w) ≤ rank) (hi : i ≤ 6) (hm : m ≤ 11) : Try1 i m (w + 1) (rank - cnt i (m - w)) := by
  have h1 := h.w1; have h2 := h.w4; have h3 := h.r1
  have h4 := cnt_bd ⟨i, by omega⟩ ⟨m - w, by omega⟩
  have h5 := h.rb
  simp only at h4
  obtain ⟨j, hj⟩ : ∃ j, w = 4 - j ∧ j ≤ 3 := ⟨4 - w, by omega, by omega⟩
  obtain ⟨rfl, hj3⟩ := hj
  rw [show 5 - (4 - j) = j + 1 by omega, tc, if_pos (by omega)] at h3
  have hj0 : j ≠ 0 := fun h0 => by subst h0; simp only [tc] at h3; omega
  refine ⟨by omega, by omega, by omega, by omega, ?_, by omega⟩
  rw [show 5 - (4 - j + 1) = j by omega]
  omega
theorem Try1.done {E M i m w : Nat} {ds : List Int} {rank0 rank : Int} (hh : Half E M ds (i + 1) m rank0) (h : Try1 i m w rank) (hd : w = m ∨ rank < cnt i (m - w)) : Half E M (ds ++ [(w : Int)]) i (m - w) rank := by
  have h1 := h.w1; have h2 := h.w4; have h3 := h.r1; have h4 := h.wm
  have h5 := hh.len; have h6 := hh.sum; have h7 := hh.m11; have h8 := hh.i6
  refine ⟨by simp; omega, by simp [List.sum_append]; omega, fun d hd => ?_, by omega, by omega, h.r0, ?_⟩
  · rcases List.mem_append.1 hd with hd | hd
    · exact hh.bd d hd
    · simp at hd; omega
  · rcases hd with hd | hd
    · obtain ⟨j, hj, hj3⟩ : ∃ j, w = 4 - j ∧ j ≤ 3 := ⟨4 - w, by omega, by omega⟩
      rw [show 5 - w = j + 1 by omega, tc, if_pos (by omega), tc_none i m j (by omega) (by omega)] at h3
      rw [show 4 - j = w by omega] at h3
      omega
    · exact hd
/-- nothing is left: a pattern -/
theorem Half.end {E M m : Nat} {ds : List Int} {rank : Int} (h : Half E M ds 0 m rank) : ds.length = E ∧ ds.sum = M ∧ ∀ d ∈ ds, 1 ≤ d ∧ d ≤ 4 := by
  have h1 := h.len; have h2 := h.sum; have h3 := h.m11; have h4 := h.r0; have h5 := h.r1
  rw [show cnt 0 m = if m = 0 then 1 else 0 from cnt_zero ⟨m, by omega⟩] at h5
  by_cases hm : m = 0
  · subst hm; exact ⟨by omega, by omega, h.bd⟩
  · rw [if_neg hm] at h5; omega
/-- the text of elements -/
def patOf (ds : List Int) : ByteArray := strOfNums (ds.map fun d => 48 + d)
theorem patOf_size (ds : List Int) : (patOf ds).size = ds.length := by rw [patOf, strOfNums_size, List.length_map]
theorem patOf_pl (ds : List Int) : (patOf ds).data.toList = ds.map fun d => UInt8.ofNat (48 + d).toNat := by
  rw [patOf, strOfNums_data, List.map_map]; rfl
theorem patOf_els {ds : List Int} (h : ∀ d ∈ ds, 1 ≤ d ∧ d ≤ 4) : elsL (patOf ds).data.toList = ds ∧ charsB (patOf ds).data.toList = true := by
  rw [patOf_pl]
  have hd : ∀ d ∈ ds, (UInt8.ofNat (48 + d).toNat).toNat = (48 + d).toNat := fun d hd => by
    have := h d hd
    rw [UInt8.toNat_ofNat']; omega
  constructor
  · rw [elsL, List.map_map]
    conv => rhs; rw [← List.map_id ds]
    refine List.map_congr_left fun d hd' => ?_
    have := h d hd'
    simp only [Function.comp, elC, hd d hd', id]
    omega
  · rw [charsB, List.all_map, List.all_eq_true]
    intro d hd'
    have := h d hd'
    simp only [Function.comp, goodC, hd d hd', Bool.and_eq_true, decide_eq_true_eq]
    omega
/-- a chosen pattern -/
def PatOk (E M : Nat) (s : ByteArray) : Prop := s.size = E ∧ (elsL s.data.toList).sum = M ∧ charsB s.data.toList = true
theorem Half.pat {E M m : Nat} {ds : List Int} {rank : Int} (h : Half E M ds 0 m rank) : PatOk E M (patOf ds) := by
  obtain ⟨h1, h2, h3⟩ := h.end
  obtain ⟨h4, h5⟩ := patOf_els h3
  exact ⟨by rw [patOf_size, h1], by rw [h4, h2], h5⟩
end Go.Proofs.Ytnmkckghfckgbaa
