/- Walks: registries: ValidRegistry, on both sides. -/
import Derived.Test.YtccoopnoakhedaaRgAt
namespace Go.Proofs.Ytccoopnoakhedaa
set_option maxRecDepth 100000
open Go.RowKit

theorem takeS_all (l : List ByteArray) (f : ByteArray → Bool) : ∀ k, k ≤ l.length → (l.take k).all f = (List.range k).all fun j => f (gs l j)
  | 0, _ => by simp
  | k + 1, h => by
    rw [take_gs (by omega), List.all_append, takeS_all l f k (by omega), List.range_succ, List.all_append]
    simp
theorem valid_no0 {D : Rg} (h : headRg D = false) : validRg D = false := by rw [validRg, h]; rfl
theorem valid_no1 {D : Rg} {k : Nat} (hk : k < D.issued.length) (h : issB D k = false) : validRg D = false := by
  have : issAll D = false := rangeAll_no hk h
  rw [validRg, this]; simp
theorem valid_no2 {D : Rg} {k : Nat} (hk : k < D.revoked.length) (h : revB D k = false) : validRg D = false := by
  have : revAll D = false := rangeAll_no hk h
  rw [validRg, this]; simp
theorem valid_yes {D : Rg} (h : headRg D = true) (h1 : ∀ k, k < D.issued.length → issB D k = true) (h2 : ∀ k, k < D.revoked.length → revB D k = true) : validRg D = true := by
  have e1 : issAll D = true := rangeAll_yes h1
  have e2 : revAll D = true := rangeAll_yes h2
  rw [validRg, h, e1, e2]; rfl
theorem upto {p : Nat → Bool} {k : Nat} (h : ∀ j, j < k → p j = true) (hk : p k = true) : ∀ j, j < k + 1 → p j = true := fun j hj => by
  by_cases e : j < k
  · exact h j e
  · obtain rfl : j = k := by omega
    exact hk

end Go.Proofs.Ytccoopnoakhedaa

/- Walks: registries: ValidRegistry of the reference. -/
namespace Go.Proofs.Ytccoopnoakhedaa
set_option maxRecDepth 100000
open Go.RowKit

theorem valid_no3 {D : Rg} (h : validCh D.ch = false) : validRg D = false := valid_no0 (by rw [headRg, h]; rfl)
theorem valid_no4 {D : Rg} (h : inB D.apart 1 6 = false) : validRg D = false := valid_no0 (by rw [headRg, h]; simp)
theorem valid_no5 {D : Rg} (h : ¬ D.issued.length ≤ 40) : validRg D = false := valid_no0 (by rw [headRg]; simp [h])
end Go.Proofs.Ytccoopnoakhedaa

/- Walks: registries: RadiusOf, StatusOf, LeastApart, on both sides. -/
namespace Go.Proofs.Ytccoopnoakhedaa
set_option maxRecDepth 100000
open Go.RowKit

theorem NoneIn.stepI {p : Int → Bool} {l : List Int} {k : Nat} (hk : k < l.length) (h : p (gi l k) = false) (hp : NoneIn p (l.take k)) : NoneIn p (l.take (k + 1)) := NoneIn.step (d := 0) hk rfl h hp
theorem idx_hitI {p : Int → Bool} {l : List Int} {k : Nat} (hk : k < l.length) (hp : NoneIn p (l.take k)) (h : p (gi l k) = true) : idx p l = k := idx_hit (d := 0) hk rfl h hp
theorem any_flip (l : List Int) (x : Int) : (l.any fun y => x == y) = l.any fun y => y == x := by
  congr 1; funext y; rw [Bool.eq_iff_iff, beq_iff_eq, beq_iff_eq]; exact ⟨Eq.symm, Eq.symm⟩
theorem any_step {l : List Int} {p : Int → Bool} {k : Nat} (hk : k < l.length) (h : p (gi l k) = true) : l.any p = true := List.any_eq_true.2 ⟨_, gi_mem hk, h⟩
/-! ### RadiusOf -/
def radRes (D : Rg) : Int := if validRg D then (D.apart - 1) / 2 else 0
end Go.Proofs.Ytccoopnoakhedaa

/- Walks: registries: StatusOf, on both sides; ValidRegistry of the reference. -/
namespace Go.Proofs.Ytccoopnoakhedaa
set_option maxRecDepth 100000
open Go.RowKit

theorem atRg_flip (D : Rg) (s : ByteArray) : idx (fun x => x.toList == s.toList) D.issued = atRg D s := by
  unfold atRg; congr 1; funext x; rw [Bool.eq_iff_iff, beq_iff_eq, beq_iff_eq]; exact ⟨Eq.symm, Eq.symm⟩
theorem idx_bd {α : Type} (p : α → Bool) (l : List α) : -1 ≤ idx p l ∧ idx p l < l.length := by
  unfold idx
  cases h : l.findIdx? p with
  | none => simp only; omega
  | some i => rw [List.findIdx?_eq_some_iff_getElem] at h; obtain ⟨hi, _⟩ := h; simp only; omega
theorem stat_no {D : Rg} {s : ByteArray} (h : statOk D s = false) : statOf D s = 0 := by rw [statOf, h]; rfl
theorem stat_none {D : Rg} {s : ByteArray} (h : atRg D s < 0) : statOf D s = 0 := by rw [statOf, if_pos h]; split <;> rfl
theorem stat_rev {D : Rg} {s : ByteArray} (h : statOk D s = true) (h1 : ¬ atRg D s < 0) (h2 : revHas D (atRg D s) = true) : statOf D s = 2 := by rw [statOf, h, if_neg h1, h2]; rfl
theorem stat_iss {D : Rg} {s : ByteArray} (h : statOk D s = true) (h1 : ¬ atRg D s < 0) (h2 : revHas D (atRg D s) = false) : statOf D s = 1 := by rw [statOf, h, if_neg h1, h2]; rfl
end Go.Proofs.Ytccoopnoakhedaa

/- Walks: registries: LeastApart, on both sides. -/
namespace Go.Proofs.Ytccoopnoakhedaa
set_option maxRecDepth 100000
open Go.RowKit

theorem cost_max : ∀ (n : Nat) (a b : List UInt8), a.length + b.length ≤ n → costS a b ≤ max a.length b.length
  | _, [], b, _ => by rw [cost_nil]; simp
  | _, a, [], _ => by rw [cost_nil']; simp
  | 0, x :: xs, y :: ys, h => by simp at h
  | n + 1, x :: xs, y :: ys, h => by
    simp only [List.length_cons] at h
    have := cost_max n xs ys (by omega)
    rw [cost_cons]
    simp only [List.length_cons]
    split <;> omega
theorem dist_max (a b : ByteArray) : distS a b ≤ max a.size b.size := by
  have := cost_max _ a.data.toList b.data.toList (Nat.le_refl _)
  rw [ba_len, ba_len] at this
  exact this
def dL (D : Rg) (i j : Nat) : Int := distS (gs D.issued i) (gs D.issued j)
/-- all distances that come before words i and j -/
def distL (D : Rg) (i j : Nat) : List Int := ((List.range i).flatMap fun a => (List.range a).map (dL D a)) ++ (List.range j).map (dL D i)
theorem distL_succ (D : Rg) (i j : Nat) : distL D i (j + 1) = distL D i j ++ [dL D i j] := by
  unfold distL; rw [List.range_succ, List.map_append, List.append_assoc]; rfl
theorem distL_next (D : Rg) (i : Nat) : distL D (i + 1) 0 = distL D i i := by
  unfold distL; rw [List.range_succ, List.flatMap_append]; simp
def minL (s : Int) (l : List Int) : Int := l.foldl min s
theorem minL_snoc (s : Int) (l : List Int) (x : Int) : minL s (l ++ [x]) = min (minL s l) x := by simp [minL]
theorem minL_start : ∀ (l : List Int) (s t x : Int), x ∈ l → x ≤ s → x ≤ t → minL s l = minL t l
  | [], _, _, _, h, _, _ => by cases h
  | y :: ys, s, t, x, h, h1, h2 => by
    show minL (min s y) ys = minL (min t y) ys
    by_cases e : y ≤ x
    · rw [show min s y = y by omega, show min t y = y by omega]
    · rcases List.mem_cons.1 h with rfl | h
      · omega
      · exact minL_start ys _ _ x h (by omega) (by omega)
def laOk (D : Rg) : Bool := validRg D && decide (2 ≤ D.issued.length)
def laRes (D : Rg) : Int := if laOk D then minL 1099511627776 (distL D D.issued.length 0) else 0
theorem la_no {D : Rg} (h : laOk D = false) : laRes D = 0 := by rw [laRes, h]; rfl
theorem la_yes {D : Rg} (h : laOk D = true) : laRes D = minL 1099511627776 (distL D D.issued.length 0) := by rw [laRes, h]; rfl
theorem la_yes' {D : Rg} (h : laOk D = true) : laRes D = minL 20 (distL D D.issued.length 0) := by
  rw [la_yes h]
  unfold laOk at h
  simp only [Bool.and_eq_true, decide_eq_true_eq] at h
  have hok := validRg_ok h.1
  have h1 := hok.s20 0 (by omega)
  have h2 := hok.s20 1 (by omega)
  have h3 := dist_max (gs D.issued 1) (gs D.issued 0)
  have h4 : dL D 1 0 ≤ 20 := by unfold dL; omega
  refine minL_start _ _ _ (dL D 1 0) ?_ (by omega) h4
  unfold distL
  refine List.mem_append_left _ (List.mem_flatMap.2 ⟨1, List.mem_range.2 (by omega), List.mem_map.2 ⟨0, List.mem_range.2 (by omega), rfl⟩⟩)
end Go.Proofs.Ytccoopnoakhedaa
