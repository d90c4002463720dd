/- Plain: how many ways lead from a state at a place to the end. -/
import Derived.Test.YtdekplfjnkbidaaCh
namespace Go.Proofs.Ytdekplfjnkbidaa
set_option maxRecDepth 100000
open Go.RowKit

/-- the ways over f places from place p on -/
def endsS (D : Ch) : Nat → Int → Int → Int
  | 0, _, x => if x = D.fin then 1 else 0
  | f + 1, p, x => ((List.range D.base.toNat).map fun (d : Nat) => endsS D f (p + 1) (nextS D p x (d : Int))).sum
def partS (D : Ch) (f : Nat) (p x : Int) (d : Nat) : Int := ((List.range d).map fun (e : Nat) => endsS D f (p + 1) (nextS D p x (e : Int))).sum
theorem ends_succ (D : Ch) (f : Nat) (p x : Int) : endsS D (f + 1) p x = partS D f p x D.base.toNat := rfl
theorem part_zero (D : Ch) (f : Nat) (p x : Int) : partS D f p x 0 = 0 := rfl
theorem part_succ (D : Ch) (f : Nat) (p x : Int) (d : Nat) : partS D f p x (d + 1) = partS D f p x d + endsS D f (p + 1) (nextS D p x (d : Int)) := by
  unfold partS; rw [List.range_succ, List.map_append, List.sum_append]; simp
theorem sum_le_mul {f : Nat → Int} {b : Int} : ∀ n : Nat, (∀ i, i < n → 0 ≤ f i ∧ f i ≤ b) → 0 ≤ ((List.range n).map f).sum ∧ ((List.range n).map f).sum ≤ n * b
  | 0, _ => by simp
  | n + 1, h => by
    have h1 := sum_le_mul n fun i hi => h i (by omega)
    have h2 := h n (by omega)
    rw [List.range_succ, List.map_append, List.sum_append]
    simp only [List.map_cons, List.map_nil, List.sum_cons, List.sum_nil]
    rw [show ((n + 1 : Nat) : Int) * b = n * b + b by rw [Int.natCast_add, Int.add_mul]; simp]
    omega
theorem ends_bd {D : Ch} (hb : 2 ≤ D.base) : ∀ (f : Nat) (p x : Int), 0 ≤ endsS D f p x ∧ endsS D f p x ≤ D.base ^ f
  | 0, p, x => by unfold endsS; split <;> simp
  | f + 1, p, x => by
    have h := sum_le_mul (f := fun (d : Nat) => endsS D f (p + 1) (nextS D p x (d : Int))) (b := D.base ^ f) D.base.toNat (fun i _ => ends_bd hb f _ _)
    rw [Int.toNat_of_nonneg (by omega)] at h
    refine ⟨h.1, ?_⟩
    rw [Int.pow_succ, Int.mul_comm]
    exact h.2
theorem part_bd {D : Ch} (hb : 2 ≤ D.base) (f : Nat) (p x : Int) (d : Nat) (hd : (d : Int) ≤ D.base) : 0 ≤ partS D f p x d ∧ partS D f p x d ≤ D.base ^ (f + 1) := by
  have h := sum_le_mul (f := fun (e : Nat) => endsS D f (p + 1) (nextS D p x (e : Int))) (b := D.base ^ f) d (fun i _ => ends_bd hb f _ _)
  refine ⟨h.1, ?_⟩
  have h2 : (d : Int) * D.base ^ f ≤ D.base * D.base ^ f := Int.mul_le_mul_of_nonneg_right hd (Int.le_of_lt (Int.pow_pos (by omega)))
  rw [Int.pow_succ, Int.mul_comm]
  exact Int.le_trans h.2 h2
theorem pow_le_pow' {b : Int} (hb : 2 ≤ b) {f n : Nat} (h : f ≤ n) : b ^ f ≤ b ^ n := by
  obtain ⟨j, rfl⟩ := Nat.exists_eq_add_of_le h
  rw [Int.pow_add]
  have h1 : 0 < b ^ f := Int.pow_pos (by omega)
  have h2 : 0 < b ^ j := Int.pow_pos (by omega)
  have : b ^ f * 1 ≤ b ^ f * b ^ j := Int.mul_le_mul_of_nonneg_left (by omega) (by omega)
  omega
theorem OkCh.ends {D : Ch} (h : OkCh D) {f : Nat} (hf : f ≤ D.places.length) (p x : Int) : 0 ≤ endsS D f p x ∧ endsS D f p x ≤ 1000000000000000 := by
  have h1 := ends_bd h.b2 f p x
  have h2 := pow_le_pow' h.b2 hf
  have := h.pw
  omega
theorem OkCh.part {D : Ch} (h : OkCh D) {f : Nat} (hf : f + 1 ≤ D.places.length) (p x : Int) (d : Nat) (hd : (d : Int) ≤ D.base) : 0 ≤ partS D f p x d ∧ partS D f p x d ≤ 1000000000000000 := by
  have h1 := part_bd h.b2 f p x d hd
  have h2 := pow_le_pow' h.b2 hf
  have := h.pw
  omega
end Go.Proofs.Ytdekplfjnkbidaa
