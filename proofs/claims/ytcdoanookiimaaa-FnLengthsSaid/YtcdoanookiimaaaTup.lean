/- All lists of digits below a number, one after another: plain laws. -/
import Derived.Test.YtcdoanookiimaaaBase
namespace Go.Proofs.Ytcdoanookiimaaa
set_option maxRecDepth 100000
open Go.RowKit

/-- the list that comes t-th among those of n digits below m -/
def tupAt (m : Nat) : Nat → Nat → List Int
  | 0, _ => []
  | n + 1, t => ((t / m ^ n : Nat) : Int) :: tupAt m n (t % m ^ n)
theorem tupAt_len (m n t : Nat) : (tupAt m n t).length = n := by
  induction n generalizing t with
  | zero => rfl
  | succ n ih => simp [tupAt, ih]
theorem tupAt_zero (m n : Nat) : tupAt m n 0 = List.replicate n 0 := by
  induction n with
  | zero => rfl
  | succ n ih => simp [tupAt, ih, List.replicate_succ]
theorem tupAt_bd {m n t : Nat} (hm : 0 < m) (ht : t < m ^ n) : ∀ x ∈ tupAt m n t, 0 ≤ x ∧ x < m := by
  induction n generalizing t with
  | zero => intro x hx; simp [tupAt] at hx
  | succ n ih =>
    have hp : 0 < m ^ n := Nat.pow_pos hm
    intro x hx
    simp only [tupAt, List.mem_cons] at hx
    rcases hx with rfl | hx
    · have : t / m ^ n < m := by rw [Nat.div_lt_iff_lt_mul hp]; rw [Nat.pow_succ, Nat.mul_comm] at ht; exact ht
      exact ⟨Int.natCast_nonneg _, Int.ofNat_lt.2 this⟩
    · exact ih (Nat.mod_lt _ hp) x hx
/-- each list is met -/
theorem tupAt_all {m n : Nat} (hm : 0 < m) {l : List Int} (hl : l.length = n) (hb : ∀ x ∈ l, 0 ≤ x ∧ x < m) : ∃ t, t < m ^ n ∧ tupAt m n t = l := by
  induction n generalizing l with
  | zero => exact ⟨0, by simp, by rw [List.length_eq_zero_iff] at hl; rw [hl]; rfl⟩
  | succ n ih =>
    cases l with
    | nil => simp at hl
    | cons x xs =>
      obtain ⟨t, ht, he⟩ := ih (l := xs) (by simpa using hl) (fun y hy => hb y (by simp [hy]))
      have hx := hb x (by simp)
      have hp : 0 < m ^ n := Nat.pow_pos hm
      refine ⟨x.toNat * m ^ n + t, ?_, ?_⟩
      · have : (x.toNat + 1) * m ^ n ≤ m * m ^ n := Nat.mul_le_mul_right _ (by omega)
        rw [Nat.pow_succ, Nat.mul_comm (m ^ n)]
        rw [Nat.add_mul] at this
        omega
      · have e1 : (x.toNat * m ^ n + t) / m ^ n = x.toNat := by
          rw [Nat.mul_comm, Nat.mul_add_div hp, Nat.div_eq_of_lt ht]; omega
        have e2 : (x.toNat * m ^ n + t) % m ^ n = t := by
          rw [Nat.mul_comm, Nat.mul_add_mod, Nat.mod_eq_of_lt ht]
        simp only [tupAt, e1, e2, he]
        rw [Int.toNat_of_nonneg hx.1]

/-- the next list; none behind the last one -/
def succT (m : Int) : List Int → Option (List Int)
  | [] => none
  | x :: xs => match succT m xs with
    | some ys => some (x :: ys)
    | none => if x + 1 < m then some ((x + 1) :: List.replicate xs.length 0) else none
theorem succT_at {m n t : Nat} (hm : 0 < m) (ht : t < m ^ n) : succT m (tupAt m n t) = if t + 1 < m ^ n then some (tupAt m n (t + 1)) else none := by
  induction n generalizing t with
  | zero => simp at ht; subst ht; simp [tupAt, succT]
  | succ n ih =>
    have hp : 0 < m ^ n := Nat.pow_pos hm
    have hr := Nat.mod_lt t hp
    have hd := Nat.div_add_mod t (m ^ n)
    have hq : t / m ^ n < m := by rw [Nat.div_lt_iff_lt_mul hp]; rw [Nat.pow_succ, Nat.mul_comm] at ht; exact ht
    simp only [tupAt, succT]
    rw [ih hr]
    by_cases h : t % m ^ n + 1 < m ^ n
    · rw [if_pos h]
      have e1 : (t + 1) / m ^ n = t / m ^ n := by
        rw [show t + 1 = m ^ n * (t / m ^ n) + (t % m ^ n + 1) by omega, Nat.mul_add_div hp, Nat.div_eq_of_lt h]; omega
      have e2 : (t + 1) % m ^ n = t % m ^ n + 1 := by
        rw [show t + 1 = m ^ n * (t / m ^ n) + (t % m ^ n + 1) by omega, Nat.mul_add_mod, Nat.mod_eq_of_lt h]
      have e3 : t + 1 < m ^ (n + 1) := by
        have : m ^ n * (t / m ^ n + 1) ≤ m ^ n * m := Nat.mul_le_mul_left _ (by omega)
        rw [Nat.mul_add] at this
        rw [Nat.pow_succ]; omega
      simp only [e1, e2]
      rw [if_pos e3]
    · rw [if_neg h]
      have hr1 : t % m ^ n + 1 = m ^ n := by omega
      have ht1 : t + 1 = m ^ n * (t / m ^ n + 1) := by rw [Nat.mul_add]; omega
      have e1 : (t + 1) / m ^ n = t / m ^ n + 1 := by rw [ht1, Nat.mul_div_cancel_left _ hp]
      have e2 : (t + 1) % m ^ n = 0 := by rw [ht1, Nat.mul_mod_right]
      simp only [e1, e2, tupAt_zero, tupAt_len]
      by_cases h3 : t / m ^ n + 1 < m
      · have e3 : t + 1 < m ^ (n + 1) := by
          have : m ^ n * (t / m ^ n + 1) < m ^ n * m := Nat.mul_lt_mul_of_pos_left h3 hp
          rw [Nat.pow_succ]; omega
        rw [if_pos e3]
        rw [if_pos (by have := Int.ofNat_lt.2 h3; omega)]
        congr 1
      · have e3 : ¬ t + 1 < m ^ (n + 1) := by
          have : t / m ^ n + 1 = m := by omega
          rw [ht1, this, Nat.pow_succ]; omega
        rw [if_neg e3]
        rw [if_neg (by intro h; exact h3 (Int.ofNat_lt.1 (by omega)))]
theorem succT_full {m : Int} {q : List Int} (h : ∀ x ∈ q, x = m - 1) : succT m q = none := by
  induction q with
  | nil => rfl
  | cons x xs ih =>
    simp only [succT]
    rw [ih fun y hy => h y (by simp [hy])]
    have := h x (by simp)
    simp only
    rw [if_neg (by omega)]
theorem succT_step {m : Int} (p : List Int) {x : Int} {q : List Int} (h : ∀ y ∈ q, y = m - 1) (hx : x + 1 < m) : succT m (p ++ x :: q) = some (p ++ (x + 1) :: List.replicate q.length 0) := by
  induction p with
  | nil => simp only [List.nil_append, succT]; rw [succT_full h]; simp only; rw [if_pos hx]
  | cons y ys ih => simp only [List.cons_append, succT]; rw [ih]
end Go.Proofs.Ytcdoanookiimaaa
