/- Plain: a pattern that is scaled and a little changed is nearer to itself than to others; so are the edges of one that is scaled. -/
import Derived.Test.YtnmkckghfckgbaaMeas
import Derived.Test.YtnmkckghfckgbaaLpd
namespace Go.Proofs.Ytnmkckghfckgbaa
set_option maxRecDepth 100000
open Go.RowKit

/-- the sum of the changes, without their signs -/
def absL (l : List Int) : Int := (l.map fun x => max x (-x)).sum
/-- a pattern that is scaled and changed -/
def scaleL (by' : Int) : List Int → List Int → List Int
  | p :: ps, c :: cs => (by' * p + c) :: scaleL by' ps cs
  | _, _ => []
theorem scaleL_len (by' : Int) : ∀ (p c : List Int), p.length = c.length → (scaleL by' p c).length = p.length
  | [], [], _ => rfl
  | p :: ps, c :: cs, h => by simp [scaleL, scaleL_len by' ps cs (by simpa using h)]
  | [], _ :: _, h => by simp at h
  | _ :: _, [], h => by simp at h
theorem scaleL_sum (by' : Int) : ∀ (p c : List Int), p.length = c.length → (scaleL by' p c).sum = by' * p.sum + c.sum
  | [], [], _ => by simp [scaleL]
  | p :: ps, c :: cs, h => by
    rw [scaleL, List.sum_cons, List.sum_cons, List.sum_cons, scaleL_sum by' ps cs (by simpa using h), Int.mul_add]; omega
  | [], _ :: _, h => by simp at h
  | _ :: _, [], h => by simp at h
theorem abs_mul {m x : Int} (hm : 0 ≤ m) : max (m * x) (-(m * x)) = m * max x (-x) := by
  rcases Int.le_total 0 x with h | h
  · have := Int.mul_nonneg hm h
    rw [show max x (-x) = x by omega]; omega
  · have := Int.mul_nonneg hm (show 0 ≤ -x by omega)
    rw [Int.mul_neg] at this
    rw [show max x (-x) = -x by omega, Int.mul_neg]; omega
theorem miss_low (M by' s : Int) (hM : 0 ≤ M) : ∀ (p c : List Int), p.length = c.length → (∀ x ∈ p, 0 ≤ x) → missL M (by' * M + s) (scaleL by' p c) p ≤ M * absL c + max s (-s) * p.sum
  | [], [], _, _ => by simp [scaleL, missL, absL]
  | p :: ps, c :: cs, h, hp => by
    have ih := miss_low M by' s hM ps cs (by simpa using h) (fun x hx => hp x (List.mem_cons_of_mem _ hx))
    have h0 := hp p (List.mem_cons_self ..)
    rw [scaleL, missL]
    have e : M * (by' * p + c) - (by' * M + s) * p = M * c - p * s := by
      rw [Int.mul_add, Int.add_mul, ← Int.mul_assoc, Int.mul_comm M by', Int.mul_comm s p]; omega
    have e1 := abs_mul (x := c) hM
    have e2 := abs_mul (x := s) h0
    rw [e]
    simp only [absL, List.map_cons, List.sum_cons] at ih ⊢
    rw [Int.mul_add, Int.mul_add, ← e1, Int.mul_comm (max s (-s)) p, ← e2]
    omega
  | [], _ :: _, h, _ => by simp at h
  | _ :: _, [], h, _ => by simp at h
theorem miss_high (M by' s : Int) (hM : 0 ≤ M) (hb : 0 ≤ by') : ∀ (p c q : List Int), p.length = c.length → p.length = q.length → (∀ x ∈ q, 0 ≤ x) →
    M * by' * apartL p q ≤ missL M (by' * M + s) (scaleL by' p c) q + M * absL c + max s (-s) * q.sum
  | [], [], [], _, _, _ => by simp [scaleL, missL, absL, apartL]
  | p :: ps, c :: cs, q :: qs, h, h2, hq => by
    have ih := miss_high M by' s hM hb ps cs qs (by simpa using h) (by simpa using h2) (fun x hx => hq x (List.mem_cons_of_mem _ hx))
    have h0 := hq q (List.mem_cons_self ..)
    rw [scaleL, missL, apartL]
    have e : M * (by' * p + c) - (by' * M + s) * q = M * by' * (p - q) + M * c - q * s := by
      rw [Int.mul_add, Int.add_mul, Int.mul_sub, ← Int.mul_assoc, Int.mul_comm by' M, Int.mul_comm s q]; omega
    have e1 := abs_mul (x := c) hM
    have e2 := abs_mul (x := s) h0
    have e3 := abs_mul (x := p - q) (Int.mul_nonneg hM hb)
    rw [e]
    simp only [absL, List.map_cons, List.sum_cons] at ih ⊢
    rw [Int.mul_add, Int.mul_add, Int.mul_add, ← e1, ← e3, Int.mul_comm (max s (-s)) q, ← e2]
    omega
  | [], _ :: _, _, h, _, _ => by simp at h
  | _ :: _, [], _, h, _, _ => by simp at h
  | [], [], _ :: _, _, h, _ => by simp at h
  | _ :: _, _ :: _, [], _, h, _ => by simp at h
theorem sum_abs : ∀ c : List Int, max c.sum (-c.sum) ≤ absL c
  | [] => by simp [absL]
  | c :: cs => by
    have := sum_abs cs
    simp only [absL, List.map_cons, List.sum_cons] at this ⊢
    omega
/-- four times the changes are less than the number times the distance: the pattern is nearer than the other -/
theorem miss_less {M by' : Int} {p c q : List Int} (hM : 1 ≤ M) (hb : 0 ≤ by') (hpc : p.length = c.length) (hpq : p.length = q.length) (hp : ∀ x ∈ p, 0 ≤ x) (hq : ∀ x ∈ q, 0 ≤ x) (hps : p.sum = M) (hqs : q.sum = M)
    (h : 4 * absL c < by' * apartL p q) : missL M (scaleL by' p c).sum (scaleL by' p c) p < missL M (scaleL by' p c).sum (scaleL by' p c) q := by
  rw [scaleL_sum _ _ _ hpc, hps]
  have h1 := miss_low M by' c.sum (by omega) p c hpc hp
  have h2 := miss_high M by' c.sum (by omega) hb p c q hpc hpq hq
  rw [hps] at h1
  rw [hqs] at h2
  have h3 := Int.mul_le_mul_of_nonneg_left (sum_abs c) (show 0 ≤ M by omega)
  rw [Int.mul_comm M (max _ _)] at h3
  have h4 := Int.mul_lt_mul_of_pos_left h (show 0 < M by omega)
  rw [← Int.mul_assoc M by', show M * (4 * absL c) = 4 * (M * absL c) by rw [← Int.mul_assoc, Int.mul_comm M 4, Int.mul_assoc]] at h4
  omega
/-- the least one alone is found -/
theorem mst_one {f : Nat → Int} {k : Nat} (h0 : ∀ i, 0 ≤ f i) : ∀ n, (∀ i, i < n → i ≠ k → f k < f i) → (n ≤ k → (mst f n).2.1 < 0 ∨ f k < (mst f n).2.1) ∧ (k < n → mst f n = (k, f k, 1))
  | 0, _ => ⟨fun _ => by simp [mst], fun h => by omega⟩
  | n + 1, h => by
    obtain ⟨h1, h2⟩ := mst_one h0 n (fun i hi hik => h i (by omega) hik)
    have h3 := h0 k
    have h4 := h0 n
    refine ⟨fun hn => ?_, fun hn => ?_⟩
    · have h5 := h n (by omega) (by omega)
      have h6 := h1 (by omega)
      rw [mst, mstep]
      split
      · exact .inr h5
      · split
        · simp only; exact h6
        · exact h6
    · by_cases he : k = n
      · subst he
        rw [mst, mstep, if_pos (by have := h1 (Nat.le_refl _); omega)]
      · have h5 := h n (by omega) (Ne.symm he)
        rw [mst, mstep, h2 (by omega), if_neg (by simp only; omega), if_neg (by simp only; omega)]
/-- a list that is scaled alone -/
theorem miss_exact (M by' : Int) (hM : 0 ≤ M) (hb : 0 ≤ by') : ∀ e q : List Int, e.length = q.length → missL M (by' * M) (e.map fun x => by' * x) q = M * by' * apartL e q
  | [], [], _ => by simp [missL, apartL]
  | x :: xs, y :: ys, h => by
    have ih := miss_exact M by' hM hb xs ys (by simpa using h)
    rw [List.map_cons, missL, apartL, Int.mul_add, ← ih, ← abs_mul (Int.mul_nonneg hM hb)]
    have e : M * (by' * x) - by' * M * y = M * by' * (x - y) := by rw [Int.mul_sub, ← Int.mul_assoc, Int.mul_comm by' M]
    rw [e]
  | [], _ :: _, h => by simp at h
  | _ :: _, [], h => by simp at h
theorem apartL_self : ∀ l : List Int, apartL l l = 0
  | [] => rfl
  | x :: xs => by rw [apartL, apartL_self xs]; omega
theorem apartL_nn : ∀ l r : List Int, 0 ≤ apartL l r
  | [], [] => by simp [apartL]
  | [], _ :: _ => by simp [apartL]
  | _ :: _, [] => by simp [apartL]
  | x :: xs, y :: ys => by have := apartL_nn xs ys; rw [apartL]; omega
theorem apartL_pos : ∀ l r : List Int, l.length = r.length → l ≠ r → 0 < apartL l r
  | [], [], _, h => absurd rfl h
  | x :: xs, y :: ys, hl, h => by
    have hn := apartL_nn xs ys
    rw [apartL]
    by_cases he : x = y
    · subst he
      have := apartL_pos xs ys (by simpa using hl) (fun e => h (by rw [e]))
      omega
    · omega
  | [], _ :: _, h, _ => by simp at h
  | _ :: _, [], h, _ => by simp at h
/-- scaled alone, a list is nearer to itself than to others -/
theorem exact_less {M by' : Int} {e q : List Int} (hM : 1 ≤ M) (hb : 1 ≤ by') (h : e.length = q.length) (hne : e ≠ q) : missL M (by' * M) (e.map fun x => by' * x) e < missL M (by' * M) (e.map fun x => by' * x) q := by
  rw [miss_exact M by' (by omega) (by omega) e e rfl, miss_exact M by' (by omega) (by omega) e q h, apartL_self, Int.mul_zero]
  exact Int.mul_pos (Int.mul_pos (by omega) (by omega)) (apartL_pos e q h hne)
end Go.Proofs.Ytnmkckghfckgbaa
