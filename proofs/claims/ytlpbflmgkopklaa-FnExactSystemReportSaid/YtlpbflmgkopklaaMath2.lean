/- The best of all lists, and sums of shares: plain laws. -/
import Derived.Test.YtlpbflmgkopklaaBestX
import Derived.Test.YtlpbflmgkopklaaWorst
namespace Go.Proofs.Ytlpbflmgkopklaa
set_option maxRecDepth 100000

theorem bst_spec (f : Nat → Int) (tp : Nat → List Int) (t : Nat) (ht : 1 ≤ t) : ∃ t0, t0 < t ∧ (bst f tp t).1 = some (tp t0) ∧ (bst f tp t).2.1 = f t0 ∧ (∀ i, i < t → (bst f tp t).2.1 ≤ f i) ∧ 1 ≤ (bst f tp t).2.2 := by
  induction t with
  | zero => omega
  | succ t ih =>
    rw [bst]
    by_cases h0 : t = 0
    · subst h0
      exact ⟨0, by omega, rfl, rfl, fun i hi => by rw [show i = 0 by omega]; exact Int.le_refl _, Int.le_refl _⟩
    · obtain ⟨t0, h1, h2, h3, h4, h5⟩ := ih (by omega)
      unfold bnext
      rw [h2]
      simp only
      by_cases hlt : f t < (bst f tp t).2.1
      · rw [if_pos hlt]
        refine ⟨t, by omega, rfl, rfl, fun i hi => ?_, Int.le_refl _⟩
        by_cases hi' : i = t
        · subst hi'; exact Int.le_refl _
        · have := h4 i (by omega); simp only; omega
      · rw [if_neg hlt]
        by_cases heq : f t = (bst f tp t).2.1
        · rw [if_pos heq]
          refine ⟨t0, by omega, rfl, h3, fun i hi => ?_, by simp only; omega⟩
          by_cases hi' : i = t
          · subst hi'; simp only; omega
          · exact h4 i (by omega)
        · rw [if_neg heq]
          refine ⟨t0, by omega, rfl, h3, fun i hi => ?_, h5⟩
          by_cases hi' : i = t
          · subst hi'; simp only; omega
          · exact h4 i (by omega)

theorem S_swap (n m : Nat) (f : Nat → Nat → Int) : (S n fun i => S m fun j => f i j) = S m fun j => S n fun i => f i j := by
  induction n with
  | zero => simp only [S]; induction m with
    | zero => rfl
    | succ m ih => simp only [S]; rw [← ih]; rfl
  | succ n ih => simp only [S]; rw [ih, ← S_add]
theorem S_zero (n : Nat) : (S n fun _ => 0) = 0 := by
  induction n with
  | zero => rfl
  | succ n ih => simp only [S]; rw [ih]; rfl
theorem S_le {n : Nat} {f : Nat → Int} {c : Int} (h : ∀ i, i < n → f i ≤ c) : S n f ≤ c * n := by
  induction n with
  | zero => simp [S]
  | succ n ih =>
    have h1 := ih fun i hi => h i (by omega)
    have h2 := h n (by omega)
    simp only [S]
    rw [show ((n + 1 : Nat) : Int) = (n : Int) + 1 by omega, Int.mul_add]
    omega
theorem S_nn {n : Nat} {f : Nat → Int} (h : ∀ i, i < n → 0 ≤ f i) : 0 ≤ S n f := by
  induction n with
  | zero => simp [S]
  | succ n ih =>
    have h1 := ih fun i hi => h i (by omega)
    have h2 := h n (by omega)
    simp only [S]; omega
theorem S_one {n : Nat} {f : Nat → Int} (h : ∀ i, i < n → 0 ≤ f i) {k : Nat} (hk : k < n) : f k ≤ S n f := by
  induction n with
  | zero => omega
  | succ n ih =>
    have h0 : 0 ≤ S n f := S_nn fun i hi => h i (by omega)
    simp only [S]
    by_cases hkn : k = n
    · subst hkn; omega
    · have := ih (fun i hi => h i (by omega)) (by omega)
      have := h n (by omega)
      omega
theorem wst_max {W : Wt} {costs : List Int} (n i : Nat) (hi : i < n) : shareF W costs i ≤ (wst W costs n).2 := by
  induction n with
  | zero => omega
  | succ n ih =>
    simp only [wst]
    by_cases h : (wst W costs n).2 < shareF W costs n
    · rw [if_pos h]
      by_cases hin : i = n
      · subst hin; exact Int.le_refl _
      · have := ih (by omega); simp only; omega
    · rw [if_neg h]
      by_cases hin : i = n
      · subst hin; omega
      · exact ih (by omega)
theorem pow_small {b n c : Nat} (hb : b ≤ c) (hn : n ≤ 3) (hc : 1 ≤ c) : b ^ n ≤ c ^ 3 :=
  Nat.le_trans (Nat.pow_le_pow_left hb n) (Nat.pow_le_pow_right hc hn)
/-- small sizes make a search -/
theorem search_small {base : Int} {m n : Nat} (hb : 2 ≤ base ∧ base ≤ 10) (hm : 2 ≤ m ∧ m ≤ 8) (hn : 1 ≤ n ∧ n ≤ 3) : searchB base m n = true := by
  obtain ⟨b, rfl⟩ := Int.eq_ofNat_of_zero_le (show 0 ≤ base by omega)
  have h1 := pow_small (b := b) (n := n) (c := 10) (by omega) hn.2 (by omega)
  have h2 := pow_small (b := m) (n := n) (c := 8) (by omega) hn.2 (by omega)
  unfold searchB baseB
  rw [inB_t.2 (by omega), inB_t.2 (by omega), inB_t.2 (by omega), Int.toNat_natCast]
  have e1 : ((b : Int) ^ n ≤ 1000000000000000) := by
    have : ((b ^ n : Nat) : Int) ≤ 1000 := by omega
    rw [Int.natCast_pow] at this; omega
  have e2 : ((m : Int) ^ n ≤ 20000) := by
    have : ((m ^ n : Nat) : Int) ≤ 512 := by omega
    rw [Int.natCast_pow] at this; omega
  simp [e1, e2]
theorem valid_small {base : Int} {m : Nat} {l : List Int} (hb : 2 ≤ base ∧ base ≤ 10) (hm : 2 ≤ m ∧ m ≤ 8) (hn : 1 ≤ l.length ∧ l.length ≤ 3) (hl : ∀ x ∈ l, 0 ≤ x ∧ x < m) : validB ⟨base, m, 0, l⟩ = true := by
  obtain ⟨b, rfl⟩ := Int.eq_ofNat_of_zero_le (show 0 ≤ base by omega)
  have h1 := pow_small (b := b) (n := l.length) (c := 10) (by omega) hn.2 (by omega)
  unfold validB manyB baseB belowB
  simp only
  rw [inB_t.2 (by omega), inB_t.2 (by omega), inB_t.2 (by omega), inB_t.2 (by omega), Int.toNat_natCast]
  have e1 : ((b : Int) ^ l.length ≤ 1000000000000000) := by
    have : ((b ^ l.length : Nat) : Int) ≤ 1000 := by omega
    rw [Int.natCast_pow] at this; omega
  simp only [e1, decide_true, Bool.true_and, List.all_eq_true]
  exact fun x hx => inB_t.2 (by have := hl x hx; omega)
end Go.Proofs.Ytlpbflmgkopklaa
