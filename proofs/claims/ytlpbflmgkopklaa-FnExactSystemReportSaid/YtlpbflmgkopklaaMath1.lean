/- Sums over the first numbers; pairs that are unseen: plain laws, no program in sight. -/
import Derived.Test.YtlpbflmgkopklaaKinds
namespace Go.Proofs.Ytlpbflmgkopklaa
set_option maxRecDepth 100000

/-- f 0 + .. + f (n - 1) -/
def S : Nat → (Nat → Int) → Int
  | 0, _ => 0
  | n + 1, f => S n f + f n
theorem S_congr {n : Nat} {f g : Nat → Int} (h : ∀ i, i < n → f i = g i) : S n f = S n g := by
  induction n with
  | zero => rfl
  | succ n ih => simp only [S]; rw [ih fun i hi => h i (by omega), h n (by omega)]
theorem S_bd {n : Nat} {f : Nat → Int} {c : Int} (h : ∀ i, i < n → 0 ≤ f i ∧ f i ≤ c) : 0 ≤ S n f ∧ S n f ≤ c * n := by
  induction n with
  | zero => simp [S]
  | succ n ih =>
    have h1 := ih fun i hi => h i (by omega)
    have h2 := h n (by omega)
    simp only [S]
    rw [show ((n + 1 : Nat) : Int) = (n : Int) + 1 by omega, Int.mul_add]
    omega
theorem S_add (n : Nat) (f g : Nat → Int) : S n (fun i => f i + g i) = S n f + S n g := by
  induction n with
  | zero => rfl
  | succ n ih => simp only [S]; rw [ih]; omega
theorem S_mul (n : Nat) (c : Int) (f : Nat → Int) : S n (fun i => c * f i) = c * S n f := by
  induction n with
  | zero => simp [S]
  | succ n ih => simp only [S]; rw [ih, Int.mul_add]
theorem S_first (n : Nat) (f : Nat → Int) : S (n + 1) f = f 0 + S n (fun i => f (i + 1)) := by
  induction n with
  | zero => simp [S]
  | succ n ih => rw [S, ih]; simp only [S]; omega
theorem S_rev (n : Nat) (f : Nat → Int) : S n (fun i => f (n - i)) = S n (fun i => f (i + 1)) := by
  induction n with
  | zero => rfl
  | succ n ih =>
    rw [S_first]
    simp only [S]
    rw [show S n (fun i => f (n + 1 - (i + 1))) = S n (fun i => f (n - i)) from S_congr fun i _ => by rw [show n + 1 - (i + 1) = n - i by omega], ih]
    rw [show n + 1 - 0 = n + 1 from rfl]; omega

theorem hit_neg (v m : Int) : hit (-v) m = hit v m := by
  unfold hit
  rw [Bool.eq_iff_iff]
  simp only [beq_iff_eq]
  constructor
  · intro h; have := Int.dvd_of_emod_eq_zero h; exact Int.emod_eq_zero_of_dvd (Int.dvd_neg.1 this)
  · intro h; have := Int.dvd_of_emod_eq_zero h; exact Int.emod_eq_zero_of_dvd (Int.dvd_neg.2 this)

def one (b : Bool) : Int := if b then 1 else 0
theorem one_bd (b : Bool) : 0 ≤ one b ∧ one b ≤ 1 := by unfold one; split <;> omega
/-- the ordered pairs of different symbols that are unseen -/
def pairs (v m : Int) (n : Nat) : Int := S n fun x => S n fun y => one (decide (x ≠ y) && hit (v * ((x : Int) - y)) m)
/-- the same, difference by difference -/
def uns (v m : Int) (n : Nat) : Int := S (n - 1) fun i => if hit (v * ((i : Int) + 1)) m = true then 2 * ((n : Int) - ((i : Int) + 1)) else 0

theorem uns_succ (v m : Int) (n : Nat) : uns v m (n + 1) = uns v m n + 2 * S n fun i => one (hit (v * ((i : Int) + 1)) m) := by
  unfold uns
  cases n with
  | zero => simp [S]
  | succ n =>
    rw [show n + 1 + 1 - 1 = n + 1 by omega, show n + 1 - 1 = n by omega]
    rw [← S_mul]
    simp only [S]
    rw [show S n (fun i => if hit (v * ((i : Int) + 1)) m = true then 2 * (((n + 1 + 1 : Nat) : Int) - ((i : Int) + 1)) else 0) =
      S n (fun i => (if hit (v * ((i : Int) + 1)) m = true then 2 * (((n + 1 : Nat) : Int) - ((i : Int) + 1)) else 0) + 2 * one (hit (v * ((i : Int) + 1)) m)) from S_congr fun i _ => by
        unfold one; split <;> simp <;> omega]
    rw [S_add]
    unfold one
    split <;> simp <;> omega
theorem pairs_succ (v m : Int) (n : Nat) : pairs v m (n + 1) = pairs v m n + 2 * S n fun i => one (hit (v * ((i : Int) + 1)) m) := by
  unfold pairs
  simp only [S]
  rw [S_add]
  have e1 : S n (fun x => one (decide (x ≠ n) && hit (v * ((x : Int) - n)) m)) = S n fun i => one (hit (v * ((i : Int) + 1)) m) := by
    refine Eq.trans (S_congr fun i hi => ?_) ((S_rev n (fun i => one (hit (v * (i : Int)) m))).trans (S_congr fun i _ => by simp))
    rw [show (v * ((i : Int) - n)) = -(v * ((n - i : Nat) : Int)) by rw [← Int.mul_neg]; congr 1; omega, hit_neg]
    simp [show i ≠ n by omega]
  have e2 : S n (fun y => one (decide (n ≠ y) && hit (v * ((n : Int) - y)) m)) = S n fun i => one (hit (v * ((i : Int) + 1)) m) := by
    refine Eq.trans (S_congr fun i hi => ?_) ((S_rev n (fun i => one (hit (v * (i : Int)) m))).trans (S_congr fun i _ => by simp))
    rw [show (v * ((n : Int) - i)) = (v * ((n - i : Nat) : Int)) by congr 1; omega]
    simp [show n ≠ i by omega]
  rw [e1, e2]
  simp [one]
  omega
theorem pairs_eq (v m : Int) (n : Nat) : pairs v m n = uns v m n := by
  induction n with
  | zero => rfl
  | succ n ih => rw [pairs_succ, uns_succ, ih]
theorem uns_bd (v m : Int) (n : Nat) (hn : n ≤ 36) : 0 ≤ uns v m n ∧ uns v m n ≤ 2592 := by
  have := S_bd (n := n - 1) (f := fun i => if hit (v * ((i : Int) + 1)) m = true then 2 * ((n : Int) - ((i : Int) + 1)) else 0) (c := 72) fun i hi => by split <;> omega
  unfold uns; omega

/-- pairs that are unseen as they sound -/
def phon (x y m : Int) : Int := S 8 fun i => if hit (x * ((i : Int) + 2) - x - y * ((i : Int) + 2)) m = true then 2 else 0
theorem phon_bd (x y m : Int) : 0 ≤ phon x y m ∧ phon x y m ≤ 16 := by
  have := S_bd (n := 8) (f := fun i => if hit (x * ((i : Int) + 2) - x - y * ((i : Int) + 2)) m = true then 2 else 0) (c := 2) fun i hi => by split <;> omega
  unfold phon; omega

/-- what an error of a kind adds for a step of one -/
def byOf (k x y : Int) : Int := if k = 0 then x else if k = 1 ∨ k = 2 then x - y else x + y
/-- how many pairs are unseen at a place -/
def unseenF (W : Wt) (k : Int) (p : Nat) : Int :=
  if k = 5 then phon (W.weights.getD p 0) (W.weights.getD (p + 1) 0) W.modulus
  else uns (byOf k (W.weights.getD p 0) (W.weights.getD (p + elen k - 1) 0)) W.modulus W.base.toNat
theorem unseenF_bd (W : Wt) (k : Int) (p : Nat) (h : W.base ≤ 36) : 0 ≤ unseenF W k p ∧ unseenF W k p ≤ 2592 := by
  unfold unseenF
  split
  · have := phon_bd (W.weights.getD p 0) (W.weights.getD (p + 1) 0) W.modulus; omega
  · exact uns_bd _ _ _ (by omega)
end Go.Proofs.Ytlpbflmgkopklaa
