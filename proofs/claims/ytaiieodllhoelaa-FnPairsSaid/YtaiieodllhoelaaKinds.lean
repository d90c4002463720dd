/- Walks: kinds of errors, in the program and in the reference; remainders. -/
import Derived.Test.YtaiieodllhoelaaWSum
import Derived.Test.YtaiieodllhoelaaK
namespace Go.Proofs.Ytaiieodllhoelaa
set_option maxRecDepth 100000
open Go.RowKit

/-- how many symbols an error of a kind has -/
def elen (k : Int) : Nat := if k = 0 then 1 else if k = 2 ∨ k = 4 then 3 else 2
def kindB (k base : Int) : Bool := inB k 0 5 && (decide (k ≠ 5) || decide (10 ≤ base))
theorem elen_bd (k : Int) : 1 ≤ elen k ∧ elen k ≤ 3 := by unfold elen; split <;> (try split) <;> omega

set_option maxHeartbeats 400000 in
theorem impl_elen (k : Int) (w : World) : Calls Try.prog 154 #[.int .i64 k] w (Same (.int .i64 (elen k)) w) := by
  by_cases h0 : k = 0
  · subst h0
    go_enter Try.func154, Try.ntmps154
    go_wp2
    go_ret
    exact ⟨rfl, rfl⟩
  by_cases h2 : k = 2
  · subst h2
    go_enter Try.func154, Try.ntmps154
    go_wp2
    go_ret
    exact ⟨rfl, rfl⟩
  by_cases h4 : k = 4
  · subst h4
    go_enter Try.func154, Try.ntmps154
    go_wp2
    go_ret
    exact ⟨rfl, rfl⟩
  have b0 : (k == 0) = false := by simp [h0]
  have b2 : (k == 2) = false := by simp [h2]
  have b4 : (k == 4) = false := by simp [h4]
  have HE := Lib.hid (show elen k = 2 by simp [elen, h0, h2, h4])
  clear h0 h2 h4
  go_enter Try.func154, Try.ntmps154
  go_wp2
  go_ret
  exact ⟨ri (by rw [HE.out]; rfl), rfl⟩

set_option maxHeartbeats 400000 in
theorem impl_last (n k : Int) (w : World) (h0 : 0 ≤ n) (h1 : n ≤ 4611686018427387904) : Calls Try.prog 115 #[.int .i64 n, .int .i64 k] w (Same (.int .i64 (n - elen k)) w) := by
  have hb := elen_bd k
  have HE := Lib.hid (impl_elen k)
  generalize elen k = e at *
  go_enter Try.func115, Try.ntmps115
  go_wp2_with (go_at_call 154; refine (HE.out _).mono ?_; rintro e w' ⟨rfl, rfl⟩)
  go_ret
  exact ⟨rfl, rfl⟩

set_option maxHeartbeats 400000 in
theorem impl_kind (k base : Int) (w : World) : Calls Try.prog 114 #[.int .i64 k, .int .i64 base] w (Same (.bool (kindB k base)) w) := by
  have HI := Lib.hid (impl_in k 0 5)
  cases hi : inB k 0 5
  · rw [hi] at HI
    have HK := Lib.hid (show kindB k base = false by simp [kindB, hi])
    clear hi
    go_enter Try.func114, Try.ntmps114
    go_wp2_with (refine (HI.out _).mono ?_; rintro e w' ⟨rfl, rfl⟩)
    go_ret
    exact ⟨rb HK.out.symm, rfl⟩
  · rw [hi] at HI
    by_cases h5 : k = 5
    · subst h5
      have HK := Lib.hid (show kindB 5 base = decide (10 ≤ base) by simp [kindB, inB])
      clear hi
      go_enter Try.func114, Try.ntmps114
      go_wp2_with (refine (HI.out _).mono ?_; rintro e w' ⟨rfl, rfl⟩)
      go_ret
      exact ⟨rb HK.out.symm, rfl⟩
    · have HK := Lib.hid (show kindB k base = true by simp [kindB, hi, h5])
      have b5 : (k != 5) = true := by simp [h5]
      clear hi h5
      go_enter Try.func114, Try.ntmps114
      go_wp2_with (refine (HI.out _).mono ?_; rintro e w' ⟨rfl, rfl⟩)
      go_ret
      exact ⟨rb HK.out.symm, rfl⟩

/-- v is a multiple of m -/
def hit (v m : Int) : Bool := v % m == 0
theorem hit_tmod (v m : Int) : (v.tmod m == 0) = hit v m := by
  unfold hit
  rw [Bool.eq_iff_iff]
  simp only [beq_iff_eq]
  exact Int.dvd_iff_tmod_eq_zero.symm.trans Int.dvd_iff_emod_eq_zero



/-- at how many places an error of a kind is possible; -1: the base has not this kind -/
def placesF (k base : Int) (n : Nat) : Int := if kindB k base = true then max 0 ((n : Int) - elen k + 1) else -1

end Go.Proofs.Ytaiieodllhoelaa

/- Sums over the first numbers; pairs that are unseen: plain laws, no program in sight. -/
namespace Go.Proofs.Ytaiieodllhoelaa
set_option maxRecDepth 100000

/-- f 0 + .. + f (n - 1) -/
def S : Nat → (Nat → Int) → Int
  | 0, _ => 0
  | n + 1, f => S n f + f n
theorem S_congr {n : Nat} {f g : Nat → Int} (h : ∀ i, i < n → f i = g i) : S n f = S n g := by
  induction n with
  | zero => rfl
  | succ n ih => simp only [S]; rw [ih fun i hi => h i (by omega), h n (by omega)]
theorem S_bd {n : Nat} {f : Nat → Int} {c : Int} (h : ∀ i, i < n → 0 ≤ f i ∧ f i ≤ c) : 0 ≤ S n f ∧ S n f ≤ c * n := by
  induction n with
  | zero => simp [S]
  | succ n ih =>
    have h1 := ih fun i hi => h i (by omega)
    have h2 := h n (by omega)
    simp only [S]
    rw [show ((n + 1 : Nat) : Int) = (n : Int) + 1 by omega, Int.mul_add]
    omega
theorem S_add (n : Nat) (f g : Nat → Int) : S n (fun i => f i + g i) = S n f + S n g := by
  induction n with
  | zero => rfl
  | succ n ih => simp only [S]; rw [ih]; omega
theorem S_mul (n : Nat) (c : Int) (f : Nat → Int) : S n (fun i => c * f i) = c * S n f := by
  induction n with
  | zero => simp [S]
  | succ n ih => simp only [S]; rw [ih, Int.mul_add]
theorem S_first (n : Nat) (f : Nat → Int) : S (n + 1) f = f 0 + S n (fun i => f (i + 1)) := by
  induction n with
  | zero => simp [S]
  | succ n ih => rw [S, ih]; simp only [S]; omega
theorem S_rev (n : Nat) (f : Nat → Int) : S n (fun i => f (n - i)) = S n (fun i => f (i + 1)) := by
  induction n with
  | zero => rfl
  | succ n ih =>
    rw [S_first]
    simp only [S]
    rw [show S n (fun i => f (n + 1 - (i + 1))) = S n (fun i => f (n - i)) from S_congr fun i _ => by rw [show n + 1 - (i + 1) = n - i by omega], ih]
    rw [show n + 1 - 0 = n + 1 from rfl]; omega

theorem hit_neg (v m : Int) : hit (-v) m = hit v m := by
  unfold hit
  rw [Bool.eq_iff_iff]
  simp only [beq_iff_eq]
  constructor
  · intro h; have := Int.dvd_of_emod_eq_zero h; exact Int.emod_eq_zero_of_dvd (Int.dvd_neg.1 this)
  · intro h; have := Int.dvd_of_emod_eq_zero h; exact Int.emod_eq_zero_of_dvd (Int.dvd_neg.2 this)

def one (b : Bool) : Int := if b then 1 else 0
theorem one_bd (b : Bool) : 0 ≤ one b ∧ one b ≤ 1 := by unfold one; split <;> omega
/-- the ordered pairs of different symbols that are unseen -/
def pairs (v m : Int) (n : Nat) : Int := S n fun x => S n fun y => one (decide (x ≠ y) && hit (v * ((x : Int) - y)) m)
/-- the same, difference by difference -/
def uns (v m : Int) (n : Nat) : Int := S (n - 1) fun i => if hit (v * ((i : Int) + 1)) m = true then 2 * ((n : Int) - ((i : Int) + 1)) else 0

theorem uns_succ (v m : Int) (n : Nat) : uns v m (n + 1) = uns v m n + 2 * S n fun i => one (hit (v * ((i : Int) + 1)) m) := by
  unfold uns
  cases n with
  | zero => simp [S]
  | succ n =>
    rw [show n + 1 + 1 - 1 = n + 1 by omega, show n + 1 - 1 = n by omega]
    rw [← S_mul]
    simp only [S]
    rw [show S n (fun i => if hit (v * ((i : Int) + 1)) m = true then 2 * (((n + 1 + 1 : Nat) : Int) - ((i : Int) + 1)) else 0) =
      S n (fun i => (if hit (v * ((i : Int) + 1)) m = true then 2 * (((n + 1 : Nat) : Int) - ((i : Int) + 1)) else 0) + 2 * one (hit (v * ((i : Int) + 1)) m)) from S_congr fun i _ => by
        unfold one; split <;> simp <;> omega]
    rw [S_add]
    unfold one
    split <;> simp <;> omega
theorem pairs_succ (v m : Int) (n : Nat) : pairs v m (n + 1) = pairs v m n + 2 * S n fun i => one (hit (v * ((i : Int) + 1)) m) := by
  unfold pairs
  simp only [S]
  rw [S_add]
  have e1 : S n (fun x => one (decide (x ≠ n) && hit (v * ((x : Int) - n)) m)) = S n fun i => one (hit (v * ((i : Int) + 1)) m) := by
    refine Eq.trans (S_congr fun i hi => ?_) ((S_rev n (fun i => one (hit (v * (i : Int)) m))).trans (S_congr fun i _ => by simp))
    rw [show (v * ((i : Int) - n)) = -(v * ((n - i : Nat) : Int)) by rw [← Int.mul_neg]; congr 1; omega, hit_neg]
    simp [show i ≠ n by omega]
  have e2 : S n (fun y => one (decide (n ≠ y) && hit (v * ((n : Int) - y)) m)) = S n fun i => one (hit (v * ((i : Int) + 1)) m) := by
    refine Eq.trans (S_congr fun i hi => ?_) ((S_rev n (fun i => one (hit (v * (i : Int)) m))).trans (S_congr fun i _ => by simp))
    rw [show (v * ((n : Int) - i)) = (v * ((n - i : Nat) : Int)) by congr 1; omega]
    simp [show n ≠ i by omega]
  rw [e1, e2]
  simp [one]
  omega
theorem pairs_eq (v m : Int) (n : Nat) : pairs v m n = uns v m n := by
  induction n with
  | zero => rfl
  | succ n ih => rw [pairs_succ, uns_succ, ih]
theorem uns_bd (v m : Int) (n : Nat) (hn : n ≤ 36) : 0 ≤ uns v m n ∧ uns v m n ≤ 2592 := by
  have := S_bd (n := n - 1) (f := fun i => if hit (v * ((i : Int) + 1)) m = true then 2 * ((n : Int) - ((i : Int) + 1)) else 0) (c := 72) fun i hi => by split <;> omega
  unfold uns; omega

/-- pairs that are unseen as they sound -/
def phon (x y m : Int) : Int := S 8 fun i => if hit (x * ((i : Int) + 2) - x - y * ((i : Int) + 2)) m = true then 2 else 0
theorem phon_bd (x y m : Int) : 0 ≤ phon x y m ∧ phon x y m ≤ 16 := by
  have := S_bd (n := 8) (f := fun i => if hit (x * ((i : Int) + 2) - x - y * ((i : Int) + 2)) m = true then 2 else 0) (c := 2) fun i hi => by split <;> omega
  unfold phon; omega

/-- what an error of a kind adds for a step of one -/
def byOf (k x y : Int) : Int := if k = 0 then x else if k = 1 ∨ k = 2 then x - y else x + y
/-- how many pairs are unseen at a place -/
def unseenF (W : Wt) (k : Int) (p : Nat) : Int :=
  if k = 5 then phon (W.weights.getD p 0) (W.weights.getD (p + 1) 0) W.modulus
  else uns (byOf k (W.weights.getD p 0) (W.weights.getD (p + elen k - 1) 0)) W.modulus W.base.toNat
theorem unseenF_bd (W : Wt) (k : Int) (p : Nat) (h : W.base ≤ 36) : 0 ≤ unseenF W k p ∧ unseenF W k p ≤ 2592 := by
  unfold unseenF
  split
  · have := phon_bd (W.weights.getD p 0) (W.weights.getD (p + 1) 0) W.modulus; omega
  · exact uns_bd _ _ _ (by omega)
theorem S_zero (n : Nat) : (S n fun _ => 0) = 0 := by
  induction n with
  | zero => rfl
  | succ n ih => simp only [S]; rw [ih]; rfl
theorem S_nn {n : Nat} {f : Nat → Int} (h : ∀ i, i < n → 0 ≤ f i) : 0 ≤ S n f := by
  induction n with
  | zero => simp [S]
  | succ n ih =>
    have h1 := ih fun i hi => h i (by omega)
    have h2 := h n (by omega)
    simp only [S]; omega
theorem S_one {n : Nat} {f : Nat → Int} (h : ∀ i, i < n → 0 ≤ f i) {k : Nat} (hk : k < n) : f k ≤ S n f := by
  induction n with
  | zero => omega
  | succ n ih =>
    have h0 : 0 ≤ S n f := S_nn fun i hi => h i (by omega)
    simp only [S]
    by_cases hkn : k = n
    · subst hkn; omega
    · have := ih (fun i hi => h i (by omega)) (by omega)
      have := h n (by omega)
      omega
end Go.Proofs.Ytaiieodllhoelaa
