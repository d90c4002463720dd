/- Plain: edit distances. -/
import Derived.Test.YtbcfbkhbangeoaaBase
namespace Go.Proofs.Ytbcfbkhbangeoaa
set_option maxRecDepth 100000

/-- the least number of letters that are put in, struck out or turned -/
def costS : List UInt8 → List UInt8 → Nat
  | [], ys => ys.length
  | x :: xs, [] => xs.length + 1
  | x :: xs, y :: ys => min (min (costS xs (y :: ys) + 1) (costS (x :: xs) ys + 1)) (costS xs ys + if x = y then 0 else 1)
termination_by xs ys => xs.length + ys.length
theorem cost_nil (ys : List UInt8) : costS [] ys = ys.length := by rw [costS]
theorem cost_nil' (xs : List UInt8) : costS xs [] = xs.length := by
  cases xs with
  | nil => rw [costS]
  | cons x xs => rw [costS]; rfl
theorem cost_cons (x y : UInt8) (xs ys : List UInt8) : costS (x :: xs) (y :: ys) = min (min (costS xs (y :: ys) + 1) (costS (x :: xs) ys + 1)) (costS xs ys + if x = y then 0 else 1) := by rw [costS]
theorem cost_comm : ∀ (n : Nat) (a b : List UInt8), a.length + b.length ≤ n → costS a b = costS b a
  | _, [], b, _ => by rw [cost_nil, cost_nil']
  | _, a, [], _ => by rw [cost_nil, cost_nil']
  | 0, x :: xs, y :: ys, h => by simp at h
  | n + 1, x :: xs, y :: ys, h => by
    simp only [List.length_cons] at h
    rw [cost_cons, cost_cons, cost_comm n xs (y :: ys) (by simp; omega), cost_comm n (x :: xs) ys (by simp; omega), cost_comm n xs ys (by omega)]
    have e : (if x = y then 0 else 1) = (if y = x then 0 else 1) := by
      by_cases hxy : x = y
      · subst hxy; rfl
      · rw [if_neg hxy, if_neg (fun h => hxy h.symm)]
    rw [e]
    omega
theorem cost_le : ∀ (n : Nat) (a b : List UInt8), a.length + b.length ≤ n → costS a b ≤ a.length + b.length
  | _, [], b, _ => by rw [cost_nil]; simp
  | _, a, [], _ => by rw [cost_nil']; simp
  | 0, x :: xs, y :: ys, h => by simp at h
  | n + 1, x :: xs, y :: ys, h => by
    simp only [List.length_cons] at h
    have := cost_le n xs (y :: ys) (by simp; omega)
    rw [cost_cons]
    simp only [List.length_cons] at this ⊢
    omega
/-- the rests from i and from k on -/
def cst (a b : ByteArray) (i k : Nat) : Nat := costS (a.data.toList.drop i) (b.data.toList.drop k)
def distS (a b : ByteArray) : Nat := cst a b 0 0
theorem dist_comm (a b : ByteArray) : distS a b = distS b a := cost_comm _ _ _ (Nat.le_refl _)
theorem ba_len (a : ByteArray) : a.data.toList.length = a.size := by simp
theorem cst_le (a b : ByteArray) (i k : Nat) : cst a b i k ≤ (a.size - i) + (b.size - k) := by
  have := cost_le _ (a.data.toList.drop i) (b.data.toList.drop k) (Nat.le_refl _)
  rw [List.length_drop, List.length_drop, ba_len, ba_len] at this
  exact this
theorem cst_end1 (a b : ByteArray) {i : Nat} (k : Nat) (h : a.size ≤ i) : cst a b i k = b.size - k := by
  unfold cst; rw [show a.data.toList.drop i = [] from List.drop_eq_nil_of_le (by rw [ba_len]; exact h), cost_nil, List.length_drop, ba_len]
theorem cst_end2 (a b : ByteArray) (i : Nat) {k : Nat} (h : b.size ≤ k) : cst a b i k = a.size - i := by
  unfold cst; rw [show b.data.toList.drop k = [] from List.drop_eq_nil_of_le (by rw [ba_len]; exact h), cost_nil', List.length_drop, ba_len]
theorem cst_step (a b : ByteArray) {i k : Nat} (hi : i < a.size) (hk : k < b.size) :
    cst a b i k = min (min (cst a b (i + 1) k + 1) (cst a b i (k + 1) + 1)) (cst a b (i + 1) (k + 1) + if a[i] = b[k] then 0 else 1) := by
  unfold cst
  rw [show a.data.toList.drop i = a.data.toList[i]'(by rw [ba_len]; exact hi) :: a.data.toList.drop (i + 1) from List.drop_eq_getElem_cons (by rw [ba_len]; exact hi), show b.data.toList.drop k = b.data.toList[k]'(by rw [ba_len]; exact hk) :: b.data.toList.drop (k + 1) from List.drop_eq_getElem_cons (by rw [ba_len]; exact hk), cost_cons]
  rfl
/-- as the program reckons it -/
theorem cst_impl (a b : ByteArray) {i k : Nat} (hi : i < a.size) (hk : k < b.size) :
    ((cst a b i k : Nat) : Int) = min (min (min ((a.size : Int) - i + b.size - k) ((cst a b (i + 1) k : Nat) + 1 : Int)) ((cst a b i (k + 1) : Nat) + 1 : Int)) ((cst a b (i + 1) (k + 1) : Nat) + (if a[i] = b[k] then 0 else 1) : Int) := by
  have h1 := cst_step a b hi hk
  have h2 := cst_le a b i k
  split at h1 <;> rename_i h <;> simp only [h, if_true, if_false] <;> omega
theorem cst_impl1 (a b : ByteArray) {i k : Nat} (hi : i < a.size) (hk : k = b.size) : ((cst a b i k : Nat) : Int) = min ((a.size : Int) - i + b.size - k) ((cst a b (i + 1) k : Nat) + 1 : Int) := by
  have h1 := cst_end2 a b i (k := k) (by omega)
  have h2 := cst_end2 a b (i + 1) (k := k) (by omega)
  omega
theorem cst_impl2 (a b : ByteArray) {i k : Nat} (hi : i = a.size) (hk : k < b.size) : ((cst a b i k : Nat) : Int) = min ((a.size : Int) - i + b.size - k) ((cst a b i (k + 1) : Nat) + 1 : Int) := by
  have h1 := cst_end1 a b (i := i) k (by omega)
  have h2 := cst_end1 a b (i := i) (k + 1) (by omega)
  omega
theorem cst_impl3 (a b : ByteArray) {i k : Nat} (hi : i = a.size) (hk : k = b.size) : ((cst a b i k : Nat) : Int) = (a.size : Int) - i + b.size - k := by
  have h1 := cst_end1 a b (i := i) k (by omega)
  omega
end Go.Proofs.Ytbcfbkhbangeoaa
