/- Plain: edit distances. -/
import Derived.Test.YtccoopnoakhedaaBase
import Derived.Test.YtccoopnoakhedaaGridP
import Derived.Test.YtccoopnoakhedaaChVS
import Derived.Test.YtccoopnoakhedaaMix2
namespace Go.Proofs.Ytccoopnoakhedaa
set_option maxRecDepth 100000

/-- the least number of letters that are put in, struck out or turned -/
def costS : List UInt8 → List UInt8 → Nat
  | [], ys => ys.length
  | x :: xs, [] => xs.length + 1
  | x :: xs, y :: ys => min (min (costS xs (y :: ys) + 1) (costS (x :: xs) ys + 1)) (costS xs ys + if x = y then 0 else 1)
termination_by xs ys => xs.length + ys.length
theorem cost_nil (ys : List UInt8) : costS [] ys = ys.length := by rw [costS]
theorem cost_nil' (xs : List UInt8) : costS xs [] = xs.length := by
  cases xs with
  | nil => rw [costS]
  | cons x xs => rw [costS]; rfl
theorem cost_cons (x y : UInt8) (xs ys : List UInt8) : costS (x :: xs) (y :: ys) = min (min (costS xs (y :: ys) + 1) (costS (x :: xs) ys + 1)) (costS xs ys + if x = y then 0 else 1) := by rw [costS]
theorem cost_comm : ∀ (n : Nat) (a b : List UInt8), a.length + b.length ≤ n → costS a b = costS b a
  | _, [], b, _ => by rw [cost_nil, cost_nil']
  | _, a, [], _ => by rw [cost_nil, cost_nil']
  | 0, x :: xs, y :: ys, h => by simp at h
  | n + 1, x :: xs, y :: ys, h => by
    simp only [List.length_cons] at h
    rw [cost_cons, cost_cons, cost_comm n xs (y :: ys) (by simp; omega), cost_comm n (x :: xs) ys (by simp; omega), cost_comm n xs ys (by omega)]
    have e : (if x = y then 0 else 1) = (if y = x then 0 else 1) := by
      by_cases hxy : x = y
      · subst hxy; rfl
      · rw [if_neg hxy, if_neg (fun h => hxy h.symm)]
    rw [e]
    omega
theorem cost_le : ∀ (n : Nat) (a b : List UInt8), a.length + b.length ≤ n → costS a b ≤ a.length + b.length
  | _, [], b, _ => by rw [cost_nil]; simp
  | _, a, [], _ => by rw [cost_nil']; simp
  | 0, x :: xs, y :: ys, h => by simp at h
  | n + 1, x :: xs, y :: ys, h => by
    simp only [List.length_cons] at h
    have := cost_le n xs (y :: ys) (by simp; omega)
    rw [cost_cons]
    simp only [List.length_cons] at this ⊢
    omega
/-- the rests from i and from k on -/
def cst (a b : ByteArray) (i k : Nat) : Nat := costS (a.data.toList.drop i) (b.data.toList.drop k)
def distS (a b : ByteArray) : Nat := cst a b 0 0
theorem dist_comm (a b : ByteArray) : distS a b = distS b a := cost_comm _ _ _ (Nat.le_refl _)
theorem ba_len (a : ByteArray) : a.data.toList.length = a.size := by simp
theorem cst_le (a b : ByteArray) (i k : Nat) : cst a b i k ≤ (a.size - i) + (b.size - k) := by
  have := cost_le _ (a.data.toList.drop i) (b.data.toList.drop k) (Nat.le_refl _)
  rw [List.length_drop, List.length_drop, ba_len, ba_len] at this
  exact this
theorem cst_end1 (a b : ByteArray) {i : Nat} (k : Nat) (h : a.size ≤ i) : cst a b i k = b.size - k := by
  unfold cst; rw [show a.data.toList.drop i = [] from List.drop_eq_nil_of_le (by rw [ba_len]; exact h), cost_nil, List.length_drop, ba_len]
theorem cst_end2 (a b : ByteArray) (i : Nat) {k : Nat} (h : b.size ≤ k) : cst a b i k = a.size - i := by
  unfold cst; rw [show b.data.toList.drop k = [] from List.drop_eq_nil_of_le (by rw [ba_len]; exact h), cost_nil', List.length_drop, ba_len]
theorem cst_step (a b : ByteArray) {i k : Nat} (hi : i < a.size) (hk : k < b.size) :
    cst a b i k = min (min (cst a b (i + 1) k + 1) (cst a b i (k + 1) + 1)) (cst a b (i + 1) (k + 1) + if a[i] = b[k] then 0 else 1) := by
  unfold cst
  rw [show a.data.toList.drop i = a.data.toList[i]'(by rw [ba_len]; exact hi) :: a.data.toList.drop (i + 1) from List.drop_eq_getElem_cons (by rw [ba_len]; exact hi), show b.data.toList.drop k = b.data.toList[k]'(by rw [ba_len]; exact hk) :: b.data.toList.drop (k + 1) from List.drop_eq_getElem_cons (by rw [ba_len]; exact hk), cost_cons]
  rfl
/-- as the program reckons it -/
theorem cst_impl (a b : ByteArray) {i k : Nat} (hi : i < a.size) (hk : k < b.size) :
    ((cst a b i k : Nat) : Int) = min (min (min ((a.size : Int) - i + b.size - k) ((cst a b (i + 1) k : Nat) + 1 : Int)) ((cst a b i (k + 1) : Nat) + 1 : Int)) ((cst a b (i + 1) (k + 1) : Nat) + (if a[i] = b[k] then 0 else 1) : Int) := by
  have h1 := cst_step a b hi hk
  have h2 := cst_le a b i k
  split at h1 <;> rename_i h <;> simp only [h, if_true, if_false] <;> omega
theorem cst_impl1 (a b : ByteArray) {i k : Nat} (hi : i < a.size) (hk : k = b.size) : ((cst a b i k : Nat) : Int) = min ((a.size : Int) - i + b.size - k) ((cst a b (i + 1) k : Nat) + 1 : Int) := by
  have h1 := cst_end2 a b i (k := k) (by omega)
  have h2 := cst_end2 a b (i + 1) (k := k) (by omega)
  omega
theorem cst_impl2 (a b : ByteArray) {i k : Nat} (hi : i = a.size) (hk : k < b.size) : ((cst a b i k : Nat) : Int) = min ((a.size : Int) - i + b.size - k) ((cst a b i (k + 1) : Nat) + 1 : Int) := by
  have h1 := cst_end1 a b (i := i) k (by omega)
  have h2 := cst_end1 a b (i := i) (k + 1) (by omega)
  omega
theorem cst_impl3 (a b : ByteArray) {i k : Nat} (hi : i = a.size) (hk : k = b.size) : ((cst a b i k : Nat) : Int) = (a.size : Int) - i + b.size - k := by
  have h1 := cst_end1 a b (i := i) k (by omega)
  omega
end Go.Proofs.Ytccoopnoakhedaa

/- Walks: edit distances, in the program. -/
namespace Go.Proofs.Ytccoopnoakhedaa
set_option maxRecDepth 100000
open Go.RowKit

theorem cell_n : Try.prog.cellsOf 3 = 1 := by kernel_rfl
theorem info_n : (Try.prog.info? 3).map (fun i => (i.zero, i.size, i.bytes)) = some (some (.int .i64 0), 1, 8) := by kernel_rfl
/-- the rows from lo on are reckoned -/
def RowsE (a b : ByteArray) (lo : Nat) (F : Nat → Nat → Int) : Prop := ∀ j, lo ≤ j → j ≤ a.size → ∀ y, y ≤ b.size → F j y = ((cst a b j y : Nat) : Int)
def RowE (a b : ByteArray) (i hi : Nat) (F : Nat → Nat → Int) : Prop := ∀ y, hi ≤ y → y ≤ b.size → F i y = ((cst a b i y : Nat) : Int)
theorem RowsE.lay {a b : ByteArray} {i : Nat} {F : Nat → Nat → Int} (h : RowsE a b (i + 1) F) : RowsE a b (i + 1) (fun j y => if j = i then 0 else F j y) := fun j h1 h2 y hy => by
  show (if j = i then 0 else F j y) = _
  rw [if_neg (by omega)]; exact h j h1 h2 y hy
theorem RowsE.upd {a b : ByteArray} {i x : Nat} {v : Int} {F : Nat → Nat → Int} (h : RowsE a b (i + 1) F) : RowsE a b (i + 1) (upd F i x v) := fun j h1 h2 y hy => by rw [upd_row (by omega)]; exact h j h1 h2 y hy
theorem RowE.step {a b : ByteArray} {i k : Nat} {v : Int} {F : Nat → Nat → Int} (h : RowE a b i (k + 1) F) (hv : v = ((cst a b i k : Nat) : Int)) : RowE a b i k (Go.Proofs.Ytccoopnoakhedaa.upd F i k v) := fun y h1 h2 => by
  by_cases e : y = k
  · subst e; rw [upd_same, hv]
  · rw [upd_col e]; exact h y (by omega) h2
theorem RowsE.down {a b : ByteArray} {i : Nat} {F : Nat → Nat → Int} (h : RowsE a b (i + 1) F) (h2 : RowE a b i 0 F) : RowsE a b i F := fun j h1 h3 y hy => by
  rcases Nat.eq_or_lt_of_le h1 with rfl | h1
  · exact h2 y (Nat.zero_le _) hy
  · exact h j h1 h3 y hy
end Go.Proofs.Ytccoopnoakhedaa

/- Walks: edit distances, in the reference. -/
namespace Go.Proofs.Ytccoopnoakhedaa
set_option maxRecDepth 100000
open Go.RowKit

def fl (H : Nat → Int) (n : Nat) : List Int := (List.range n).map H
theorem fl_len (H : Nat → Int) (n : Nat) : (fl H n).length = n := by simp [fl]
theorem fl_getD {H : Nat → Int} {n k : Nat} (h : k < n) : (I (fl H n)).getD k undef = .int .i64 (H k) := by rw [I_getD _ _ (by rw [fl_len]; exact h)]; simp [fl, h]
def updL (H : Nat → Int) (x : Nat) (v : Int) : Nat → Int := fun y => if y = x then v else H y
theorem fl_upd {H : Nat → Int} {n x : Nat} {v : Int} : (fl H n).set x v = fl (updL H x v) n := by
  apply List.ext_getElem
  · simp [fl]
  · intro k h1 h2
    simp only [fl, List.getElem_map, List.getElem_range, List.getElem_set, updL]
    by_cases e : x = k
    · subst e; simp
    · rw [if_neg e, if_neg (fun h => e h.symm)]
theorem idx_ne {N i k j y : Nat} (hy : y < N) (hk : k < N) (h : ¬ (j = i ∧ y = k)) : j * N + y ≠ i * N + k := by
  intro he
  rcases Nat.lt_trichotomy j i with h1 | h1 | h1
  · have := Nat.mul_le_mul_right N (show j + 1 ≤ i from h1)
    rw [Nat.succ_mul] at this
    omega
  · subst h1; exact h ⟨rfl, by omega⟩
  · have := Nat.mul_le_mul_right N (show i + 1 ≤ j from h1)
    rw [Nat.succ_mul] at this
    omega
theorem idx_lt {N n i k : Nat} (hi : i ≤ n) (hk : k < N) : i * N + k < (n + 1) * N := by
  have := Nat.mul_le_mul_right N hi
  rw [Nat.succ_mul]
  omega
theorem own_fl_set {w : World} {B g tot x : Nat} {E : TypeId} {H : Nat → Int} {v : Int} (h : Own w B E (some ⟨g, 0, none⟩) tot tot (I (fl H tot))) : Own (w.setCell ⟨g, x, none⟩ (.int .i64 v)) B E (some ⟨g, 0, none⟩) tot tot (I (fl (updL H x v) tot)) := by
  have := h.set x (.int .i64 v)
  rwa [I_set, fl_upd] at this
/-- what lies behind (i, k) is reckoned -/
def FlatE (a b : ByteArray) (i hi : Nat) (H : Nat → Int) : Prop := (∀ j, i < j → j ≤ a.size → ∀ y, y ≤ b.size → H (j * (b.size + 1) + y) = ((cst a b j y : Nat) : Int)) ∧ ∀ y, hi ≤ y → y ≤ b.size → H (i * (b.size + 1) + y) = ((cst a b i y : Nat) : Int)
theorem FlatE.step {a b : ByteArray} {i k : Nat} {v : Int} {H : Nat → Int} (h : FlatE a b i (k + 1) H) (hk : k ≤ b.size) (hv : v = ((cst a b i k : Nat) : Int)) : FlatE a b i k (updL H (i * (b.size + 1) + k) v) := by
  refine ⟨fun j h1 h2 y hy => ?_, fun y h1 h2 => ?_⟩
  · unfold updL; rw [if_neg (idx_ne (by omega) (by omega) (by omega))]; exact h.1 j h1 h2 y hy
  · unfold updL
    by_cases e : y = k
    · subst e; rw [if_pos rfl, hv]
    · rw [if_neg (idx_ne (by omega) (by omega) (by omega))]; exact h.2 y (by omega) h2
theorem FlatE.step' {a b : ByteArray} {i k P0 : Nat} {v : Int} {H : Nat → Int} (h : FlatE a b i (k + 1) H) (hP : P0 = i * (b.size + 1)) (hk : k ≤ b.size) (hv : v = ((cst a b i k : Nat) : Int)) : FlatE a b i k (updL H (P0 + k) v) := by
  subst hP; exact h.step hk hv
def FlatR (a b : ByteArray) (lo : Nat) (H : Nat → Int) : Prop := ∀ j, lo ≤ j → j ≤ a.size → ∀ y, y ≤ b.size → H (j * (b.size + 1) + y) = ((cst a b j y : Nat) : Int)
theorem FlatE.down {a b : ByteArray} {i : Nat} {H : Nat → Int} (h : FlatE a b i 0 H) : FlatR a b i H := fun j h1 h3 y hy => by
  rcases Nat.eq_or_lt_of_le h1 with rfl | h1
  · exact h.2 y (Nat.zero_le _) hy
  · exact h.1 j h1 h3 y hy
def RetFlat (a b : ByteArray) (tot : Nat) (w : World) (e : Ending) (w' : World) : Prop :=
  ∃ g H, e = .returned (.slice (some ⟨g, 0, none⟩) tot tot) ∧ Own w' w.heap.size 2 (some ⟨g, 0, none⟩) tot tot (I (fl H tot)) ∧ FlatR a b 0 H ∧ Ext w w'
end Go.Proofs.Ytccoopnoakhedaa
