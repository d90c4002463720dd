/- Walks: edit distances, in the reference. -/
import Derived.Test.YtbcfbkhbangeoaaEditM
import Derived.Test.YtbcfbkhbangeoaaChV
import Derived.Test.YtbcfbkhbangeoaaMix2
namespace Go.Proofs.Ytbcfbkhbangeoaa
set_option maxRecDepth 100000
open Go.RowKit

def fl (H : Nat → Int) (n : Nat) : List Int := (List.range n).map H
theorem fl_len (H : Nat → Int) (n : Nat) : (fl H n).length = n := by simp [fl]
theorem fl_getD {H : Nat → Int} {n k : Nat} (h : k < n) : (I (fl H n)).getD k undef = .int .i64 (H k) := by rw [I_getD _ _ (by rw [fl_len]; exact h)]; simp [fl, h]
def updL (H : Nat → Int) (x : Nat) (v : Int) : Nat → Int := fun y => if y = x then v else H y
theorem fl_upd {H : Nat → Int} {n x : Nat} {v : Int} : (fl H n).set x v = fl (updL H x v) n := by
  apply List.ext_getElem
  · simp [fl]
  · intro k h1 h2
    simp only [fl, List.getElem_map, List.getElem_range, List.getElem_set, updL]
    by_cases e : x = k
    · subst e; simp
    · rw [if_neg e, if_neg (fun h => e h.symm)]
theorem idx_ne {N i k j y : Nat} (hy : y < N) (hk : k < N) (h : ¬ (j = i ∧ y = k)) : j * N + y ≠ i * N + k := by
  intro he
  rcases Nat.lt_trichotomy j i with h1 | h1 | h1
  · have := Nat.mul_le_mul_right N (show j + 1 ≤ i from h1)
    rw [Nat.succ_mul] at this
    omega
  · subst h1; exact h ⟨rfl, by omega⟩
  · have := Nat.mul_le_mul_right N (show i + 1 ≤ j from h1)
    rw [Nat.succ_mul] at this
    omega
theorem idx_lt {N n i k : Nat} (hi : i ≤ n) (hk : k < N) : i * N + k < (n + 1) * N := by
  have := Nat.mul_le_mul_right N hi
  rw [Nat.succ_mul]
  omega
theorem own_fl_set {w : World} {B g tot x : Nat} {E : TypeId} {H : Nat → Int} {v : Int} (h : Own w B E (some ⟨g, 0, none⟩) tot tot (I (fl H tot))) : Own (w.setCell ⟨g, x, none⟩ (.int .i64 v)) B E (some ⟨g, 0, none⟩) tot tot (I (fl (updL H x v) tot)) := by
  have := h.set x (.int .i64 v)
  rwa [I_set, fl_upd] at this
/-- what lies behind (i, k) is reckoned -/
def FlatE (a b : ByteArray) (i hi : Nat) (H : Nat → Int) : Prop := (∀ j, i < j → j ≤ a.size → ∀ y, y ≤ b.size → H (j * (b.size + 1) + y) = ((cst a b j y : Nat) : Int)) ∧ ∀ y, hi ≤ y → y ≤ b.size → H (i * (b.size + 1) + y) = ((cst a b i y : Nat) : Int)
theorem FlatE.step {a b : ByteArray} {i k : Nat} {v : Int} {H : Nat → Int} (h : FlatE a b i (k + 1) H) (hk : k ≤ b.size) (hv : v = ((cst a b i k : Nat) : Int)) : FlatE a b i k (updL H (i * (b.size + 1) + k) v) := by
  refine ⟨fun j h1 h2 y hy => ?_, fun y h1 h2 => ?_⟩
  · unfold updL; rw [if_neg (idx_ne (by omega) (by omega) (by omega))]; exact h.1 j h1 h2 y hy
  · unfold updL
    by_cases e : y = k
    · subst e; rw [if_pos rfl, hv]
    · rw [if_neg (idx_ne (by omega) (by omega) (by omega))]; exact h.2 y (by omega) h2
theorem FlatE.step' {a b : ByteArray} {i k P0 : Nat} {v : Int} {H : Nat → Int} (h : FlatE a b i (k + 1) H) (hP : P0 = i * (b.size + 1)) (hk : k ≤ b.size) (hv : v = ((cst a b i k : Nat) : Int)) : FlatE a b i k (updL H (P0 + k) v) := by
  subst hP; exact h.step hk hv
def FlatR (a b : ByteArray) (lo : Nat) (H : Nat → Int) : Prop := ∀ j, lo ≤ j → j ≤ a.size → ∀ y, y ≤ b.size → H (j * (b.size + 1) + y) = ((cst a b j y : Nat) : Int)
theorem FlatE.down {a b : ByteArray} {i : Nat} {H : Nat → Int} (h : FlatE a b i 0 H) : FlatR a b i H := fun j h1 h3 y hy => by
  rcases Nat.eq_or_lt_of_le h1 with rfl | h1
  · exact h.2 y (Nat.zero_le _) hy
  · exact h.1 j h1 h3 y hy
def RetFlat (a b : ByteArray) (tot : Nat) (w : World) (e : Ending) (w' : World) : Prop :=
  ∃ g H, e = .returned (.slice (some ⟨g, 0, none⟩) tot tot) ∧ Own w' w.heap.size 2 (some ⟨g, 0, none⟩) tot tot (I (fl H tot)) ∧ FlatR a b 0 H ∧ Ext w w'
end Go.Proofs.Ytbcfbkhbangeoaa
