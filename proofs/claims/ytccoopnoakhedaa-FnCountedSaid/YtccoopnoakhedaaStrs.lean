/- Walks: the laws' own helpers on lists of texts. -/
import Derived.Test.YtccoopnoakhedaaMix
import Derived.Test.YtccoopnoakhedaaW2
namespace Go.Proofs.Ytccoopnoakhedaa
set_option maxRecDepth 100000
open Go.RowKit

theorem und_strs : Try.prog.underlying 37 = some (.slice 9) := Try.underlying37
theorem elem_strs : Try.prog.elem 37 = 9 := by kernel_rfl
theorem cell_str : Try.prog.cellsOf 9 = 1 := by kernel_rfl
theorem info_str : (Try.prog.info? 9).map (fun i => (i.zero, i.size, i.bytes)) = some (some (.string .empty), 1, 16) := by kernel_rfl
theorem bs_eq {a b : ByteArray} (h : a.toList = b.toList) : a = b := by
  rw [ByteArray.toList_eq, ByteArray.toList_eq] at h
  exact ByteArray.ext (Array.toList_inj.1 h)
theorem bs_iff {a b : ByteArray} : (a.toList == b.toList) = true ↔ a = b := ⟨fun h => bs_eq (by simpa using h), fun h => by subst h; simp⟩
theorem St_set (l : List ByteArray) (k : Nat) (x : ByteArray) : (St l).set k (.string x) = St (l.set k x) := by simp [St, List.map_set]
theorem St_replicate (n : Nat) : St (List.replicate n .empty) = List.replicate n (.string .empty) := by simp [St]
theorem St_append (l m : List ByteArray) : St (l ++ m) = St l ++ St m := by simp [St]
theorem RetOwn.mkS {E : TypeId} {l : List ByteArray} {w w' : World} {a : Option Addr} {n c : Nat} (ho : Own w' w.heap.size E a n c (St l)) (hn : l.length = n) (hx : Ext w w') :
    RetOwn E (St l) w (.returned (.slice a n c)) w' := by
  have hl : (St l).length = n := by rw [St_len]; exact hn
  exact ⟨a, c, by rw [hl], by rw [hl]; exact ho, hx⟩
/-- the first k texts of l, empty ones behind them -/
def fillS (l : List ByteArray) (k : Nat) : List ByteArray := l.take k ++ List.replicate (l.length - k) .empty
theorem fillS_zero (l : List ByteArray) : fillS l 0 = List.replicate l.length .empty := by simp [fillS]
theorem fillS_full (l : List ByteArray) : fillS l l.length = l := by simp [fillS]
theorem fillS_set (l : List ByteArray) (k : Nat) (h : k < l.length) : (fillS l k).set k (gs l k) = fillS l (k + 1) := by
  unfold fillS
  rw [set_fill (l.take k) k l.length ByteArray.empty (gs l k) h (by simp; omega), take_gs h]

/-- how great a list of texts counts -/
def sizeS : List ByteArray → Nat
  | [] => 0
  | x :: xs => x.size + sizeS xs
theorem sizeS_step {l : List ByteArray} {k : Nat} (h : k < l.length) : sizeS (l.take (k + 1)) = sizeS (l.take k) + (gs l k).size := by
  rw [take_gs h]
  have : ∀ (x : List ByteArray) y, sizeS (x ++ [y]) = sizeS x + y.size := by
    intro x y; induction x with
    | nil => simp [sizeS]
    | cons a x ih => simp only [List.cons_append, sizeS, ih]; omega
  exact this _ _
theorem sizeS_le : ∀ (l : List ByteArray) (k : Nat), sizeS (l.take k) ≤ sizeS l
  | [], k => by simp [sizeS]
  | x :: xs, 0 => by simp [sizeS]
  | x :: xs, k + 1 => by have := sizeS_le xs k; simp only [List.take_succ_cons, sizeS]; omega
theorem sizeS_mem {l : List ByteArray} {x : ByteArray} (h : x ∈ l) : x.size ≤ sizeS l := by
  induction l with
  | nil => cases h
  | cons a l ih => rcases List.mem_cons.1 h with rfl | h
                   · simp only [sizeS]; omega
                   · have := ih h; simp only [sizeS]; omega
/-- what is left of a bound; -1 if nothing is -/
def leftOf (left : Int) (n : Nat) : Int := if left < n then -1 else left - n
end Go.Proofs.Ytccoopnoakhedaa
