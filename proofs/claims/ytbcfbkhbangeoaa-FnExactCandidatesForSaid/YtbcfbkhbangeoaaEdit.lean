/- Walks: edit distances, in the program. -/
import Derived.Test.YtbcfbkhbangeoaaEditM
import Derived.Test.YtbcfbkhbangeoaaGridP
namespace Go.Proofs.Ytbcfbkhbangeoaa
set_option maxRecDepth 100000
open Go.RowKit

theorem cell_n : Try.prog.cellsOf 3 = 1 := by kernel_rfl
theorem info_n : (Try.prog.info? 3).map (fun i => (i.zero, i.size, i.bytes)) = some (some (.int .i64 0), 1, 8) := by kernel_rfl
/-- the rows from lo on are reckoned -/
def RowsE (a b : ByteArray) (lo : Nat) (F : Nat → Nat → Int) : Prop := ∀ j, lo ≤ j → j ≤ a.size → ∀ y, y ≤ b.size → F j y = ((cst a b j y : Nat) : Int)
def RowE (a b : ByteArray) (i hi : Nat) (F : Nat → Nat → Int) : Prop := ∀ y, hi ≤ y → y ≤ b.size → F i y = ((cst a b i y : Nat) : Int)
theorem RowsE.lay {a b : ByteArray} {i : Nat} {F : Nat → Nat → Int} (h : RowsE a b (i + 1) F) : RowsE a b (i + 1) (fun j y => if j = i then 0 else F j y) := fun j h1 h2 y hy => by
  show (if j = i then 0 else F j y) = _
  rw [if_neg (by omega)]; exact h j h1 h2 y hy
theorem RowsE.upd {a b : ByteArray} {i x : Nat} {v : Int} {F : Nat → Nat → Int} (h : RowsE a b (i + 1) F) : RowsE a b (i + 1) (upd F i x v) := fun j h1 h2 y hy => by rw [upd_row (by omega)]; exact h j h1 h2 y hy
theorem RowE.step {a b : ByteArray} {i k : Nat} {v : Int} {F : Nat → Nat → Int} (h : RowE a b i (k + 1) F) (hv : v = ((cst a b i k : Nat) : Int)) : RowE a b i k (Go.Proofs.Ytbcfbkhbangeoaa.upd F i k v) := fun y h1 h2 => by
  by_cases e : y = k
  · subst e; rw [upd_same, hv]
  · rw [upd_col e]; exact h y (by omega) h2
theorem RowsE.down {a b : ByteArray} {i : Nat} {F : Nat → Nat → Int} (h : RowsE a b (i + 1) F) (h2 : RowE a b i 0 F) : RowsE a b i F := fun j h1 h3 y hy => by
  rcases Nat.eq_or_lt_of_le h1 with rfl | h1
  · exact h2 y (Nat.zero_le _) hy
  · exact h j h1 h3 y hy
end Go.Proofs.Ytbcfbkhbangeoaa
