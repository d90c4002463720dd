/- Walks: registries: ValidRegistry, on both sides. -/
import Derived.Test.YtbcfbkhbangeoaaRgAt
namespace Go.Proofs.Ytbcfbkhbangeoaa
set_option maxRecDepth 100000
open Go.RowKit

theorem takeS_all (l : List ByteArray) (f : ByteArray → Bool) : ∀ k, k ≤ l.length → (l.take k).all f = (List.range k).all fun j => f (gs l j)
  | 0, _ => by simp
  | k + 1, h => by
    rw [take_gs (by omega), List.all_append, takeS_all l f k (by omega), List.range_succ, List.all_append]
    simp
theorem valid_no0 {D : Rg} (h : headRg D = false) : validRg D = false := by rw [validRg, h]; rfl
theorem valid_no1 {D : Rg} {k : Nat} (hk : k < D.issued.length) (h : issB D k = false) : validRg D = false := by
  have : issAll D = false := rangeAll_no hk h
  rw [validRg, this]; simp
theorem valid_no2 {D : Rg} {k : Nat} (hk : k < D.revoked.length) (h : revB D k = false) : validRg D = false := by
  have : revAll D = false := rangeAll_no hk h
  rw [validRg, this]; simp
theorem valid_yes {D : Rg} (h : headRg D = true) (h1 : ∀ k, k < D.issued.length → issB D k = true) (h2 : ∀ k, k < D.revoked.length → revB D k = true) : validRg D = true := by
  have e1 : issAll D = true := rangeAll_yes h1
  have e2 : revAll D = true := rangeAll_yes h2
  rw [validRg, h, e1, e2]; rfl
theorem upto {p : Nat → Bool} {k : Nat} (h : ∀ j, j < k → p j = true) (hk : p k = true) : ∀ j, j < k + 1 → p j = true := fun j hj => by
  by_cases e : j < k
  · exact h j e
  · obtain rfl : j = k := by omega
    exact hk

end Go.Proofs.Ytbcfbkhbangeoaa

/- Walks: registries: ValidRegistry of the reference. -/
namespace Go.Proofs.Ytbcfbkhbangeoaa
set_option maxRecDepth 100000
open Go.RowKit

theorem valid_no3 {D : Rg} (h : validCh D.ch = false) : validRg D = false := valid_no0 (by rw [headRg, h]; rfl)
theorem valid_no4 {D : Rg} (h : inB D.apart 1 6 = false) : validRg D = false := valid_no0 (by rw [headRg, h]; simp)
theorem valid_no5 {D : Rg} (h : ¬ D.issued.length ≤ 40) : validRg D = false := valid_no0 (by rw [headRg]; simp [h])
end Go.Proofs.Ytbcfbkhbangeoaa
