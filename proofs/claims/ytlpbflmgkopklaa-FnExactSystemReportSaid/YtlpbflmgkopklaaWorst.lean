/- Walks: the worst place. -/
import Derived.Test.YtlpbflmgkopklaaShareS
namespace Go.Proofs.Ytlpbflmgkopklaa
set_option maxRecDepth 100000
open Go.RowKit

/-- the first place with the greatest share, of the first k; its share -/
def wst (W : Wt) (costs : List Int) : Nat → Nat × Int
  | 0 => (0, -1)
  | k + 1 => if (wst W costs k).2 < shareF W costs k then (k, shareF W costs k) else wst W costs k
theorem wst_bd {W : Wt} {costs : List Int} (hg : Good W) (hc : Costs costs) (k : Nat) : -1 ≤ (wst W costs k).2 ∧ (wst W costs k).2 ≤ 15552000 := by
  induction k with
  | zero => simp [wst]
  | succ k ih =>
    have := shareF_bd hg hc k
    simp only [wst]
    split
    · simp only; omega
    · exact ih
theorem wst_lt (W : Wt) (costs : List Int) (k : Nat) : (wst W costs k).1 ≤ k := by
  induction k with
  | zero => simp [wst]
  | succ k ih =>
    simp only [wst]
    split
    · simp
    · omega
theorem wst_share {W : Wt} {costs : List Int} (hg : Good W) (hc : Costs costs) (k : Nat) : (wst W costs (k + 1)).1 ≤ k ∧ (wst W costs (k + 1)).2 = shareF W costs (wst W costs (k + 1)).1 := by
  induction k with
  | zero =>
    have := shareF_bd hg hc 0
    have e : wst W costs (0 + 1) = (0, shareF W costs 0) := by simp only [wst]; exact if_pos (by omega)
    rw [e]
    exact ⟨Nat.le_refl _, rfl⟩
  | succ k ih =>
    rw [wst]
    split
    · exact ⟨Nat.le_refl _, rfl⟩
    · exact ⟨by omega, ih.2⟩

theorem ret3_int {x y x' y' : Int} {a b : Bool} {w w' : World} (h1 : x = x') (h2 : y = y') (h3 : a = b) (hx : Ext w w') : Ret3 (.int .i64 x) (.int .i64 y) (.bool a) w (.returned (.tuple #[.int .i64 x', .int .i64 y', .bool b])) w' := by
  subst h1; subst h2; subst h3; exact ⟨rfl, hx⟩

def worstP (W : Wt) (costs : List Int) : Int := if validB W && costsB costs then (wst W costs W.weights.length).1 else 0
def worstS (W : Wt) (costs : List Int) : Int := if validB W && costsB costs then (wst W costs W.weights.length).2 else 0
theorem worst_no {W : Wt} {costs : List Int} (h : (validB W && costsB costs) = false) : worstP W costs = 0 ∧ worstS W costs = 0 ∧ scoreOk W costs = false := by simp [worstP, worstS, scoreOk, h]
theorem worst_yes {W : Wt} {costs : List Int} (h : validB W = true) (h2 : costsB costs = true) : worstP W costs = (wst W costs W.weights.length).1 ∧ worstS W costs = (wst W costs W.weights.length).2 ∧ scoreOk W costs = true := by simp [worstP, worstS, scoreOk, h, h2]


end Go.Proofs.Ytlpbflmgkopklaa
