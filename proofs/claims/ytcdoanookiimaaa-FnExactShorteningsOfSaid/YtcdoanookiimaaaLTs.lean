/- Walks: the laws' helpers on results that are lists of texts. -/
import Derived.Test.YtcdoanookiimaaaLMk
namespace Go.Proofs.Ytcdoanookiimaaa
set_option maxRecDepth 100000
open Go.RowKit

theorem eqTsT (a a' : Option Addr) (n c c' : Nat) (l : List ByteArray) (w : World) (hv : Strs w a n c l) (hv' : Strs w a' n c' l) (hn : n ≤ 4611686018427387904) :
    Calls Try.prog 38 #[.slice a n c, .slice a' n c'] w (Ret (.bool true) w) := by
  have h := eqStrs a a' n n c c' l l w hv hv' hn hn
  rwa [show decide (l = l) = true by simp] at h
theorem markTs1 (a : Option Addr) (n c : Nat) (vs : List Value) (lo hi : Nat) (w : World) (ho : OwnIn w lo hi 9 a n c vs) (hhi : hi ≤ w.heap.size) (hk : n ≤ 4194304) :
    Calls Try.prog 41 #[.slice a n c, .int .i64 1] w (fun e w' => e = .returned (.int .i64 (1 + (n : Int))) ∧ Chg lo hi w w' ∧ OwnIn w' lo hi 9 a n c (St (markTs 1 n))) := by
  refine (markStrsX a n c vs 1 lo hi w ho hhi (by omega)).mono ?_
  rintro e w' ⟨rfl, h2, h3⟩
  exact ⟨by rw [show (((1 + n : Nat)) : Int) = 1 + (n : Int) by omega], h2, h3⟩
theorem heldTs1 (a : Option Addr) (n c : Nat) (w : World) (hv : Strs w a n c (markTs 1 n)) (hk : n ≤ 4194304) :
    Calls Try.prog 42 #[.slice a n c, .int .i64 1] w (Ret (.int .i64 (1 + (n : Int))) w) := heldStrsX a n c 1 w hv (by omega)
end Go.Proofs.Ytcdoanookiimaaa
