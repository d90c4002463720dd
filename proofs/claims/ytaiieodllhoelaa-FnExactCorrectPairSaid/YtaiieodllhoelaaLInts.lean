/- Walks: the laws' helpers on lists of numbers: alike lists; marks behind others. -/
import Derived.Test.YtaiieodllhoelaaChg
import Derived.Test.YtaiieodllhoelaaW2
namespace Go.Proofs.Ytaiieodllhoelaa
set_option maxRecDepth 100000
open Go.RowKit

theorem eqIntsT (a a' : Option Addr) (n c c' : Nat) (l : List Int) (w : World) (hv : Ints w a n c l) (hv' : Ints w a' n c' l) (hn : n ≤ 4611686018427387904) :
    Calls Try.prog 39 #[.slice a n c, .slice a' n c'] w (Qt (.bool true) w) := by
  have h := eqInts a a' n n c c' l l w hv hv' hn hn
  rwa [decide_eq_true rfl] at h



theorem markIntsM (a : Option Addr) (n c : Nat) (l : List Int) (z B : Nat) (w : World) (ho : Own w B 2 a n c (I l)) (hn : 1 + z + n ≤ 1099511627776) :
    Calls Try.prog 40 #[.slice a n c, .int .i64 ((1 + z : Nat) : Int)] w (MarkPost ((1 + z + n : Nat) : Int) B a w fun w' => Own w' B 2 a n c (I (markL (1 + z) n))) :=
  markInts a n c l (1 + z) B w ho (by omega) (by omega)
theorem heldIntsM (a : Option Addr) (n c z : Nat) (w : World) (hv : Ints w a n c (markL (1 + z) n)) (hn : 1 + z + n ≤ 1099511627776) :
    Calls Try.prog 100 #[.slice a n c, .int .i64 ((1 + z : Nat) : Int)] w (Ret (.int .i64 ((1 + z + n : Nat) : Int)) w) :=
  heldInts a n c (1 + z) w hv (by omega) (by omega)
theorem heldInts2 (a : Option Addr) (n c z : Nat) (w : World) (hv : Ints w a n c (markL (1 + z) n)) (hn : 1 + z + n ≤ 1099511627776) :
    Calls Try.prog 100 #[.slice a n c, .int .i64 (1 + (z : Int))] w (Ret (.int .i64 (1 + (z : Int) + (n : Int))) w) := by
  have h := heldInts a n c (1 + z) w hv (by omega) (by omega)
  rwa [show ((1 + z + n : Nat) : Int) = 1 + (z : Int) + (n : Int) by omega, show ((1 + z : Nat) : Int) = 1 + (z : Int) by omega] at h
theorem markInts2 (a : Option Addr) (n c : Nat) (l : List Int) (z B : Nat) (w : World) (ho : Own w B 2 a n c (I l)) (hn : 1 + z + n ≤ 1099511627776) :
    Calls Try.prog 40 #[.slice a n c, .int .i64 (1 + (z : Int))] w (MarkPost (1 + (z : Int) + (n : Int)) B a w fun w' => Own w' B 2 a n c (I (markL (1 + z) n))) := by
  have h := markInts a n c l (1 + z) B w ho (by omega) (by omega)
  rwa [show ((1 + z + n : Nat) : Int) = 1 + (z : Int) + (n : Int) by omega, show ((1 + z : Nat) : Int) = 1 + (z : Int) by omega] at h
theorem markIntsC (a : Option Addr) (n c : Nat) (l : List Int) (z lo hi : Nat) (w : World) (ho : OwnIn w lo hi 2 a n c (I l)) (hn : 1 + z + n ≤ 1099511627776) :
    Calls Try.prog 40 #[.slice a n c, .int .i64 ((1 + z : Nat) : Int)] w (fun e w' => e = .returned (.int .i64 ((1 + z + n : Nat) : Int)) ∧ Chg lo hi w w') := by
  refine (markInts a n c l (1 + z) lo w ho.1 (by omega) (by omega)).mono ?_
  rintro e w' ⟨h1, h2, _⟩
  exact ⟨h1, h2.chg (Nat.le_refl _) ho.2 (fun g hg => (ho.1.blk g hg).1)⟩
end Go.Proofs.Ytaiieodllhoelaa
