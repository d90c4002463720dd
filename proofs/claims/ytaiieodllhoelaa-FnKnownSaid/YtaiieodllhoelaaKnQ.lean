/- Walks: every well known chain that a law draws, and its single errors. -/
import Derived.Test.YtaiieodllhoelaaKnH
import Derived.Test.YtaiieodllhoelaaKnN
namespace Go.Proofs.Ytaiieodllhoelaa
set_option maxRecDepth 100000
open Go.RowKit

/-- a chain that KnownChain makes: valid, of n places, one to one, ended by some symbol -/
structure KnGood (D : Ch) (n : Nat) : Prop where
  val : validCh D = true
  len : D.places.length = n
  one : ∃ R, OneOne D n R ∧ LastSome D n R
theorem addCh_places {base m target : Int} {ls : List (List Int)} : (addCh base m target ls).places.length = ls.length := (addF_inv ls ls.length (Nat.le_refl _)).1
set_option maxHeartbeats 400000 in
theorem impl_KnownH (n : Nat) (w : World) (h0 : 2 ≤ n) (h1 : n ≤ 6) : Calls Try.prog 62 #[.int .i64 4, .int .i64 n] w (RetChB (hybCh n) w) :=
  impl_Known4 n w h0 h1 fun W => impl_hybrid n W h0 h1
theorem hyb_good {n : Nat} (h0 : 2 ≤ n) (h1 : n ≤ 6) : KnGood (hybCh n) n := ⟨hyb_valid h0 h1, by simp [hybCh]; omega, _, hyb_one h0, hyb_last h0⟩
theorem luh_good {n : Nat} (h0 : 1 ≤ n) (h1 : n ≤ 10) : KnGood (addCh 10 10 0 (luhL n)) n := ⟨addCh_valid (luh_ok h0 h1), by rw [addCh_places, luhL_len], _, luh_one h0 h1, luh_last h0 h1⟩
theorem knW_good {k : Int} {n : Nat} (h : KnOk k n) : KnGood (wtCh (knW k n)) n :=
  ⟨addCh_valid (validB_addOk (knW_valid h)), by unfold wtCh; rw [addCh_places, List.length_map]; exact fromL_len _ _, _, knW_one h, knW_last h⟩
end Go.Proofs.Ytaiieodllhoelaa
