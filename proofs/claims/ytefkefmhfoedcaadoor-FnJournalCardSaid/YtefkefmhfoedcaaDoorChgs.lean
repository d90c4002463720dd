/- Walks: what errors of a kind make of symbols, in the program. -/
import Derived.Test.YtefkefmhfoedcaaDoorSAt
import Derived.Test.YtefkefmhfoedcaaDoorMix2
namespace Go.Proofs.YtefkefmhfoedcaaDoor
set_option maxRecDepth 100000
open Go.RowKit

/-- the numbers below b but one, made into lists -/
def eachTo (x0 : Int) (mk : Int → List Int) (b : Nat) : List (List Int) := ((List.range b).filter fun (k : Nat) => !decide ((k : Int) = x0)).map fun (k : Nat) => mk k
theorem eachTo_yes {x0 : Int} {mk : Int → List Int} {b : Nat} (h : (b : Int) ≠ x0) : eachTo x0 mk (b + 1) = eachTo x0 mk b ++ [mk b] := by
  unfold eachTo
  rw [List.range_succ, List.filter_append, List.map_append]
  simp [List.filter, h]
theorem eachTo_no {x0 : Int} {mk : Int → List Int} {b : Nat} (h : (b : Int) = x0) : eachTo x0 mk (b + 1) = eachTo x0 mk b := by
  unfold eachTo
  rw [List.range_succ, List.filter_append, List.map_append]
  simp [List.filter, h]
theorem eachTo_le (x0 : Int) (mk : Int → List Int) (b : Nat) : (eachTo x0 mk b).length ≤ b := by
  unfold eachTo
  rw [List.length_map]
  exact Nat.le_trans (List.length_filter_le _ _) (by simp)
theorem eachTo_pre (x0 : Int) (mk : Int → List Int) {b c : Nat} (h : b ≤ c) : eachTo x0 mk b <+: eachTo x0 mk c := by
  induction c with
  | zero =>
    obtain rfl : b = 0 := by omega
    exact List.prefix_refl _
  | succ c ih =>
    by_cases hb : b = c + 1
    · subst hb; exact List.prefix_refl _
    · refine (ih (by omega)).trans ?_
      by_cases hc : (c : Int) = x0
      · rw [eachTo_no hc]; exact List.prefix_refl _
      · rw [eachTo_yes hc]; exact List.prefix_append _ _
theorem eachTo_mem {x0 : Int} {mk : Int → List Int} {b : Nat} {l : List Int} (h : l ∈ eachTo x0 mk b) : ∃ k : Nat, k < b ∧ (k : Int) ≠ x0 ∧ l = mk k := by
  unfold eachTo at h
  obtain ⟨k, hk, rfl⟩ := List.mem_map.1 h
  have := List.mem_filter.1 hk
  exact ⟨k, List.mem_range.1 this.1, by simpa using this.2, rfl⟩
/-- what is handed on, list by list; the blocks from lo to hi stay as they are -/
def Does (f : Nat) (caps : Array Value) (ll : List (List Int)) (lo hi : Nat) (Inv : Nat → World → Prop) : Prop :=
  ∀ (j : Nat) (W : World) (a : Option Addr) (n c : Nat), j < ll.length → Inv j W → Ints W a n c (gl ll j) → (∀ x, a = some x → hi ≤ x.block) → hi ≤ W.heap.size → Calls Tryd.prog f (#[.slice a n c] ++ caps) W fun e w' => e = .returned (.tuple #[]) ∧ Inv (j + 1) w' ∧ KeepB lo hi W w'
def Done (lo hi : Nat) (Inv : World → Prop) (w : World) (e : Ending) (w' : World) : Prop := e = .returned (.tuple #[]) ∧ Inv w' ∧ KeepB lo hi w w'
theorem eachTo_at {x0 : Int} {mk : Int → List Int} {b c : Nat} (h : b < c) (hne : (b : Int) ≠ x0) : (eachTo x0 mk b).length < (eachTo x0 mk c).length ∧ gl (eachTo x0 mk c) (eachTo x0 mk b).length = mk b := by
  have h1 := eachTo_pre x0 mk (show b + 1 ≤ c by omega)
  rw [eachTo_yes hne] at h1
  obtain ⟨r, hr⟩ := h1
  rw [← hr]
  refine ⟨by simp, ?_⟩
  unfold gl
  rw [List.getD_eq_getElem?_getD, List.append_assoc, List.getElem?_append_right (Nat.le_refl _)]
  simp
theorem keepB_size {lo hi : Nat} {w w' : World} (h : KeepB lo hi w w') (hl : lo < hi) (hh : hi ≤ w.heap.size) : hi ≤ w'.heap.size := by
  have h1 := h (hi - 1) (by omega) (by omega)
  have h2 : w.heap[hi - 1]? = some w.heap[hi - 1] := Array.getElem?_eq_getElem (by omega)
  rw [h2] at h1
  have := (Array.getElem?_eq_some_iff.1 h1).1
  omega
theorem VarAt.keepB {lo hi q : Nat} {w w' : World} {T : TypeId} {v : Value} (h : VarAt w q T v) (hk : KeepB lo hi w w') (h1 : lo ≤ q) (h2 : q < hi) : VarAt w' q T v := (hk q h1 h2).trans h
end Go.Proofs.YtefkefmhfoedcaaDoor
