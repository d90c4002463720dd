/- Walks: a function is called with all lists of digits, one after another. -/
import Derived.Test.YtcdoanookiimaaaTup
import Derived.Test.YtcdoanookiimaaaW1
import Derived.Deep.LoopGhost
namespace Go.Proofs.Ytcdoanookiimaaa
set_option maxRecDepth 100000
open Go.RowKit

/-- block g apart, nothing that was there has changed -/
structure Touch (g : Nat) (w w' : World) : Prop where
  os : w'.os = w.os
  tape : w'.tape = w.tape
  output : w'.output = w.output
  size : w.heap.size ≤ w'.heap.size
  block : ∀ k, k < w.heap.size → k ≠ g → w'.heap[k]? = w.heap[k]?
theorem Touch.set (g : Nat) (w : World) (k : Nat) (u : Value) : Touch g w (w.setCell ⟨g, k, none⟩ u) :=
  ⟨rfl, rfl, rfl, by simp [World.setCell], fun i _ hi => Below.heap_setCell _ _ _ _ hi⟩
theorem Own.same {w w' : World} {B : Nat} {E : TypeId} {g n c : Nat} {vs : List Value} (h : Own w B E (some ⟨g, 0, none⟩) n c vs) (hb : w'.heap[g]? = w.heap[g]?) : Own w' B E (some ⟨g, 0, none⟩) n c vs := by
  refine ⟨h.1, ?_⟩
  rcases h.2 with h2 | ⟨g', cap, cur, hv, hB, hg, r⟩
  · exact .inl h2
  · simp only [Value.slice.injEq, Option.some.injEq, Addr.mk.injEq, and_true, true_and] at hv
    obtain ⟨rfl, rfl⟩ := hv
    exact .inr ⟨g, c, cur, rfl, hB, by rw [hb]; exact hg, r⟩

def Tuples (m n g : Nat) (f : Nat) (caps : Array Value) (Inv : Nat → World → Prop) (Fin : World → Prop) : Prop :=
  ∀ t wr, t < m ^ n → Inv t wr → Own wr g 2 (some ⟨g, 0, none⟩) n n (I (tupAt m n t)) →
    Calls Try.prog f (#[.slice (some ⟨g, 0, none⟩) n n] ++ caps) wr fun e w' => (e = .returned (.bool true) ∧ Inv (t + 1) w' ∧ w'.heap[g]? = wr.heap[g]?) ∨ (e = .returned (.bool false) ∧ Fin w')

theorem tup_set (l : List Int) (j n : Nat) (x : Int) (hl : l.length = n) (hj : j < n) : (l.take (j + 1) ++ List.replicate (n - (j + 1)) 0).set j x = l.take j ++ x :: List.replicate (n - (j + 1)) 0 := by
  have : l.take (j + 1) = l.take j ++ [l.getD j 0] := take_snoc l 0 j (by omega)
  rw [this, List.append_assoc, List.set_append_right _ _ (by simp; omega)]
  simp [List.length_take, show min j l.length = j by omega]

theorem tup_get (l : List Int) (j n : Nat) (hl : l.length = n) (hj : j < n) : (l.take (j + 1) ++ List.replicate (n - (j + 1)) 0).getD j 0 = l.getD j 0 := by
  rw [List.getD_eq_getElem?_getD, List.getElem?_append_left (by simp; omega), List.getElem?_take, if_pos (by omega), List.getD_eq_getElem?_getD]
theorem tup_zero (l : List Int) (j n : Nat) (hj : j < n) : l.take j ++ (0 : Int) :: List.replicate (n - (j + 1)) 0 = l.take j ++ List.replicate (n - j) 0 := by
  rw [show n - j = (n - (j + 1)) + 1 by omega, List.replicate_succ]
theorem tup_drop (l : List Int) (j : Nat) (hj : j < l.length) : l.drop j = l.getD j 0 :: l.drop (j + 1) := by
  rw [List.drop_eq_getElem_cons hj, List.getD_eq_getElem?_getD, List.getElem?_eq_getElem hj]; rfl
theorem tup_next {m n t j : Nat} (hm : 0 < m) (ht : t < m ^ n) (hj : j < n) (hq : ∀ y ∈ (tupAt m n t).drop (j + 1), y = (m : Int) - 1) (hd : (tupAt m n t).getD j 0 ≠ (m : Int) - 1) :
    t + 1 < m ^ n ∧ tupAt m n (t + 1) = (tupAt m n t).take j ++ ((tupAt m n t).getD j 0 + 1) :: List.replicate (n - (j + 1)) 0 := by
  have hl := tupAt_len m n t
  have hb := tupAt_bd hm ht _ (getD_mem (tupAt m n t) 0 j (by omega))
  have h1 := succT_step (m := m) ((tupAt m n t).take j) (x := (tupAt m n t).getD j 0) hq (by omega)
  rw [← tup_drop _ j (by omega), List.take_append_drop, succT_at hm ht] at h1
  split at h1
  · rename_i h
    refine ⟨h, ?_⟩
    simp only [Option.some.injEq] at h1
    rw [h1, List.length_drop, hl]
  · cases h1
theorem tup_end {m n t : Nat} (hm : 0 < m) (ht : t < m ^ n) (hq : ∀ y ∈ tupAt m n t, y = (m : Int) - 1) : t + 1 = m ^ n := by
  have h1 := succT_full hq
  rw [succT_at hm ht] at h1
  split at h1
  · cases h1
  · omega

end Go.Proofs.Ytcdoanookiimaaa
