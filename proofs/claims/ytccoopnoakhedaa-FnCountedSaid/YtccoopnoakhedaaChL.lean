/- Walks: the laws' helpers on slices of slices and on chains. -/
import Derived.Test.YtccoopnoakhedaaChW
import Derived.Test.YtccoopnoakhedaaStrs
import Derived.Test.YtccoopnoakhedaaMark
namespace Go.Proofs.Ytccoopnoakhedaa
set_option maxRecDepth 100000
open Go.RowKit

/-- how great lists and tables count -/
def szM (ll : List (List Int)) : Nat := ll.length + (ll.map List.length).sum
def szC (l : List (List (List Int))) : Nat := l.length + (l.map szM).sum
theorem sumN_step {α : Type} (f : α → Nat) (l : List α) (d : α) (k : Nat) (h : k < l.length) : ((l.take (k + 1)).map f).sum = ((l.take k).map f).sum + f (l.getD k d) := by
  rw [take_snoc l d k h]; simp
theorem sumN_le {α : Type} (f : α → Nat) : ∀ (l : List α) (k : Nat), ((l.take k).map f).sum ≤ (l.map f).sum
  | [], k => by simp
  | x :: xs, 0 => by simp
  | x :: xs, k + 1 => by have := sumN_le f xs k; simp only [List.take_succ_cons, List.map_cons, List.sum_cons]; omega
theorem sumN_mem {α : Type} (f : α → Nat) {l : List α} {x : α} (h : x ∈ l) : f x ≤ (l.map f).sum := by
  induction l with
  | nil => cases h
  | cons a l ih => rcases List.mem_cons.1 h with rfl | h
                   · simp only [List.map_cons, List.sum_cons]; omega
                   · have := ih h; simp only [List.map_cons, List.sum_cons]; omega
def BigM (ll : List (List Int)) : Prop := ∀ r ∈ ll, r.length ≤ 9223372036854775807
def BigC (l : List (List (List Int))) : Prop := ∀ t ∈ l, t.length ≤ 9223372036854775807 ∧ BigM t
theorem Own.setT {w : World} {B B' : Nat} {E E' : TypeId} {a : Option Addr} {g n c n' c' k : Nat} {vs vs' : List Value} (h : Own w B E a n c vs) (h' : Own w B' E' (Option.some ⟨g, 0, none⟩) n' c' vs') (u : Value) (hE : E ≠ E') :
    Own (w.setCell ⟨g, k, none⟩ u) B E a n c vs := h.other u fun g' hg' => own_ne_type h h' hE g' ⟨g, 0, none⟩ hg' rfl
theorem OwnMat.setT {w : World} {B B' : Nat} {E1 E0 E' : TypeId} {a : Option Addr} {g n c n' c' k : Nat} {ll : List (List Int)} {vs' : List Value} (h : OwnMat w B E1 E0 a n c ll) (h' : Own w B' E' (Option.some ⟨g, 0, none⟩) n' c' vs') (u : Value) (h1 : E1 ≠ E') (h0 : E0 ≠ E') :
    OwnMat (w.setCell ⟨g, k, none⟩ u) B E1 E0 a n c ll := ⟨h.len, let ⟨vs, g1, g2⟩ := h.rows; ⟨vs, g1.setT h' u h1, fun j hj => let ⟨a1, n1, c1, g3, g4⟩ := g2 j hj; ⟨a1, n1, c1, g3, g4.setT h' u h0⟩⟩⟩
theorem gv_set_ne {vs : List Value} {k j : Nat} {u : Value} (h : k ≠ j) : gv (vs.set k u) j = gv vs j := by
  simp [gv, List.getD_eq_getElem?_getD, List.getElem?_set_ne h]
theorem gv_set_eq {vs : List Value} {k : Nat} {u : Value} (h : k < vs.length) : gv (vs.set k u) k = u := by
  simp [gv, List.getD_eq_getElem?_getD, h]
/-- a fresh slice of lists -/
def RetMat (ll : List (List Int)) (w : World) (e : Ending) (w' : World) : Prop := ∃ a c, e = .returned (.slice a ll.length c) ∧ OwnMat w' w.heap.size 25 2 a ll.length c ll ∧ Ext w w'
def RetCube (l : List (List (List Int))) (w : World) (e : Ending) (w' : World) : Prop := ∃ a c, e = .returned (.slice a l.length c) ∧ OwnCube w' w.heap.size 53 25 2 a l.length c l ∧ Ext w w'
/-- a chain of the call's own -/
def RetChL (D : Ch) (w : World) (e : Ending) (w' : World) : Prop :=
  ∃ a c a' c', e = .returned (.agg #[.int .i64 D.base, .int .i64 D.states, .int .i64 D.start, .int .i64 D.fin, .slice a D.tabs.length c, .slice a' D.places.length c']) ∧ OwnCube w' w.heap.size 53 25 2 a D.tabs.length c D.tabs ∧ Own w' w.heap.size 2 a' D.places.length c' (I D.places) ∧ Ext w w'
theorem OwnCube.setBelow {w : World} {B : Nat} {E2 E1 E0 : TypeId} {a : Option Addr} {n c : Nat} {ll : List (List (List Int))} (h : OwnCube w B E2 E1 E0 a n c ll) {p : Addr} (hp : p.block < B) (u : Value) : OwnCube (w.setCell p u) B E2 E1 E0 a n c ll :=
  ⟨h.len, let ⟨vs, h1, h2⟩ := h.rows; ⟨vs, h1.setBelow hp u, fun k hk => let ⟨a1, n1, c1, g1, g2⟩ := h2 k hk
    ⟨a1, n1, c1, g1, g2.len, let ⟨vs', h3, h4⟩ := g2.rows; ⟨vs', h3.setBelow hp u, fun j hj => let ⟨a2, n2, c2, g3, g4⟩ := h4 j hj; ⟨a2, n2, c2, g3, g4.setBelow hp u⟩⟩⟩⟩⟩
def chSize (D : Ch) : Nat := szC D.tabs + D.places.length
/-- a chain that came in -/
structure RawCh (w : World) (D : Ch) (a : Option Addr) (n c : Nat) (a' : Option Addr) (n' c' : Nat) : Prop where
  ts : Cube w a n c D.tabs
  ps : Ints w a' n' c' D.places
  hn : n ≤ 9223372036854775807
  hn' : n' ≤ 9223372036854775807
  big : BigC D.tabs
theorem RawCh.ext {w w' : World} {D : Ch} {a : Option Addr} {n c : Nat} {a' : Option Addr} {n' c' : Nat} (h : RawCh w D a n c a' n' c') (hx : Ext w w') : RawCh w' D a n c a' n' c' := ⟨h.ts.ext hx, h.ps.ext hx, h.hn, h.hn', h.big⟩
theorem RawCh.inn {w : World} {D : Ch} {a : Option Addr} {n c : Nat} {a' : Option Addr} {n' c' : Nat} (h : RawCh w D a n c a' n' c') (hs : chSize D ≤ 1048576) : ChIn w D a n c a' n' c' := by
  have h1 := h.ts.len
  have h2 := h.ps.len
  unfold chSize szC at hs
  refine ⟨h.ts, h.ps, by omega, by omega, fun t ht => ?_⟩
  have h3 := sumN_mem szM ht
  have h4 : szM t = t.length + (t.map List.length).sum := rfl
  exact ⟨by omega, fun r hr => by have := sumN_mem List.length hr; omega⟩
/-- a fresh chain, as a further call wants it -/
def RetChI (D : Ch) (n m : Nat) (w : World) (e : Ending) (w' : World) : Prop :=
  ∃ a c a' c', e = .returned (.agg #[.int .i64 D.base, .int .i64 D.states, .int .i64 D.start, .int .i64 D.fin, .slice a n c, .slice a' m c']) ∧ ChIn w' D a n c a' m c' ∧ Ext w w'
theorem leftOf_no {n : Nat} (h : ¬ n ≤ 1048576) : leftOf 1048576 n = -1 := by unfold leftOf; rw [if_pos (by omega)]
theorem leftOf_yes {n : Nat} (h : n ≤ 1048576) : leftOf 1048576 n = 1048576 - n := by unfold leftOf; rw [if_neg (by omega)]
end Go.Proofs.Ytccoopnoakhedaa
