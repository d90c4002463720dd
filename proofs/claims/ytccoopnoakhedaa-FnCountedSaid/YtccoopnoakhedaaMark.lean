/- Walks: the laws write marks into a result, and look whether they are still there. -/
import Derived.Test.YtccoopnoakhedaaVar
import Derived.Test.YtccoopnoakhedaaW2
namespace Go.Proofs.Ytccoopnoakhedaa
set_option maxRecDepth 100000
open Go.RowKit

/-- the block of a apart, nothing that was there has changed; below B nothing at all -/
structure Mk (B : Nat) (a : Option Addr) (w w' : World) : Prop where
  below : Below B w w'
  size : w.heap.size ≤ w'.heap.size
  block : ∀ q, q < w.heap.size → (∀ g, a = some g → g.block ≠ q) → w'.heap[q]? = w.heap[q]?
theorem Mk.refl (B : Nat) (a : Option Addr) (w : World) : Mk B a w w := ⟨Below.refl B w, Nat.le_refl _, fun _ _ _ => rfl⟩
theorem Mk.trans {B : Nat} {a : Option Addr} {w w' w'' : World} (h : Mk B a w w') (h' : Mk B a w' w'') : Mk B a w w'' :=
  ⟨h.below.trans h'.below, Nat.le_trans h.size h'.size, fun q hq hg => (h'.block q (Nat.lt_of_lt_of_le hq h.size) hg).trans (h.block q hq hg)⟩
theorem Mk.ext {B : Nat} {a : Option Addr} {w w' : World} (hx : Ext w w') (hB : B ≤ w.heap.size) : Mk B a w w' :=
  ⟨Below.mono hx hB, hx.le, fun q hq _ => hx.block q hq⟩
theorem Mk.set {B g : Nat} (w : World) (k : Nat) (u : Value) (hB : B ≤ g) : Mk B (some ⟨g, 0, none⟩) w (w.setCell ⟨g, k, none⟩ u) :=
  ⟨(Below.refl B w).setCell hB u, by simp [World.setCell], fun q _ hg => Below.heap_setCell _ _ _ _ (fun h => hg _ rfl h.symm)⟩
theorem Mk.own {B B' : Nat} {E : TypeId} {a a' : Option Addr} {n c : Nat} {vs : List Value} {w w' : World} (hm : Mk B a w w') (h : Own w B' E a' n c vs) (hne : ∀ g g', a = some g → a' = some g' → g.block ≠ g'.block) : Own w' B' E a' n c vs := by
  refine ⟨h.1, ?_⟩
  rcases h.2 with h2 | ⟨g, cap, cur, hv, hb, hg, r⟩
  · exact .inl h2
  · simp only [Value.slice.injEq, true_and] at hv
    obtain ⟨rfl, rfl⟩ := hv
    exact .inr ⟨g, c, cur, rfl, hb, by rw [hm.block g (Array.getElem?_eq_some_iff.1 hg).1 (fun g' hg' => hne g' _ hg' rfl)]; exact hg, r⟩

theorem Mk.to {B : Nat} {a : Option Addr} {w0 w w' : World} (hm : Mk B a w w') (hx : Ext w0 w) (hB : w0.heap.size ≤ B) : Ext w0 w' := Below.trans hx (hm.below.mono hB)
/-- rows one behind the other lie in blocks of their own -/
theorem own_ne {w w2 : World} {B B2 : Nat} {E E2 : TypeId} {a a2 : Option Addr} {n c n2 c2 : Nat} {vs vs2 : List Value} (h : Own w B E a n c vs) (h2 : Own w2 B2 E2 a2 n2 c2 vs2) (hB : w.heap.size ≤ B2) : ∀ g g', a = some g → a2 = some g' → g.block ≠ g'.block := by
  rintro g g' rfl rfl
  rcases h.2 with ⟨h1, _⟩ | ⟨b, _, _, hv, _, hg, _⟩
  · cases h1
  rcases h2.2 with ⟨h3, _⟩ | ⟨b2, _, _, hv2, hb2, _⟩
  · cases h3
  simp only [Value.slice.injEq, Option.some.injEq, true_and] at hv hv2
  have := (Array.getElem?_eq_some_iff.1 hg).1
  rw [hv.1, hv2.1]
  simp only
  omega

/-- k, k + 1, .. -/
def markL (k n : Nat) : List Int := (List.range n).map fun i => ((k + i : Nat) : Int)
theorem markL_len (k n : Nat) : (markL k n).length = n := by simp [markL]
theorem markL_gi {k n i : Nat} (h : i < n) : gi (markL k n) i = ((k + i : Nat) : Int) := by simp [gi, markL, h]
theorem markL_step (k i : Nat) (l : List Int) (h : i < l.length) : (markL k i ++ l.drop i).set i ((k + i : Nat) : Int) = markL k (i + 1) ++ l.drop (i + 1) := by
  rw [List.set_append_right _ _ (by rw [markL_len]; exact Nat.le_refl _), markL_len, Nat.sub_self, List.drop_eq_getElem_cons h, List.set_cons_zero]
  simp only [markL, List.range_succ, List.map_append, List.map_cons, List.map_nil, List.append_assoc, List.cons_append, List.nil_append]
theorem Own.some {w : World} {B : Nat} {E : TypeId} {a : Option Addr} {n c : Nat} {vs : List Value} (h : Own w B E a n c vs) (h0 : 0 < n) : ∃ g, a = some ⟨g, 0, none⟩ := by
  rcases h.2 with ⟨_, h2⟩ | ⟨g, cap, cur, hv, _⟩
  · omega
  · simp only [Value.slice.injEq, true_and] at hv
    exact ⟨g, hv.1⟩
def MarkPost (k : Int) (B : Nat) (a : Option Addr) (w : World) (T : World → Prop) (e : Ending) (w' : World) : Prop := e = .returned (.int .i64 k) ∧ Mk B a w w' ∧ T w'


/-- numbers and a bool: no numbers if it is false -/
def RetI (b : Bool) (l : List Int) (w : World) (e : Ending) (w' : World) : Prop :=
  ∃ a n c, e = .returned (.tuple #[.slice a n c, .bool b]) ∧ Ext w w' ∧ Own w' w.heap.size 2 a n c (I (if b then l else []))
end Go.Proofs.Ytccoopnoakhedaa
