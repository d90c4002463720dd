/- Walks: a text put into a list in ascending order (the reference). -/
import Derived.Test.YtkiolfmdofldbaaDoorPutM
import Derived.Test.YtkiolfmdofldbaaDoorSAt
namespace Go.Proofs.YtkiolfmdofldbaaDoor
set_option maxRecDepth 100000
open Go.RowKit

theorem oneTs (l : List ByteArray) : ∀ u ∈ St l, u.oneCell' = true := fun u hu => by
  obtain ⟨x, _, rfl⟩ := List.mem_map.1 hu; rfl
/-- append(s, src...), src nil or not -/
theorem law_appendsO {P : Program} (w : World) {ops : Array Oper} {rest : List Oper} {o : Oper} {a : Act} {Q : Exit → Act → World → Prop}
    (hg : o.guard = none) (s x : Operand) (t : TypeId) (hop : o.op = Op.call { callee := Callee.builtin Builtin.append, args := #[s, x], argTypes := #[t, t] })
    (e : TypeId) (z : Value) (bytes : Nat) (h1 : P.underlying t = some (.slice e)) (h2 : (P.info? e).map (fun i => (i.zero, i.size, i.bytes)) = some (some z, 1, bytes)) (hz : z.cells.size = 1)
    (B : Nat) (ad : Option Addr) (n c : Nat) (vs : List Value) (src : Option Addr) (m c' : Nat) (us : List Value) (hu : ∀ u ∈ us, u.oneCell' = true) (hs : a.eval s = .slice ad n c) (hx : a.eval x = .slice src m c')
    (hown : Own w B e ad n c vs) (hsl : Sl w src m c' us) (hB : B ≤ w.heap.size) (hn : n + m < 1099511627776) (hb : bytes ≤ 64)
    (hK : ∀ ad' cc' w', Own w' B e ad' (n + m) cc' (vs ++ us) → Below B w w' → w.grownBy w' (Value.slice ad n c).ownBlock → wpList P ops Q rest (a.put o.dst (.slice ad' (n + m) cc')) w') :
    wpList P ops Q (o :: rest) a w := by
  cases src with
  | none =>
    have h0 : m = 0 := by
      rcases Nat.eq_zero_or_pos m with h | h
      · exact h
      · obtain ⟨b, off, ha, _⟩ := hsl.cells h; cases ha
    subst h0
    have hul : us = [] := List.eq_nil_of_length_eq_zero hsl.len
    subst hul
    exact law_append_none w hg s x t hop e z bytes h1 h2 B ad n c c' vs hs hx hown (hK ad c w (by rw [List.append_nil]; exact hown) (Below.refl _ _) ⟨rfl, rfl, rfl, Nat.le_refl _, fun _ _ _ => rfl⟩)
  | some ad0 => exact law_appends w hg s x t hop e z bytes h1 h2 hz B ad n c vs ad0 m c' us hu hs hx hown hsl hB hn hb fun ad' cc' w' g1 g2 g3 _ => hK ad' cc' w' g1 g2 g3
/-- a slice of texts -/
def RetTs (l : List ByteArray) (w : World) (e : Ending) (w' : World) : Prop := ∃ a c, e = .returned (.slice a l.length c) ∧ Strs w' a l.length c l ∧ Ext w w'
theorem RetTs.mk {l : List ByteArray} {w w' : World} {a : Option Addr} {n c : Nat} (hs : Strs w' a n c l) (hx : Ext w w') : RetTs l w (.returned (.slice a n c)) w' := by
  have := hs.len; subst this; exact ⟨a, c, rfl, hs, hx⟩
end Go.Proofs.YtkiolfmdofldbaaDoor
