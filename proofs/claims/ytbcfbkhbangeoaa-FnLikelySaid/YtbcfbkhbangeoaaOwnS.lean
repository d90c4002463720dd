/- Rows of structs of the call's own. -/
import Derived.Test.YtbcfbkhbangeoaaSAt
namespace Go.Proofs.Ytbcfbkhbangeoaa
set_option maxRecDepth 100000
open Go.RowKit

/-! ### rows of structs -/
/-- append to a row of one's own of structs -/
theorem law_appendsS {P : Program} (w : World) {ops : Array Oper} {rest : List Oper} {o : Oper} {a : Act} {Q : Exit → Act → World → Prop}
    (hg : o.guard = none) (s x : Operand) (t : TypeId) (hop : o.op = Op.call { callee := Callee.builtin Builtin.append, args := #[s, x], argTypes := #[t, t] })
    (e : TypeId) (z : Value) (size bytes : Nat) (h1 : P.underlying t = some (.slice e)) (h2 : (P.info? e).map (fun i => (i.zero, i.size, i.bytes)) = some (some z, size, bytes)) (hz : z.cells.size = size) (h0 : 0 < size)
    (B : Nat) (ad : Option Addr) (n c : Nat) (vs : List Value) (src : Option Addr) (m c' : Nat) (us : List Value) (hu : ∀ u ∈ us, u.oneCell' = true) (hs : a.eval s = .slice ad n c) (hx : a.eval x = .slice src m c')
    (hown : w.ownsRow B e size (.slice ad n c) n vs) (hl : us.length = m * size) (hcl : ∀ ad0, src = some ad0 → ∀ j u, us[j]? = some u → w.cell? (ad0.add j) = some u) (hno : src = none → m = 0 ∧ c' = 0) (hB : B ≤ w.heap.size) (hn : n + m < 1099511627776) (hb : bytes ≤ 64)
    (hK : ∀ ad' cc' w', w'.ownsRow B e size (.slice ad' (n + m) cc') (n + m) (vs ++ us) → Below B w w' → w.grownBy w' (Value.slice ad n c).ownBlock → wpList P ops Q rest (a.put o.dst (.slice ad' (n + m) cc')) w') :
    wpList P ops Q (o :: rest) a w := by
  obtain ⟨i, hi, hz0, hz1, rfl⟩ : ∃ i, P.info? e = some i ∧ i.zero = some z ∧ i.size = size ∧ i.bytes = bytes := by
    cases hi : P.info? e with
    | none => rw [hi] at h2; cases h2
    | some i =>
      rw [hi] at h2
      simp only [Option.map_some, Option.some.injEq, Prod.mk.injEq] at h2
      exact ⟨i, rfl, h2.1, h2.2.1, h2.2.2⟩
  cases src with
  | none =>
    obtain ⟨rfl, rfl⟩ := hno rfl
    have hul : us = [] := List.eq_nil_of_length_eq_zero (by omega)
    subst hul
    refine wpList_plain hg fun K hK' => ?_
    have hr := run_append_owned_none (P := P) (w := w) B t o.type e i size h1 hi _ n vs hown
    unfold Oper.wp execOp
    simp only [hop, resolve, invoke, builtin, Sem.run_bind, Sem.run_pure, Result.andThen_ok, List.map_toArray, List.map_cons, List.map_nil, hs, hx, hr]
    exact hK' _ _ (hK ad c w (by rw [List.append_nil]; exact hown) (Below.refl _ _) ⟨rfl, rfl, rfl, Nat.le_refl _, fun _ _ _ => rfl⟩)
  | some ad0 =>
    refine wpList_append_own (P := P) w hg s x t hop B e i z size i.bytes h1 hi hz0 hz1 rfl hz h0 (.slice ad n c) n vs hs hown ad0 m c' us hx hl
      (hcl ad0 rfl) hu (by unfold maxLen; omega) (by have := Nat.mul_le_mul (show n + m ≤ 1099511627776 by omega) hb; omega) hB ?_
    intro v' w' h3 h4 h5
    have hv : ∃ ad' c', v' = .slice ad' (n + m) c' := by
      rcases h3.2 with ⟨h, h'⟩ | ⟨g, cap, cur, hv, _⟩
      · exact ⟨none, 0, by rw [h, h']⟩
      · exact ⟨_, _, hv⟩
    obtain ⟨ad', c', rfl⟩ := hv
    exact hK ad' c' w' h3 (Below.grown (Below.refl B w) h4 hB (fun k hk => (World.ownsRow.lt hown k hk).1)) h4
/-- a row of structs, read from within -/
def OwnS (s : Nat) (w : World) (B : Nat) (E : TypeId) (a : Option Addr) (n c : Nat) (vs : List Value) : Prop := w.ownsRow B E s (.slice a n c) n vs
theorem OwnS.keepB {s : Nat} {w W : World} {B : Nat} {E : TypeId} {a : Option Addr} {n c : Nat} {vs : List Value} (h : OwnS s w B E a n c vs) (hk : ∀ b, B ≤ b → b < w.heap.size → W.heap[b]? = w.heap[b]?) : OwnS s W B E a n c vs := by
  refine ⟨h.1, ?_⟩
  rcases h.2 with h2 | ⟨g, cap, cur, hv, hb, hg, r⟩
  · exact .inl h2
  · exact .inr ⟨g, cap, cur, hv, hb, (hk g hb (by have := (Array.getElem?_eq_some_iff.1 hg).1; exact this)).trans hg, r⟩
theorem OwnS.ext {s : Nat} {w W : World} {B : Nat} {E : TypeId} {a : Option Addr} {n c : Nat} {vs : List Value} (h : OwnS s w B E a n c vs) (hx : Ext w W) : OwnS s W B E a n c vs := h.keepB fun b _ hb => Below.block hx b hb
theorem OwnS.mono {s : Nat} {w : World} {B B' : Nat} {E : TypeId} {a : Option Addr} {n c : Nat} {vs : List Value} (h : OwnS s w B E a n c vs) (hb : B' ≤ B) : OwnS s w B' E a n c vs := by
  refine ⟨h.1, ?_⟩
  rcases h.2 with h2 | ⟨g, cap, cur, hv, hb1, r⟩
  · exact .inl h2
  · exact .inr ⟨g, cap, cur, hv, by omega, r⟩
theorem OwnS.ne {s : Nat} {w : World} {B : Nat} {E T : TypeId} {a : Option Addr} {n c g : Nat} {vs : List Value} {cs : Array Value} (ho : OwnS s w B E a n c vs) (h : SAt w g T cs) (hT : E ≠ T) : ∀ x, a = Option.some x → x.block ≠ g := by
  rintro x rfl rfl
  rcases ho.2 with h2 | ⟨g', cap, cur, hv, _, hg, _⟩
  · obtain ⟨h2, _⟩ := h2; cases h2
  · simp only [Value.slice.injEq, Option.some.injEq, true_and] at hv
    obtain ⟨rfl, _⟩ := hv
    unfold SAt at h
    rw [hg] at h
    injection h with h
    injection h with h1 h2
    exact hT h2
/-- a row of structs that is empty -/
theorem own0S {s : Nat} (w : World) (E : TypeId) : OwnS s (w.alloc (.cells #[] E)) w.heap.size E (some ⟨w.heap.size, 0, none⟩) 0 0 [] := by
  have h := World.ownsRow_lit (e := E) (size := s) (base := w.heap.size) w #[] 0 (Nat.le_refl _) (by unfold maxLen; omega) (by simp)
  exact h
end Go.Proofs.Ytbcfbkhbangeoaa
