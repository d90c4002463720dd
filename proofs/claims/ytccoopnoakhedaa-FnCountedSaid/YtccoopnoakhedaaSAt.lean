/- Walks: append of nothing; l00Own. -/
import Derived.Test.YtccoopnoakhedaaVar
import Derived.Laws.OwnMore
import Derived.Test.YtccoopnoakhedaaChg
namespace Go.Proofs.Ytccoopnoakhedaa
set_option maxRecDepth 100000
open Go.RowKit

theorem run_append_none0 {P : Program} {w : World} (base : Nat) (t ty e : TypeId) (i : TypeInfo) (ht : P.underlying t = some (.slice e)) (hi : P.info? e = some i) (ad : Option Addr) (n c c' : Nat) (vs : List Value) (hown : Own w base e ad n c vs) :
    (Builtin.append_ #[t, t] ty #[.slice ad n c, .slice none 0 c']).run P w = .ok (.slice ad n c) w := by
  rcases hown.2 with ⟨h1, h2⟩ | ⟨g, cap, cur, h1, _, _, hnc, _⟩
  · simp only [Value.slice.injEq] at h1
    obtain ⟨rfl, rfl, rfl⟩ := h1
    simp [Builtin.append_, run_underlying ht, sizeOf, typeInfo, hi, Builtin.lenOf, Builtin.firstCells]
  · simp only [Value.slice.injEq, true_and] at h1
    obtain ⟨rfl, rfl⟩ := h1
    simp [Builtin.append_, run_underlying ht, sizeOf, typeInfo, hi, Builtin.lenOf, Builtin.firstCells, hnc, storeCells]
/-- append(s, x...) where x is nil -/
theorem law_append_none {P : Program} (w : World) {ops : Array Oper} {rest : List Oper} {o : Oper} {a : Act} {Q : Exit → Act → World → Prop}
    (hg : o.guard = none) (s x : Operand) (t : TypeId) (hop : o.op = Op.call { callee := Callee.builtin Builtin.append, args := #[s, x], argTypes := #[t, t] })
    (e : TypeId) (z : Value) (bytes : Nat) (h1 : P.underlying t = some (.slice e)) (h2 : (P.info? e).map (fun i => (i.zero, i.size, i.bytes)) = some (some z, 1, bytes))
    (B : Nat) (ad : Option Addr) (n c c' : Nat) (vs : List Value) (hs : a.eval s = .slice ad n c) (hx : a.eval x = .slice none 0 c') (hown : Own w B e ad n c vs)
    (hK : wpList P ops Q rest (a.put o.dst (.slice ad n c)) w) : wpList P ops Q (o :: rest) a w := by
  obtain ⟨i, hi, _, _, rfl⟩ := info_parts h2
  refine wpList_plain hg fun K hK' => ?_
  have hr := run_append_none0 (P := P) (w := w) B t o.type e i h1 hi ad n c c' vs hown
  unfold Oper.wp execOp
  simp only [hop, resolve, invoke, builtin, Sem.run_bind, Sem.run_pure, Result.andThen_ok, List.map_toArray, List.map_cons, List.map_nil, hs, hx, hr]
  exact hK' _ _ hK
end Go.Proofs.Ytccoopnoakhedaa

/- Words: a block that holds a struct; rows beside it. Conditions: none; nothing here speaks of a program's text. -/
namespace Go.Proofs.Ytccoopnoakhedaa
set_option maxRecDepth 100000
open Go.RowKit

/-- block g holds these cells, of type T -/
def SAt (w : World) (g : Nat) (T : TypeId) (cs : Array Value) : Prop := w.heap[g]? = some (.cells cs T (0, 0))
section
variable {w w' : World} {g : Nat} {T : TypeId} {cs : Array Value}
theorem SAt.lt (h : SAt w g T cs) : g < w.heap.size := (Array.getElem?_eq_some_iff.1 h).1
theorem SAt.new' (w : World) (cs : Array Value) (T : TypeId) (hg : g = w.heap.size) : SAt (w.alloc (.cells cs T)) g T cs := by subst hg; exact heap_alloc_new w _
theorem SAt.ext (h : SAt w g T cs) (hx : Ext w w') : SAt w' g T cs := hx.heap h
theorem SAt.alloc (h : SAt w g T cs) (o : Obj) : SAt (w.alloc o) g T cs := h.ext ((Ext.refl w).alloc o)
theorem SAt.drew (h : SAt w g T cs) : SAt w.drew g T cs := h
theorem SAt.set (h : SAt w g T cs) (i : Nat) (u : Value) : SAt (w.setCell ⟨g, i, none⟩ u) g T (cs.setIfInBounds i u) := by
  unfold SAt at h ⊢
  simp [World.setCell, Array.getElem?_modify, h]
theorem SAt.other (h : SAt w g T cs) {p : Addr} (u : Value) (hp : g ≠ p.block) : SAt (w.setCell p u) g T cs := (Below.heap_setCell w p u g hp).trans h
theorem SAt.chg {lo hi : Nat} (h : SAt w g T cs) (hc : Chg lo hi w w') (hd : g < lo ∨ hi ≤ g) : SAt w' g T cs := (hc.block g h.lt hd).trans h
theorem SAt.grown (h : SAt w g T cs) {row : Option Nat} (hg : w.grownBy w' row) (hr : some g ≠ row) : SAt w' g T cs := (hg.block g h.lt hr).trans h
theorem SAt.six {z0 z1 z2 z3 z4 z5 : Value} (h : SAt w g T #[z0, z1, z2, z3, z4, z5]) (v0 v1 v2 v3 v4 v5 : Value) :
    SAt ((((((w.setCell ⟨g, 0, none⟩ v0).setCell ⟨g, 1, none⟩ v1).setCell ⟨g, 2, none⟩ v2).setCell ⟨g, 3, none⟩ v3).setCell ⟨g, 4, none⟩ v4).setCell ⟨g, 5, none⟩ v5) g T #[v0, v1, v2, v3, v4, v5] :=
  (((((h.set 0 v0).set 1 v1).set 2 v2).set 3 v3).set 4 v4).set 5 v5
theorem SAt.cell (h : SAt w g T cs) (i : Nat) (hi : i < cs.size) : w.cell? ⟨g, i, none⟩ = some (cs[i]'hi) := by
  have := cell_of_row w g i cs T (0, 0) h
  rw [this]; simp [hi]
theorem SAt.frozen (h : SAt w g T cs) (i : Nat) : w.frozen? ⟨g, i, none⟩ = false := by unfold SAt at h; simp [World.frozen?, h]
theorem Own.ne_s {B : Nat} {E : TypeId} {a : Option Addr} {n c : Nat} {vs : List Value} (ho : Own w B E a n c vs) (h : SAt w g T cs) (hT : E ≠ T) : ∀ x, a = Option.some x → x.block ≠ g := by
  rintro x rfl rfl
  rcases ho.2 with h2 | ⟨g', cap, cur, hv, _, hg, _⟩
  · obtain ⟨h2, _⟩ := h2; cases h2
  · simp only [Value.slice.injEq, Option.some.injEq, true_and] at hv
    obtain ⟨rfl, _⟩ := hv
    unfold SAt at h
    rw [hg] at h
    injection h with h
    injection h with _ h3
    exact hT h3
theorem Own.setS {B : Nat} {E : TypeId} {a : Option Addr} {n c : Nat} {vs : List Value} (ho : Own w B E a n c vs) (h : SAt w g T cs) (hT : E ≠ T) (i : Nat) (u : Value) : Own (w.setCell ⟨g, i, none⟩ u) B E a n c vs := ho.other u (ho.ne_s h hT)
theorem Own.alloc' {B : Nat} {E : TypeId} {a : Option Addr} {n c : Nat} {vs : List Value} (ho : Own w B E a n c vs) (o : Obj) : Own (w.alloc o) B E a n c vs := ho.ext ((Ext.refl w).alloc o)
theorem Own.lit0' (w : World) {B : Nat} (E : TypeId) (hB : B ≤ g) (hg : g = w.heap.size) : Own (w.alloc (.cells #[] E)) B E (Option.some ⟨g, 0, none⟩) 0 0 [] := by subst hg; exact (Own.lit0 w E).mono hB
theorem Own.otherN {B e n c : Nat} {E : TypeId} {vs : List Value} {p : Addr} (ho : Own w B E (Option.some ⟨e, 0, none⟩) n c vs) (u : Value) (hne : e ≠ p.block) : Own (w.setCell p u) B E (Option.some ⟨e, 0, none⟩) n c vs :=
  ho.other u fun x hx => by simp only [Option.some.injEq] at hx; subst hx; exact hne
theorem row_ne_s {a : Option Addr} {n c : Nat} (h : ∀ x, a = Option.some x → x.block ≠ g) : some g ≠ (Value.slice a n c).ownBlock := row_ne h
theorem OwnMat.setS {B : Nat} {E1 E0 : TypeId} {a : Option Addr} {n c : Nat} {ll : List (List Int)} (h : OwnMat w B E1 E0 a n c ll) (hs : SAt w g T cs) (h1 : E1 ≠ T) (h0 : E0 ≠ T) (i : Nat) (u : Value) : OwnMat (w.setCell ⟨g, i, none⟩ u) B E1 E0 a n c ll :=
  ⟨h.len, let ⟨vs, g1, g2⟩ := h.rows; ⟨vs, g1.setS hs h1 i u, fun j hj => let ⟨a1, n1, c1, g3, g4⟩ := g2 j hj; ⟨a1, n1, c1, g3, g4.setS hs h0 i u⟩⟩⟩
theorem OwnCube.setS {B : Nat} {E2 E1 E0 : TypeId} {a : Option Addr} {n c : Nat} {ll : List (List (List Int))} (h : OwnCube w B E2 E1 E0 a n c ll) (hs : SAt w g T cs) (h2 : E2 ≠ T) (h1 : E1 ≠ T) (h0 : E0 ≠ T) (i : Nat) (u : Value) : OwnCube (w.setCell ⟨g, i, none⟩ u) B E2 E1 E0 a n c ll :=
  ⟨h.len, let ⟨vs, g1, g2⟩ := h.rows; ⟨vs, g1.setS hs h2 i u, fun j hj => let ⟨a1, n1, c1, g3, g4⟩ := g2 j hj; ⟨a1, n1, c1, g3, g4.setS hs h1 h0 i u⟩⟩⟩
end
/-- what holds while the blocks from lo to hi are as they were -/
def KeepB (lo hi : Nat) (w w' : World) : Prop := ∀ x, lo ≤ x → x < hi → w'.heap[x]? = w.heap[x]?
theorem KeepB.refl (lo hi : Nat) (w : World) : KeepB lo hi w w := fun _ _ _ => rfl
theorem KeepB.trans {lo hi : Nat} {a b c : World} (h : KeepB lo hi a b) (k : KeepB lo hi b c) : KeepB lo hi a c := fun x h1 h2 => (k x h1 h2).trans (h x h1 h2)
theorem KeepB.ext {lo hi : Nat} {w w' : World} (h : Ext w w') (hh : hi ≤ w.heap.size) : KeepB lo hi w w' := fun x _ h2 => Below.block h x (by omega)
theorem KeepB.chg {lo hi lo' hi' : Nat} {w w' : World} (h : Chg lo' hi' w w') (hh : hi ≤ w.heap.size) (hd : hi' ≤ lo ∨ hi ≤ lo') : KeepB lo hi w w' := fun x h1 h2 => h.block x (by omega) (by omega)
theorem KeepB.mono {lo hi lo' hi' : Nat} {w w' : World} (h : KeepB lo hi w w') (hl : lo ≤ lo') (hh : hi' ≤ hi) : KeepB lo' hi' w w' := fun x h1 h2 => h x (by omega) (by omega)
section
variable {w w' : World} {lo : Nat} {E E2 E1 E0 : TypeId} {a : Option Addr} {n c : Nat}
theorem Own.keepB {vs : List Value} (h : Own w lo E a n c vs) (hk : KeepB lo w.heap.size w w') : Own w' lo E a n c vs := by
  refine ⟨h.1, ?_⟩
  rcases h.2 with h2 | ⟨g, cap, cur, hv, hb, hg, r⟩
  · exact .inl h2
  · exact .inr ⟨g, cap, cur, hv, hb, by rw [hk g hb (Array.getElem?_eq_some_iff.1 hg).1]; exact hg, r⟩
theorem OwnMat.keepB {ll : List (List Int)} (h : OwnMat w lo E1 E0 a n c ll) (hk : KeepB lo w.heap.size w w') : OwnMat w' lo E1 E0 a n c ll :=
  ⟨h.len, let ⟨vs, g1, g2⟩ := h.rows; ⟨vs, g1.keepB hk, fun j hj => let ⟨a1, n1, c1, g3, g4⟩ := g2 j hj; ⟨a1, n1, c1, g3, g4.keepB hk⟩⟩⟩
theorem OwnCube.keepB {ll : List (List (List Int))} (h : OwnCube w lo E2 E1 E0 a n c ll) (hk : KeepB lo w.heap.size w w') : OwnCube w' lo E2 E1 E0 a n c ll :=
  ⟨h.len, let ⟨vs, g1, g2⟩ := h.rows; ⟨vs, g1.keepB hk, fun j hj => let ⟨a1, n1, c1, g3, g4⟩ := g2 j hj; ⟨a1, n1, c1, g3, g4.keepB hk⟩⟩⟩
end
end Go.Proofs.Ytccoopnoakhedaa

/- Words for the walks: rows that lie outside some blocks. Conditions: none. -/
namespace Go.Proofs.Ytccoopnoakhedaa
set_option maxRecDepth 100000
open Go.RowKit

/-- no row lies between two bounds -/
def Off (a : Option Addr) (lo hi : Nat) : Prop := ∀ g, a = some g → g.block < lo ∨ hi ≤ g.block
theorem Off.app {a a' : Option Addr} {lo hi n : Nat} (h : Off a lo hi) (hn : hi ≤ n) (hk : ∀ g, a' = some g → (∃ g', a = some g' ∧ g'.block = g.block) ∨ n ≤ g.block) : Off a' lo hi := fun g hg => by
  rcases hk g hg with ⟨g', h1, h2⟩ | h1
  · have := h g' h1; omega
  · exact .inr (by omega)
theorem keepB_grown {lo hi : Nat} {W W' : World} {a : Option Addr} {n c : Nat} (hg : W.grownBy W' (Value.slice a n c).ownBlock) (ho : Off a lo hi) (hh : hi ≤ W.heap.size) : KeepB lo hi W W' := fun r h1 h2 => by
  refine hg.block r (by omega) ?_
  cases a with
  | none => simp [Value.ownBlock]
  | some g => simp [Value.ownBlock]; have := ho g rfl; omega
section
variable {w : World} {W : World}
theorem own_blk {B : Nat} {E : TypeId} {a : Option Addr} {n c : Nat} {us : List Value} (h : Own W B E a n c us) : ∀ g, a = some g → g.block < W.heap.size := fun g hg => (h.blk g hg).2
end
end Go.Proofs.Ytccoopnoakhedaa
