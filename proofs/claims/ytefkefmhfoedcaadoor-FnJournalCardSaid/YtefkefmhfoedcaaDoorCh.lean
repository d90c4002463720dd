/- Walks: chains: the state behind a symbol, behind symbols. -/
import Derived.Test.YtefkefmhfoedcaaDoorCube
import Derived.Test.YtefkefmhfoedcaaDoorWords
namespace Go.Proofs.YtefkefmhfoedcaaDoor
set_option maxRecDepth 100000
open Go.RowKit

structure Ch where
  base : Int
  states : Int
  start : Int
  fin : Int
  tabs : List (List (List Int))
  places : List Int

/-- the block b holds a chain, in this world and behind it -/
structure ChAt (w : World) (b : Nat) (D : Ch) (a : Option Addr) (n c : Nat) (a' : Option Addr) (n' c' : Nat) : Prop where
  c0 : ∀ w', Ext w w' → w'.cell? ⟨b, 0, none⟩ = some (.int .i64 D.base)
  c1 : ∀ w', Ext w w' → w'.cell? ⟨b, 1, none⟩ = some (.int .i64 D.states)
  c2 : ∀ w', Ext w w' → w'.cell? ⟨b, 2, none⟩ = some (.int .i64 D.start)
  c3 : ∀ w', Ext w w' → w'.cell? ⟨b, 3, none⟩ = some (.int .i64 D.fin)
  c4 : ∀ w', Ext w w' → w'.cell? ⟨b, 4, none⟩ = some (.slice a n c)
  c5 : ∀ w', Ext w w' → w'.cell? ⟨b, 5, none⟩ = some (.slice a' n' c')
  ts : Cube w a n c D.tabs
  ps : Ints w a' n' c' D.places
theorem ChAt.ext {w w' : World} {b : Nat} {D : Ch} {a : Option Addr} {n c : Nat} {a' : Option Addr} {n' c' : Nat} (h : ChAt w b D a n c a' n' c') (hx : Ext w w') : ChAt w' b D a n c a' n' c' :=
  ⟨fun w' h' => h.c0 w' (hx.trans h'), fun w' h' => h.c1 w' (hx.trans h'), fun w' h' => h.c2 w' (hx.trans h'), fun w' h' => h.c3 w' (hx.trans h'), fun w' h' => h.c4 w' (hx.trans h'), fun w' h' => h.c5 w' (hx.trans h'), h.ts.ext hx, h.ps.ext hx⟩
def chVal (D : Ch) (a : Option Addr) (n c : Nat) (a' : Option Addr) (n' c' : Nat) : Value := .agg #[.int .i64 D.base, .int .i64 D.states, .int .i64 D.start, .int .i64 D.fin, .slice a n c, .slice a' n' c']
theorem ch_box (w : World) (D : Ch) (a : Option Addr) (n c : Nat) (a' : Option Addr) (n' c' : Nat) (T : TypeId) (h : Cube w a n c D.tabs) (h' : Ints w a' n' c' D.places) :
    ChAt (w.alloc (.cells #[.int .i64 D.base, .int .i64 D.states, .int .i64 D.start, .int .i64 D.fin, .slice a n c, .slice a' n' c'] T)) w.heap.size D a n c a' n' c' :=
  ⟨fun w' hx => hx.cell (by go_simp), fun w' hx => hx.cell (by go_simp), fun w' hx => hx.cell (by go_simp), fun w' hx => hx.cell (by go_simp), fun w' hx => hx.cell (by go_simp), fun w' hx => hx.cell (by go_simp), h.ext ((Ext.refl w).alloc _), h'.ext ((Ext.refl w).alloc _)⟩

/-- what the tables of a valid chain hold -/
structure OkCh (D : Ch) : Prop where
  b2 : 2 ≤ D.base
  b36 : D.base ≤ 36
  s1 : 1 ≤ D.states
  s36 : D.states ≤ 36
  st0 : 0 ≤ D.start
  st1 : D.start < D.states
  en0 : 0 ≤ D.fin
  en1 : D.fin < D.states
  t1 : 1 ≤ D.tabs.length
  t20 : D.tabs.length ≤ 20
  p1 : 1 ≤ D.places.length
  p20 : D.places.length ≤ 20
  pw : D.base ^ D.places.length ≤ 1000000000000000
  tl : ∀ t, t < D.tabs.length → ((gm D.tabs t).length : Int) = D.states
  rl : ∀ t, t < D.tabs.length → ∀ x, x < (gm D.tabs t).length → ((gl (gm D.tabs t) x).length : Int) = D.base
  el : ∀ t, t < D.tabs.length → ∀ x, x < (gm D.tabs t).length → ∀ d ∈ gl (gm D.tabs t) x, 0 ≤ d ∧ d < D.states
  pl : ∀ k ∈ D.places, 0 ≤ k ∧ k < D.tabs.length

def nextS (D : Ch) (p x d : Int) : Int := gi (gl (gm D.tabs (gi D.places p.toNat).toNat) x.toNat) d.toNat
theorem OkCh.tab {D : Ch} (h : OkCh D) {p : Int} (h0 : 0 ≤ p) (h1 : p < D.places.length) : 0 ≤ gi D.places p.toNat ∧ gi D.places p.toNat < D.tabs.length := h.pl _ (gi_mem (by omega))
theorem OkCh.next {D : Ch} (h : OkCh D) {p x d : Int} (hp0 : 0 ≤ p) (hp1 : p < D.places.length) (hx0 : 0 ≤ x) (hx1 : x < D.states) (hd0 : 0 ≤ d) (hd1 : d < D.base) : 0 ≤ nextS D p x d ∧ nextS D p x d < D.states := by
  obtain ⟨h1, h2⟩ := h.tab hp0 hp1
  have h3 := h.tl (gi D.places p.toNat).toNat (by omega)
  have h4 := h.rl (gi D.places p.toNat).toNat (by omega) x.toNat (by omega)
  exact h.el _ (by omega) x.toNat (by omega) _ (gi_mem (by omega))


/-- the state behind symbols -/
def runS (D : Ch) : Int → Int → List Int → Int
  | _, x, [] => x
  | p, x, d :: ds => runS D (p + 1) (nextS D p x d) ds
theorem runS_snoc (D : Ch) : ∀ (ds : List Int) (p x d : Int), runS D p x (ds ++ [d]) = nextS D (p + ds.length) (runS D p x ds) d
  | [], p, x, d => by simp [runS]
  | e :: ds, p, x, d => by
    rw [List.cons_append, runS, runS_snoc D ds]
    simp only [runS, List.length_cons]
    congr 1
    omega
theorem runS_step (D : Ch) {ds : List Int} {k : Nat} (h : k < ds.length) (p x : Int) : runS D p x (ds.take (k + 1)) = nextS D (p + k) (runS D p x (ds.take k)) (gi ds k) := by
  rw [take_gi h, runS_snoc, List.length_take, Nat.min_eq_left (by omega)]
/-- all symbols are below the base -/
def DigC (D : Ch) (ds : List Int) : Prop := ∀ d ∈ ds, 0 ≤ d ∧ d < D.base
theorem DigC.at {D : Ch} {ds : List Int} (h : DigC D ds) {k : Nat} (hk : k < ds.length) : 0 ≤ gi ds k ∧ gi ds k < D.base := h _ (gi_mem hk)
theorem DigC.take {D : Ch} {ds : List Int} (h : DigC D ds) (k : Nat) : DigC D (ds.take k) := fun d hd => h d (List.mem_of_mem_take hd)
theorem runS_bd {D : Ch} (hok : OkCh D) : ∀ (ds : List Int) (p x : Int), DigC D ds → 0 ≤ p → p + ds.length ≤ D.places.length → 0 ≤ x → x < D.states → 0 ≤ runS D p x ds ∧ runS D p x ds < D.states
  | [], p, x, _, _, _, h1, h2 => ⟨h1, h2⟩
  | d :: ds, p, x, hd, h0, hl, h1, h2 => by
    simp only [List.length_cons] at hl
    have hd0 := hd d (List.mem_cons_self ..)
    have h3 := hok.next h0 (by omega) h1 h2 hd0.1 hd0.2
    exact runS_bd hok ds (p + 1) _ (fun e he => hd e (List.mem_cons_of_mem _ he)) (by omega) (by omega) h3.1 h3.2

end Go.Proofs.YtefkefmhfoedcaaDoor
