/- Words for the walks: slices of slices of numbers, two and three deep. Conditions: none. -/
import Derived.Test.YtccoopnoakhedaaVar
namespace Go.Proofs.Ytccoopnoakhedaa
set_option maxRecDepth 100000
open Go.RowKit

/-- the k-th list, the k-th table -/
def gl (l : List (List Int)) (k : Nat) : List Int := l.getD k []
def gm (l : List (List (List Int))) (k : Nat) : List (List Int) := l.getD k []
theorem gl_mem {l : List (List Int)} {k : Nat} (h : k < l.length) : gl l k ∈ l := getD_mem l [] k h
theorem gm_mem {l : List (List (List Int))} {k : Nat} (h : k < l.length) : gm l k ∈ l := getD_mem l [] k h
theorem take_gl {l : List (List Int)} {k : Nat} (h : k < l.length) : l.take (k + 1) = l.take k ++ [gl l k] := take_snoc l [] k h
theorem take_gm {l : List (List (List Int))} {k : Nat} (h : k < l.length) : l.take (k + 1) = l.take k ++ [gm l k] := take_snoc l [] k h

/-- the slice holds the lists ll -/
structure Mat (w : World) (a : Option Addr) (n c : Nat) (ll : List (List Int)) : Prop where
  len : ll.length = n
  rows : ∃ vs, Sl w a n c vs ∧ ∀ k, k < n → ∃ a' n' c', gv vs k = .slice a' n' c' ∧ Ints w a' n' c' (gl ll k)
theorem Mat.ext {w w' : World} {a : Option Addr} {n c : Nat} {ll : List (List Int)} (h : Mat w a n c ll) (hx : Ext w w') : Mat w' a n c ll :=
  ⟨h.len, let ⟨vs, h1, h2⟩ := h.rows; ⟨vs, h1.ext hx, fun k hk => let ⟨a', n', c', h3, h4⟩ := h2 k hk; ⟨a', n', c', h3, h4.ext hx⟩⟩⟩
/-- the slice holds the tables lll -/
structure Cube (w : World) (a : Option Addr) (n c : Nat) (lll : List (List (List Int))) : Prop where
  len : lll.length = n
  rows : ∃ vs, Sl w a n c vs ∧ ∀ k, k < n → ∃ a' n' c', gv vs k = .slice a' n' c' ∧ Mat w a' n' c' (gm lll k)
theorem Cube.ext {w w' : World} {a : Option Addr} {n c : Nat} {ll : List (List (List Int))} (h : Cube w a n c ll) (hx : Ext w w') : Cube w' a n c ll :=
  ⟨h.len, let ⟨vs, h1, h2⟩ := h.rows; ⟨vs, h1.ext hx, fun k hk => let ⟨a', n', c', h3, h4⟩ := h2 k hk; ⟨a', n', c', h3, h4.ext hx⟩⟩⟩

/-- where one value lies: the address in every world, the cell in every world behind w -/
structure One (P : Program) (T : TypeId) (w : World) (a : Option Addr) (n c : Nat) (i : Int) (b off : Nat) (v : Value) : Prop where
  ix : ∀ (K : IntKind) (w' : World), (Instr.indexAt T (.slice a n c) (.int K i)).run P w' = .ok (.pointer (some ⟨b, off, none⟩)) w'
  cell : ∀ w', Ext w w' → w'.cell? ⟨b, off, none⟩ = some v
theorem Sl.one {P : Program} {w : World} {a : Option Addr} {n c : Nat} {vs : List Value} (h : Sl w a n c vs) (T E : TypeId) (ht : P.underlying T = some (.slice E)) (he : P.cellsOf E = 1) (i : Int) (h0 : 0 ≤ i) (h1 : i < n) :
    ∃ b off, One P T w a n c i b off (gv vs i.toNat) := by
  obtain ⟨b, off, h2⟩ := h.ix T E ht he
  exact ⟨b, off + i.toNat, ⟨fun K w' => h2.ix i K w' h0 h1, fun w' hx => h2.cell i.toNat w' (by omega) hx⟩⟩
theorem Ints.one {P : Program} {w : World} {a : Option Addr} {n c : Nat} {l : List Int} (h : Ints w a n c l) (T E : TypeId) (ht : P.underlying T = some (.slice E)) (he : P.cellsOf E = 1) (i : Int) (h0 : 0 ≤ i) (h1 : i < n) :
    ∃ b off, One P T w a n c i b off (.int .i64 (gi l i.toNat)) := by
  obtain ⟨b, off, h2⟩ := Sl.one h T E ht he i h0 h1
  rw [gv_I (by rw [h.len]; omega)] at h2
  exact ⟨b, off, h2⟩
theorem Mat.one {P : Program} {w : World} {a : Option Addr} {n c : Nat} {ll : List (List Int)} (h : Mat w a n c ll) (T E : TypeId) (ht : P.underlying T = some (.slice E)) (he : P.cellsOf E = 1) (i : Int) (h0 : 0 ≤ i) (h1 : i < n) :
    ∃ b off a' n' c', One P T w a n c i b off (.slice a' n' c') ∧ Ints w a' n' c' (gl ll i.toNat) := by
  obtain ⟨vs, hs, hr⟩ := h.rows
  obtain ⟨b, off, h2⟩ := hs.one T E ht he i h0 h1
  obtain ⟨a', n', c', h3, h4⟩ := hr i.toNat (by omega)
  rw [h3] at h2
  exact ⟨b, off, a', n', c', h2, h4⟩
theorem Cube.one {P : Program} {w : World} {a : Option Addr} {n c : Nat} {ll : List (List (List Int))} (h : Cube w a n c ll) (T E : TypeId) (ht : P.underlying T = some (.slice E)) (he : P.cellsOf E = 1) (i : Int) (h0 : 0 ≤ i) (h1 : i < n) :
    ∃ b off a' n' c', One P T w a n c i b off (.slice a' n' c') ∧ Mat w a' n' c' (gm ll i.toNat) := by
  obtain ⟨vs, hs, hr⟩ := h.rows
  obtain ⟨b, off, h2⟩ := hs.one T E ht he i h0 h1
  obtain ⟨a', n', c', h3, h4⟩ := hr i.toNat (by omega)
  rw [h3] at h2
  exact ⟨b, off, a', n', c', h2, h4⟩

/-! ### rows of the call's own that hold slices -/
/-- a row of the call's own whose slices hold the lists ll, all at B or behind -/
structure OwnMat (w : World) (B : Nat) (E1 E0 : TypeId) (a : Option Addr) (n c : Nat) (ll : List (List Int)) : Prop where
  len : ll.length = n
  rows : ∃ vs, Own w B E1 a n c vs ∧ ∀ k, k < n → ∃ a' n' c', gv vs k = .slice a' n' c' ∧ Own w B E0 a' n' c' (I (gl ll k))
theorem OwnMat.mat {w : World} {B : Nat} {E1 E0 : TypeId} {a : Option Addr} {n c : Nat} {ll : List (List Int)} (h : OwnMat w B E1 E0 a n c ll) : Mat w a n c ll :=
  ⟨h.len, let ⟨vs, h1, h2⟩ := h.rows; ⟨vs, h1.sl, fun k hk => let ⟨a', n', c', h3, h4⟩ := h2 k hk; ⟨a', n', c', h3, h4.ints⟩⟩⟩
theorem OwnMat.ext {w w' : World} {B : Nat} {E1 E0 : TypeId} {a : Option Addr} {n c : Nat} {ll : List (List Int)} (h : OwnMat w B E1 E0 a n c ll) (hx : Ext w w') : OwnMat w' B E1 E0 a n c ll :=
  ⟨h.len, let ⟨vs, h1, h2⟩ := h.rows; ⟨vs, h1.ext hx, fun k hk => let ⟨a', n', c', h3, h4⟩ := h2 k hk; ⟨a', n', c', h3, h4.ext hx⟩⟩⟩
theorem OwnMat.mono {w : World} {B B' : Nat} {E1 E0 : TypeId} {a : Option Addr} {n c : Nat} {ll : List (List Int)} (h : OwnMat w B E1 E0 a n c ll) (hB : B' ≤ B) : OwnMat w B' E1 E0 a n c ll :=
  ⟨h.len, let ⟨vs, h1, h2⟩ := h.rows; ⟨vs, h1.mono hB, fun k hk => let ⟨a', n', c', h3, h4⟩ := h2 k hk; ⟨a', n', c', h3, h4.mono hB⟩⟩⟩
structure OwnCube (w : World) (B : Nat) (E2 E1 E0 : TypeId) (a : Option Addr) (n c : Nat) (ll : List (List (List Int))) : Prop where
  len : ll.length = n
  rows : ∃ vs, Own w B E2 a n c vs ∧ ∀ k, k < n → ∃ a' n' c', gv vs k = .slice a' n' c' ∧ OwnMat w B E1 E0 a' n' c' (gm ll k)
theorem OwnCube.cube {w : World} {B : Nat} {E2 E1 E0 : TypeId} {a : Option Addr} {n c : Nat} {ll : List (List (List Int))} (h : OwnCube w B E2 E1 E0 a n c ll) : Cube w a n c ll :=
  ⟨h.len, let ⟨vs, h1, h2⟩ := h.rows; ⟨vs, h1.sl, fun k hk => let ⟨a', n', c', h3, h4⟩ := h2 k hk; ⟨a', n', c', h3, h4.mat⟩⟩⟩
theorem OwnCube.ext {w w' : World} {B : Nat} {E2 E1 E0 : TypeId} {a : Option Addr} {n c : Nat} {ll : List (List (List Int))} (h : OwnCube w B E2 E1 E0 a n c ll) (hx : Ext w w') : OwnCube w' B E2 E1 E0 a n c ll :=
  ⟨h.len, let ⟨vs, h1, h2⟩ := h.rows; ⟨vs, h1.ext hx, fun k hk => let ⟨a', n', c', h3, h4⟩ := h2 k hk; ⟨a', n', c', h3, h4.ext hx⟩⟩⟩
theorem OwnCube.mono {w : World} {B B' : Nat} {E2 E1 E0 : TypeId} {a : Option Addr} {n c : Nat} {ll : List (List (List Int))} (h : OwnCube w B E2 E1 E0 a n c ll) (hB : B' ≤ B) : OwnCube w B' E2 E1 E0 a n c ll :=
  ⟨h.len, let ⟨vs, h1, h2⟩ := h.rows; ⟨vs, h1.mono hB, fun k hk => let ⟨a', n', c', h3, h4⟩ := h2 k hk; ⟨a', n', c', h3, h4.mono hB⟩⟩⟩
theorem gv_lt {vs : List Value} {u : Value} {k : Nat} (h : k < vs.length) : gv (vs ++ [u]) k = gv vs k := by simp [gv, List.getElem?_append_left h]
theorem gv_last {vs : List Value} {u : Value} {k : Nat} (h : vs.length = k) : gv (vs ++ [u]) k = u := by subst h; simp [gv]
theorem gl_lt {ll : List (List Int)} {u : List Int} {k : Nat} (h : k < ll.length) : gl (ll ++ [u]) k = gl ll k := by simp [gl, List.getElem?_append_left h]
theorem gl_last {ll : List (List Int)} {u : List Int} {k : Nat} (h : ll.length = k) : gl (ll ++ [u]) k = u := by subst h; simp [gl]
theorem gm_lt {ll : List (List (List Int))} {u : List (List Int)} {k : Nat} (h : k < ll.length) : gm (ll ++ [u]) k = gm ll k := by simp [gm, List.getElem?_append_left h]
theorem gm_last {ll : List (List (List Int))} {u : List (List Int)} {k : Nat} (h : ll.length = k) : gm (ll ++ [u]) k = u := by subst h; simp [gm]

/-- rows of different types lie in different blocks -/
theorem own_ne_type {w : World} {B B' : Nat} {E E' : TypeId} {a a' : Option Addr} {n c n' c' : Nat} {vs vs' : List Value} (h : Own w B E a n c vs) (h' : Own w B' E' a' n' c' vs') (hE : E ≠ E') : ∀ g g', a = some g → a' = some g' → g.block ≠ g'.block := by
  rintro g g' rfl rfl he
  rcases h.2 with ⟨h1, _⟩ | ⟨b, cap, cur, hv, _, hg, _⟩
  · cases h1
  rcases h'.2 with ⟨h1, _⟩ | ⟨b', cap', cur', hv', _, hg', _⟩
  · cases h1
  simp only [Value.slice.injEq, Option.some.injEq, true_and] at hv hv'
  obtain ⟨rfl, _⟩ := hv
  obtain ⟨rfl, _⟩ := hv'
  simp only at he
  subst he
  rw [hg] at hg'
  injection hg' with hg'
  injection hg' with _ h3
  exact hE h3
theorem Own.grownT {w w' : World} {B B' : Nat} {E E' : TypeId} {a a' : Option Addr} {n c n' c' : Nat} {vs vs' : List Value} (h : Own w B E a n c vs) (h' : Own w B' E' a' n' c' vs') (hg : w.grownBy w' (Value.slice a' n' c').ownBlock) (hE : E ≠ E') : Own w' B E a n c vs := by
  refine h.grown hg fun g hga => ?_
  cases a' with
  | none => simp [Value.ownBlock]
  | some g' => simp [Value.ownBlock]; exact own_ne_type h h' hE g g' hga rfl
theorem OwnMat.grownT {w w' : World} {B B' : Nat} {E2 E1 E0 : TypeId} {a a' : Option Addr} {n c n' c' : Nat} {ll : List (List Int)} {vs' : List Value} (h : OwnMat w B E1 E0 a n c ll) (h' : Own w B' E2 a' n' c' vs') (hg : w.grownBy w' (Value.slice a' n' c').ownBlock) (h1 : E1 ≠ E2) (h0 : E0 ≠ E2) : OwnMat w' B E1 E0 a n c ll :=
  ⟨h.len, let ⟨vs, g1, g2⟩ := h.rows; ⟨vs, g1.grownT h' hg h1, fun k hk => let ⟨a1, n1, c1, g3, g4⟩ := g2 k hk; ⟨a1, n1, c1, g3, g4.grownT h' hg h0⟩⟩⟩
theorem OwnMat.nil0 (w : World) (B : Nat) (E1 E0 : TypeId) : OwnMat w B E1 E0 none 0 0 [] := ⟨rfl, [], Own.nil _ _ _, fun k hk => by omega⟩
theorem OwnMat.lit0 (w : World) (E1 E0 : TypeId) : OwnMat (w.alloc (.cells #[] E1)) w.heap.size E1 E0 (some ⟨w.heap.size, 0, none⟩) 0 0 [] := ⟨rfl, [], Own.lit0 w E1, fun k hk => by omega⟩
theorem OwnCube.lit0 (w : World) (E2 E1 E0 : TypeId) : OwnCube (w.alloc (.cells #[] E2)) w.heap.size E2 E1 E0 (some ⟨w.heap.size, 0, none⟩) 0 0 [] := ⟨rfl, [], Own.lit0 w E2, fun k hk => by omega⟩
/-- one list more -/
theorem OwnMat.push {w w' : World} {B : Nat} {E1 E0 : TypeId} {a a1 a2 : Option Addr} {n c n1 c1 c2 : Nat} {ll : List (List Int)} {l : List Int} {vs : List Value} (hl : ll.length = n)
    (hps : ∀ k, k < n → ∃ a' n' c', gv vs k = .slice a' n' c' ∧ Own w B E0 a' n' c' (I (gl ll k))) (ho : Own w B E1 a n c vs) (hnew : Own w B E0 a1 n1 c1 (I l)) (ho' : Own w' B E1 a2 (n + 1) c2 (vs ++ [.slice a1 n1 c1]))
    (hg : w.grownBy w' (Value.slice a n c).ownBlock) (hE : E0 ≠ E1) : OwnMat w' B E1 E0 a2 (n + 1) c2 (ll ++ [l]) := by
  refine ⟨by simp [hl], vs ++ [.slice a1 n1 c1], ho', fun k hk => ?_⟩
  have hvl := ho.len
  by_cases h : k < n
  · obtain ⟨a', n', c', h1, h2⟩ := hps k h
    exact ⟨a', n', c', (gv_lt (by omega)).trans h1, by rw [gl_lt (by omega)]; exact h2.grownT ho hg hE⟩
  · obtain rfl : k = n := by omega
    exact ⟨a1, n1, c1, gv_last hvl, by rw [gl_last hl]; exact hnew.grownT ho hg hE⟩
/-- one table more -/
theorem OwnCube.push {w w' : World} {B : Nat} {E2 E1 E0 : TypeId} {a a1 a2 : Option Addr} {n c n1 c1 c2 : Nat} {ll : List (List (List Int))} {l : List (List Int)} {vs : List Value} (hl : ll.length = n)
    (hps : ∀ k, k < n → ∃ a' n' c', gv vs k = .slice a' n' c' ∧ OwnMat w B E1 E0 a' n' c' (gm ll k)) (ho : Own w B E2 a n c vs) (hnew : OwnMat w B E1 E0 a1 n1 c1 l) (ho' : Own w' B E2 a2 (n + 1) c2 (vs ++ [.slice a1 n1 c1]))
    (hg : w.grownBy w' (Value.slice a n c).ownBlock) (h0 : E0 ≠ E2) (h1 : E1 ≠ E2) : OwnCube w' B E2 E1 E0 a2 (n + 1) c2 (ll ++ [l]) := by
  refine ⟨by simp [hl], vs ++ [.slice a1 n1 c1], ho', fun k hk => ?_⟩
  have hvl := ho.len
  by_cases h : k < n
  · obtain ⟨a', n', c', g1, g2⟩ := hps k h
    exact ⟨a', n', c', (gv_lt (by omega)).trans g1, by rw [gm_lt (by omega)]; exact g2.grownT ho hg h1 h0⟩
  · obtain rfl : k = n := by omega
    exact ⟨a1, n1, c1, gv_last hvl, by rw [gm_last hl]; exact hnew.grownT ho hg h1 h0⟩
theorem own_lit1 (w : World) (E : TypeId) (v : Value) : Own (w.alloc (.cells #[v] E)) w.heap.size E (some ⟨w.heap.size, 0, none⟩) 1 1 [v] :=
  World.ownsRow_lit (e := E) (size := 1) w #[v] 1 (Nat.le_refl _) (by decide) rfl

theorem und_rows : Try.prog.underlying 53 = some (.slice 25) := by kernel_rfl
theorem elem_rows : Try.prog.elem 53 = 25 := by kernel_rfl
theorem cell_row1 : Try.prog.cellsOf 25 = 1 := by kernel_rfl
theorem info_row1 : (Try.prog.info? 25).map (fun i => (i.zero, i.size, i.bytes)) = some (some (.slice none 0 0), 1, 24) := by kernel_rfl
theorem und_tabs : Try.prog.underlying 24 = some (.slice 53) := by kernel_rfl
theorem elem_tabs : Try.prog.elem 24 = 53 := by kernel_rfl
theorem cell_tab1 : Try.prog.cellsOf 53 = 1 := by kernel_rfl
theorem info_tab1 : (Try.prog.info? 53).map (fun i => (i.zero, i.size, i.bytes)) = some (some (.slice none 0 0), 1, 24) := by kernel_rfl
end Go.Proofs.Ytccoopnoakhedaa
