/- Words and small lemmas for the walks: what a slice reads as, what a call may do to the world. Conditions: none; nothing here speaks of a program's text. -/
import Derived.Test.YtccoopnoakhedaaRows
import Derived.WalkKit
import Derived.WalkSpells
import Derived.WalkLawsBesides
import Derived.Lib.Hide
import Derived.Deep.QuietTactic
import Derived.BigQuiet
import Derived.StillTailTactics
import Derived.Deep.DeepFit
import Derived.Deep.DeepMust
namespace Go.Proofs.Ytccoopnoakhedaa
set_option maxRecDepth 100000
open Go.RowKit

theorem take_snoc {α : Type} (l : List α) (d : α) (k : Nat) (h : k < l.length) : l.take (k + 1) = l.take k ++ [l.getD k d] := by
  rw [List.take_add_one, List.getElem?_eq_getElem h, List.getD_eq_getElem?_getD, List.getElem?_eq_getElem h]; rfl
theorem getD_mem {α : Type} (l : List α) (d : α) (k : Nat) (h : k < l.length) : l.getD k d ∈ l := by
  rw [List.getD_eq_getElem?_getD, List.getElem?_eq_getElem h]; exact List.getElem_mem h

/-- what a call may do that changes nothing that was there -/
def Ext (w w' : World) : Prop := Below w.heap.size w w'
theorem Ext.refl (w : World) : Ext w w := Below.refl _ _
theorem Ext.trans {a b c : World} (h : Ext a b) (k : Ext b c) : Ext a c := Below.trans h (Below.mono k h.size)
theorem Ext.alloc {a w : World} (h : Ext a w) (o : Obj) : Ext a (w.alloc o) := Below.alloc h h.size o
theorem Ext.drew {a w : World} (h : Ext a w) : Ext a w.drew := Below.drew h
theorem Ext.drewN {a w : World} (h : Ext a w) (n : Nat) : Ext a (w.drewN n) := ⟨h.os, h.tape, h.output, h.size, h.block⟩
theorem Ext.setCell {a w : World} (h : Ext a w) {p : Addr} (hp : a.heap.size ≤ p.block) (u : Value) : Ext a (w.setCell p u) := Below.setCell h hp u
theorem Ext.cell {a w : World} (h : Ext a w) {p : Addr} {v : Value} (hp : a.cell? p = some v) : w.cell? p = some v :=
  (Below.cell h (World.block_lt_of_cell? _ _ hp)).trans hp
theorem Ext.heap {a w : World} (h : Ext a w) {b : Nat} {o : Obj} (hp : a.heap[b]? = some o) : w.heap[b]? = some o := by
  rw [h.block b (by obtain ⟨h, _⟩ := Array.getElem?_eq_some_iff.1 hp; exact h)]; exact hp
theorem Ext.grown {a w w' : World} {row : Option Nat} (h : Ext a w) (hg : w.grownBy w' row) (hr : ∀ k, row = some k → a.heap.size ≤ k) : Ext a w' :=
  Below.grown h hg h.size hr
theorem Ext.le {a w : World} (h : Ext a w) : a.heap.size ≤ w.heap.size := h.size

/-- what was there reads as it did: for the walk behind a call -/
theorem bcell {W w1 : World} (h : Ext W w1) : (∀ b o, b < W.heap.size → w1.cell? ⟨b, o, none⟩ = W.cell? ⟨b, o, none⟩) ∧ (∀ b o, b < W.heap.size → w1.frozen? ⟨b, o, none⟩ = W.frozen? ⟨b, o, none⟩) :=
  ⟨fun b o hb => Below.cell h (p := ⟨b, o, none⟩) hb, fun b o hb => Below.frozen h (p := ⟨b, o, none⟩) hb⟩
/-- e is v and nothing that was there has changed -/
def Ret (v : Value) (w : World) (e : Ending) (w' : World) : Prop := e = .returned v ∧ Ext w w'
/-- e is v and the world is as it was -/
def Same (v : Value) (w : World) (e : Ending) (w' : World) : Prop := e = .returned v ∧ w = w'
theorem Same.ret {v : Value} {w : World} {e : Ending} {w' : World} (h : Same v w e w') : Ret v w e w' := by
  obtain ⟨h1, rfl⟩ := h; exact ⟨h1, Ext.refl _⟩

/-- e is v and the call has drawn at most -/
def Qt (v : Value) (w : World) (e : Ending) (w' : World) : Prop := e = .returned v ∧ ∃ m, w' = w.drewN m
theorem Same.qt {v : Value} {w : World} {e : Ending} {w' : World} (h : Same v w e w') : Qt v w e w' := by
  obtain ⟨h1, rfl⟩ := h; exact ⟨h1, 0, rfl⟩
theorem Qt.ret {v : Value} {w : World} {e : Ending} {w' : World} (h : Qt v w e w') : Ret v w e w' := by
  obtain ⟨h1, m, rfl⟩ := h; exact ⟨h1, (Ext.refl _).drewN _⟩
/-- two results -/
def Ret2 (v1 v2 : Value) (w : World) (e : Ending) (w' : World) : Prop := e = .returned (.tuple #[v1, v2]) ∧ Ext w w'
def Ret3 (v1 v2 v3 : Value) (w : World) (e : Ending) (w' : World) : Prop := e = .returned (.tuple #[v1, v2, v3]) ∧ Ext w w'
/-- for 'go_quiet': a call that changes nothing; one that draws -/
theorem quietS {P : Program} {f : FuncId} {args : Array Value} {w : World} {n : Nat} {v : Value} (h : Calls P f args (w.drewN n) (Same v (w.drewN n))) :
    Calls P f args (w.drewN n) fun e w'' => e = .returned v ∧ ∃ m, w'' = w.drewN m := Calls.quiet_of_same (h.mono fun _ _ h => ⟨h.1, h.2.symm⟩)
theorem quietQ {P : Program} {f : FuncId} {args : Array Value} {w : World} {n : Nat} {v : Value} (h : Calls P f args (w.drewN n) (Qt v (w.drewN n))) :
    Calls P f args (w.drewN n) fun e w'' => e = .returned v ∧ ∃ m, w'' = w.drewN m := Calls.quiet_of (h.mono fun _ _ h => ⟨h.1, h.2⟩)
theorem rb {a b : Bool} (h : a = b) : Ending.returned (.bool a) = .returned (.bool b) := by rw [h]
theorem ri {k : IntKind} {a b : Int} (h : a = b) : Ending.returned (.int k a) = .returned (.int k b) := by rw [h]

/-- the slice (a, n, ..) holds the values vs, one cell each -/
structure Sl (w : World) (a : Option Addr) (n c : Nat) (vs : List Value) : Prop where
  len : vs.length = n
  cap : n ≤ c
  cells : 0 < n → ∃ b off, a = some ⟨b, off, none⟩ ∧ ∀ k, k < n → w.cell? ⟨b, off + k, none⟩ = some (vs.getD k undef)

theorem Sl.ext {w w' : World} {a : Option Addr} {n c : Nat} {vs : List Value} (h : Sl w a n c vs) (hx : Ext w w') : Sl w' a n c vs :=
  ⟨h.len, h.cap, fun h0 => let ⟨b, off, ha, hc⟩ := h.cells h0; ⟨b, off, ha, fun k hk => hx.cell (hc k hk)⟩⟩

def I (l : List Int) : List Value := l.map (.int .i64)
theorem I_len (l : List Int) : (I l).length = l.length := by simp [I]
theorem I_getD (l : List Int) (k : Nat) (h : k < l.length) : (I l).getD k undef = .int .i64 (l.getD k 0) := by
  simp [I, List.getD_eq_getElem?_getD, h]
theorem I_append (l m : List Int) : I (l ++ m) = I l ++ I m := by simp [I]

/-- the slice (a, n, ..) holds the numbers l -/
def Ints (w : World) (a : Option Addr) (n c : Nat) (l : List Int) : Prop := Sl w a n c (I l)
theorem Ints.len {w : World} {a : Option Addr} {n c : Nat} {l : List Int} (h : Ints w a n c l) : l.length = n := (I_len l).symm.trans (Sl.len h)
theorem Ints.ext {w w' : World} {a : Option Addr} {n c : Nat} {l : List Int} (h : Ints w a n c l) (hx : Ext w w') : Ints w' a n c l := Sl.ext h hx

theorem Ints.drewN {w : World} {a : Option Addr} {n c : Nat} {l : List Int} (h : Ints w a n c l) (m : Nat) : Ints (w.drewN m) a n c l := Sl.ext h ((Ext.refl w).drewN m)
theorem cellsOf_size {P : Program} {E : TypeId} {n : Nat} (h : P.cellsOf E = n) (h0 : 0 < n) : ∃ i, P.info? E = some i ∧ i.size = n := by
  unfold Program.cellsOf at h
  cases hi : P.info? E with
  | none => rw [hi] at h; simp at h; omega
  | some i => rw [hi] at h; exact ⟨i, rfl, by simpa using h⟩

/-- the k-th element: its address, whatever the world; its cell -/
theorem Sl.at {P : Program} {w : World} {a : Option Addr} {n c : Nat} {vs : List Value} (h : Sl w a n c vs) (T E : TypeId) (ht : P.underlying T = some (.slice E)) (he : P.cellsOf E = 1)
    (k : Nat) (hk : k < n) (K : IntKind) : ∃ b off, (∀ w', (Instr.indexAt T (.slice a n c) (.int K k)).run P w' = .ok (.pointer (some ⟨b, off, none⟩)) w') ∧ w.cell? ⟨b, off, none⟩ = some (vs.getD k undef) := by
  obtain ⟨b, off, rfl, hc⟩ := h.cells (by omega)
  obtain ⟨i, hi, hs⟩ := cellsOf_size he (by omega)
  refine ⟨b, off + k, fun w' => ?_, hc k hk⟩
  have : (⟨b, off, none⟩ : Addr).add k = ⟨b, off + k, none⟩ := by unfold Addr.add; split <;> simp_all
  simp [Instr.indexAt, asIntOf, run_underlying ht, sizeOf, typeInfo, hi, hs, Addr.add_lit, hk]

theorem Ints.at {P : Program} {w : World} {a : Option Addr} {n c : Nat} {l : List Int} (h : Ints w a n c l) (T E : TypeId) (ht : P.underlying T = some (.slice E)) (he : P.cellsOf E = 1)
    (k : Nat) (hk : k < n) (K : IntKind) : ∃ b off, (∀ w', (Instr.indexAt T (.slice a n c) (.int K k)).run P w' = .ok (.pointer (some ⟨b, off, none⟩)) w') ∧ w.cell? ⟨b, off, none⟩ = some (.int .i64 (l.getD k 0)) := by
  obtain ⟨b, off, h1, h2⟩ := Sl.at h T E ht he k hk K
  exact ⟨b, off, h1, by rw [h2, I_getD l k (by rw [h.len]; exact hk)]⟩

/-- s[lo:hi], lo below the length: what the walk wants of it, whatever the world -/
theorem Sl.sub {P : Program} {w : World} {a : Option Addr} {n c : Nat} {vs : List Value} (h : Sl w a n c vs) (T E : TypeId) (ht : P.underlying T = some (.slice E)) (he : P.cellsOf E = 1) (hel : P.elem T = E)
    (lo hi : Nat) (hlo : lo ≤ hi) (hn : hi ≤ n) : ∃ a', (∀ w' (K K' : IntKind), (Instr.sliceAt T (.slice a n c) (some (.int K lo)) (some (.int K' hi)) none).run P w' = .ok (.slice a' (hi - lo) (c - lo)) w') ∧ Sl w a' (hi - lo) (c - lo) ((vs.drop lo).take (hi - lo)) := by
  obtain ⟨i, hi', hs⟩ := cellsOf_size he (by omega)
  have ht' : P.underlying T = some (.slice (P.elem T)) := by rw [hel]; exact ht
  have hc := h.cap
  have hrun : ∀ w' (K K' : IntKind), (Instr.sliceAt T (.slice a n c) (some (.int K lo)) (some (.int K' hi)) none).run P w' = .ok (sliced a lo hi c 1) w' := fun w' K K' => by
    rw [run_sliceAt_slice w' T _ _ _ _ ht', run_slice_lh w' T a n c ht' K K' lo hi (by omega) (by omega) (by omega)]
    rw [hel]
    simp [sizeOf, typeInfo, hi', hs, Result.andThen]
  refine ⟨if c = lo then a else a.map (·.add lo), fun w' K K' => by rw [hrun]; simp [sliced], ?_, by omega, fun h0 => ?_⟩
  · simp [h.len]; omega
  · obtain ⟨b, off, ha, hcell⟩ := h.cells (by omega)
    rw [if_neg (by omega), ha]
    refine ⟨b, off + lo, by simp [Addr.add_lit], fun k hk => ?_⟩
    rw [Nat.add_assoc, hcell (lo + k) (by omega)]
    simp [List.getD_eq_getElem?_getD, hk]
theorem Ints.sub {P : Program} {w : World} {a : Option Addr} {n c : Nat} {l : List Int} (h : Ints w a n c l) (T E : TypeId) (ht : P.underlying T = some (.slice E)) (he : P.cellsOf E = 1) (hel : P.elem T = E)
    (lo hi : Nat) (hlo : lo ≤ hi) (hn : hi ≤ n) : ∃ a', (∀ w' (K K' : IntKind), (Instr.sliceAt T (.slice a n c) (some (.int K lo)) (some (.int K' hi)) none).run P w' = .ok (.slice a' (hi - lo) (c - lo)) w') ∧ Ints w a' (hi - lo) (c - lo) ((l.drop lo).take (hi - lo)) := by
  obtain ⟨a', h1, h2⟩ := Sl.sub h T E ht he hel lo hi hlo hn
  exact ⟨a', h1, by unfold Ints I; rw [List.map_take, List.map_drop]; exact h2⟩

/-- a row of the call's own, from block B on -/
def Own (w : World) (B : Nat) (E : TypeId) (a : Option Addr) (n c : Nat) (vs : List Value) : Prop := w.ownsRow B E 1 (.slice a n c) n vs

theorem Own.sl {w : World} {B : Nat} {E : TypeId} {a : Option Addr} {n c : Nat} {vs : List Value} (h : Own w B E a n c vs) : Sl w a n c vs := by
  refine ⟨by simpa using h.1, ?_, fun h0 => ?_⟩
  · rcases h.2 with ⟨h1, h2⟩ | ⟨g, cap, cur, hv, _, _, hc, _⟩
    · omega
    · simp only [Value.slice.injEq, true_and] at hv; omega
  rcases h.2 with ⟨h1, h2⟩ | ⟨g, cap, cur, hv, _⟩
  · omega
  · simp only [Value.slice.injEq, true_and] at hv
    obtain ⟨rfl, rfl⟩ := hv
    refine ⟨g, 0, rfl, fun k hk => ?_⟩
    have h' : w.ownsRow B E 1 (.slice (some ⟨g, 0, none⟩) n c) n vs := h
    have hl : vs.length = n := by simpa using h.1
    rw [show (0 : Nat) + k = k from by omega, h'.cellAt k (by omega), List.getD_eq_getElem?_getD, List.getElem?_eq_getElem (by omega)]
    rfl
theorem Own.ints {w : World} {B : Nat} {E : TypeId} {a : Option Addr} {n c : Nat} {l : List Int} (h : Own w B E a n c (I l)) : Ints w a n c l := Own.sl h
theorem Own.mono {w : World} {B B' : Nat} {E : TypeId} {a : Option Addr} {n c : Nat} {vs : List Value} (h : Own w B E a n c vs) (hB : B' ≤ B) : Own w B' E a n c vs := by
  refine ⟨h.1, ?_⟩
  rcases h.2 with h2 | ⟨g, cap, cur, hv, hb, r⟩
  · exact .inl h2
  · exact .inr ⟨g, cap, cur, hv, by omega, r⟩
theorem Own.ext {w w' : World} {B : Nat} {E : TypeId} {a : Option Addr} {n c : Nat} {vs : List Value} (h : Own w B E a n c vs) (hx : Ext w w') : Own w' B E a n c vs := by
  refine ⟨h.1, ?_⟩
  rcases h.2 with h2 | ⟨g, cap, cur, hv, hb, hg, r⟩
  · exact .inl h2
  · exact .inr ⟨g, cap, cur, hv, hb, hx.heap hg, r⟩

theorem Own.lt {w : World} {B : Nat} {E : TypeId} {g n c : Nat} {vs : List Value} (h : Own w B E (some ⟨g, 0, none⟩) n c vs) : B ≤ g ∧ g < w.heap.size :=
  World.ownsRow.lt h g rfl
theorem Own.len {w : World} {B : Nat} {E : TypeId} {a : Option Addr} {n c : Nat} {vs : List Value} (h : Own w B E a n c vs) : vs.length = n := by simpa using h.1
/-- the k-th element's place, for a store -/
theorem Own.at {P : Program} {w : World} {B : Nat} {E : TypeId} {g n c : Nat} {vs : List Value} (h : Own w B E (some ⟨g, 0, none⟩) n c vs) (T : TypeId) (ht : P.underlying T = some (.slice E)) (he : P.cellsOf E = 1)
    (k : Nat) (hk : k < n) (K : IntKind) : (∀ w', (Instr.indexAt T (.slice (some ⟨g, 0, none⟩) n c) (.int K k)).run P w' = .ok (.pointer (some ⟨g, k, none⟩)) w') ∧
      w.cell? ⟨g, k, none⟩ = some (vs.getD k undef) ∧ w.frozen? ⟨g, k, none⟩ = false := by
  obtain ⟨i, hi, hs⟩ := cellsOf_size he (by omega)
  refine ⟨fun w' => ?_, ?_, World.ownsRow.frozenAt h k⟩
  · simp [Instr.indexAt, asIntOf, run_underlying ht, sizeOf, typeInfo, hi, hs, Addr.add_lit, hk]
  · rw [World.ownsRow.cellAt h k (by omega), List.getD_eq_getElem?_getD, List.getElem?_eq_getElem (by rw [h.len]; exact hk)]; rfl
theorem Own.set {w : World} {B : Nat} {E : TypeId} {g n c : Nat} {vs : List Value} (h : Own w B E (some ⟨g, 0, none⟩) n c vs) (k : Nat) (u : Value) :
    Own (w.setCell ⟨g, k, none⟩ u) B E (some ⟨g, 0, none⟩) n c (vs.set k u) := (World.ownsRow.stored h k u).1
theorem Own.grown {w w' : World} {B : Nat} {E : TypeId} {a : Option Addr} {n c : Nat} {vs : List Value} (h : Own w B E a n c vs) {row : Option Nat} (hg : w.grownBy w' row) (hne : ∀ g, a = some g → some g.block ≠ row) :
    Own w' B E a n c vs := by
  refine World.ownsRow.kept h hg ?_
  cases a with
  | none => exact .inl rfl
  | some g => exact .inr (by simpa [Value.ownBlock] using hne g rfl)
/-- a store into another block -/
theorem Own.other {w : World} {B : Nat} {E : TypeId} {a : Option Addr} {n c : Nat} {vs : List Value} (h : Own w B E a n c vs) {p : Addr} (u : Value) (hne : ∀ g, a = some g → g.block ≠ p.block) :
    Own (w.setCell p u) B E a n c vs := by
  refine ⟨h.1, ?_⟩
  rcases h.2 with h2 | ⟨g, cap, cur, hv, hb, hg, r⟩
  · exact .inl h2
  · simp only [Value.slice.injEq, true_and] at hv
    obtain ⟨rfl, rfl⟩ := hv
    exact .inr ⟨g, c, cur, rfl, hb, by rw [Below.heap_setCell _ _ _ _ (hne _ rfl)]; exact hg, r⟩

/-- a store below the rows of the call's own -/
theorem Own.setBelow {w : World} {B : Nat} {E : TypeId} {a : Option Addr} {n c : Nat} {vs : List Value} (h : Own w B E a n c vs) {p : Addr} (hp : p.block < B) (u : Value) :
    Own (w.setCell p u) B E a n c vs := ownsRow_setCell_below h hp u
theorem Own.drew {w : World} {B : Nat} {E : TypeId} {a : Option Addr} {n c : Nat} {vs : List Value} (h : Own w B E a n c vs) : Own w.drew B E a n c vs := h
theorem made_one (z : Value) (n : Nat) (h : z.cells = #[z]) : (madeCells z.cells (n * 1)).toList = List.replicate n z := by
  rw [h, madeCells]
  apply List.ext_getElem
  · simp
  · intro i h1 h2
    simp [Nat.mod_one]

/-- make([]T, n) -/
theorem law_make {P : Program} (w : World) {ops : Array Oper} {rest : List Oper} {o : Oper} {a : Act} {Q : Exit → Act → World → Prop}
    (hg : o.guard = none) (l c : Operand) (t : TypeId) (hop : o.op = Op.makeSlice t l c) (e : TypeId) (z : Value) (bytes : Nat) (h1 : P.underlying t = some (.slice e))
    (h2 : (P.info? e).map (fun i => (i.zero, i.size, i.bytes)) = some (some z, 1, bytes)) (hz : z.cells = #[z]) (kl kc : IntKind) (n : Nat) (hl : a.eval l = .int kl (n : Int)) (hc : a.eval c = .int kc (n : Int))
    (b2 : bytes * n ≤ 281474976710656) (b3 : n ≤ maxLen)
    (hK : ∀ w', Own w' w.heap.size e (some ⟨w.heap.size, 0, none⟩) n n (List.replicate n z) → Ext w w' → w'.heap.size = w.heap.size + 1 → wpList P ops Q rest (a.put o.dst (.slice (some ⟨w.heap.size, 0, none⟩) n n)) w') :
    wpList P ops Q (o :: rest) a w := by
  obtain ⟨i, hi, hz0, hz1, rfl⟩ := info_parts h2
  refine wpList_plain hg fun K hK' => ?_
  have hr := run_make (P := P) w t e i z h1 hi hz0 kl kc n n (by omega) (Int.le_refl _) (by have : ((i.bytes * n : Nat) : Int) ≤ 281474976710656 := by omega
                                                                                            rwa [Int.natCast_mul] at this) (by have := b3; simp [maxLen] at this; omega)
  simp only [Int.toNat_natCast] at hr
  unfold Oper.wp
  simp [execOp, hop, hl, hc, hr, Result.andThen]
  refine hK' _ _ (hK _ ?_ ((Ext.refl w).alloc _) (by simp))
  have h := World.ownsRow_lit (e := e) (size := 1) (base := w.heap.size) w (madeCells z.cells (n * 1)) n (Nat.le_refl _) b3 (by simp [size_madeCells])
  rw [made_one z n hz] at h
  rw [hz1]
  exact h

/-- append(s, u): one value to a row of the call's own -/
theorem law_append1 {P : Program} (w : World) {ops : Array Oper} {rest : List Oper} {o : Oper} {a : Act} {Q : Exit → Act → World → Prop}
    (hg : o.guard = none) (s x : Operand) (t : TypeId) (hop : o.op = Op.call { callee := Callee.builtin Builtin.append, args := #[s, x], argTypes := #[t, t] })
    (e : TypeId) (z : Value) (bytes : Nat) (h1 : P.underlying t = some (.slice e)) (h2 : (P.info? e).map (fun i => (i.zero, i.size, i.bytes)) = some (some z, 1, bytes)) (hz : z.cells.size = 1)
    (B : Nat) (ad : Option Addr) (n c : Nat) (vs : List Value) (u : Value) (hu : u.oneCell' = true) (hs : a.eval s = .slice ad n c) (hx : a.eval x = .slice (some ⟨w.heap.size, 0, none⟩) 1 1)
    (hown : Own w B e ad n c vs) (hB : B ≤ w.heap.size) (hn : n < 1099511627776) (hb : bytes ≤ 64)
    (hK : ∀ ad' c' w', Own w' B e ad' (n + 1) c' (vs ++ [u]) → Below B w w' → w.grownBy w' (Value.slice ad n c).ownBlock → wpList P ops Q rest (a.put o.dst (.slice ad' (n + 1) c')) w') :
    wpList P ops Q (o :: rest) a (w.alloc (.cells #[u] e)) := by
  obtain ⟨i, hi, hz0, hz1, rfl⟩ := info_parts h2
  refine wpList_append_own (P := P) (w.alloc (.cells #[u] e)) hg s x t hop B e i z 1 i.bytes h1 hi hz0 hz1 rfl hz (by omega) (.slice ad n c) n vs hs (World.ownsRow.alloc hown _) ⟨w.heap.size, 0, none⟩ 1 1 [u] hx rfl
    (cell_one_new _ _ _) (by simpa using hu) (by unfold maxLen; omega) (by have := Nat.mul_le_mul (show n + 1 ≤ 1099511627776 by omega) hb; omega) (by simp; omega) ?_
  intro v' w' h3 h4 _
  have hv : ∃ ad' c', v' = .slice ad' (n + 1) c' := by
    rcases h3.2 with ⟨_, h⟩ | ⟨g, cap, cur, hv, _⟩
    · omega
    · exact ⟨_, _, hv⟩
  obtain ⟨ad', c', rfl⟩ := hv
  have hgr : w.grownBy w' (Value.slice ad n c).ownBlock := ⟨h4.os, h4.tape, h4.output, by have := h4.size; simp at this; omega, fun k hk hne => by
    rw [h4.block k (by simp; omega) hne]; exact _root_.Go.RowKit.Below.heap_alloc w _ k hk⟩
  exact hK ad' c' w' h3 (Below.grown (Below.refl B w) hgr hB (fun k hk => (World.ownsRow.lt hown k hk).1)) hgr

/-- []T{} -/
theorem Own.lit0 (w : World) (E : TypeId) : Own (w.alloc (.cells #[] E)) w.heap.size E (some ⟨w.heap.size, 0, none⟩) 0 0 [] :=
  World.ownsRow_lit (e := E) (size := 1) w #[] 0 (Nat.le_refl _) (Nat.zero_le _) rfl
theorem Own.nil (w : World) (B : Nat) (E : TypeId) : Own w B E none 0 0 [] := World.ownsRow_nil w B E 1
theorem Ext.below {a w w' : World} (h : Ext a w) (k : Below a.heap.size w w') : Ext a w' := Below.trans h k

theorem I_replicate (n : Nat) : I (List.replicate n 0) = List.replicate n (.int .i64 0) := by simp [I]
/-- the first k numbers of l, zeros behind them -/
def fillTo (l : List Int) (k : Nat) : List Int := l.take k ++ List.replicate (l.length - k) 0
theorem fillTo_zero (l : List Int) : fillTo l 0 = List.replicate l.length 0 := by simp [fillTo]
theorem fillTo_full (l : List Int) : fillTo l l.length = l := by simp [fillTo]
theorem fillTo_len (l : List Int) (k : Nat) (h : k ≤ l.length) : (fillTo l k).length = l.length := by simp [fillTo]; omega
theorem set_fill {α : Type} (l : List α) (k n : Nat) (z x : α) (h : k < n) (hl : l.length = k) : (l ++ List.replicate (n - k) z).set k x = (l ++ [x]) ++ List.replicate (n - (k + 1)) z := by
  rw [List.set_append_right _ _ (by omega), hl, show n - k = (n - (k + 1)) + 1 from by omega, List.replicate_succ]
  simp
theorem I_set (l : List Int) (k : Nat) (x : Int) : (I l).set k (.int .i64 x) = I (l.set k x) := by simp [I, List.map_set]
theorem fillTo_set (l : List Int) (k : Nat) (x : Int) (h : k < l.length) (hx : x = l.getD k 0) : (fillTo l k).set k x = fillTo l (k + 1) := by
  unfold fillTo
  rw [set_fill _ k _ 0 x h (by simp; omega), take_snoc l 0 k h, hx]

/-- a fresh slice of the values vs -/
def RetOwn (E : TypeId) (vs : List Value) (w : World) (e : Ending) (w' : World) : Prop :=
  ∃ a c, e = .returned (.slice a vs.length c) ∧ Own w' w.heap.size E a vs.length c vs ∧ Ext w w'

theorem RetOwn.mk {E : TypeId} {l : List Int} {w w' : World} {a : Option Addr} {n c : Nat} (ho : Own w' w.heap.size E a n c (I l)) (hn : l.length = n) (hx : Ext w w') :
    RetOwn E (I l) w (.returned (.slice a n c)) w' := by
  have hl : (I l).length = n := by rw [I_len]; exact hn
  exact ⟨a, c, by rw [hl], by rw [hl]; exact ho, hx⟩

/-- 2^62 -/
def far62 : Nat := 4611686018427387904

theorem und_int64s : Try.prog.underlying 25 = some (.slice 2) := Try.underlying25
theorem elem_int64s : Try.prog.elem 25 = 2 := by kernel_rfl
theorem cell_int64 : Try.prog.cellsOf 2 = 1 := by kernel_rfl
theorem und_int64 : Try.prog.underlying 2 = some (.int .i64) := Try.underlying2
theorem info_int64 : (Try.prog.info? 2).map (fun i => (i.zero, i.size, i.bytes)) = some (some (.int .i64 0), 1, 8) := by kernel_rfl

end Go.Proofs.Ytccoopnoakhedaa
