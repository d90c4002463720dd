/- Walks: slices of weightings; the laws' helpers on them. -/
import Derived.Test.YtefkefmhfoedcaaDoorWSum
import Derived.Test.YtefkefmhfoedcaaDoorMix2
import Derived.Test.YtefkefmhfoedcaaDoorStrs
namespace Go.Proofs.YtefkefmhfoedcaaDoor
set_option maxRecDepth 100000
open Go.RowKit

/-- the k-th weighting -/
def gw (L : List Wt) (k : Nat) : Wt := L.getD k ⟨0, 0, 0, []⟩
theorem gw_mem {L : List Wt} {k : Nat} (h : k < L.length) : gw L k ∈ L := getD_mem L _ k h
/-- a weighting's cells in block b from o on -/
structure WtO (w : World) (b o : Nat) (W : Wt) (a : Option Addr) (n c : Nat) : Prop where
  c0 : w.cell? ⟨b, o, none⟩ = some (.int .i64 W.base)
  c1 : w.cell? ⟨b, o + 1, none⟩ = some (.int .i64 W.modulus)
  c2 : w.cell? ⟨b, o + 2, none⟩ = some (.int .i64 W.target)
  c3 : w.cell? ⟨b, o + 3, none⟩ = some (.slice a n c)
  ws : Ints w a n c W.weights
theorem WtO.ext {w w' : World} {b o : Nat} {W : Wt} {a : Option Addr} {n c : Nat} (h : WtO w b o W a n c) (hx : Ext w w') : WtO w' b o W a n c :=
  ⟨hx.cell h.c0, hx.cell h.c1, hx.cell h.c2, hx.cell h.c3, h.ws.ext hx⟩
/-- a slice of weightings -/
def Wts (w : World) (a : Option Addr) (n c : Nat) (L : List Wt) : Prop :=
  L.length = n ∧ n ≤ c ∧ (0 < n → ∃ b off, a = some ⟨b, off, none⟩ ∧ ∀ k, k < n → ∃ a' n' c', WtO w b (off + k * 4) (gw L k) a' n' c')
theorem Wts.ext {w w' : World} {a : Option Addr} {n c : Nat} {L : List Wt} (h : Wts w a n c L) (hx : Ext w w') : Wts w' a n c L :=
  ⟨h.1, h.2.1, fun h0 => let ⟨b, off, e, g⟩ := h.2.2 h0; ⟨b, off, e, fun k hk => let ⟨a', n', c', g2⟩ := g k hk; ⟨a', n', c', g2.ext hx⟩⟩⟩
theorem cellsOf_sizeN {P : Program} {E : TypeId} {s : Nat} (he : P.cellsOf E = s) (h0 : 0 < s) : ∃ i, P.info? E = some i ∧ i.size = s := by
  unfold Program.cellsOf at he
  cases hi : P.info? E with
  | none => rw [hi] at he; simp at he; omega
  | some i => rw [hi] at he; exact ⟨i, rfl, by simpa using he⟩
theorem Wts.at {P : Program} {w : World} {a : Option Addr} {n c : Nat} {L : List Wt} (h : Wts w a n c L) (T E : TypeId) (ht : P.underlying T = some (.slice E)) (he : P.cellsOf E = 4) (k : Nat) (hk : k < n) (K : IntKind) :
    ∃ b o a' n' c', (∀ w', (Instr.indexAt T (.slice a n c) (.int K k)).run P w' = .ok (.pointer (some ⟨b, o, none⟩)) w') ∧ WtO w b o (gw L k) a' n' c' := by
  obtain ⟨b, off, rfl, g⟩ := h.2.2 (by omega)
  obtain ⟨a', n', c', hg⟩ := g k hk
  obtain ⟨i, hi, hs⟩ := cellsOf_sizeN he (by omega)
  refine ⟨b, off + k * 4, a', n', c', fun w' => ?_, hg⟩
  have : (⟨b, off, none⟩ : Addr).add (k * 4) = ⟨b, off + k * 4, none⟩ := by unfold Addr.add; split <;> simp_all
  simp [Instr.indexAt, asIntOf, run_underlying ht, sizeOf, typeInfo, hi, hs, Addr.add_lit, hk]
/-- a row of structs of the call's own -/
def OwnN (s : Nat) (w : World) (B : Nat) (E : TypeId) (g n : Nat) (vs : List Value) : Prop := w.ownsRow B E s (.slice (some ⟨g, 0, none⟩) n n) n vs
theorem OwnN.ext {s : Nat} {w w' : World} {B : Nat} {E : TypeId} {g n : Nat} {vs : List Value} (h : OwnN s w B E g n vs) (hx : Ext w w') : OwnN s w' B E g n vs := by
  refine ⟨h.1, ?_⟩
  rcases h.2 with h2 | ⟨g', cap, cur, hv, hb, hg, r⟩
  · exact .inl h2
  · exact .inr ⟨g', cap, cur, hv, hb, hx.heap hg, r⟩
theorem law_makeN {P : Program} (w : World) {ops : Array Oper} {rest : List Oper} {o : Oper} {a : Act} {Q : Exit → Act → World → Prop}
    (hg : o.guard = none) (l c : Operand) (t : TypeId) (hop : o.op = Op.makeSlice t l c) (e : TypeId) (z : Value) (s bytes : Nat) (h1 : P.underlying t = some (.slice e))
    (h2 : (P.info? e).map (fun i => (i.zero, i.size, i.bytes)) = some (some z, s, bytes)) (kl kc : IntKind) (n : Nat) (hl : a.eval l = .int kl (n : Int)) (hc : a.eval c = .int kc (n : Int))
    (b2 : bytes * n ≤ 281474976710656) (b3 : n ≤ maxLen)
    (hK : ∀ w' vs, OwnN s w' w.heap.size e w.heap.size n vs → Ext w w' → w'.heap.size = w.heap.size + 1 → wpList P ops Q rest (a.put o.dst (.slice (some ⟨w.heap.size, 0, none⟩) n n)) w') :
    wpList P ops Q (o :: rest) a w := by
  obtain ⟨i, hi, hz0, hz1, rfl⟩ : ∃ i, P.info? e = some i ∧ i.zero = some z ∧ i.size = s ∧ i.bytes = bytes := by
    cases hi : P.info? e with
    | none => rw [hi] at h2; cases h2
    | some i =>
      rw [hi] at h2
      simp only [Option.map_some, Option.some.injEq, Prod.mk.injEq] at h2
      exact ⟨i, rfl, h2.1, h2.2.1, h2.2.2⟩
  refine wpList_plain hg fun K hK' => ?_
  have hr := run_make (P := P) w t e i z h1 hi hz0 kl kc n n (by omega) (Int.le_refl _) (by have : ((i.bytes * n : Nat) : Int) ≤ 281474976710656 := by omega
                                                                                            rwa [Int.natCast_mul] at this) (by have := b3; simp [maxLen] at this; omega)
  simp only [Int.toNat_natCast] at hr
  unfold Oper.wp
  simp [execOp, hop, hl, hc, hr, Result.andThen]
  rw [hz1]
  exact hK' _ _ (hK _ _ (World.ownsRow_lit (e := e) (size := s) (base := w.heap.size) w (madeCells z.cells (n * s)) n (Nat.le_refl _) b3 (by simp [size_madeCells])) ((Ext.refl w).alloc _) (by simp))
theorem und_wts : Tryd.prog.underlying 26 = some (.slice 67) := Tryd.underlying26
theorem cell_wt : Tryd.prog.cellsOf 67 = 4 := by kernel_rfl
theorem info_wt : (Tryd.prog.info? 67).map (fun i => (i.zero, i.size, i.bytes)) = some (some (.agg #[.int .i64 0, .int .i64 0, .int .i64 0, .slice none 0 0]), 4, 48) := by kernel_rfl
/-- the first k weightings stand in the row -/
def DoneW (w : World) (g k : Nat) (L : List Wt) (vs : List Value) : Prop := ∀ j, j < k → ∃ a' n' c', vs[j * 4]? = some (.int .i64 (gw L j).base) ∧ vs[j * 4 + 1]? = some (.int .i64 (gw L j).modulus) ∧ vs[j * 4 + 2]? = some (.int .i64 (gw L j).target) ∧ vs[j * 4 + 3]? = some (.slice a' n' c') ∧ Own w (g + 1) 2 a' n' c' (I (gw L j).weights)
theorem DoneW.ext {w w' : World} {g k : Nat} {L : List Wt} {vs : List Value} (h : DoneW w g k L vs) (hx : Ext w w') : DoneW w' g k L vs := fun j hj =>
  let ⟨a', n', c', h0, h1, h2, h3, h4⟩ := h j hj
  ⟨a', n', c', h0, h1, h2, h3, h4.ext hx⟩
theorem OwnN.cell {s : Nat} {w : World} {B : Nat} {E : TypeId} {g n : Nat} {vs : List Value} (h : OwnN s w B E g n vs) (j : Nat) (hj : j < n * s) : w.cell? ⟨g, j, none⟩ = vs[j]? := World.ownsRow.cellAt h j hj
theorem OwnN.frozen {s : Nat} {w : World} {B : Nat} {E : TypeId} {g n : Nat} {vs : List Value} (h : OwnN s w B E g n vs) (j : Nat) : w.frozen? ⟨g, j, none⟩ = false := World.ownsRow.frozenAt h j
theorem OwnN.set {s : Nat} {w : World} {B : Nat} {E : TypeId} {g n : Nat} {vs : List Value} (h : OwnN s w B E g n vs) (j : Nat) (u : Value) : OwnN s (w.setCell ⟨g, j, none⟩ u) B E g n (vs.set j u) := (World.ownsRow.stored h j u).1
theorem OwnN.len {s : Nat} {w : World} {B : Nat} {E : TypeId} {g n : Nat} {vs : List Value} (h : OwnN s w B E g n vs) : vs.length = n * s := h.1
theorem OwnN.at {s : Nat} {P : Program} {w : World} {B : Nat} {E : TypeId} {g n : Nat} {vs : List Value} (h : OwnN s w B E g n vs) (T : TypeId) (ht : P.underlying T = some (.slice E)) (he : P.cellsOf E = s) (h0 : 0 < s) (k : Nat) (hk : k < n) (K : IntKind) :
    (∀ w', (Instr.indexAt T (.slice (some ⟨g, 0, none⟩) n n) (.int K k)).run P w' = .ok (.pointer (some ⟨g, k * s, none⟩)) w') ∧ (∀ j, j < s → ∃ x, w.cell? ⟨g, k * s + j, none⟩ = some x) ∧ ∀ j, w.frozen? ⟨g, j, none⟩ = false := by
  obtain ⟨i, hi, hs⟩ := cellsOf_sizeN he h0
  refine ⟨fun w' => ?_, fun j hj => ?_, h.frozen⟩
  · have : (⟨g, 0, none⟩ : Addr).add (k * s) = ⟨g, k * s, none⟩ := by unfold Addr.add; simp; exact fun h => h.symm
    simp [Instr.indexAt, asIntOf, run_underlying ht, sizeOf, typeInfo, hi, hs, Addr.add_lit, hk]
  · have h1 : k * s + j < n * s := by
      have := Nat.mul_le_mul_right s (show k + 1 ≤ n from hk)
      rw [Nat.add_mul] at this; omega
    rw [h.cell _ h1]
    exact ⟨_, List.getElem?_eq_getElem (by rw [h.len]; exact h1)⟩
/-- a slice of weightings, new -/
def RetWts (L : List Wt) (w : World) (e : Ending) (w' : World) : Prop := ∃ a c, e = .returned (.slice a L.length c) ∧ (∀ W : World, (∀ b, w.heap.size ≤ b → W.heap[b]? = w'.heap[b]?) → Wts W a L.length c L) ∧ Ext w w'
theorem Own.keepW {w W : World} {B : Nat} {E : TypeId} {a : Option Addr} {n c : Nat} {vs : List Value} (h : Own w B E a n c vs) (hk : ∀ b, B ≤ b → W.heap[b]? = w.heap[b]?) : Own W B E a n c vs := by
  refine ⟨h.1, ?_⟩
  rcases h.2 with h2 | ⟨g, cap, cur, hv, hb, hg, r⟩
  · exact .inl h2
  · exact .inr ⟨g, cap, cur, hv, hb, (hk g hb).trans hg, r⟩
theorem OwnN.keepB {s : Nat} {w W : World} {B : Nat} {E : TypeId} {g n : Nat} {vs : List Value} (h : OwnN s w B E g n vs) (hk : ∀ b, B ≤ b → W.heap[b]? = w.heap[b]?) : OwnN s W B E g n vs := by
  refine ⟨h.1, ?_⟩
  rcases h.2 with h2 | ⟨g', cap, cur, hv, hb, hg, r⟩
  · exact .inl h2
  · exact .inr ⟨g', cap, cur, hv, hb, (hk g' hb).trans hg, r⟩
end Go.Proofs.YtefkefmhfoedcaaDoor
