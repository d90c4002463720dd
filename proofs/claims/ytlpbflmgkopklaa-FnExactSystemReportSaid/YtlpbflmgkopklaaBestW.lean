/- Walks: the search of best weights in the program. -/
import Derived.Test.YtlpbflmgkopklaaClone
import Derived.Test.YtlpbflmgkopklaaShare
namespace Go.Proofs.Ytlpbflmgkopklaa
set_option maxRecDepth 100000
open Go.RowKit

/-- one list more: the first with the least score, this score, how many have it -/
def bnext (s : Option (List Int) × Int × Int) (z : Int) (l : List Int) : Option (List Int) × Int × Int :=
  match s.1 with
  | none => (some l, z, 1)
  | some b => if z < s.2.1 then (some l, z, 1) else if z = s.2.1 then (some b, s.2.1, s.2.2 + 1) else (some b, s.2.1, s.2.2)
/-- the best of the first t lists -/
def bst (f : Nat → Int) (tp : Nat → List Int) : Nat → Option (List Int) × Int × Int
  | 0 => (none, 0, 0)
  | t + 1 => bnext (bst f tp t) (f t) (tp t)
theorem bnext_bd {s : Option (List Int) × Int × Int} {z c : Int} {l : List Int} {n : Nat} (hz : 0 ≤ z ∧ z ≤ c) (h : 0 ≤ s.2.1 ∧ s.2.1 ≤ c ∧ 0 ≤ s.2.2 ∧ s.2.2 ≤ n) : 0 ≤ (bnext s z l).2.1 ∧ (bnext s z l).2.1 ≤ c ∧ 0 ≤ (bnext s z l).2.2 ∧ (bnext s z l).2.2 ≤ (n + 1 : Nat) := by
  unfold bnext
  split
  · simp only; omega
  · split
    · simp only; omega
    · split <;> simp only <;> omega
theorem bst_bd {f : Nat → Int} {tp : Nat → List Int} {c : Int} (h : ∀ t, 0 ≤ f t ∧ f t ≤ c) (t : Nat) : 0 ≤ (bst f tp t).2.1 ∧ (bst f tp t).2.1 ≤ c ∧ 0 ≤ (bst f tp t).2.2 ∧ (bst f tp t).2.2 ≤ t := by
  have h0 := h 0
  induction t with
  | zero => simp [bst]; omega
  | succ t ih => exact bnext_bd (h t) ih

def BestIs (wr : World) (g : Nat) (o : Option (List Int)) (sa : Option Addr) (sn sc : Nat) : Prop :=
  match o with
  | none => sa = none ∧ sn = 0 ∧ sc = 0
  | some l => sa ≠ none ∧ sn = l.length ∧ Own wr (g + 1) 2 sa sn sc (I l)

structure BInv (w : World) (p0 p1 p2 q0 q1 q2 g : Nat) (base modulus : Int) (a : Option Addr) (c : Nat) (s : Option (List Int) × Int × Int) (wr : World) : Prop where
  ext : Ext w wr
  cb : wr.cell? ⟨p0, 0, none⟩ = some (.int .i64 base)
  cm : wr.cell? ⟨p1, 0, none⟩ = some (.int .i64 modulus)
  cc : wr.cell? ⟨p2, 0, none⟩ = some (.slice a 6 c)
  best : ∃ sa sn sc, wr.cell? ⟨q0, 0, none⟩ = some (.slice sa sn sc) ∧ BestIs wr g s.1 sa sn sc
  least : wr.cell? ⟨q1, 0, none⟩ = some (.int .i64 s.2.1)
  many : wr.cell? ⟨q2, 0, none⟩ = some (.int .i64 s.2.2)
  f0 : wr.frozen? ⟨q0, 0, none⟩ = false
  f1 : wr.frozen? ⟨q1, 0, none⟩ = false
  f2 : wr.frozen? ⟨q2, 0, none⟩ = false

theorem Touch.cell {g : Nat} {w w' : World} (h : Touch g w w') {p : Addr} {v : Value} (hp : w.cell? p = some v) (hg : p.block ≠ g) : w'.cell? p = some v :=
  (World.cell?_of_block (w := w) (h.block p.block (World.block_lt_of_cell? _ _ hp) hg)).trans hp
theorem Touch.frozen {g : Nat} {w w' : World} (h : Touch g w w') {p : Addr} (hp : p.block < w.heap.size) (hg : p.block ≠ g) : w'.frozen? p = w.frozen? p :=
  World.frozen?_of_block (w := w) (h.block p.block hp hg)
theorem Own.touch {w w' : World} {B : Nat} {E : TypeId} {a : Option Addr} {n c g : Nat} {vs : List Value} (h : Own w B E a n c vs) (ht : Touch g w w') (hB : g < B) : Own w' B E a n c vs := by
  refine ⟨h.1, ?_⟩
  rcases h.2 with h2 | ⟨g', cap, cur, hv, hB', hg, r⟩
  · exact .inl h2
  · exact .inr ⟨g', cap, cur, hv, hB', by rw [ht.block g' (Array.getElem?_eq_some_iff.1 hg).1 (by omega)]; exact hg, r⟩
theorem BestIs.touch {wr wr' : World} {g : Nat} {o : Option (List Int)} {sa : Option Addr} {sn sc : Nat} (h : BestIs wr g o sa sn sc) (ht : Touch g wr wr') : BestIs wr' g o sa sn sc := by
  cases o with
  | none => exact h
  | some l => exact ⟨h.1, h.2.1, h.2.2.touch ht (by omega)⟩
theorem BestIs.ext {wr wr' : World} {g : Nat} {o : Option (List Int)} {sa : Option Addr} {sn sc : Nat} (h : BestIs wr g o sa sn sc) (ht : Ext wr wr') : BestIs wr' g o sa sn sc := by
  cases o with
  | none => exact h
  | some l => exact ⟨h.1, h.2.1, h.2.2.ext ht⟩
theorem BestIs.set {wr : World} {g : Nat} {o : Option (List Int)} {sa : Option Addr} {sn sc : Nat} (h : BestIs wr g o sa sn sc) {p : Addr} (hp : p.block < g + 1) (u : Value) : BestIs (wr.setCell p u) g o sa sn sc := by
  cases o with
  | none => exact h
  | some l => exact ⟨h.1, h.2.1, h.2.2.setBelow hp u⟩

theorem BInv.touch {w : World} {p0 p1 p2 q0 q1 q2 g : Nat} {base modulus : Int} {a : Option Addr} {c : Nat} {s : Option (List Int) × Int × Int} {wr wr' : World} (h : BInv w p0 p1 p2 q0 q1 q2 g base modulus a c s wr) (ht : Touch g wr wr')
    (hw : w.heap.size ≤ g) (h0 : p0 ≠ g) (h1 : p1 ≠ g) (h2 : p2 ≠ g) (k0 : q0 ≠ g) (k1 : q1 ≠ g) (k2 : q2 ≠ g) : BInv w p0 p1 p2 q0 q1 q2 g base modulus a c s wr' := by
  obtain ⟨sa, sn, sc, hb, hbi⟩ := h.best
  refine ⟨?_, ht.cell h.cb h0, ht.cell h.cm h1, ht.cell h.cc h2, ⟨sa, sn, sc, ht.cell hb k0, hbi.touch ht⟩, ht.cell h.least k1, ht.cell h.many k2, ?_, ?_, ?_⟩
  · exact ⟨ht.os.trans h.ext.os, ht.tape.trans h.ext.tape, ht.output.trans h.ext.output, Nat.le_trans h.ext.size ht.size, fun k hk => (ht.block k (Nat.lt_of_lt_of_le hk h.ext.size) (by omega)).trans (h.ext.block k hk)⟩
  · rw [ht.frozen (World.block_lt_of_cell? _ _ hb) k0]; exact h.f0
  · rw [ht.frozen (World.block_lt_of_cell? _ _ h.least) k1]; exact h.f1
  · rw [ht.frozen (World.block_lt_of_cell? _ _ h.many) k2]; exact h.f2

theorem cell_other {w : World} {q b : Nat} {u v : Value} (h : w.cell? ⟨b, 0, none⟩ = some v) (hne : b ≠ q) : (w.setCell ⟨q, 0, none⟩ u).cell? ⟨b, 0, none⟩ = some v :=
  (World.cell?_of_block (w := w) (Below.heap_setCell _ _ _ _ hne)).trans h
theorem cell_same {w : World} {q : Nat} {u v : Value} (h : w.cell? ⟨q, 0, none⟩ = some v) : (w.setCell ⟨q, 0, none⟩ u).cell? ⟨q, 0, none⟩ = some u :=
  World.cell?_setCell_same _ _ _ h
theorem BInv.store {w : World} {p0 p1 p2 q0 q1 q2 g : Nat} {base modulus : Int} {a : Option Addr} {c : Nat} {s : Option (List Int) × Int × Int} {wr w2 : World} (hi : BInv w p0 p1 p2 q0 q1 q2 g base modulus a c s wr) (hx : Ext wr w2)
    (hw : w.heap.size ≤ q0 ∧ w.heap.size ≤ q1 ∧ w.heap.size ≤ q2) (hq : q0 < g ∧ q1 < g ∧ q2 < g) (hqq : q0 ≠ q1 ∧ q0 ≠ q2 ∧ q1 ≠ q2) (hp : p0 ≠ q0 ∧ p0 ≠ q1 ∧ p0 ≠ q2 ∧ p1 ≠ q0 ∧ p1 ≠ q1 ∧ p1 ≠ q2 ∧ p2 ≠ q0 ∧ p2 ≠ q1 ∧ p2 ≠ q2)
    (hg : g < wr.heap.size) (o : Option (List Int)) (sa : Option Addr) (sn sc : Nat) (z m : Int) (hb : BestIs w2 g o sa sn sc) :
    BInv w p0 p1 p2 q0 q1 q2 g base modulus a c (o, z, m) (((w2.setCell ⟨q0, 0, none⟩ (.slice sa sn sc)).setCell ⟨q1, 0, none⟩ (.int .i64 z)).setCell ⟨q2, 0, none⟩ (.int .i64 m)) ∧
      (((w2.setCell ⟨q0, 0, none⟩ (.slice sa sn sc)).setCell ⟨q1, 0, none⟩ (.int .i64 z)).setCell ⟨q2, 0, none⟩ (.int .i64 m)).heap[g]? = wr.heap[g]? := by
  obtain ⟨q01, q02, q12⟩ := hqq
  obtain ⟨p00, p01, p02, p10, p11, p12, p20, p21, p22⟩ := hp
  obtain ⟨h1, c0, c1, c2, ⟨sa0, sn0, sc0, d0, _⟩, d1, d2, f0, f1, f2⟩ := hi
  have fz : ∀ q v, wr.cell? ⟨q, 0, none⟩ = some v → wr.frozen? ⟨q, 0, none⟩ = false → w2.frozen? ⟨q, 0, none⟩ = false := fun q v hv hf => by
    rw [Below.frozen hx (p := ⟨q, 0, none⟩) (World.block_lt_of_cell? wr _ hv)]; exact hf
  refine ⟨⟨?_, cell_other (cell_other (cell_other (hx.cell c0) p00) p01) p02, cell_other (cell_other (cell_other (hx.cell c1) p10) p11) p12, cell_other (cell_other (cell_other (hx.cell c2) p20) p21) p22,
    ⟨sa, sn, sc, cell_other (cell_other (cell_same (hx.cell d0)) q01) q02, ?_⟩, cell_other (cell_same (cell_other (hx.cell d1) (Ne.symm q01))) q12, cell_same (cell_other (cell_other (hx.cell d2) (Ne.symm q02)) (Ne.symm q12)), ?_, ?_, ?_⟩, ?_⟩
  · exact (((h1.trans hx).setCell hw.1 _).setCell hw.2.1 _).setCell hw.2.2 _
  · exact ((hb.set (by show q0 < g + 1; omega) _).set (by show q1 < g + 1; omega) _).set (by show q2 < g + 1; omega) _
  · rw [World.frozen?_setCell, World.frozen?_setCell, World.frozen?_setCell]; exact fz _ _ d0 f0
  · rw [World.frozen?_setCell, World.frozen?_setCell, World.frozen?_setCell]; exact fz _ _ d1 f1
  · rw [World.frozen?_setCell, World.frozen?_setCell, World.frozen?_setCell]; exact fz _ _ d2 f2
  · rw [Below.heap_setCell _ _ _ _ (by show g ≠ q2; omega), Below.heap_setCell _ _ _ _ (by show g ≠ q1; omega), Below.heap_setCell _ _ _ _ (by show g ≠ q0; omega)]
    exact hx.block g hg
theorem BInv.keep {w : World} {p0 p1 p2 q0 q1 q2 g : Nat} {base modulus : Int} {a : Option Addr} {c : Nat} {s : Option (List Int) × Int × Int} {wr w2 : World} (hi : BInv w p0 p1 p2 q0 q1 q2 g base modulus a c s wr) (hx : Ext wr w2) : BInv w p0 p1 p2 q0 q1 q2 g base modulus a c s w2 := by
  obtain ⟨h1, c0, c1, c2, ⟨sa0, sn0, sc0, d0, hb⟩, d1, d2, f0, f1, f2⟩ := hi
  have fz : ∀ q v, wr.cell? ⟨q, 0, none⟩ = some v → wr.frozen? ⟨q, 0, none⟩ = false → w2.frozen? ⟨q, 0, none⟩ = false := fun q v hv hf => by
    rw [Below.frozen hx (p := ⟨q, 0, none⟩) (World.block_lt_of_cell? wr _ hv)]; exact hf
  exact ⟨h1.trans hx, hx.cell c0, hx.cell c1, hx.cell c2, ⟨sa0, sn0, sc0, hx.cell d0, hb.ext hx⟩, hx.cell d1, hx.cell d2, fz _ _ d0 f0, fz _ _ d1 f1, fz _ _ d2 f2⟩
theorem BInv.count {w : World} {p0 p1 p2 q0 q1 q2 g : Nat} {base modulus : Int} {a : Option Addr} {c : Nat} {o : Option (List Int)} {z m m' : Int} {wr : World} (hi : BInv w p0 p1 p2 q0 q1 q2 g base modulus a c (o, z, m) wr)
    (hw : w.heap.size ≤ q2) (hq : q2 < g) (hqq : q0 ≠ q2 ∧ q1 ≠ q2) (hp : p0 ≠ q2 ∧ p1 ≠ q2 ∧ p2 ≠ q2) :
    BInv w p0 p1 p2 q0 q1 q2 g base modulus a c (o, z, m') (wr.setCell ⟨q2, 0, none⟩ (.int .i64 m')) := by
  obtain ⟨h1, c0, c1, c2, ⟨sa0, sn0, sc0, d0, hb⟩, d1, d2, f0, f1, f2⟩ := hi
  refine ⟨h1.setCell hw _, cell_other c0 hp.1, cell_other c1 hp.2.1, cell_other c2 hp.2.2, ⟨sa0, sn0, sc0, cell_other d0 hqq.1, hb.set (by show q2 < g + 1; omega) _⟩, cell_other d1 hqq.2, cell_same d2, ?_, ?_, ?_⟩
  · rw [World.frozen?_setCell]; exact f0
  · rw [World.frozen?_setCell]; exact f1
  · rw [World.frozen?_setCell]; exact f2

def BPost (w : World) (p0 p1 p2 q0 q1 q2 g : Nat) (base modulus : Int) (a : Option Addr) (c : Nat) (s : Option (List Int) × Int × Int) (wr : World) (e : Ending) (w' : World) : Prop :=
  e = .returned (.bool true) ∧ BInv w p0 p1 p2 q0 q1 q2 g base modulus a c s w' ∧ w'.heap[g]? = wr.heap[g]?

set_option maxHeartbeats 2000000 in
theorem best1 (w : World) (p0 p1 p2 q0 q1 q2 g n : Nat) (base modulus : Int) (a : Option Addr) (c : Nat) (costs l : List Int) (s : Option (List Int) × Int × Int) (wr : World)
    (hi : BInv w p0 p1 p2 q0 q1 q2 g base modulus a c s wr) (ho : Own wr g 2 (some ⟨g, 0, none⟩) n n (I l)) (hc : Ints w a 6 c costs) (hcb : Costs costs) (hg : Good ⟨base, modulus, 0, l⟩)
    (hw : w.heap.size ≤ q0 ∧ w.heap.size ≤ q1 ∧ w.heap.size ≤ q2) (hq : q0 < g ∧ q1 < g ∧ q2 < g) (hqq : q0 ≠ q1 ∧ q0 ≠ q2 ∧ q1 ≠ q2) (hp : p0 ≠ q0 ∧ p0 ≠ q1 ∧ p0 ≠ q2 ∧ p1 ≠ q0 ∧ p1 ≠ q1 ∧ p1 ≠ q2 ∧ p2 ≠ q0 ∧ p2 ≠ q1 ∧ p2 ≠ q2)
    (hs : 0 ≤ s.2.2 ∧ s.2.2 ≤ 1000000) :
    Calls Try.prog 88 (#[.slice (some ⟨g, 0, none⟩) n n] ++ #[.pointer (some ⟨p0, 0, none⟩), .pointer (some ⟨p1, 0, none⟩), .pointer (some ⟨p2, 0, none⟩), .pointer (some ⟨q0, 0, none⟩), .pointer (some ⟨q1, 0, none⟩), .pointer (some ⟨q2, 0, none⟩)]) wr
      (BPost w p0 p1 p2 q0 q1 q2 g base modulus a c (bnext s (scoreF ⟨base, modulus, 0, l⟩ costs) l) wr) := by
  have qT : ∀ (w : World) a n c, (binOp .eql 22 (.slice a n c) (.slice none 0 0)).run Try.prog w = .ok (.bool a.isNone) w := fun w a n c => Lib.run_eql_slice_nil w 22 2 a n c 0 0 und_int64s
  obtain ⟨o, least, many⟩ := s
  have HI := Lib.hid hi
  have HO := Lib.hid ho
  have HC := Lib.hid hc
  have hgs := ho.lt.2
  have hln := ho.ints.len
  have HLN := Lib.hid hln
  have hn20 : n ≤ 20 := by have := hg.l20; simp only at this; omega
  obtain ⟨hx, c0, c1, c2, ⟨sa, sn, sc, d0, hbi⟩, d1, d2, f0, f1, f2⟩ := hi
  simp only at hbi d1 d2 hs
  have l0 : p0 < wr.heap.size := World.block_lt_of_cell? wr _ c0
  have l1 : p1 < wr.heap.size := World.block_lt_of_cell? wr _ c1
  have l2 : p2 < wr.heap.size := World.block_lt_of_cell? wr _ c2
  have k0 : q0 < wr.heap.size := World.block_lt_of_cell? wr _ d0
  have k1 : q1 < wr.heap.size := World.block_lt_of_cell? wr _ d1
  have k2 : q2 < wr.heap.size := World.block_lt_of_cell? wr _ d2
  have HX := Lib.hid hx
  have HBI := Lib.hid hbi
  have HBox := Lib.hid (isWt_box wr base modulus 0 l (some ⟨g, 0, none⟩) n n 34 ho.ints)
  have HSc := Lib.hid (fun w' h h' => impl_score wr.heap.size ⟨base, modulus, 0, l⟩ (some ⟨g, 0, none⟩) a n n c costs w' h h' hcb hg)
  generalize scoreF ⟨base, modulus, 0, l⟩ costs = z at *
  clear hx ho hc hcb hg hln
  obtain ⟨q01, q02, q12⟩ := hqq
  obtain ⟨p00, p01, p02, p10, p11, p12, p20, p21, p22⟩ := hp
  obtain ⟨q0g, q1g, q2g⟩ := hq
  -- the first list, or a better one
  have better : (bnext (o, least, many) z l = (some l, z, 1)) → (sa.isNone = true ∨ (sa.isNone = false ∧ z < least)) → Calls Try.prog 88 (#[.slice (some ⟨g, 0, none⟩) n n] ++ #[.pointer (some ⟨p0, 0, none⟩), .pointer (some ⟨p1, 0, none⟩), .pointer (some ⟨p2, 0, none⟩), .pointer (some ⟨q0, 0, none⟩), .pointer (some ⟨q1, 0, none⟩), .pointer (some ⟨q2, 0, none⟩)]) wr
      (BPost w p0 p1 p2 q0 q1 q2 g base modulus a c (some l, z, 1) wr) := by
    intro _ hway
    have go : ∀ w2, Ext wr w2 → ∀ (a2 : Option Addr) (x2 : Nat), a2 ≠ none → Own w2 (wr.heap.size + 1) 2 a2 n x2 (I l) →
        BPost w p0 p1 p2 q0 q1 q2 g base modulus a c (some l, z, 1) wr (.returned (.bool true)) (((w2.setCell ⟨q0, 0, none⟩ (.slice a2 n x2)).setCell ⟨q1, 0, none⟩ (.int .i64 z)).setCell ⟨q2, 0, none⟩ (.int .i64 1)) := by
      intro w2 hx2 a2 x2 hn2 ho2
      have := HI.out.store hx2 hw ⟨q0g, q1g, q2g⟩ ⟨q01, q02, q12⟩ ⟨p00, p01, p02, p10, p11, p12, p20, p21, p22⟩ hgs (some l) a2 n x2 z 1 ⟨hn2, HLN.out.symm, ho2.mono (by omega)⟩
      exact ⟨rfl, this.1, this.2⟩
    have GO := Lib.hid go
    clear go
    rcases hway with hnn | ⟨hnn, hlt⟩
    all_goals
      go_enter Try.func88, Try.ntmps88
      go_wp2_with (go_at_call 89; refine (HSc.out _ (HBox.out.ext (by repeat (first | (with_reducible exact Ext.refl _) | (with_reducible refine Ext.drewN ?_ _) | (with_reducible refine Ext.drew ?_) | (with_reducible refine Ext.alloc ?_ _) | ((with_reducible refine Ext.setCell ?_ ?_ _); rotate_left; focus (first | (simp; done) | (simp; omega) | omega))))) (HC.out.ext (by repeat (first | (with_reducible exact Ext.refl _) | (with_reducible refine Ext.drewN ?_ _) | (with_reducible refine Ext.drew ?_) | (with_reducible refine Ext.alloc ?_ _) | ((with_reducible refine Ext.setCell ?_ ?_ _); rotate_left; focus (first | (simp; done) | (simp; omega) | omega)) | (with_reducible refine Ext.trans ?_ HX.out))))).mono ?_; rintro e w' ⟨rfl, m2, rfl⟩)
      refine (clone_ints (some ⟨g, 0, none⟩) n n l _ (HO.out.ints.ext (by repeat (first | (with_reducible exact Ext.refl _) | (with_reducible refine Ext.drewN ?_ _) | (with_reducible refine Ext.drew ?_) | (with_reducible refine Ext.alloc ?_ _) | ((with_reducible refine Ext.setCell ?_ ?_ _); rotate_left; focus (first | (simp; done) | (simp; omega) | omega))))) (by omega)).mono ?_
      rintro e w3 ⟨a2, x2, rfl, ho2, hx3, hn2⟩
      have hE : Ext wr w3 := Ext.trans (by repeat (first | (with_reducible exact Ext.refl _) | (with_reducible refine Ext.drewN ?_ _) | (with_reducible refine Ext.drew ?_) | (with_reducible refine Ext.alloc ?_ _) | ((with_reducible refine Ext.setCell ?_ ?_ _); rotate_left; focus (first | (simp; done) | (simp; omega) | omega)))) hx3
      rw [I_len, HLN.out] at ho2 ⊢
      have HO2 := Lib.hid (ho2.mono (B' := wr.heap.size + 1) (by simp))
      have HE := Lib.hid hE
      have HN2 := Lib.hid (show a2 ≠ none from fun h => by have := hn2.1 h; cases this)
      have e0 := hE.cell d0
      have e1 := hE.cell d1
      have e2 := hE.cell d2
      have g0 := (Below.frozen hE (p := ⟨q0, 0, none⟩) k0).trans f0
      have g1 := (Below.frozen hE (p := ⟨q1, 0, none⟩) k1).trans f1
      have g2 := (Below.frozen hE (p := ⟨q2, 0, none⟩) k2).trans f2
      clear ho2 hx3 hE hn2
      go_wp2
      go_ret
      exact GO.out w3 HE.out a2 x2 HN2.out HO2.out
  have BT := Lib.hid better
  clear better
  cases o with
  | none => exact BT.out rfl (.inl (by rw [HBI.out.1]; rfl))
  | some b =>
    have hnn : sa.isNone = false := by have := HBI.out.1; cases sa <;> simp_all
    have hs1 : sa.isSome = true := by cases sa <;> simp_all
    by_cases hlt : z < least
    · have e : bnext (some b, least, many) z l = (some l, z, 1) := by simp [bnext, hlt]
      rw [e]; exact BT.out e (.inr ⟨hnn, hlt⟩)
    · by_cases heq : z = least
      · have e : bnext (some b, least, many) z l = (some b, least, many + 1) := by simp [bnext, heq]
        rw [e]
        subst heq
        clear BT
        go_enter Try.func88, Try.ntmps88
        go_wp2_with (go_at_call 89; refine (HSc.out _ (HBox.out.ext (by repeat (first | (with_reducible exact Ext.refl _) | (with_reducible refine Ext.drewN ?_ _) | (with_reducible refine Ext.drew ?_) | (with_reducible refine Ext.alloc ?_ _) | ((with_reducible refine Ext.setCell ?_ ?_ _); rotate_left; focus (first | (simp; done) | (simp; omega) | omega))))) (HC.out.ext (by repeat (first | (with_reducible exact Ext.refl _) | (with_reducible refine Ext.drewN ?_ _) | (with_reducible refine Ext.drew ?_) | (with_reducible refine Ext.alloc ?_ _) | ((with_reducible refine Ext.setCell ?_ ?_ _); rotate_left; focus (first | (simp; done) | (simp; omega) | omega)) | (with_reducible refine Ext.trans ?_ HX.out))))).mono ?_; rintro e w' ⟨rfl, m2, rfl⟩)
        go_ret
        refine ⟨rfl, (HI.out.keep (by repeat (first | (with_reducible exact Ext.refl _) | (with_reducible refine Ext.drewN ?_ _) | (with_reducible refine Ext.drew ?_) | (with_reducible refine Ext.alloc ?_ _) | ((with_reducible refine Ext.setCell ?_ ?_ _); rotate_left; focus (first | (simp; done) | (simp; omega) | omega))))).count hw.2.2 q2g ⟨q02, q12⟩ ⟨p02, p12, p22⟩, ?_⟩
        rw [Below.heap_setCell _ _ _ _ (by show g ≠ q2; omega)]
        exact ((by repeat (first | (with_reducible exact Ext.refl _) | (with_reducible refine Ext.drewN ?_ _) | (with_reducible refine Ext.drew ?_) | (with_reducible refine Ext.alloc ?_ _) | ((with_reducible refine Ext.setCell ?_ ?_ _); rotate_left; focus (first | (simp; done) | (simp; omega) | omega)))) : Ext wr _).block g hgs
      · have e : bnext (some b, least, many) z l = (some b, least, many) := by simp [bnext, hlt, heq]
        rw [e]
        clear BT
        have hb1 : (z == least) = false := by simpa using heq
        go_enter Try.func88, Try.ntmps88
        go_wp2_with (go_at_call 89; refine (HSc.out _ (HBox.out.ext (by repeat (first | (with_reducible exact Ext.refl _) | (with_reducible refine Ext.drewN ?_ _) | (with_reducible refine Ext.drew ?_) | (with_reducible refine Ext.alloc ?_ _) | ((with_reducible refine Ext.setCell ?_ ?_ _); rotate_left; focus (first | (simp; done) | (simp; omega) | omega))))) (HC.out.ext (by repeat (first | (with_reducible exact Ext.refl _) | (with_reducible refine Ext.drewN ?_ _) | (with_reducible refine Ext.drew ?_) | (with_reducible refine Ext.alloc ?_ _) | ((with_reducible refine Ext.setCell ?_ ?_ _); rotate_left; focus (first | (simp; done) | (simp; omega) | omega)) | (with_reducible refine Ext.trans ?_ HX.out))))).mono ?_; rintro e w' ⟨rfl, m2, rfl⟩)
        go_ret
        exact ⟨rfl, HI.out.keep (by repeat (first | (with_reducible exact Ext.refl _) | (with_reducible refine Ext.drewN ?_ _) | (with_reducible refine Ext.drew ?_) | (with_reducible refine Ext.alloc ?_ _) | ((with_reducible refine Ext.setCell ?_ ?_ _); rotate_left; focus (first | (simp; done) | (simp; omega) | omega)))), ((by repeat (first | (with_reducible exact Ext.refl _) | (with_reducible refine Ext.drewN ?_ _) | (with_reducible refine Ext.drew ?_) | (with_reducible refine Ext.alloc ?_ _) | ((with_reducible refine Ext.setCell ?_ ?_ _); rotate_left; focus (first | (simp; done) | (simp; omega) | omega)))) : Ext wr _).block g hgs⟩

def bestF (base modulus places : Int) (costs : List Int) : Option (List Int) × Int × Int :=
  bst (fun t => scoreF ⟨base, modulus, 0, tupAt modulus.toNat places.toNat t⟩ costs) (tupAt modulus.toNat places.toNat) (modulus.toNat ^ places.toNat)
def bestOk (base modulus places : Int) (costs : List Int) : Bool := searchB base modulus places && costsB costs

theorem good_tup {base : Int} {m n t : Nat} (hb : 2 ≤ base ∧ base ≤ 36) (hm : 2 ≤ m ∧ m ≤ 36) (hn : 1 ≤ n ∧ n ≤ 20) (ht : t < m ^ n) : Good ⟨base, m, 0, tupAt m n t⟩ :=
  ⟨by simp only [tupAt_len]; omega, by simp only [tupAt_len]; omega, fun x hx => by have := tupAt_bd (by omega) ht x hx; omega, by simp only; omega, by simp only; omega, hb.1, hb.2⟩

theorem bst_bd' {f : Nat → Int} {tp : Nat → List Int} {c : Int} {N : Nat} (hc : 0 ≤ c) (h : ∀ t, t < N → 0 ≤ f t ∧ f t ≤ c) (t : Nat) (ht : t ≤ N) : 0 ≤ (bst f tp t).2.1 ∧ (bst f tp t).2.1 ≤ c ∧ 0 ≤ (bst f tp t).2.2 ∧ (bst f tp t).2.2 ≤ t := by
  induction t with
  | zero => simp [bst]; omega
  | succ t ih => exact bnext_bd (h t (by omega)) (ih (by omega))

/-- best weights, their score, how many have it -/
def RetBest (base modulus places : Int) (costs : List Int) (w : World) (e : Ending) (w' : World) : Prop :=
  Ext w w' ∧ if bestOk base modulus places costs = true then
    ∃ sa sn sc l, e = .returned (.tuple #[.slice sa sn sc, .int .i64 (bestF base modulus places costs).2.1, .int .i64 (bestF base modulus places costs).2.2, .bool true]) ∧ (bestF base modulus places costs).1 = some l ∧ sn = l.length ∧ Own w' w.heap.size 2 sa sn sc (I l)
    else e = .returned (.tuple #[.slice none 0 0, .int .i64 0, .int .i64 0, .bool false])

set_option maxHeartbeats 2000000 in
theorem impl_bestWeights (base modulus places : Int) (a : Option Addr) (n c : Nat) (costs : List Int) (w : World) (hc : Ints w a n c costs) :
    Calls Try.prog 64 #[.int .i64 base, .int .i64 modulus, .int .i64 places, .slice a n c] w (RetBest base modulus places costs w) := by
  have HS := Lib.hid (impl_searchOk base modulus places)
  have HL := Lib.hid hc.len
  have HC := Lib.hid hc
  clear hc
  cases hs : searchB base modulus places
  · rw [hs] at HS
    have HR := Lib.hid (show bestOk base modulus places costs = false by simp [bestOk, hs])
    clear hs
    go_enter Try.func64, Try.ntmps64
    go_wp2_with (refine (HS.out _).mono ?_; rintro e w' ⟨rfl, rfl⟩)
    refine bodyPost_ret (v := .tuple #[.slice none 0 0, .int .i64 0, .int .i64 0, .bool false]) (by simp [results, Try.results64, go_sem]) rfl ⟨(by repeat (first | (with_reducible exact Ext.refl _) | (with_reducible refine Ext.drewN ?_ _) | (with_reducible refine Ext.drew ?_) | (with_reducible refine Ext.alloc ?_ _) | ((with_reducible refine Ext.setCell ?_ ?_ _); rotate_left; focus (first | (simp; done) | (simp; omega) | omega)))), ?_⟩
    rw [if_neg (by rw [HR.out]; simp)]
  rw [hs] at HS
  have HIC := Lib.hid (implIsCosts a n c costs)
  cases hcb : costsB costs
  · rw [hcb] at HIC
    have HR := Lib.hid (show bestOk base modulus places costs = false by simp [bestOk, hcb])
    clear hs hcb
    go_enter Try.func64, Try.ntmps64
    go_wp2_with (first | ((with_reducible refine (HS.out _).mono ?_); rintro e w' ⟨rfl, rfl⟩) | (go_at_call 87; refine (HIC.out _ (HC.out.ext (by repeat (first | (with_reducible exact Ext.refl _) | (with_reducible refine Ext.drewN ?_ _) | (with_reducible refine Ext.drew ?_) | (with_reducible refine Ext.alloc ?_ _) | ((with_reducible refine Ext.setCell ?_ ?_ _); rotate_left; focus (first | (simp; done) | (simp; omega) | omega)))))).mono ?_; rintro e w2 ⟨rfl, hx2⟩))
    refine bodyPost_ret (v := .tuple #[.slice none 0 0, .int .i64 0, .int .i64 0, .bool false]) (by simp [results, Try.results64, go_sem]) rfl ⟨(by repeat (first | (with_reducible exact Ext.refl _) | (with_reducible refine Ext.drewN ?_ _) | (with_reducible refine Ext.drew ?_) | (with_reducible refine Ext.alloc ?_ _) | ((with_reducible refine Ext.setCell ?_ ?_ _); rotate_left; focus (first | (simp; done) | (simp; omega) | omega)) | (with_reducible refine Ext.trans ?_ hx2))), ?_⟩
    rw [if_neg (by rw [HR.out]; simp)]
  rw [hcb] at HIC
  have HR := Lib.hid (show bestOk base modulus places costs = true by simp [bestOk, hcb, hs])
  have HCB := Lib.hid (costsB_costs hcb)
  have h6 : n = 6 := by rw [← HL.out]; exact HCB.out.len
  subst h6
  unfold searchB at hs
  simp only [Bool.and_eq_true, decide_eq_true_eq] at hs
  obtain ⟨⟨⟨⟨s1, s2⟩, s3⟩, s4⟩, s5⟩ := hs
  obtain ⟨p1, p2⟩ := inB_t.1 s1
  obtain ⟨m1, m2⟩ := inB_t.1 s2
  obtain ⟨b1, b2⟩ := baseB_t s3
  obtain ⟨np, rfl⟩ := Int.eq_ofNat_of_zero_le (show 0 ≤ places by omega)
  obtain ⟨m, rfl⟩ := Int.eq_ofNat_of_zero_le (show 0 ≤ modulus by omega)
  have h2 : m ^ np ≤ 20000 := by rw [Int.toNat_natCast] at s5; exact Int.ofNat_le.1 (by rw [Int.natCast_pow]; exact s5)
  have H2 := Lib.hid h2
  clear s1 s2 s3 s4 s5 h2 hcb
  go_enter Try.func64, Try.ntmps64
  go_wp2_with (first | ((with_reducible refine (HS.out _).mono ?_); rintro e w' ⟨rfl, rfl⟩) | (go_at_call 87; refine (HIC.out _ (HC.out.ext (by repeat (first | (with_reducible exact Ext.refl _) | (with_reducible refine Ext.drewN ?_ _) | (with_reducible refine Ext.drew ?_) | (with_reducible refine Ext.alloc ?_ _) | ((with_reducible refine Ext.setCell ?_ ?_ _); rotate_left; focus (first | (simp; done) | (simp; omega) | omega)))))).mono ?_; rintro e w2 ⟨rfl, hx2⟩; have e0 : w2.cell? ⟨w.heap.size, 0, none⟩ = some (.int .i64 base) := hx2.cell (by go_simp); have e1 : w2.cell? ⟨w.heap.size + 1, 0, none⟩ = some (.int .i64 m) := hx2.cell (by go_simp); have e2 : w2.cell? ⟨w.heap.size + 1 + 1, 0, none⟩ = some (.slice a 6 c) := hx2.cell (by go_simp); have ez : w.heap.size + 1 + 1 < w2.heap.size := (by have := hx2.le; simp at this; omega); have ez1 : w.heap.size + 1 < w2.heap.size := (by omega); have ez0 : w.heap.size < w2.heap.size := (by omega)))
  obtain ⟨W3, hW3⟩ : ∃ W, W = ((w2.alloc (.cells #[.slice none 0 0] 22)).alloc (.cells #[.int .i64 0] 2)).alloc (.cells #[.int .i64 0] 2) := ⟨_, rfl⟩
  rw [← hW3]
  have hz3 : W3.heap.size = w2.heap.size + 3 := by rw [hW3]; simp
  have hx3 : Ext w W3 := by rw [hW3]; exact (by repeat (first | (with_reducible exact Ext.refl _) | (with_reducible refine Ext.drewN ?_ _) | (with_reducible refine Ext.drew ?_) | (with_reducible refine Ext.alloc ?_ _) | ((with_reducible refine Ext.setCell ?_ ?_ _); rotate_left; focus (first | (simp; done) | (simp; omega) | omega)) | (with_reducible refine Ext.trans ?_ hx2)))
  have h0 : BInv w w.heap.size (w.heap.size + 1) (w.heap.size + 1 + 1) w2.heap.size (w2.heap.size + 1) (w2.heap.size + 1 + 1) W3.heap.size base m a c (none, 0, 0) W3 := by
    have hx23 : Ext w2 W3 := by rw [hW3]; exact (by repeat (first | (with_reducible exact Ext.refl _) | (with_reducible refine Ext.drewN ?_ _) | (with_reducible refine Ext.drew ?_) | (with_reducible refine Ext.alloc ?_ _) | ((with_reducible refine Ext.setCell ?_ ?_ _); rotate_left; focus (first | (simp; done) | (simp; omega) | omega))))
    refine ⟨hx3, hx23.cell e0, hx23.cell e1, hx23.cell e2, ⟨none, 0, 0, ?_, rfl, rfl, rfl⟩, ?_, ?_, ?_, ?_, ?_⟩
    all_goals (rw [hW3]; go_simp)
  have HZ3 := Lib.hid hz3
  have HX3 := Lib.hid hx3
  have H0 := Lib.hid h0
  clear hz3 hx3 h0 hW3 e0 e1 e2 hx2
  have hG : ∀ t, t < m ^ np → Good ⟨base, m, 0, tupAt m np t⟩ := fun t ht => good_tup ⟨b1, b2⟩ ⟨by omega, by omega⟩ ⟨by omega, by omega⟩ ht
  have hBd : ∀ t, t < m ^ np → 0 ≤ scoreF ⟨base, m, 0, tupAt m np t⟩ costs ∧ scoreF ⟨base, m, 0, tupAt m np t⟩ costs ≤ 311040000 := fun t ht => by
    have h1 := S_bd (n := (tupAt m np t).length) (f := shareF ⟨base, m, 0, tupAt m np t⟩ costs) (c := 15552000) fun i _ => shareF_bd (hG t ht) HCB.out i
    have h2 := tupAt_len m np t
    unfold scoreF
    simp only
    rw [h2] at h1 ⊢
    omega
  have HG := Lib.hid hG
  have HBd := Lib.hid hBd
  clear hG hBd
  refine (impl_tuples m np 88 _ (fun t wr => BInv w w.heap.size (w.heap.size + 1) (w.heap.size + 1 + 1) w2.heap.size (w2.heap.size + 1) (w2.heap.size + 1 + 1) W3.heap.size base m a c (bst (fun t => scoreF ⟨base, m, 0, tupAt m np t⟩ costs) (tupAt m np) t) wr) (fun _ => False) W3 (by omega) (by omega) (by omega) (fun _ _ => rfl) ?_ ?_ ?_).mono ?_
  · intro wr ht
    have hz := HZ3.out
    exact H0.out.touch ht (by omega) (by omega) (by omega) (by omega) (by omega) (by omega) (by omega)
  · intro t wr wr' hi ht
    have hz := HZ3.out
    exact hi.touch ht (by omega) (by omega) (by omega) (by omega) (by omega) (by omega) (by omega)
  · intro t wr ht hi ho
    have hz := HZ3.out
    have hbd := bst_bd' (f := fun t => scoreF ⟨base, m, 0, tupAt m np t⟩ costs) (tp := tupAt m np) (c := 311040000) (N := m ^ np) (by omega) HBd.out t (by omega)
    have h2 := H2.out
    refine (best1 w _ _ _ _ _ _ W3.heap.size np base m a c costs (tupAt m np t) _ wr hi ho HC.out HCB.out (HG.out t ht) (by omega) (by omega) (by omega) (by omega) (by omega)).mono ?_
    rintro e w' ⟨rfl, h1, h2⟩
    exact .inl ⟨rfl, h1, h2⟩
  · rintro e w4 ⟨rfl, hf | hf⟩
    · obtain ⟨hx4, _, _, _, ⟨sa, sn, sc, d0, hbi⟩, d1, d2, _, _, _⟩ := hf
      have HX4 := Lib.hid hx4
      have hR2 : bestF base m np costs = bst (fun t => scoreF ⟨base, m, 0, tupAt m np t⟩ costs) (tupAt m np) (m ^ np) := by simp only [bestF, Int.toNat_natCast]
      rw [← hR2] at hbi d1 d2
      have HBI := Lib.hid hbi
      have HR2 := Lib.hid hR2
      clear hx4 hbi hR2
      obtain ⟨fb, fl, fm, hfq⟩ : ∃ fb fl fm, bestF base m np costs = (fb, fl, fm) := ⟨_, _, _, rfl⟩
      rw [hfq] at HBI d1 d2
      have HFQ := Lib.hid hfq
      clear hfq
      simp only at d1 d2
      go_wp2
      go_quiet (fail)
      go_wp2
      refine bodyPost_ret (v := .tuple #[.slice sa sn sc, .int .i64 fl, .int .i64 fm, .bool true]) (by simp [results, Try.results64, go_sem]) rfl ⟨(by repeat (first | (with_reducible exact Ext.refl _) | (with_reducible refine Ext.drewN ?_ _) | (with_reducible refine Ext.drew ?_) | (with_reducible refine Ext.alloc ?_ _) | ((with_reducible refine Ext.setCell ?_ ?_ _); rotate_left; focus (first | (simp; done) | (simp; omega) | omega)) | (with_reducible refine Ext.trans ?_ HX4.out))), ?_⟩
      rw [if_pos HR.out, HFQ.out]
      obtain ⟨l, hl⟩ : ∃ l, fb = some l := by
        have h1 : fb = (bestF base m np costs).1 := by rw [HFQ.out]
        have hp : 0 < m ^ np := Nat.pow_pos (by omega)
        obtain ⟨t, ht⟩ : ∃ t, m ^ np = t + 1 := ⟨m ^ np - 1, by omega⟩
        rw [h1, HR2.out, ht, bst]
        unfold bnext
        split
        · exact ⟨_, rfl⟩
        · split
          · exact ⟨_, rfl⟩
          · split <;> exact ⟨_, rfl⟩
      have hb := HBI.out
      rw [hl] at hb
      have hz := HZ3.out
      exact ⟨sa, sn, sc, l, rfl, hl, hb.2.1, (hb.2.2.mono (by omega)).ext (by repeat (first | (with_reducible exact Ext.refl _) | (with_reducible refine Ext.drewN ?_ _) | (with_reducible refine Ext.drew ?_) | (with_reducible refine Ext.alloc ?_ _) | ((with_reducible refine Ext.setCell ?_ ?_ _); rotate_left; focus (first | (simp; done) | (simp; omega) | omega))))⟩
    · exact hf.elim
end Go.Proofs.Ytlpbflmgkopklaa
