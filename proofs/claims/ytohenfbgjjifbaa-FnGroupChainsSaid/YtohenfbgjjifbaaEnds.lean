/- Walks: how many ways lead from each state at each place to the end, in the program and in the reference. -/
import Derived.Test.YtohenfbgjjifbaaEnum
import Derived.Test.YtohenfbgjjifbaaGridP
namespace Go.Proofs.Ytohenfbgjjifbaa
set_option maxRecDepth 100000
open Go.RowKit

theorem GridTo.step {w w5 : World} {B B' : Nat} {E1 E0 : TypeId} {g n c S k : Nat} {vs : List Value} {G : Nat → Nat} (h : GridTo w B E1 E0 (some ⟨g, 0, none⟩) n c S k vs G) (hx : Ext w w5)
    (hr : Own w5 B' E0 (some ⟨w.heap.size, 0, none⟩) S S (List.replicate S (.int .i64 0))) (hk : k < n) (hB : B ≤ w.heap.size) (hE : E1 ≠ E0) :
    GridTo (w5.setCell ⟨g, k, none⟩ (.slice (some ⟨w.heap.size, 0, none⟩) S S)) B E1 E0 (some ⟨g, 0, none⟩) n c S (k + 1) (vs.set k (.slice (some ⟨w.heap.size, 0, none⟩) S S)) (fun j => if j = k then w.heap.size else G j) := by
  have ho5 := h.outer.ext hx
  have hl := h.outer.len
  have hrI : Own w5 B E0 (some ⟨w.heap.size, 0, none⟩) S S (I (List.replicate S 0)) := by
    rw [I_replicate]
    refine ⟨hr.1, ?_⟩
    rcases hr.2 with h2 | ⟨b, cap, cur, hv, _, r⟩
    · exact .inl h2
    · simp only [Value.slice.injEq, Option.some.injEq, Addr.mk.injEq, true_and, and_true] at hv
      exact .inr ⟨b, cap, cur, by simp [hv.1, hv.2], by omega, r⟩
  have nw : ∀ j, j < k → G j < w.heap.size := fun j hj => (h.row j hj).lt.2
  refine ⟨ho5.set k _, fun j hj => ?_, fun j hj => ?_, fun j j' hj hj' he => ?_⟩
  · by_cases e : j = k
    · subst e
      simp [gv, List.getD_eq_getElem?_getD, show j < vs.length by omega]
    · have h1 := h.at' j (by omega)
      simp only [gv, List.getD_eq_getElem?_getD] at h1 ⊢
      rw [List.getElem?_set_ne (fun h => e h.symm), h1, if_neg e]
  · have hne : ∀ {b : Nat} {vs' : List Value} {S' c' : Nat} {B2 : Nat}, Own w5 B2 E0 (some ⟨b, 0, none⟩) S' c' vs' → Own (w5.setCell ⟨g, k, none⟩ (.slice (some ⟨w.heap.size, 0, none⟩) S S)) B2 E0 (some ⟨b, 0, none⟩) S' c' vs' := fun ho => by
      refine ho.other _ fun g' hg' => ?_
      exact own_ne_type ho ho5 (fun h => hE h.symm) g' ⟨g, 0, none⟩ hg' rfl
    by_cases e : j = k
    · rw [if_pos e]; exact hne hrI
    · rw [if_neg e]; exact hne ((h.row j (by omega)).ext hx)
  · by_cases e : j = k <;> by_cases e' : j' = k
    · omega
    · rw [if_pos e, if_neg e'] at he; have := nw j' (by omega); omega
    · rw [if_neg e, if_pos e'] at he; have := nw j (by omega); omega
    · rw [if_neg e, if_neg e'] at he; exact h.inj j j' (by omega) (by omega) he
theorem GridTo.push {w w5 w6 : World} {B B' : Nat} {E1 E0 : TypeId} {a a6 : Option Addr} {c c6 S k : Nat} {vs : List Value} {G : Nat → Nat} (h : GridTo w B E1 E0 a k c S k vs G) (hx : Ext w w5)
    (hr : Own w5 B' E0 (some ⟨w.heap.size, 0, none⟩) S S (List.replicate S (.int .i64 0))) (hB : B ≤ w.heap.size) (hE : E1 ≠ E0)
    (ho6 : Own w6 B E1 a6 (k + 1) c6 (vs ++ [.slice (some ⟨w.heap.size, 0, none⟩) S S])) (hg : w5.grownBy w6 (Value.slice a k c).ownBlock) :
    GridTo w6 B E1 E0 a6 (k + 1) c6 S (k + 1) (vs ++ [.slice (some ⟨w.heap.size, 0, none⟩) S S]) (fun j => if j = k then w.heap.size else G j) := by
  have ho5 := h.outer.ext hx
  have hl := h.outer.len
  have hrI : Own w5 B E0 (some ⟨w.heap.size, 0, none⟩) S S (I (List.replicate S 0)) := by
    rw [I_replicate]
    refine ⟨hr.1, ?_⟩
    rcases hr.2 with h2 | ⟨b, cap, cur, hv, _, r⟩
    · exact .inl h2
    · simp only [Value.slice.injEq, Option.some.injEq, Addr.mk.injEq, true_and, and_true] at hv
      exact .inr ⟨b, cap, cur, by simp [hv.1, hv.2], by omega, r⟩
  have nw : ∀ j, j < k → G j < w.heap.size := fun j hj => (h.row j hj).lt.2
  refine ⟨ho6, fun j hj => ?_, fun j hj => ?_, fun j j' hj hj' he => ?_⟩
  · by_cases e : j = k
    · subst e
      rw [gv_last hl, if_pos rfl]
    · rw [gv_lt (by omega), if_neg e]; exact h.at' j (by omega)
  · by_cases e : j = k
    · rw [if_pos e]; exact hrI.grownT ho5 hg (fun h => hE h.symm)
    · rw [if_neg e]; exact ((h.row j (by omega)).ext hx).grownT ho5 hg (fun h => hE h.symm)
  · by_cases e : j = k <;> by_cases e' : j' = k
    · omega
    · rw [if_pos e, if_neg e'] at he; have := nw j' (by omega); omega
    · rw [if_neg e, if_pos e'] at he; have := nw j (by omega); omega
    · rw [if_neg e, if_neg e'] at he; exact h.inj j j' (by omega) (by omega) he

/-- the rows from i on are done, the others are 0 -/
structure RowsTo (D : Ch) (n S i : Nat) (F : Nat → Nat → Int) : Prop where
  hi : ∀ j, i ≤ j → j ≤ n → ∀ y, y < S → F j y = endsS D (n - j) j y
  lo : ∀ j, j < i → ∀ y, y < S → F j y = 0
/-- row i is done up to x, there up to d -/
structure EndsTo (D : Ch) (n S i x d : Nat) (F : Nat → Nat → Int) : Prop where
  hi : ∀ j, i < j → j ≤ n → ∀ y, y < S → F j y = endsS D (n - j) j y
  lt : ∀ y, y < x → y < S → F i y = endsS D (n - i) i y
  at' : x < S → F i x = partS D (n - i - 1) i x d
  gt : ∀ y, x < y → y < S → F i y = 0
  lo : ∀ j, j < i → ∀ y, y < S → F j y = 0
theorem RowsTo.start {D : Ch} {n S e : Nat} (he : D.fin = (e : Int)) : RowsTo D n S n (upd (fun _ _ => 0) n e 1) := by
  refine ⟨fun j h1 h2 y hy => ?_, fun j hj y hy => by rw [upd_row (by omega)]⟩
  obtain rfl : j = n := by omega
  rw [Nat.sub_self]
  unfold endsS upd
  by_cases h : y = e
  · subst h; rw [if_pos ⟨rfl, rfl⟩, if_pos he.symm]
  · rw [if_neg (fun h' => h h'.2), if_neg (by rw [he]; omega)]
theorem RowsTo.row {D : Ch} {n S i : Nat} {F : Nat → Nat → Int} (h : RowsTo D n S (i + 1) F) : EndsTo D n S i 0 0 F :=
  ⟨fun j h1 h2 => h.hi j h1 h2, fun y hy => by omega, fun hx => by rw [part_zero]; exact h.lo i (by omega) 0 hx, fun y _ hy => h.lo i (by omega) y hy, fun j hj => h.lo j (by omega)⟩
theorem EndsTo.rows {D : Ch} {n S i d : Nat} {F : Nat → Nat → Int} (h : EndsTo D n S i S d F) : RowsTo D n S i F :=
  ⟨fun j h1 h2 y hy => by
    rcases Nat.eq_or_lt_of_le h1 with rfl | h1
    · exact h.lt y hy hy
    · exact h.hi j h1 h2 y hy, h.lo⟩
theorem EndsTo.next {D : Ch} {n S i x : Nat} {F : Nat → Nat → Int} (hi : i < n) (h : EndsTo D n S i x D.base.toNat F) : EndsTo D n S i (x + 1) 0 F :=
  ⟨h.hi, fun y hy hys => by
    rcases Nat.lt_or_ge y x with h1 | h1
    · exact h.lt y h1 hys
    · obtain rfl : y = x := by omega
      rw [h.at' hys, show n - i = (n - i - 1) + 1 by omega, ends_succ]
      rfl, fun hx => by rw [part_zero]; exact h.gt (x + 1) (by omega) hx, fun y hy => h.gt y (by omega), h.lo⟩
theorem EndsTo.step {D : Ch} {n S i x d : Nat} {F : Nat → Nat → Int} {y : Nat} (hi : i < n) (hx : x < S) (hy : y < S) (hn : nextS D i x d = (y : Int)) (h : EndsTo D n S i x d F) : EndsTo D n S i x (d + 1) (upd F i x (F i x + F (i + 1) y)) :=
  ⟨fun j h1 h2 z hz => by rw [upd_row (by omega)]; exact h.hi j h1 h2 z hz, fun z hz hzs => by rw [upd_col (by omega)]; exact h.lt z hz hzs,
    fun _ => by
      rw [upd_same, part_succ, hn, h.at' hx, h.hi (i + 1) (by omega) (by omega) y hy, show n - (i + 1) = n - i - 1 by omega]
      rfl, fun z hz hzs => by rw [upd_col (by omega)]; exact h.gt z hz hzs, fun j hj z hz => by rw [upd_row (by omega)]; exact h.lo j hj z hz⟩

/-- all rows -/
def RetEnds (D : Ch) (w : World) (e : Ending) (w' : World) : Prop :=
  ∃ a c F G C, e = .returned (.slice a (D.places.length + 1) c) ∧ Grid w' w.heap.size 28 2 a (D.places.length + 1) c D.states.toNat F G C ∧ RowsTo D D.places.length D.states.toNat 0 F ∧ Ext w w'

theorem RetEnds.mk {D : Ch} {w w' : World} {a : Option Addr} {c n' S : Nat} {F : Nat → Nat → Int} {G C : Nat → Nat} (hn : D.places.length = n') (hS : D.states.toNat = S) (hg : Grid w' w.heap.size 28 2 a (n' + 1) c S F G C) (hr : RowsTo D n' S 0 F) (hx : Ext w w') :
    RetEnds D w (.returned (.slice a (n' + 1) c)) w' := by
  subst hn; subst hS; exact ⟨a, c, F, G, C, rfl, hg, hr, hx⟩
theorem und_grid : Try.prog.underlying 92 = some (.slice 28) := by kernel_rfl
theorem elem_grid : Try.prog.elem 92 = 28 := by kernel_rfl
end Go.Proofs.Ytohenfbgjjifbaa
