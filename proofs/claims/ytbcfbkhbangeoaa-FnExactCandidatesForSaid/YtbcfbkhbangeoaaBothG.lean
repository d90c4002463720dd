/- Walks: how many words lead two states to the end, in the program. -/
import Derived.Test.YtbcfbkhbangeoaaEnds
namespace Go.Proofs.Ytbcfbkhbangeoaa
set_option maxRecDepth 100000
open Go.RowKit

/-! ### rows that are laid from the first one upwards -/
/-- the rows up to k are laid -/
structure GridU (w : World) (B : Nat) (E1 E0 : TypeId) (g n c S k : Nat) (vs : List Value) (F : Nat → Nat → Int) (G : Nat → Nat) : Prop where
  outer : Own w B E1 (some ⟨g, 0, none⟩) n c vs
  at' : ∀ j, j < k → gv vs j = .slice (some ⟨G j, 0, none⟩) S S
  row : ∀ j, j < k → Own w B E0 (Option.some ⟨G j, 0, none⟩) S S (I (rowF F S j))
  inj : ∀ j j', j < k → j' < k → G j = G j' → j = j'
section
variable {w w' : World} {B : Nat} {E1 E0 : TypeId} {g n c S k : Nat} {vs : List Value} {F : Nat → Nat → Int} {G : Nat → Nat}
theorem GridU.ext (h : GridU w B E1 E0 g n c S k vs F G) (hx : Ext w w') : GridU w' B E1 E0 g n c S k vs F G := ⟨h.outer.ext hx, h.at', fun j h1 => (h.row j h1).ext hx, h.inj⟩
theorem GridU.ge (h : GridU w B E1 E0 g n c S k vs F G) {j : Nat} (h1 : j < k) : B ≤ G j ∧ G j < w.heap.size := (h.row j h1).lt
theorem GridU.set (h : GridU w B E1 E0 g n c S k vs F G) {i x : Nat} (hi : i < k) (hx : x < S) (v : Int) (hE : E1 ≠ E0) : GridU (w.setCell ⟨G i, x, none⟩ (.int .i64 v)) B E1 E0 g n c S k vs (upd F i x v) G := by
  refine ⟨?_, h.at', fun j h1 => ?_, h.inj⟩
  · refine Own.other h.outer _ fun g' hg => ?_
    exact own_ne_type h.outer (h.row i hi) hE g' ⟨G i, 0, none⟩ hg rfl
  · by_cases e : j = i
    · subst e
      rw [rowF_upd_same hx, ← I_set]
      exact (h.row j h1).set x _
    · rw [rowF_upd_ne e]
      refine Own.other (h.row j h1) _ fun g' hg => ?_
      simp only [Option.some.injEq] at hg
      subst hg
      exact fun he => e (h.inj j i h1 hi he)
theorem GridU.one {P : Program} (h : GridU w B E1 E0 g n c S k vs F G) (T1 T0 : TypeId) (ht1 : P.underlying T1 = some (.slice E1)) (he1 : P.cellsOf E1 = 1) (ht0 : P.underlying T0 = some (.slice E0)) (he0 : P.cellsOf E0 = 1) {i x : Nat} (hi : i < k) (hn : k ≤ n) (hx : x < S) :
    ∃ b off, GOne P T1 T0 w (some ⟨g, 0, none⟩) n c S F G (fun _ => S) i x b off := by
  obtain ⟨b, off, h1, h2⟩ := h.outer.sl.one (P := P) T1 E1 ht1 he1 (i : Int) (by omega) (by omega)
  rw [show gv vs (i : Int).toNat = .slice (some ⟨G i, 0, none⟩) S S from h.at' i hi] at h2
  obtain ⟨h3, h4, h5⟩ := (h.row i hi).at (P := P) T0 ht0 he0 x hx .i64
  have h6 : (I (rowF F S i)).getD x undef = .int .i64 (F i x) := by rw [I_getD _ _ (by rw [rowF_len]; exact hx), show (rowF F S i).getD x 0 = gi (rowF F S i) x from rfl, rowF_gi hx]
  rw [h6] at h4
  refine ⟨b, off, h1, h2, fun K w' => ?_, fun w' hxx => hxx.cell h4, fun w' hxx => ?_⟩
  · exact ((h.row i hi).at (P := P) T0 ht0 he0 x hx K).1 w'
  · exact (Below.frozen hxx (h.ge hi).2).trans h5
theorem GridU.congr {F' : Nat → Nat → Int} (h : GridU w B E1 E0 g n c S k vs F G) (he : ∀ j, j < k → ∀ y, y < S → F j y = F' j y) : GridU w B E1 E0 g n c S k vs F' G :=
  ⟨h.outer, h.at', fun j hj => by rw [← rowF_congr (he j hj)]; exact h.row j hj, h.inj⟩
/-- one row more, all 0 -/
theorem GridU.lay {w5 : World} {B' : Nat} (h : GridU w B E1 E0 g n c S k vs F G) (hx : Ext w w5)
    (hr : Own w5 B' E0 (some ⟨w.heap.size, 0, none⟩) S S (List.replicate S (.int .i64 0))) (hk : k < n) (hB : B ≤ w.heap.size) (hE : E1 ≠ E0) :
    GridU (w5.setCell ⟨g, k, none⟩ (.slice (some ⟨w.heap.size, 0, none⟩) S S)) B E1 E0 g n c S (k + 1) (vs.set k (.slice (some ⟨w.heap.size, 0, none⟩) S S)) (fun j y => if j = k then 0 else F j y) (fun j => if j = k then w.heap.size else G j) := by
  have ho5 := h.outer.ext hx
  have hl := h.outer.len
  have hrI : Own w5 B E0 (some ⟨w.heap.size, 0, none⟩) S S (I (rowF (fun j y => if j = k then 0 else F j y) S k)) := by
    rw [show rowF (fun j y => if j = k then 0 else F j y) S k = List.replicate S 0 by simp [rowF, List.map_const'], I_replicate]
    refine ⟨hr.1, ?_⟩
    rcases hr.2 with h2 | ⟨b, cap, cur, hv, _, r⟩
    · exact .inl h2
    · simp only [Value.slice.injEq, Option.some.injEq, Addr.mk.injEq, true_and, and_true] at hv
      exact .inr ⟨b, cap, cur, by simp [hv.1, hv.2], by omega, r⟩
  have nw : ∀ j, j < k → G j < w.heap.size := fun j h1 => (h.row j h1).lt.2
  refine ⟨ho5.set k _, fun j h1 => ?_, fun j h1 => ?_, fun j j' h1 h1' he => ?_⟩
  · by_cases e : j = k
    · subst e
      simp [gv, List.getD_eq_getElem?_getD, show j < vs.length by omega]
    · have h3 := h.at' j (by omega)
      simp only [gv, List.getD_eq_getElem?_getD] at h3 ⊢
      rw [List.getElem?_set_ne (fun h => e h.symm), h3, if_neg e]
  · have hne : ∀ {b : Nat} {vs' : List Value} {S' c' : Nat} {B2 : Nat}, Own w5 B2 E0 (some ⟨b, 0, none⟩) S' c' vs' → Own (w5.setCell ⟨g, k, none⟩ (.slice (some ⟨w.heap.size, 0, none⟩) S S)) B2 E0 (some ⟨b, 0, none⟩) S' c' vs' := fun ho => by
      refine ho.other _ fun g' hg' => ?_
      exact own_ne_type ho ho5 (fun h => hE h.symm) g' ⟨g, 0, none⟩ hg' rfl
    by_cases e : j = k
    · subst e; rw [if_pos rfl]; exact hne hrI
    · rw [if_neg e, rowF_congr (F' := F) (fun y _ => if_neg e)]; exact hne ((h.row j (by omega)).ext hx)
  · by_cases e : j = k <;> by_cases e' : j' = k
    · omega
    · rw [if_pos e, if_neg e'] at he; have := nw j' (by omega); omega
    · rw [if_neg e, if_pos e'] at he; have := nw j (by omega); omega
    · rw [if_neg e, if_neg e'] at he; exact h.inj j j' (by omega) (by omega) he
theorem GridU.done (h : GridU w B E1 E0 g n c S n vs F G) : Grid w B E1 E0 (some ⟨g, 0, none⟩) n c S F G (fun _ => S) := by
  have hl := h.outer.len
  have hvs : vs = (List.range n).map (slR G (fun _ => S) S) := by
    apply List.ext_getElem
    · simpa using hl
    · intro k h1 h2
      have hk : k < n := by omega
      have := h.at' k hk
      simp [gv, List.getD_eq_getElem?_getD, h1] at this
      simp [slR, this]
  exact ⟨by rw [← hvs]; exact h.outer, h.row, h.inj⟩
end

/-! ### plain -/
/-- how many words of r symbols lead two states to the end -/
def bothS (D : Ch) (n : Nat) : Nat → Int → Int → Int
  | 0, s, t => if s = D.fin ∧ t = D.fin then 1 else 0
  | r + 1, s, t => ((List.range D.base.toNat).map fun (d : Nat) => bothS D n r (nextS D ((n - (r + 1) : Nat) : Int) s d) (nextS D ((n - (r + 1) : Nat) : Int) t d)).sum
def partB (D : Ch) (n r : Nat) (s t : Int) (d : Nat) : Int := ((List.range d).map fun (e : Nat) => bothS D n r (nextS D ((n - (r + 1) : Nat) : Int) s e) (nextS D ((n - (r + 1) : Nat) : Int) t e)).sum
theorem partB_zero (D : Ch) (n r : Nat) (s t : Int) : partB D n r s t 0 = 0 := rfl
theorem partB_succ (D : Ch) (n r : Nat) (s t : Int) (d : Nat) : partB D n r s t (d + 1) = partB D n r s t d + bothS D n r (nextS D ((n - (r + 1) : Nat) : Int) s d) (nextS D ((n - (r + 1) : Nat) : Int) t d) := by
  simp [partB, List.range_succ]
theorem bothS_bd {D : Ch} (hb : 0 ≤ D.base) (n : Nat) : ∀ (r : Nat) (s t : Int), 0 ≤ bothS D n r s t ∧ bothS D n r s t ≤ D.base ^ r
  | 0, s, t => by unfold bothS; split <;> simp
  | r + 1, s, t => by
    have h : ∀ d : Nat, 0 ≤ partB D n r s t d ∧ partB D n r s t d ≤ d * D.base ^ r := by
      intro d
      induction d with
      | zero => simp [partB]
      | succ d ih =>
        have := bothS_bd hb n r (nextS D ((n - (r + 1) : Nat) : Int) s d) (nextS D ((n - (r + 1) : Nat) : Int) t d)
        rw [partB_succ, show (((d + 1 : Nat) : Int) * D.base ^ r) = (d : Int) * D.base ^ r + D.base ^ r by rw [Int.natCast_add, Int.add_mul]; simp]
        omega
    have h1 := h D.base.toNat
    rw [Int.toNat_of_nonneg hb, Int.mul_comm, ← Int.pow_succ] at h1
    exact h1
theorem partB_bd {D : Ch} (hb : 0 ≤ D.base) (n r : Nat) (s t : Int) (d : Nat) (hd : (d : Int) ≤ D.base) : 0 ≤ partB D n r s t d ∧ partB D n r s t d ≤ D.base ^ (r + 1) := by
  have h : ∀ d : Nat, 0 ≤ partB D n r s t d ∧ partB D n r s t d ≤ d * D.base ^ r := by
    intro d
    induction d with
    | zero => simp [partB]
    | succ d ih =>
      have := bothS_bd hb n r (nextS D ((n - (r + 1) : Nat) : Int) s d) (nextS D ((n - (r + 1) : Nat) : Int) t d)
      rw [partB_succ, show (((d + 1 : Nat) : Int) * D.base ^ r) = (d : Int) * D.base ^ r + D.base ^ r by rw [Int.natCast_add, Int.add_mul]; simp]
      omega
  have h1 := h d
  refine ⟨h1.1, Int.le_trans h1.2 ?_⟩
  rw [Int.pow_succ, Int.mul_comm]
  exact Int.mul_le_mul_of_nonneg_left hd (Int.pow_nonneg hb)
theorem pow_le_n {D : Ch} (hok : OkCh D) {r : Nat} (hr : r ≤ D.places.length) : D.base ^ r ≤ 1000000000000000 := by
  obtain ⟨j, hj⟩ := Nat.exists_eq_add_of_le hr
  have h := hok.pw
  have hb := hok.b2
  rw [hj, Int.pow_add] at h
  have g1 : 0 < D.base ^ r := Int.pow_pos (by omega)
  have g2 : 0 < D.base ^ j := Int.pow_pos (by omega)
  have : D.base ^ r * 1 ≤ D.base ^ r * D.base ^ j := Int.mul_le_mul_of_nonneg_left (by omega) (by omega)
  omega
/-- the rows up to x are done; there up to y, there up to d -/
structure BothTo (D : Ch) (n S r x y d : Nat) (F : Nat → Nat → Int) : Prop where
  hi : ∀ s, s < x → s < S → ∀ t, t < S → F s t = bothS D n (r + 1) s t
  lt : x < S → ∀ t, t < y → t < S → F x t = bothS D n (r + 1) x t
  at' : x < S → y < S → F x y = partB D n r x y d
  gt : x < S → ∀ t, y < t → t < S → F x t = 0
theorem BothTo.next {D : Ch} {n S r x y : Nat} {F : Nat → Nat → Int} (h : BothTo D n S r x y D.base.toNat F) : BothTo D n S r x (y + 1) 0 F :=
  ⟨h.hi, fun hx t h1 h2 => by
    rcases Nat.lt_or_ge t y with h3 | h3
    · exact h.lt hx t h3 h2
    · obtain rfl : t = y := by omega
      rw [h.at' hx h2]; rfl, fun hx hy => by rw [partB_zero]; exact h.gt hx (y + 1) (by omega) hy, fun hx t h1 h2 => h.gt hx t (by omega) h2⟩
theorem BothTo.row {D : Ch} {n S r x d : Nat} {F : Nat → Nat → Int} (h : BothTo D n S r x S d F) : ∀ s, s < x + 1 → s < S → ∀ t, t < S → F s t = bothS D n (r + 1) s t := fun s h1 h2 t h3 => by
  rcases Nat.lt_or_ge s x with h4 | h4
  · exact h.hi s h4 h2 t h3
  · obtain rfl : s = x := by omega
    exact h.lt h2 t h3 h3
theorem BothTo.step {D : Ch} {n S r x y d y1 y2 : Nat} {F F0 : Nat → Nat → Int} (hx : x < S) (hy : y < S) (h : BothTo D n S r x y d F) (h0 : F0 y1 y2 = bothS D n r y1 y2)
    (e1 : nextS D ((n - (r + 1) : Nat) : Int) x d = (y1 : Int)) (e2 : nextS D ((n - (r + 1) : Nat) : Int) y d = (y2 : Int)) : BothTo D n S r x y (d + 1) (upd F x y (F x y + F0 y1 y2)) :=
  ⟨fun s h1 h2 t h3 => by rw [upd_row (by omega)]; exact h.hi s h1 h2 t h3, fun _ t h1 h2 => by rw [upd_col (by omega)]; exact h.lt hx t h1 h2,
    fun _ _ => by rw [upd_same, partB_succ, h.at' hx hy, h0, e1, e2], fun _ t h1 h2 => by rw [upd_col (by omega)]; exact h.gt hx t h1 h2⟩

/-- the numbers for all pairs of states -/
def RetBoth (D : Ch) (r : Nat) (w : World) (e : Ending) (w' : World) : Prop :=
  ∃ a c F G C, e = .returned (.slice a D.states.toNat c) ∧ Grid w' w.heap.size 23 2 a D.states.toNat c D.states.toNat F G C ∧ (∀ s, s < D.states.toNat → ∀ t, t < D.states.toNat → F s t = bothS D D.places.length r s t) ∧ Ext w w'
end Go.Proofs.Ytbcfbkhbangeoaa
