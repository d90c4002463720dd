/- Words for the walks: a slice of rows of the call's own, each of one length in a block of its own. Conditions: none. -/
import Derived.Test.YtccoopnoakhedaaCube
import Derived.Test.YtccoopnoakhedaaMix2
namespace Go.Proofs.Ytccoopnoakhedaa
set_option maxRecDepth 100000
open Go.RowKit

def rowF (F : Nat → Nat → Int) (S k : Nat) : List Int := (List.range S).map (F k)
theorem rowF_len (F : Nat → Nat → Int) (S k : Nat) : (rowF F S k).length = S := by simp [rowF]
theorem rowF_gi {F : Nat → Nat → Int} {S k y : Nat} (h : y < S) : gi (rowF F S k) y = F k y := by rw [gi_get (by rw [rowF_len]; exact h)]; simp [rowF]
def slR (G C : Nat → Nat) (S k : Nat) : Value := .slice (some ⟨G k, 0, none⟩) S (C k)
/-- n rows of S numbers each -/
structure Grid (w : World) (B : Nat) (E1 E0 : TypeId) (a : Option Addr) (n c S : Nat) (F : Nat → Nat → Int) (G C : Nat → Nat) : Prop where
  outer : Own w B E1 a n c ((List.range n).map (slR G C S))
  row : ∀ k, k < n → Own w B E0 (Option.some ⟨G k, 0, none⟩) S (C k) (I (rowF F S k))
  inj : ∀ j k, j < n → k < n → G j = G k → j = k
def upd (F : Nat → Nat → Int) (i x : Nat) (v : Int) : Nat → Nat → Int := fun j y => if j = i ∧ y = x then v else F j y
theorem upd_same (F : Nat → Nat → Int) (i x : Nat) (v : Int) : upd F i x v i x = v := by simp [upd]
theorem upd_row {F : Nat → Nat → Int} {i x j y : Nat} {v : Int} (h : j ≠ i) : upd F i x v j y = F j y := by simp [upd, h]
theorem upd_col {F : Nat → Nat → Int} {i x j y : Nat} {v : Int} (h : y ≠ x) : upd F i x v j y = F j y := by simp [upd, h]
theorem rowF_upd_same {F : Nat → Nat → Int} {S i x : Nat} {v : Int} (_h : x < S) : rowF (upd F i x v) S i = (rowF F S i).set x v := by
  apply List.ext_getElem
  · simp [rowF]
  · intro k h1 h2
    simp only [rowF, List.getElem_map, List.getElem_range, List.getElem_set]
    by_cases e : x = k
    · subst e; simp [upd]
    · rw [if_neg e, upd_col (fun h => e h.symm)]
theorem rowF_upd_ne {F : Nat → Nat → Int} {S i x k : Nat} {v : Int} (h : k ≠ i) : rowF (upd F i x v) S k = rowF F S k := by
  unfold rowF; apply List.map_congr_left; intro y _; exact upd_row h
theorem rowF_congr {F F' : Nat → Nat → Int} {S k : Nat} (h : ∀ y, y < S → F k y = F' k y) : rowF F S k = rowF F' S k := by
  unfold rowF; apply List.map_congr_left; intro y hy; exact h y (List.mem_range.1 hy)
section
variable {w w' : World} {B : Nat} {E1 E0 : TypeId} {a : Option Addr} {n c S : Nat} {F : Nat → Nat → Int} {G C : Nat → Nat}
theorem Grid.ext (h : Grid w B E1 E0 a n c S F G C) (hx : Ext w w') : Grid w' B E1 E0 a n c S F G C := ⟨h.outer.ext hx, fun k hk => (h.row k hk).ext hx, h.inj⟩
theorem Grid.mono {B' : Nat} (h : Grid w B E1 E0 a n c S F G C) (hB : B' ≤ B) : Grid w B' E1 E0 a n c S F G C := ⟨h.outer.mono hB, fun k hk => (h.row k hk).mono hB, h.inj⟩
theorem Grid.set (h : Grid w B E1 E0 a n c S F G C) {i x : Nat} (hi : i < n) (hx : x < S) (v : Int) (hE : E1 ≠ E0) : Grid (w.setCell ⟨G i, x, none⟩ (.int .i64 v)) B E1 E0 a n c S (upd F i x v) G C := by
  refine ⟨?_, fun k hk => ?_, h.inj⟩
  · refine Own.other h.outer _ fun g hg => ?_
    exact own_ne_type h.outer (h.row i hi) hE g ⟨G i, 0, none⟩ hg rfl
  · by_cases e : k = i
    · subst e
      rw [rowF_upd_same hx, ← I_set]
      exact (h.row k hk).set x _
    · rw [rowF_upd_ne e]
      refine Own.other (h.row k hk) _ fun g hg => ?_
      simp only [Option.some.injEq] at hg
      subst hg
      exact fun he => e (h.inj k i hk hi he)
theorem Grid.congr {F' : Nat → Nat → Int} (h : Grid w B E1 E0 a n c S F G C) (he : ∀ k, k < n → ∀ y, y < S → F k y = F' k y) : Grid w B E1 E0 a n c S F' G C :=
  ⟨h.outer, fun k hk => by rw [← rowF_congr (he k hk)]; exact h.row k hk, h.inj⟩
theorem Grid.ge (h : Grid w B E1 E0 a n c S F G C) {k : Nat} (hk : k < n) : B ≤ G k ∧ G k < w.heap.size := (h.row k hk).lt
/-- where one number lies -/
structure GOne (P : Program) (T1 T0 : TypeId) (w : World) (a : Option Addr) (n c S : Nat) (F : Nat → Nat → Int) (G C : Nat → Nat) (i x : Nat) (b off : Nat) : Prop where
  ix1 : ∀ (K : IntKind) (w' : World), (Instr.indexAt T1 (.slice a n c) (.int K i)).run P w' = .ok (.pointer (some ⟨b, off, none⟩)) w'
  cell1 : ∀ w', Ext w w' → w'.cell? ⟨b, off, none⟩ = some (.slice (some ⟨G i, 0, none⟩) S (C i))
  ix0 : ∀ (K : IntKind) (w' : World), (Instr.indexAt T0 (.slice (some ⟨G i, 0, none⟩) S (C i)) (.int K x)).run P w' = .ok (.pointer (some ⟨G i, x, none⟩)) w'
  cell0 : ∀ w', Ext w w' → w'.cell? ⟨G i, x, none⟩ = some (.int .i64 (F i x))
  fr : ∀ w', Ext w w' → w'.frozen? ⟨G i, x, none⟩ = false
theorem Grid.one {P : Program} (h : Grid w B E1 E0 a n c S F G C) (T1 T0 : TypeId) (ht1 : P.underlying T1 = some (.slice E1)) (he1 : P.cellsOf E1 = 1) (ht0 : P.underlying T0 = some (.slice E0)) (he0 : P.cellsOf E0 = 1) {i x : Nat} (hi : i < n) (hx : x < S) :
    ∃ b off, GOne P T1 T0 w a n c S F G C i x b off := by
  obtain ⟨b, off, h1, h2⟩ := h.outer.sl.one (P := P) T1 E1 ht1 he1 (i : Int) (by omega) (by omega)
  rw [show gv ((List.range n).map (slR G C S)) (i : Int).toNat = .slice (some ⟨G i, 0, none⟩) S (C i) by simp [gv, hi, slR]] at h2
  obtain ⟨h3, h4, h5⟩ := (h.row i hi).at (P := P) T0 ht0 he0 x hx .i64
  have h6 : (I (rowF F S i)).getD x undef = .int .i64 (F i x) := by rw [I_getD _ _ (by rw [rowF_len]; exact hx), show (rowF F S i).getD x 0 = gi (rowF F S i) x from rfl, rowF_gi hx]
  rw [h6] at h4
  refine ⟨b, off, h1, h2, fun K w' => ?_, fun w' hxx => hxx.cell h4, fun w' hxx => ?_⟩
  · exact ((h.row i hi).at (P := P) T0 ht0 he0 x hx K).1 w'
  · exact (Below.frozen hxx (h.ge hi).2).trans h5
end
/-! ### laying it out -/
/-- the first k rows are laid, all 0; the slice holds vs -/
structure GridTo (w : World) (B : Nat) (E1 E0 : TypeId) (a : Option Addr) (n c S k : Nat) (vs : List Value) (G : Nat → Nat) : Prop where
  outer : Own w B E1 a n c vs
  at' : ∀ j, j < k → gv vs j = .slice (some ⟨G j, 0, none⟩) S S
  row : ∀ j, j < k → Own w B E0 (Option.some ⟨G j, 0, none⟩) S S (I (List.replicate S 0))
  inj : ∀ j j', j < k → j' < k → G j = G j' → j = j'
theorem GridTo.done {w : World} {B : Nat} {E1 E0 : TypeId} {a : Option Addr} {n c S : Nat} {vs : List Value} {G : Nat → Nat} (h : GridTo w B E1 E0 a n c S n vs G) : Grid w B E1 E0 a n c S (fun _ _ => 0) G (fun _ => S) := by
  have hl := h.outer.len
  have hvs : vs = (List.range n).map (slR G (fun _ => S) S) := by
    apply List.ext_getElem
    · simpa using hl
    · intro k h1 h2
      have hk : k < n := by omega
      have := h.at' k hk
      simp [gv, List.getD_eq_getElem?_getD, h1] at this
      simp [slR, this]
  refine ⟨by rw [← hvs]; exact h.outer, fun k hk => ?_, h.inj⟩
  have := h.row k hk
  rwa [show rowF (fun _ _ => 0) S k = List.replicate S 0 by simp [rowF, List.map_const']]
end Go.Proofs.Ytccoopnoakhedaa

/- Words for the walks: rows that are laid from the last one upwards. Conditions: none. -/
namespace Go.Proofs.Ytccoopnoakhedaa
set_option maxRecDepth 100000
open Go.RowKit

/-- the rows from lo on are laid -/
structure GridP (w : World) (B : Nat) (E1 E0 : TypeId) (g n c S lo : Nat) (vs : List Value) (F : Nat → Nat → Int) (G : Nat → Nat) : Prop where
  outer : Own w B E1 (some ⟨g, 0, none⟩) n c vs
  at' : ∀ j, lo ≤ j → j < n → gv vs j = .slice (some ⟨G j, 0, none⟩) S S
  row : ∀ j, lo ≤ j → j < n → Own w B E0 (Option.some ⟨G j, 0, none⟩) S S (I (rowF F S j))
  inj : ∀ j j', lo ≤ j → j < n → lo ≤ j' → j' < n → G j = G j' → j = j'
section
variable {w w' : World} {B : Nat} {E1 E0 : TypeId} {g n c S lo : Nat} {vs : List Value} {F : Nat → Nat → Int} {G : Nat → Nat}
theorem GridP.ext (h : GridP w B E1 E0 g n c S lo vs F G) (hx : Ext w w') : GridP w' B E1 E0 g n c S lo vs F G := ⟨h.outer.ext hx, h.at', fun j h1 h2 => (h.row j h1 h2).ext hx, h.inj⟩
theorem GridP.ge (h : GridP w B E1 E0 g n c S lo vs F G) {k : Nat} (h1 : lo ≤ k) (h2 : k < n) : B ≤ G k ∧ G k < w.heap.size := (h.row k h1 h2).lt
theorem GridP.set (h : GridP w B E1 E0 g n c S lo vs F G) {i x : Nat} (hl : lo ≤ i) (hi : i < n) (hx : x < S) (v : Int) (hE : E1 ≠ E0) : GridP (w.setCell ⟨G i, x, none⟩ (.int .i64 v)) B E1 E0 g n c S lo vs (upd F i x v) G := by
  refine ⟨?_, h.at', fun k h1 h2 => ?_, h.inj⟩
  · refine Own.other h.outer _ fun g' hg => ?_
    exact own_ne_type h.outer (h.row i hl hi) hE g' ⟨G i, 0, none⟩ hg rfl
  · by_cases e : k = i
    · subst e
      rw [rowF_upd_same hx, ← I_set]
      exact (h.row k h1 h2).set x _
    · rw [rowF_upd_ne e]
      refine Own.other (h.row k h1 h2) _ fun g' hg => ?_
      simp only [Option.some.injEq] at hg
      subst hg
      exact fun he => e (h.inj k i h1 h2 hl hi he)
theorem GridP.one {P : Program} (h : GridP w B E1 E0 g n c S lo vs F G) (T1 T0 : TypeId) (ht1 : P.underlying T1 = some (.slice E1)) (he1 : P.cellsOf E1 = 1) (ht0 : P.underlying T0 = some (.slice E0)) (he0 : P.cellsOf E0 = 1) {i x : Nat} (hl : lo ≤ i) (hi : i < n) (hx : x < S) :
    ∃ b off, GOne P T1 T0 w (some ⟨g, 0, none⟩) n c S F G (fun _ => S) i x b off := by
  obtain ⟨b, off, h1, h2⟩ := h.outer.sl.one (P := P) T1 E1 ht1 he1 (i : Int) (by omega) (by omega)
  rw [show gv vs (i : Int).toNat = .slice (some ⟨G i, 0, none⟩) S S from h.at' i hl hi] at h2
  obtain ⟨h3, h4, h5⟩ := (h.row i hl hi).at (P := P) T0 ht0 he0 x hx .i64
  have h6 : (I (rowF F S i)).getD x undef = .int .i64 (F i x) := by rw [I_getD _ _ (by rw [rowF_len]; exact hx), show (rowF F S i).getD x 0 = gi (rowF F S i) x from rfl, rowF_gi hx]
  rw [h6] at h4
  refine ⟨b, off, h1, h2, fun K w' => ?_, fun w' hxx => hxx.cell h4, fun w' hxx => ?_⟩
  · exact ((h.row i hl hi).at (P := P) T0 ht0 he0 x hx K).1 w'
  · exact (Below.frozen hxx (h.ge hl hi).2).trans h5
/-- one row more, all 0 -/
theorem GridP.lay {w5 : World} {B' : Nat} (h : GridP w B E1 E0 g n c S (lo + 1) vs F G) (hx : Ext w w5)
    (hr : Own w5 B' E0 (some ⟨w.heap.size, 0, none⟩) S S (List.replicate S (.int .i64 0))) (hk : lo < n) (hB : B ≤ w.heap.size) (hE : E1 ≠ E0) :
    GridP (w5.setCell ⟨g, lo, none⟩ (.slice (some ⟨w.heap.size, 0, none⟩) S S)) B E1 E0 g n c S lo (vs.set lo (.slice (some ⟨w.heap.size, 0, none⟩) S S)) (fun j y => if j = lo then 0 else F j y) (fun j => if j = lo then w.heap.size else G j) := by
  have ho5 := h.outer.ext hx
  have hl := h.outer.len
  have hrI : Own w5 B E0 (some ⟨w.heap.size, 0, none⟩) S S (I (rowF (fun j y => if j = lo then 0 else F j y) S lo)) := by
    rw [show rowF (fun j y => if j = lo then 0 else F j y) S lo = List.replicate S 0 by simp [rowF, List.map_const'], I_replicate]
    refine ⟨hr.1, ?_⟩
    rcases hr.2 with h2 | ⟨b, cap, cur, hv, _, r⟩
    · exact .inl h2
    · simp only [Value.slice.injEq, Option.some.injEq, Addr.mk.injEq, true_and, and_true] at hv
      exact .inr ⟨b, cap, cur, by simp [hv.1, hv.2], by omega, r⟩
  have nw : ∀ j, lo + 1 ≤ j → j < n → G j < w.heap.size := fun j h1 h2 => (h.row j h1 h2).lt.2
  refine ⟨ho5.set lo _, fun j h1 h2 => ?_, fun j h1 h2 => ?_, fun j j' h1 h2 h1' h2' he => ?_⟩
  · by_cases e : j = lo
    · subst e
      simp [gv, List.getD_eq_getElem?_getD, show j < vs.length by omega]
    · have h3 := h.at' j (by omega) h2
      simp only [gv, List.getD_eq_getElem?_getD] at h3 ⊢
      rw [List.getElem?_set_ne (fun h => e h.symm), h3, if_neg e]
  · have hne : ∀ {b : Nat} {vs' : List Value} {S' c' : Nat} {B2 : Nat}, Own w5 B2 E0 (some ⟨b, 0, none⟩) S' c' vs' → Own (w5.setCell ⟨g, lo, none⟩ (.slice (some ⟨w.heap.size, 0, none⟩) S S)) B2 E0 (some ⟨b, 0, none⟩) S' c' vs' := fun ho => by
      refine ho.other _ fun g' hg' => ?_
      exact own_ne_type ho ho5 (fun h => hE h.symm) g' ⟨g, 0, none⟩ hg' rfl
    by_cases e : j = lo
    · subst e; rw [if_pos rfl]; exact hne hrI
    · rw [if_neg e, rowF_congr (F' := F) (fun y _ => by rw [if_neg e])]
      exact hne ((h.row j (by omega) h2).ext hx)
  · by_cases e : j = lo <;> by_cases e' : j' = lo
    · omega
    · rw [if_pos e, if_neg e'] at he; have := nw j' (by omega) h2'; omega
    · rw [if_neg e, if_pos e'] at he; have := nw j (by omega) h2; omega
    · rw [if_neg e, if_neg e'] at he; exact h.inj j j' (by omega) h2 (by omega) h2' he
end
end Go.Proofs.Ytccoopnoakhedaa
