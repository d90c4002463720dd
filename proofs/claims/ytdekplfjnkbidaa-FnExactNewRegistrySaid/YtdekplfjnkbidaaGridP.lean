/- Words for the walks: rows that are laid from the last one upwards. Conditions: none. -/
import Derived.Test.YtdekplfjnkbidaaGrid
namespace Go.Proofs.Ytdekplfjnkbidaa
set_option maxRecDepth 100000
open Go.RowKit

/-- the rows from lo on are laid -/
structure GridP (w : World) (B : Nat) (E1 E0 : TypeId) (g n c S lo : Nat) (vs : List Value) (F : Nat → Nat → Int) (G : Nat → Nat) : Prop where
  outer : Own w B E1 (some ⟨g, 0, none⟩) n c vs
  at' : ∀ j, lo ≤ j → j < n → gv vs j = .slice (some ⟨G j, 0, none⟩) S S
  row : ∀ j, lo ≤ j → j < n → Own w B E0 (Option.some ⟨G j, 0, none⟩) S S (I (rowF F S j))
  inj : ∀ j j', lo ≤ j → j < n → lo ≤ j' → j' < n → G j = G j' → j = j'
section
variable {w w' : World} {B : Nat} {E1 E0 : TypeId} {g n c S lo : Nat} {vs : List Value} {F : Nat → Nat → Int} {G : Nat → Nat}
theorem GridP.ext (h : GridP w B E1 E0 g n c S lo vs F G) (hx : Ext w w') : GridP w' B E1 E0 g n c S lo vs F G := ⟨h.outer.ext hx, h.at', fun j h1 h2 => (h.row j h1 h2).ext hx, h.inj⟩
theorem GridP.ge (h : GridP w B E1 E0 g n c S lo vs F G) {k : Nat} (h1 : lo ≤ k) (h2 : k < n) : B ≤ G k ∧ G k < w.heap.size := (h.row k h1 h2).lt
theorem GridP.set (h : GridP w B E1 E0 g n c S lo vs F G) {i x : Nat} (hl : lo ≤ i) (hi : i < n) (hx : x < S) (v : Int) (hE : E1 ≠ E0) : GridP (w.setCell ⟨G i, x, none⟩ (.int .i64 v)) B E1 E0 g n c S lo vs (upd F i x v) G := by
  refine ⟨?_, h.at', fun k h1 h2 => ?_, h.inj⟩
  · refine Own.other h.outer _ fun g' hg => ?_
    exact own_ne_type h.outer (h.row i hl hi) hE g' ⟨G i, 0, none⟩ hg rfl
  · by_cases e : k = i
    · subst e
      rw [rowF_upd_same hx, ← I_set]
      exact (h.row k h1 h2).set x _
    · rw [rowF_upd_ne e]
      refine Own.other (h.row k h1 h2) _ fun g' hg => ?_
      simp only [Option.some.injEq] at hg
      subst hg
      exact fun he => e (h.inj k i h1 h2 hl hi he)
theorem GridP.one {P : Program} (h : GridP w B E1 E0 g n c S lo vs F G) (T1 T0 : TypeId) (ht1 : P.underlying T1 = some (.slice E1)) (he1 : P.cellsOf E1 = 1) (ht0 : P.underlying T0 = some (.slice E0)) (he0 : P.cellsOf E0 = 1) {i x : Nat} (hl : lo ≤ i) (hi : i < n) (hx : x < S) :
    ∃ b off, GOne P T1 T0 w (some ⟨g, 0, none⟩) n c S F G (fun _ => S) i x b off := by
  obtain ⟨b, off, h1, h2⟩ := h.outer.sl.one (P := P) T1 E1 ht1 he1 (i : Int) (by omega) (by omega)
  rw [show gv vs (i : Int).toNat = .slice (some ⟨G i, 0, none⟩) S S from h.at' i hl hi] at h2
  obtain ⟨h3, h4, h5⟩ := (h.row i hl hi).at (P := P) T0 ht0 he0 x hx .i64
  have h6 : (I (rowF F S i)).getD x undef = .int .i64 (F i x) := by rw [I_getD _ _ (by rw [rowF_len]; exact hx), show (rowF F S i).getD x 0 = gi (rowF F S i) x from rfl, rowF_gi hx]
  rw [h6] at h4
  refine ⟨b, off, h1, h2, fun K w' => ?_, fun w' hxx => hxx.cell h4, fun w' hxx => ?_⟩
  · exact ((h.row i hl hi).at (P := P) T0 ht0 he0 x hx K).1 w'
  · exact (Below.frozen hxx (h.ge hl hi).2).trans h5
/-- one row more, all 0 -/
theorem GridP.lay {w5 : World} {B' : Nat} (h : GridP w B E1 E0 g n c S (lo + 1) vs F G) (hx : Ext w w5)
    (hr : Own w5 B' E0 (some ⟨w.heap.size, 0, none⟩) S S (List.replicate S (.int .i64 0))) (hk : lo < n) (hB : B ≤ w.heap.size) (hE : E1 ≠ E0) :
    GridP (w5.setCell ⟨g, lo, none⟩ (.slice (some ⟨w.heap.size, 0, none⟩) S S)) B E1 E0 g n c S lo (vs.set lo (.slice (some ⟨w.heap.size, 0, none⟩) S S)) (fun j y => if j = lo then 0 else F j y) (fun j => if j = lo then w.heap.size else G j) := by
  have ho5 := h.outer.ext hx
  have hl := h.outer.len
  have hrI : Own w5 B E0 (some ⟨w.heap.size, 0, none⟩) S S (I (rowF (fun j y => if j = lo then 0 else F j y) S lo)) := by
    rw [show rowF (fun j y => if j = lo then 0 else F j y) S lo = List.replicate S 0 by simp [rowF, List.map_const'], I_replicate]
    refine ⟨hr.1, ?_⟩
    rcases hr.2 with h2 | ⟨b, cap, cur, hv, _, r⟩
    · exact .inl h2
    · simp only [Value.slice.injEq, Option.some.injEq, Addr.mk.injEq, true_and, and_true] at hv
      exact .inr ⟨b, cap, cur, by simp [hv.1, hv.2], by omega, r⟩
  have nw : ∀ j, lo + 1 ≤ j → j < n → G j < w.heap.size := fun j h1 h2 => (h.row j h1 h2).lt.2
  refine ⟨ho5.set lo _, fun j h1 h2 => ?_, fun j h1 h2 => ?_, fun j j' h1 h2 h1' h2' he => ?_⟩
  · by_cases e : j = lo
    · subst e
      simp [gv, List.getD_eq_getElem?_getD, show j < vs.length by omega]
    · have h3 := h.at' j (by omega) h2
      simp only [gv, List.getD_eq_getElem?_getD] at h3 ⊢
      rw [List.getElem?_set_ne (fun h => e h.symm), h3, if_neg e]
  · have hne : ∀ {b : Nat} {vs' : List Value} {S' c' : Nat} {B2 : Nat}, Own w5 B2 E0 (some ⟨b, 0, none⟩) S' c' vs' → Own (w5.setCell ⟨g, lo, none⟩ (.slice (some ⟨w.heap.size, 0, none⟩) S S)) B2 E0 (some ⟨b, 0, none⟩) S' c' vs' := fun ho => by
      refine ho.other _ fun g' hg' => ?_
      exact own_ne_type ho ho5 (fun h => hE h.symm) g' ⟨g, 0, none⟩ hg' rfl
    by_cases e : j = lo
    · subst e; rw [if_pos rfl]; exact hne hrI
    · rw [if_neg e, rowF_congr (F' := F) (fun y _ => by rw [if_neg e])]
      exact hne ((h.row j (by omega) h2).ext hx)
  · by_cases e : j = lo <;> by_cases e' : j' = lo
    · omega
    · rw [if_pos e, if_neg e'] at he; have := nw j' (by omega) h2'; omega
    · rw [if_neg e, if_pos e'] at he; have := nw j (by omega) h2; omega
    · rw [if_neg e, if_neg e'] at he; exact h.inj j j' (by omega) h2 (by omega) h2' he
end
end Go.Proofs.Ytdekplfjnkbidaa
