/- Words for the walks: a slice of rows of the call's own, each of one length in a block of its own. Conditions: none. -/
import Derived.Test.YtdekplfjnkbidaaCube
import Derived.Test.YtdekplfjnkbidaaMix3
namespace Go.Proofs.Ytdekplfjnkbidaa
set_option maxRecDepth 100000
open Go.RowKit

def rowF (F : Nat → Nat → Int) (S k : Nat) : List Int := (List.range S).map (F k)
theorem rowF_len (F : Nat → Nat → Int) (S k : Nat) : (rowF F S k).length = S := by simp [rowF]
theorem rowF_gi {F : Nat → Nat → Int} {S k y : Nat} (h : y < S) : gi (rowF F S k) y = F k y := by rw [gi_get (by rw [rowF_len]; exact h)]; simp [rowF]
def slR (G C : Nat → Nat) (S k : Nat) : Value := .slice (some ⟨G k, 0, none⟩) S (C k)
/-- n rows of S numbers each -/
structure Grid (w : World) (B : Nat) (E1 E0 : TypeId) (a : Option Addr) (n c S : Nat) (F : Nat → Nat → Int) (G C : Nat → Nat) : Prop where
  outer : Own w B E1 a n c ((List.range n).map (slR G C S))
  row : ∀ k, k < n → Own w B E0 (Option.some ⟨G k, 0, none⟩) S (C k) (I (rowF F S k))
  inj : ∀ j k, j < n → k < n → G j = G k → j = k
def upd (F : Nat → Nat → Int) (i x : Nat) (v : Int) : Nat → Nat → Int := fun j y => if j = i ∧ y = x then v else F j y
theorem upd_same (F : Nat → Nat → Int) (i x : Nat) (v : Int) : upd F i x v i x = v := by simp [upd]
theorem upd_row {F : Nat → Nat → Int} {i x j y : Nat} {v : Int} (h : j ≠ i) : upd F i x v j y = F j y := by simp [upd, h]
theorem upd_col {F : Nat → Nat → Int} {i x j y : Nat} {v : Int} (h : y ≠ x) : upd F i x v j y = F j y := by simp [upd, h]
theorem rowF_upd_same {F : Nat → Nat → Int} {S i x : Nat} {v : Int} (_h : x < S) : rowF (upd F i x v) S i = (rowF F S i).set x v := by
  apply List.ext_getElem
  · simp [rowF]
  · intro k h1 h2
    simp only [rowF, List.getElem_map, List.getElem_range, List.getElem_set]
    by_cases e : x = k
    · subst e; simp [upd]
    · rw [if_neg e, upd_col (fun h => e h.symm)]
theorem rowF_upd_ne {F : Nat → Nat → Int} {S i x k : Nat} {v : Int} (h : k ≠ i) : rowF (upd F i x v) S k = rowF F S k := by
  unfold rowF; apply List.map_congr_left; intro y _; exact upd_row h
theorem rowF_congr {F F' : Nat → Nat → Int} {S k : Nat} (h : ∀ y, y < S → F k y = F' k y) : rowF F S k = rowF F' S k := by
  unfold rowF; apply List.map_congr_left; intro y hy; exact h y (List.mem_range.1 hy)
section
variable {w w' : World} {B : Nat} {E1 E0 : TypeId} {a : Option Addr} {n c S : Nat} {F : Nat → Nat → Int} {G C : Nat → Nat}
theorem Grid.ext (h : Grid w B E1 E0 a n c S F G C) (hx : Ext w w') : Grid w' B E1 E0 a n c S F G C := ⟨h.outer.ext hx, fun k hk => (h.row k hk).ext hx, h.inj⟩
theorem Grid.mono {B' : Nat} (h : Grid w B E1 E0 a n c S F G C) (hB : B' ≤ B) : Grid w B' E1 E0 a n c S F G C := ⟨h.outer.mono hB, fun k hk => (h.row k hk).mono hB, h.inj⟩
theorem Grid.set (h : Grid w B E1 E0 a n c S F G C) {i x : Nat} (hi : i < n) (hx : x < S) (v : Int) (hE : E1 ≠ E0) : Grid (w.setCell ⟨G i, x, none⟩ (.int .i64 v)) B E1 E0 a n c S (upd F i x v) G C := by
  refine ⟨?_, fun k hk => ?_, h.inj⟩
  · refine Own.other h.outer _ fun g hg => ?_
    exact own_ne_type h.outer (h.row i hi) hE g ⟨G i, 0, none⟩ hg rfl
  · by_cases e : k = i
    · subst e
      rw [rowF_upd_same hx, ← I_set]
      exact (h.row k hk).set x _
    · rw [rowF_upd_ne e]
      refine Own.other (h.row k hk) _ fun g hg => ?_
      simp only [Option.some.injEq] at hg
      subst hg
      exact fun he => e (h.inj k i hk hi he)
theorem Grid.congr {F' : Nat → Nat → Int} (h : Grid w B E1 E0 a n c S F G C) (he : ∀ k, k < n → ∀ y, y < S → F k y = F' k y) : Grid w B E1 E0 a n c S F' G C :=
  ⟨h.outer, fun k hk => by rw [← rowF_congr (he k hk)]; exact h.row k hk, h.inj⟩
theorem Grid.ge (h : Grid w B E1 E0 a n c S F G C) {k : Nat} (hk : k < n) : B ≤ G k ∧ G k < w.heap.size := (h.row k hk).lt
/-- where one number lies -/
structure GOne (P : Program) (T1 T0 : TypeId) (w : World) (a : Option Addr) (n c S : Nat) (F : Nat → Nat → Int) (G C : Nat → Nat) (i x : Nat) (b off : Nat) : Prop where
  ix1 : ∀ (K : IntKind) (w' : World), (Instr.indexAt T1 (.slice a n c) (.int K i)).run P w' = .ok (.pointer (some ⟨b, off, none⟩)) w'
  cell1 : ∀ w', Ext w w' → w'.cell? ⟨b, off, none⟩ = some (.slice (some ⟨G i, 0, none⟩) S (C i))
  ix0 : ∀ (K : IntKind) (w' : World), (Instr.indexAt T0 (.slice (some ⟨G i, 0, none⟩) S (C i)) (.int K x)).run P w' = .ok (.pointer (some ⟨G i, x, none⟩)) w'
  cell0 : ∀ w', Ext w w' → w'.cell? ⟨G i, x, none⟩ = some (.int .i64 (F i x))
  fr : ∀ w', Ext w w' → w'.frozen? ⟨G i, x, none⟩ = false
theorem Grid.one {P : Program} (h : Grid w B E1 E0 a n c S F G C) (T1 T0 : TypeId) (ht1 : P.underlying T1 = some (.slice E1)) (he1 : P.cellsOf E1 = 1) (ht0 : P.underlying T0 = some (.slice E0)) (he0 : P.cellsOf E0 = 1) {i x : Nat} (hi : i < n) (hx : x < S) :
    ∃ b off, GOne P T1 T0 w a n c S F G C i x b off := by
  obtain ⟨b, off, h1, h2⟩ := h.outer.sl.one (P := P) T1 E1 ht1 he1 (i : Int) (by omega) (by omega)
  rw [show gv ((List.range n).map (slR G C S)) (i : Int).toNat = .slice (some ⟨G i, 0, none⟩) S (C i) by simp [gv, hi, slR]] at h2
  obtain ⟨h3, h4, h5⟩ := (h.row i hi).at (P := P) T0 ht0 he0 x hx .i64
  have h6 : (I (rowF F S i)).getD x undef = .int .i64 (F i x) := by rw [I_getD _ _ (by rw [rowF_len]; exact hx), show (rowF F S i).getD x 0 = gi (rowF F S i) x from rfl, rowF_gi hx]
  rw [h6] at h4
  refine ⟨b, off, h1, h2, fun K w' => ?_, fun w' hxx => hxx.cell h4, fun w' hxx => ?_⟩
  · exact ((h.row i hi).at (P := P) T0 ht0 he0 x hx K).1 w'
  · exact (Below.frozen hxx (h.ge hi).2).trans h5
end
/-! ### laying it out -/
/-- the first k rows are laid, all 0; the slice holds vs -/
structure GridTo (w : World) (B : Nat) (E1 E0 : TypeId) (a : Option Addr) (n c S k : Nat) (vs : List Value) (G : Nat → Nat) : Prop where
  outer : Own w B E1 a n c vs
  at' : ∀ j, j < k → gv vs j = .slice (some ⟨G j, 0, none⟩) S S
  row : ∀ j, j < k → Own w B E0 (Option.some ⟨G j, 0, none⟩) S S (I (List.replicate S 0))
  inj : ∀ j j', j < k → j' < k → G j = G j' → j = j'
theorem GridTo.done {w : World} {B : Nat} {E1 E0 : TypeId} {a : Option Addr} {n c S : Nat} {vs : List Value} {G : Nat → Nat} (h : GridTo w B E1 E0 a n c S n vs G) : Grid w B E1 E0 a n c S (fun _ _ => 0) G (fun _ => S) := by
  have hl := h.outer.len
  have hvs : vs = (List.range n).map (slR G (fun _ => S) S) := by
    apply List.ext_getElem
    · simpa using hl
    · intro k h1 h2
      have hk : k < n := by omega
      have := h.at' k hk
      simp [gv, List.getD_eq_getElem?_getD, h1] at this
      simp [slR, this]
  refine ⟨by rw [← hvs]; exact h.outer, fun k hk => ?_, h.inj⟩
  have := h.row k hk
  rwa [show rowF (fun _ _ => 0) S k = List.replicate S 0 by simp [rowF, List.map_const']]
end Go.Proofs.Ytdekplfjnkbidaa
