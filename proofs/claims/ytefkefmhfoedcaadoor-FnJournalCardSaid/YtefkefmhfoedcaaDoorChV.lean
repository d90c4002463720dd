/- Walks: which chains are valid. -/
import Derived.Test.YtefkefmhfoedcaaDoorCh
import Derived.Test.YtefkefmhfoedcaaDoorPow
namespace Go.Proofs.YtefkefmhfoedcaaDoor
set_option maxRecDepth 100000
open Go.RowKit

def rowCh (D : Ch) (r : List Int) : Bool := decide ((r.length : Int) = D.base) && r.all fun x => inB x 0 (D.states - 1)
def tabCh (D : Ch) (t : List (List Int)) : Bool := decide ((t.length : Int) = D.states) && t.all (rowCh D)
def tabsCh (D : Ch) : Bool := D.tabs.all (tabCh D)
def placesCh (D : Ch) : Bool := D.places.all fun x => inB x 0 ((D.tabs.length : Int) - 1)
def powCh (D : Ch) : Bool := decide (D.base ^ D.places.length ≤ 1000000000000000)
def headCh (D : Ch) : Bool := inB D.base 2 36 && (inB D.states 1 36 && (inB D.start 0 (D.states - 1) && (inB D.fin 0 (D.states - 1) && (inB D.tabs.length 1 20 && inB D.places.length 1 20))))
def validCh (D : Ch) : Bool := headCh D && (powCh D && (tabsCh D && placesCh D))
theorem all_noG {α : Type} {p : α → Bool} {l : List α} {k : Nat} {d : α} (hk : k < l.length) (h : p (l.getD k d) = false) : l.all p = false := by
  rw [List.all_eq_false]; exact ⟨_, getD_mem l d k hk, by rw [h]; simp⟩
theorem all_stepG {α : Type} {p : α → Bool} {l : List α} {k : Nat} {d : α} (hk : k < l.length) (h : p (l.getD k d) = true) (hp : (l.take k).all p = true) : (l.take (k + 1)).all p = true := by
  rw [take_snoc l d k hk, List.all_append, hp]; simp only [List.all_cons, List.all_nil, h, Bool.and_true]
theorem validCh_ok {D : Ch} (h : validCh D = true) : OkCh D := by
  unfold validCh headCh powCh tabsCh placesCh at h
  simp only [Bool.and_eq_true, List.all_eq_true, decide_eq_true_eq, inB_t] at h
  obtain ⟨⟨⟨h1, h2⟩, ⟨h3, h4⟩, ⟨h5, h6⟩, ⟨h7, h8⟩, ⟨h9, h10⟩, h11, h12⟩, hp, ht, hq⟩ := h
  have tb : ∀ t, t < D.tabs.length → tabCh D (gm D.tabs t) = true := fun t hk => ht _ (gm_mem hk)
  have tb' : ∀ t, t < D.tabs.length → ((gm D.tabs t).length : Int) = D.states ∧ ∀ r ∈ gm D.tabs t, rowCh D r = true := fun t hk => by
    have := tb t hk
    unfold tabCh at this
    simp only [Bool.and_eq_true, List.all_eq_true, decide_eq_true_eq] at this
    exact this
  have rb' : ∀ t, t < D.tabs.length → ∀ x, x < (gm D.tabs t).length → ((gl (gm D.tabs t) x).length : Int) = D.base ∧ ∀ d ∈ gl (gm D.tabs t) x, inB d 0 (D.states - 1) = true := fun t hk x hx => by
    have := (tb' t hk).2 _ (gl_mem hx)
    unfold rowCh at this
    simp only [Bool.and_eq_true, List.all_eq_true, decide_eq_true_eq] at this
    exact this
  exact ⟨h1, h2, h3, h4, h5, by omega, h7, by omega, by omega, by omega, by omega, by omega, hp, fun t hk => (tb' t hk).1, fun t hk x hx => (rb' t hk x hx).1,
    fun t hk x hx d hd => by have := inB_t.1 ((rb' t hk x hx).2 d hd); omega, fun k hk => by have := hq k hk; omega⟩
/-- no table is too large -/
def SmallCh (D : Ch) : Prop := ∀ t ∈ D.tabs, t.length ≤ 1048576 ∧ ∀ r ∈ t, r.length ≤ 1048576
theorem SmallCh.tab {D : Ch} (h : SmallCh D) {t : Nat} (ht : t < D.tabs.length) : (gm D.tabs t).length ≤ 1048576 := (h _ (gm_mem ht)).1
theorem SmallCh.row {D : Ch} (h : SmallCh D) {t x : Nat} (ht : t < D.tabs.length) (hx : x < (gm D.tabs t).length) : (gl (gm D.tabs t) x).length ≤ 1048576 := (h _ (gm_mem ht)).2 _ (gl_mem hx)
theorem min_step {p b M : Int} (_hp : 1 ≤ p) (hb : 2 ≤ b) (hM : 0 ≤ M) : min (min p (M + 1) * b) (M + 1) = min (p * b) (M + 1) := by
  rcases Int.le_total p (M + 1) with h | h
  · rw [Int.min_eq_left h]
  · rw [Int.min_eq_right h]
    have h1 : (M + 1) * 1 ≤ (M + 1) * b := Int.mul_le_mul_of_nonneg_left (by omega) (by omega)
    have h2 : (M + 1) * b ≤ p * b := Int.mul_le_mul_of_nonneg_right h (by omega)
    omega
theorem min_bd {p b M : Int} (hp : 1 ≤ p) (hb : 2 ≤ b) (hb2 : b ≤ 36) (hM : 0 ≤ M) : 1 ≤ min p (M + 1) * b ∧ min p (M + 1) * b ≤ (M + 1) * 36 := by
  have h1 : 1 ≤ min p (M + 1) := by omega
  have h2 : min p (M + 1) ≤ M + 1 := by omega
  have h3 : min p (M + 1) * b ≤ (M + 1) * 36 := Int.mul_le_mul h2 hb2 (by omega) (by omega)
  have h4 : min p (M + 1) * 1 ≤ min p (M + 1) * b := Int.mul_le_mul_of_nonneg_left (by omega) (by omega)
  omega
theorem pow_pos' {b : Int} (hb : 2 ≤ b) (k : Nat) : 1 ≤ b ^ k := Int.pow_pos (by omega)
end Go.Proofs.YtefkefmhfoedcaaDoor
