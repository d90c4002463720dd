/- Plain: the least distance of two checked words, from the end and from the start. Conditions: none. -/
import Derived.Test.YtccoopnoakhedaaCh
import Derived.Test.YtccoopnoakhedaaChg
import Derived.Lib.SliceRun
import Derived.Test.YtccoopnoakhedaaMark
import Derived.Test.YtccoopnoakhedaaMix
import Derived.RegionTactic
import Derived.Test.YtccoopnoakhedaaVar
import Derived.Lib.Walk
import Derived.Shelf.RegionOpenPlain
import Derived.Laws.IdiomCopy
namespace Go.Proofs.Ytccoopnoakhedaa
set_option maxRecDepth 100000
open Go.RowKit

/-- v is the least of the numbers of P; far without one -/
structure IsMin (v F : Int) (P : Nat → Prop) : Prop where
  le : v ≤ F
  lb : ∀ d, P d → v ≤ (d : Int)
  at' : v = F ∨ ∃ d, P d ∧ v = (d : Int)
theorem IsMin.none (F : Int) {P : Nat → Prop} (h : ∀ d, ¬ P d) : IsMin F F P := ⟨Int.le_refl _, fun d hd => absurd hd (h d), .inl rfl⟩
theorem IsMin.congr {v F : Int} {P Q : Nat → Prop} (h : IsMin v F P) (hq : ∀ d, P d ↔ Q d) : IsMin v F Q :=
  ⟨h.le, fun d hd => h.lb d ((hq d).2 hd), h.at'.imp id fun ⟨d, h1, h2⟩ => ⟨d, (hq d).1 h1, h2⟩⟩
theorem IsMin.or {v u F : Int} {P Q : Nat → Prop} (h : IsMin v F P) (k : IsMin u F Q) : IsMin (min v u) F fun d => P d ∨ Q d := by
  refine ⟨by have := h.le; omega, fun d hd => ?_, ?_⟩
  · rcases hd with hd | hd
    · have := h.lb d hd; omega
    · have := k.lb d hd; omega
  · rcases Int.le_total v u with hl | hl
    · rw [Int.min_eq_left hl]
      exact h.at'.imp id fun ⟨d, h1, h2⟩ => ⟨d, .inl h1, h2⟩
    · rw [Int.min_eq_right hl]
      exact k.at'.imp id fun ⟨d, h1, h2⟩ => ⟨d, .inr h1, h2⟩
/-- one more is added to the second -/
theorem IsMin.orS {v u F : Int} {P Q : Nat → Prop} (h : IsMin v F P) (k : IsMin u F Q) : IsMin (min v (u + 1)) F fun d => P d ∨ ∃ d', Q d' ∧ d = d' + 1 := by
  refine ⟨by have := h.le; omega, fun d hd => ?_, ?_⟩
  · rcases hd with hd | ⟨d', hd, rfl⟩
    · have := h.lb d hd; omega
    · have := k.lb d' hd; push_cast; omega
  · rcases Int.le_total v (u + 1) with hl | hl
    · rw [Int.min_eq_left hl]
      exact h.at'.imp id fun ⟨d, h1, h2⟩ => ⟨d, .inl h1, h2⟩
    · rw [Int.min_eq_right hl]
      rcases k.at' with hk | ⟨d, h1, h2⟩
      · left; have := h.le; omega
      · exact .inr ⟨d + 1, .inr ⟨d, h1, rfl⟩, by push_cast; omega⟩
theorem IsMin.same {v u F F' : Int} {P : Nat → Prop} (h : IsMin v F P) (k : IsMin u F' P) (hF : ∀ d, P d → (d : Int) < F) (hF' : ∀ d, P d → (d : Int) < F') : (v = F ∧ u = F') ∨ (v = u ∧ v < F ∧ u < F') := by
  rcases h.at' with h1 | ⟨d, h1, h2⟩ <;> rcases k.at' with h3 | ⟨d', h3, h4⟩
  · exact .inl ⟨h1, h3⟩
  · exfalso; have := h.lb d' h3; have := hF d' h3; omega
  · exfalso; have := k.lb d h1; have := hF' d h1; omega
  · have := h.lb d' h3; have := k.lb d h1; have := hF d h1; have := hF' d' h3; exact .inr ⟨by omega, by omega, by omega⟩
section
variable (D : Ch)
/-- a digit -/
def IsDg (a : Nat) : Prop := (a : Int) < D.base
/-- two lists lead from two states, r places before the end, to the end; they differ at d places -/
def ApF : Nat → Int → Int → Nat → Prop
  | 0, x, y, d => x = D.fin ∧ y = D.fin ∧ d = 0
  | r + 1, x, y, d => ∃ a b : Nat, IsDg D a ∧ IsDg D b ∧ ∃ d', ApF r (nextS D ((D.places.length - (r + 1) : Nat) : Int) x a) (nextS D ((D.places.length - (r + 1) : Nat) : Int) y b) d' ∧ d = d' + if a = b then 0 else 1
/-- two different lists lead from a state to the end -/
def DfF : Nat → Int → Nat → Prop
  | 0, _, _ => False
  | r + 1, x, d => ∃ a : Nat, IsDg D a ∧ (DfF r (nextS D ((D.places.length - (r + 1) : Nat) : Int) x a) d ∨ ∃ b : Nat, IsDg D b ∧ a ≠ b ∧ ∃ d', ApF D r (nextS D ((D.places.length - (r + 1) : Nat) : Int) x a) (nextS D ((D.places.length - (r + 1) : Nat) : Int) x b) d' ∧ d = d' + 1)
/-- some list leads to a state -/
def EqT : Nat → Int → Prop
  | 0, x => x = D.start
  | k + 1, x' => ∃ x, EqT k x ∧ ∃ a : Nat, IsDg D a ∧ x' = nextS D (k : Int) x a
/-- two different lists lead to two states -/
def LsT : Nat → Int → Int → Nat → Prop
  | 0, _, _, _ => False
  | k + 1, x', y', d => ∃ x y, ∃ a b : Nat, IsDg D a ∧ IsDg D b ∧ x' = nextS D (k : Int) x a ∧ y' = nextS D (k : Int) y b ∧ ((∃ d', LsT k x y d' ∧ d = d' + if a = b then 0 else 1) ∨ x = y ∧ EqT D k x ∧ a ≠ b ∧ d = 1)
/-- what both tell together, k places behind the start -/
def BothT (k : Nat) (d : Nat) : Prop := (∃ x y d1 d2, LsT D k x y d1 ∧ ApF D (D.places.length - k) x y d2 ∧ d = d1 + d2) ∨ ∃ x, EqT D k x ∧ DfF D (D.places.length - k) x d
theorem bothT_step {k : Nat} (hk : k < D.places.length) (d : Nat) : BothT D k d ↔ BothT D (k + 1) d := by
  have hr : D.places.length - k = (D.places.length - (k + 1)) + 1 := by omega
  have hp : D.places.length - ((D.places.length - (k + 1)) + 1) = k := by omega
  unfold BothT
  rw [hr]
  generalize hR : D.places.length - (k + 1) = r at *
  constructor
  · rintro (⟨x, y, d1, d2, h1, h2, rfl⟩ | ⟨x, h1, h2⟩)
    · obtain ⟨a, b, ha, hb, d', h3, rfl⟩ := h2
      rw [hp] at h3
      exact .inl ⟨_, _, d1 + (if a = b then 0 else 1), d', ⟨x, y, a, b, ha, hb, rfl, rfl, .inl ⟨d1, h1, rfl⟩⟩, h3, by omega⟩
    · obtain ⟨a, ha, h2⟩ := h2
      rw [hp] at h2
      rcases h2 with h2 | ⟨b, hb, hne, d', h3, rfl⟩
      · exact .inr ⟨_, ⟨x, h1, a, ha, rfl⟩, h2⟩
      · exact .inl ⟨_, _, 1, d', ⟨x, x, a, b, ha, hb, rfl, rfl, .inr ⟨rfl, h1, hne, rfl⟩⟩, h3, by omega⟩
  · rintro (⟨x', y', d1, d2, ⟨x, y, a, b, ha, hb, rfl, rfl, h1⟩, h2, rfl⟩ | ⟨x', ⟨x, h1, a, ha, rfl⟩, h2⟩)
    · rcases h1 with ⟨d', h1, rfl⟩ | ⟨rfl, h1, hne, rfl⟩
      · exact .inl ⟨x, y, d', d2 + (if a = b then 0 else 1), h1, ⟨a, b, ha, hb, d2, by rw [hp]; exact h2, rfl⟩, by omega⟩
      · exact .inr ⟨x, h1, a, ha, .inr ⟨b, hb, hne, d2, by rw [hp]; exact h2, by omega⟩⟩
    · exact .inr ⟨x, h1, a, ha, .inl (by rw [hp]; exact h2)⟩
/-- from the end and from the start alike -/
theorem both_ends (d : Nat) : DfF D D.places.length D.start d ↔ LsT D D.places.length D.fin D.fin d := by
  have h : ∀ k, k ≤ D.places.length → (BothT D 0 d ↔ BothT D k d) := by
    intro k
    induction k with
    | zero => intro _; exact Iff.rfl
    | succ k ih => intro hk; exact (ih (by omega)).trans (bothT_step D (by omega) d)
  have h1 := h _ (Nat.le_refl _)
  have h0 : BothT D 0 d ↔ DfF D D.places.length D.start d := by
    unfold BothT
    rw [Nat.sub_zero]
    constructor
    · rintro (⟨_, _, _, _, h, _⟩ | ⟨x, hx, h⟩)
      · exact absurd h id
      · rw [show x = D.start from hx] at h; exact h
    · exact fun h => .inr ⟨_, rfl, h⟩
  have hn : BothT D D.places.length d ↔ LsT D D.places.length D.fin D.fin d := by
    unfold BothT
    rw [Nat.sub_self]
    constructor
    · rintro (⟨x, y, d1, d2, h1, ⟨rfl, rfl, rfl⟩, rfl⟩ | ⟨x, _, h⟩)
      · exact h1
      · exact absurd h id
    · exact fun h => .inl ⟨_, _, d, 0, h, ⟨rfl, rfl, rfl⟩, rfl⟩
  exact h0.symm.trans (h1.trans hn)
theorem ApF.le : ∀ (r : Nat) (x y : Int) (d : Nat), ApF D r x y d → d ≤ r
  | 0, _, _, _, ⟨_, _, h⟩ => by omega
  | r + 1, _, _, _, ⟨a, b, _, _, d', h, h2⟩ => by have := ApF.le r _ _ _ h; split at h2 <;> omega
theorem DfF.le : ∀ (r : Nat) (x : Int) (d : Nat), DfF D r x d → d ≤ r
  | 0, _, _, h => absurd h id
  | r + 1, _, _, ⟨a, _, h⟩ => by
    rcases h with h | ⟨b, _, _, d', h, rfl⟩
    · have := DfF.le r _ _ h; omega
    · have := ApF.le D r _ _ _ h; omega
end
end Go.Proofs.Ytccoopnoakhedaa

/- Plain: the least distance from the start, as a table that is filled quadruple by quadruple. Conditions: none. -/
namespace Go.Proofs.Ytccoopnoakhedaa
set_option maxRecDepth 100000
open Go.RowKit

section
variable (D : Ch)
theorem EqT.bd (hok : OkCh D) : ∀ (k : Nat) (x : Int), k ≤ D.places.length → EqT D k x → 0 ≤ x ∧ x < D.states
  | 0, x, _, h => by rw [show x = D.start from h]; exact ⟨hok.st0, hok.st1⟩
  | k + 1, _, hk, ⟨x, h, a, ha, he⟩ => by
    obtain ⟨h1, h2⟩ := EqT.bd hok k x (by omega) h
    rw [he]; unfold IsDg at ha
    exact hok.next (by omega) (by omega) h1 h2 (by omega) ha
theorem LsT.bd (hok : OkCh D) : ∀ (k : Nat) (x y : Int) (d : Nat), k ≤ D.places.length → LsT D k x y d → (0 ≤ x ∧ x < D.states) ∧ (0 ≤ y ∧ y < D.states) ∧ 1 ≤ d ∧ d ≤ k
  | 0, _, _, _, _, h => absurd h id
  | k + 1, _, _, d, hk, ⟨x, y, a, b, ha, hb, he, he2, h⟩ => by
    unfold IsDg at ha hb
    have h0 : (0 ≤ x ∧ x < D.states) ∧ (0 ≤ y ∧ y < D.states) ∧ 1 ≤ d ∧ d ≤ k + 1 := by
      rcases h with ⟨d', h, h3⟩ | ⟨h1, h, hne, h3⟩
      · obtain ⟨h4, h5, h6, h7⟩ := LsT.bd hok k x y d' (by omega) h
        refine ⟨h4, h5, ?_, ?_⟩ <;> (split at h3 <;> omega)
      · have := EqT.bd D hok k x (by omega) h
        subst h1
        exact ⟨this, this, by omega, by omega⟩
    obtain ⟨⟨h1, h2⟩, ⟨h3, h4⟩, h5, h6⟩ := h0
    rw [he, he2]
    exact ⟨hok.next (by omega) (by omega) h1 h2 (by omega) ha, hok.next (by omega) (by omega) h3 h4 (by omega) hb, h5, h6⟩
variable (i S bs : Nat)
/-- what one quadruple gives -/
def Ctr (x y a b : Nat) (d : Nat) : Prop := (∃ d', LsT D i x y d' ∧ d = d' + if a = b then 0 else 1) ∨ (x = y ∧ EqT D i x ∧ a ≠ b ∧ d = 1)
/-- the quadruples before this one -/
def Bef (X Y A B x y a b : Nat) : Prop := y < S ∧ a < bs ∧ b < bs ∧ (x < X ∨ x = X ∧ (y < Y ∨ y = Y ∧ (a < A ∨ a = A ∧ b < B)))
def Con (X Y A B : Nat) (x' y' : Nat) (d : Nat) : Prop := ∃ x y a b : Nat, Bef S bs X Y A B x y a b ∧ nextS D i x a = x' ∧ nextS D i y b = y' ∧ Ctr D i x y a b d
def InvL (far : Int) (X Y A B : Nat) (ll : List Int) : Prop := ll.length = S * S ∧ ∀ x', x' < S → ∀ y', y' < S → IsMin (gi ll (x' * S + y')) far (Con D i S bs X Y A B x' y')
variable {D i S bs}
variable {far : Int} {X Y A B : Nat} {ll : List Int}
theorem InvL.to {X' Y' A' B' : Nat} (h : InvL D i S bs far X Y A B ll) (hb : ∀ x y a b, Bef S bs X Y A B x y a b ↔ Bef S bs X' Y' A' B' x y a b) : InvL D i S bs far X' Y' A' B' ll :=
  ⟨h.1, fun x' hx y' hy => (h.2 x' hx y' hy).congr fun _ => ⟨fun ⟨x, y, a, b, h1, h2⟩ => ⟨x, y, a, b, (hb x y a b).1 h1, h2⟩, fun ⟨x, y, a, b, h1, h2⟩ => ⟨x, y, a, b, (hb x y a b).2 h1, h2⟩⟩⟩
theorem InvL.endB (h : InvL D i S bs far X Y A bs ll) : InvL D i S bs far X Y (A + 1) 0 ll := h.to fun x y a b => by unfold Bef; omega
theorem InvL.endA (h : InvL D i S bs far X Y bs 0 ll) (_hY : Y < S) : InvL D i S bs far X (Y + 1) 0 0 ll := h.to fun x y a b => by unfold Bef; omega
theorem InvL.endY (h : InvL D i S bs far X S 0 0 ll) : InvL D i S bs far (X + 1) 0 0 0 ll := h.to fun x y a b => by unfold Bef; omega
/-- nothing comes from this pair -/
theorem InvL.skip (h : InvL D i S bs far X Y 0 0 ll) (hno : ∀ a b d, ¬ Ctr D i X Y a b d) : InvL D i S bs far X (Y + 1) 0 0 ll :=
  ⟨h.1, fun x' hx y' hy => (h.2 x' hx y' hy).congr fun d => ⟨fun ⟨x, y, a, b, h1, h2⟩ => ⟨x, y, a, b, by unfold Bef at *; omega, h2⟩, fun ⟨x, y, a, b, h1, h2, h3, h4⟩ => ⟨x, y, a, b, by
    have hne : ¬ (x = X ∧ y = Y) := by rintro ⟨rfl, rfl⟩; exact hno a b d h4
    unfold Bef at *; omega, h2, h3, h4⟩⟩⟩
theorem idx_eq {S x y x' y' : Nat} (hy : y < S) (hy' : y' < S) : x * S + y = x' * S + y' ↔ x = x' ∧ y = y' := by
  constructor
  · intro h
    have h1 : (x * S + y) / S = x := by rw [Nat.mul_comm, Nat.mul_add_div (by omega), Nat.div_eq_of_lt hy]; omega
    have h2 : (x' * S + y') / S = x' := by rw [Nat.mul_comm, Nat.mul_add_div (by omega), Nat.div_eq_of_lt hy']; omega
    rw [h, h2] at h1
    subst h1
    exact ⟨rfl, by omega⟩
  · rintro ⟨rfl, rfl⟩; rfl
theorem idx_ltS {S x y : Nat} (hx : x < S) (hy : y < S) : x * S + y < S * S := by
  have : (x + 1) * S ≤ S * S := Nat.mul_le_mul_right S (by omega)
  rw [Nat.add_mul] at this; omega
/-- one quadruple: the number at its place is set -/
theorem InvL.put {nx ny : Nat} (h : InvL D i S bs far X Y A B ll) (hA : A < bs) (hB : B < bs) (hY : Y < S) (hnx : nx < S) (hny : ny < S) (e1 : nextS D i X A = nx) (e2 : nextS D i Y B = ny) (v : Int)
    (hv : IsMin v far fun d => Con D i S bs X Y A B nx ny d ∨ Ctr D i X Y A B d) : InvL D i S bs far X Y A (B + 1) (ll.set (nx * S + ny) v) := by
  have hl := h.1
  refine ⟨by rw [List.length_set]; exact hl, fun x' hx y' hy => ?_⟩
  have key : ∀ d, Con D i S bs X Y A (B + 1) x' y' d ↔ Con D i S bs X Y A B x' y' d ∨ (x' = nx ∧ y' = ny ∧ Ctr D i X Y A B d) := fun d => by
    constructor
    · rintro ⟨x, y, a, b, h1, h2, h3, h4⟩
      by_cases e : x = X ∧ y = Y ∧ a = A ∧ b = B
      · obtain ⟨rfl, rfl, rfl, rfl⟩ := e
        exact .inr ⟨by rw [e1] at h2; omega, by rw [e2] at h3; omega, h4⟩
      · exact .inl ⟨x, y, a, b, by unfold Bef at *; omega, h2, h3, h4⟩
    · rintro (⟨x, y, a, b, h1, h2⟩ | ⟨rfl, rfl, h4⟩)
      · exact ⟨x, y, a, b, by unfold Bef at *; omega, h2⟩
      · exact ⟨X, Y, A, B, by unfold Bef; omega, e1, e2, h4⟩
  by_cases e : x' = nx ∧ y' = ny
  · obtain ⟨rfl, rfl⟩ := e
    have hi : gi (ll.set (x' * S + y') v) (x' * S + y') = v := by
      have := idx_ltS hx hy
      unfold gi
      rw [List.getD_eq_getElem?_getD, List.getElem?_set_self (by omega)]; rfl
    rw [hi]
    exact hv.congr fun d => by rw [key]; simp
  · have hi : gi (ll.set (nx * S + ny) v) (x' * S + y') = gi ll (x' * S + y') := by
      unfold gi
      rw [List.getD_eq_getElem?_getD, List.getD_eq_getElem?_getD, List.getElem?_set_ne (fun h => e ((idx_eq hy hny).1 h.symm))]
    rw [hi]
    refine (h.2 x' hx y' hy).congr fun d => ?_
    rw [key]
    exact ⟨.inl, fun h => h.elim id fun ⟨h1, h2, _⟩ => absurd ⟨h1, h2⟩ e⟩
/-- one quadruple that gives nothing -/
theorem InvL.pass (h : InvL D i S bs far X Y A B ll) (hno : ∀ d, ¬ Ctr D i X Y A B d) : InvL D i S bs far X Y A (B + 1) ll :=
  ⟨h.1, fun x' hx y' hy => (h.2 x' hx y' hy).congr fun d => ⟨fun ⟨x, y, a, b, h1, h2⟩ => ⟨x, y, a, b, by unfold Bef at *; omega, h2⟩, fun ⟨x, y, a, b, h1, h2, h3, h4⟩ => ⟨x, y, a, b, by
    have hne : ¬ (x = X ∧ y = Y ∧ a = A ∧ b = B) := by rintro ⟨rfl, rfl, rfl, rfl⟩; exact hno d h4
    unfold Bef at *; omega, h2, h3, h4⟩⟩⟩
/-- the least of one quadruple: two symbols -/
theorem ctr_ne {u v : Int} {P : Nat → Prop} (h : IsMin v far P) (k : IsMin u far (LsT D i X Y)) (hAB : A ≠ B) (hne : ¬ (X = Y ∧ EqT D i X)) : IsMin (min v (u + 1)) far fun d => P d ∨ Ctr D i X Y A B d :=
  (h.orS k).congr fun d => ⟨fun h => h.imp id fun ⟨d', h1, h2⟩ => .inl ⟨d', h1, by rw [if_neg hAB]; exact h2⟩, fun h => h.imp id fun h => by
    rcases h with ⟨d', h1, h2⟩ | ⟨h1, h2, _⟩
    · rw [if_neg hAB] at h2; exact ⟨d', h1, h2⟩
    · exact absurd ⟨h1, h2⟩ hne⟩
theorem ctr_one {v : Int} {P : Nat → Prop} (hf : 1 ≤ far) (h : IsMin v far P) (hAB : A ≠ B) (hXY : X = Y) (hE : EqT D i X) : IsMin (min v (0 + 1)) far fun d => P d ∨ Ctr D i X Y A B d := by
  refine ⟨by have := h.le; omega, fun d hd => ?_, ?_⟩
  · rcases hd with hd | ⟨d', _, h2⟩ | ⟨_, _, _, h2⟩
    · have := h.lb d hd; omega
    · rw [if_neg hAB] at h2; omega
    · omega
  · rcases Int.le_total v 1 with hl | hl
    · rw [Int.min_eq_left (by omega)]
      exact h.at'.imp id fun ⟨d, h1, h2⟩ => ⟨d, .inl h1, h2⟩
    · rw [Int.min_eq_right (by omega)]
      exact .inr ⟨1, .inr (.inr ⟨hXY, hE, hAB, rfl⟩), rfl⟩
/-- one symbol twice -/
theorem ctr_eq {u v : Int} {P : Nat → Prop} (h : IsMin v far P) (k : IsMin u far (LsT D i X Y)) : IsMin (min v u) far fun d => P d ∨ Ctr D i X Y A A d :=
  (h.or k).congr fun d => ⟨fun h => h.imp id fun h => .inl ⟨d, h, by simp⟩, fun h => h.imp id fun h => by
    rcases h with ⟨d', h1, h2⟩ | ⟨_, _, h3, _⟩
    · rw [if_pos rfl] at h2; rw [h2]; exact h1
    · exact absurd rfl h3⟩
theorem ctr_eqE {u v : Int} {P : Nat → Prop} (e : A = B) (h : IsMin v far P) (k : IsMin u far (LsT D i X Y)) : IsMin (min v u) far fun d => P d ∨ Ctr D i X Y A B d := by
  subst e; exact ctr_eq h k
theorem ctr_no {u : Int} (k : IsMin u far (LsT D i X Y)) (hu : far ≤ u) (hfar : ∀ d, LsT D i X Y d → (d : Int) < far) (hne : ¬ (X = Y ∧ EqT D i X)) (a b d : Nat) : ¬ Ctr D i X Y a b d := by
  rintro (⟨d', h1, _⟩ | ⟨h1, h2, _⟩)
  · have := k.lb d' h1; have := hfar d' h1; omega
  · exact hne ⟨h1, h2⟩
theorem ctr_noE {u : Int} (k : IsMin u far (LsT D i X Y)) (hu : far ≤ u) (hfar : ∀ d, LsT D i X Y d → (d : Int) < far) (a d : Nat) : ¬ Ctr D i X Y a a d := by
  rintro (⟨d', h1, _⟩ | ⟨_, _, h2, _⟩)
  · have := k.lb d' h1; have := hfar d' h1; omega
  · exact h2 rfl
theorem invL0 (hl : ll.length = S * S) (h : ∀ p, p < S * S → gi ll p = far) : InvL D i S bs far 0 0 0 0 ll :=
  ⟨hl, fun x' hx y' hy => by rw [h _ (idx_ltS hx hy)]; exact IsMin.none _ fun d ⟨x, y, a, b, h1, _⟩ => by unfold Bef at h1; omega⟩
theorem InvL.done (hok : OkCh D) (hS : D.states = S) (hbs : D.base = bs) (hi : i < D.places.length) (h : InvL D i S bs far S 0 0 0 ll) (x y : Nat) (hx : x < S) (hy : y < S) : IsMin (gi ll (x * S + y)) far (LsT D (i + 1) x y) :=
  (h.2 x hx y hy).congr fun d => by
    constructor
    · rintro ⟨x0, y0, a, b, h1, h2, h3, h4⟩
      unfold Bef at h1
      refine ⟨x0, y0, a, b, by unfold IsDg; omega, by unfold IsDg; omega, h2.symm, h3.symm, ?_⟩
      rcases h4 with h4 | ⟨h4, h5, h6, h7⟩
      · exact .inl h4
      · exact .inr ⟨by omega, h5, h6, h7⟩
    · rintro ⟨x0, y0, a, b, ha, hb, h2, h3, h4⟩
      unfold IsDg at ha hb
      have hbd : (0 ≤ x0 ∧ x0 < D.states) ∧ (0 ≤ y0 ∧ y0 < D.states) := by
        rcases h4 with ⟨d', h4, _⟩ | ⟨h4, h5, _⟩
        · have := LsT.bd D hok i x0 y0 d' (by omega) h4; exact ⟨this.1, this.2.1⟩
        · have := EqT.bd D hok i x0 (by omega) h5; subst h4; exact ⟨this, this⟩
      obtain ⟨⟨u1, u2⟩, u3, u4⟩ := hbd
      obtain ⟨x1, rfl⟩ := Int.eq_ofNat_of_zero_le u1
      obtain ⟨y1, rfl⟩ := Int.eq_ofNat_of_zero_le u3
      refine ⟨x1, y1, a, b, by unfold Bef; omega, h2.symm, h3.symm, ?_⟩
      rcases h4 with h4 | ⟨h4, h5, h6, h7⟩
      · exact .inl h4
      · exact .inr ⟨by omega, h5, h6, h7⟩
/-! ### the states that some list leads to -/
variable (D i S bs)
def BefE (X Y A x a : Nat) : Prop := a < bs ∧ (x < X ∨ x = X ∧ (X < Y ∨ X = Y ∧ a < A))
def InvE (X Y A : Nat) (E : Nat → Bool) : Prop := ∀ z, z < S → (E z = true ↔ ∃ x a : Nat, BefE bs X Y A x a ∧ EqT D i x ∧ nextS D i x a = z)
variable {D i S bs}
variable {E : Nat → Bool}
theorem invE0 : InvE D i S bs 0 0 0 fun _ => false := fun z _ => ⟨fun h => absurd h (by simp), fun ⟨x, a, h, _⟩ => by unfold BefE at h; omega⟩
theorem InvE.put {nx : Nat} (h : InvE D i S bs X Y A E) (hXY : X = Y) (hE : EqT D i X) (hA : A < bs) (hnx : nextS D i X A = nx) : InvE D i S bs X Y (A + 1) fun z => if z = nx then true else E z := fun z hz => by
  show (if z = nx then true else E z) = true ↔ _
  by_cases e : z = nx
  · rw [if_pos e]
    exact ⟨fun _ => ⟨X, A, by unfold BefE; omega, hE, by rw [e]; exact hnx⟩, fun _ => rfl⟩
  · rw [if_neg e, h z hz]
    constructor
    · rintro ⟨x, a, h1, h2⟩; exact ⟨x, a, by unfold BefE at *; omega, h2⟩
    · rintro ⟨x, a, h1, h2, h3⟩
      have hne : ¬ (x = X ∧ a = A) := by rintro ⟨rfl, rfl⟩; rw [hnx] at h3; omega
      exact ⟨x, a, by unfold BefE at *; omega, h2, h3⟩
theorem InvE.pass (h : InvE D i S bs X Y A E) (hno : ¬ (X = Y ∧ EqT D i X)) : InvE D i S bs X Y (A + 1) E := fun z hz => by
  rw [h z hz]
  constructor
  · rintro ⟨x, a, h1, h2⟩; exact ⟨x, a, by unfold BefE at *; omega, h2⟩
  · rintro ⟨x, a, h1, h2, h3⟩
    have hne : ¬ (x = X ∧ X = Y) := by rintro ⟨rfl, rfl⟩; exact hno ⟨rfl, h2⟩
    exact ⟨x, a, by unfold BefE at *; omega, h2, h3⟩
theorem InvE.endA (h : InvE D i S bs X Y bs E) : InvE D i S bs X (Y + 1) 0 E := fun z hz => by
  rw [h z hz]
  constructor <;> (rintro ⟨x, a, h1, h2⟩; exact ⟨x, a, by unfold BefE at *; omega, h2⟩)
theorem InvE.skip (h : InvE D i S bs X Y 0 E) (hno : ¬ (X = Y ∧ EqT D i X)) : InvE D i S bs X (Y + 1) 0 E := fun z hz => by
  rw [h z hz]
  constructor
  · rintro ⟨x, a, h1, h2⟩; exact ⟨x, a, by unfold BefE at *; omega, h2⟩
  · rintro ⟨x, a, h1, h2, h3⟩
    have hne : ¬ (x = X ∧ X = Y) := by rintro ⟨rfl, rfl⟩; exact hno ⟨rfl, h2⟩
    exact ⟨x, a, by unfold BefE at *; omega, h2, h3⟩
theorem InvE.endY (h : InvE D i S bs X S 0 E) (hX : X < S) : InvE D i S bs (X + 1) 0 0 E := fun z hz => by
  rw [h z hz]
  constructor <;> (rintro ⟨x, a, h1, h2⟩; exact ⟨x, a, by unfold BefE at *; omega, h2⟩)
theorem InvE.done (hok : OkCh D) (hS : D.states = S) (hbs : D.base = bs) (hi : i < D.places.length) (h : InvE D i S bs S 0 0 E) (z : Nat) (hz : z < S) : E z = true ↔ EqT D (i + 1) z := by
  rw [h z hz]
  constructor
  · rintro ⟨x, a, h1, h2, h3⟩
    unfold BefE at h1
    exact ⟨x, h2, a, by unfold IsDg; omega, h3.symm⟩
  · rintro ⟨x, h2, a, ha, h3⟩
    unfold IsDg at ha
    obtain ⟨u1, u2⟩ := EqT.bd D hok i x (by omega) h2
    obtain ⟨x1, rfl⟩ := Int.eq_ofNat_of_zero_le u1
    exact ⟨x1, a, by unfold BefE; omega, h2, h3.symm⟩
end
end Go.Proofs.Ytccoopnoakhedaa

/- Words: a row's own ends; cells that are cleared. Conditions: none; nothing here speaks of a program's text. -/
namespace Go.Proofs.Ytccoopnoakhedaa
set_option maxRecDepth 100000
open Go.RowKit

theorem own_suf {P : Program} {w : World} {B : Nat} {E : TypeId} {g n c : Nat} {vs : List Value} (h : Own w B E (some ⟨g, 0, none⟩) n c vs) (T : TypeId) (ht : P.underlying T = some (.slice E)) (he : P.cellsOf E = 1) (hel : P.elem T = E)
    (k : Nat) (hk : k < n) (w' : World) (K : IntKind) : (Instr.sliceAt T (.slice (some ⟨g, 0, none⟩) n c) (some (.int K k)) none none).run P w' = .ok (.slice (some ⟨g, k, none⟩) (n - k) (c - k)) w' := by
  obtain ⟨i, hi', hs⟩ := cellsOf_size he (by omega)
  have ht' : P.underlying T = some (.slice (P.elem T)) := by rw [hel]; exact ht
  have hc := h.sl.cap
  rw [run_sliceAt_slice w' T _ _ _ _ ht', run_slice_l w' T _ n c ht' K k (by omega) (by omega)]
  simp [sizeOf, typeInfo, hel, hi', hs, Result.andThen, sliced, Addr.add_lit]
  intro h; omega
theorem own_pre {P : Program} {w : World} {B : Nat} {E : TypeId} {g n c : Nat} {vs : List Value} (h : Own w B E (some ⟨g, 0, none⟩) n c vs) (T : TypeId) (ht : P.underlying T = some (.slice E)) (he : P.cellsOf E = 1) (hel : P.elem T = E)
    (k : Nat) (hk : k ≤ n) (w' : World) (K : IntKind) : (Instr.sliceAt T (.slice (some ⟨g, 0, none⟩) n c) none (some (.int K k)) none).run P w' = .ok (.slice (some ⟨g, 0, none⟩) k c) w' := by
  obtain ⟨i, hi', hs⟩ := cellsOf_size he (by omega)
  have ht' : P.underlying T = some (.slice (P.elem T)) := by rw [hel]; exact ht
  have hc := h.sl.cap
  rw [run_sliceAt_slice w' T _ _ _ _ ht', run_slice_h w' T _ n c ht' K k (by omega) (by omega)]
  simp [sizeOf, typeInfo, hel, hi', hs, Result.andThen, sliced, Addr.add_lit]
theorem own_cut {w : World} {B : Nat} {E : TypeId} {g n c : Nat} {vs : List Value} (h : Own w B E (some ⟨g, 0, none⟩) n c vs) (m : Nat) (hm : m ≤ n) : Own w B E (some ⟨g, 0, none⟩) m c (vs.take m) := by
  have hl := h.len
  refine ⟨by rw [List.length_take]; omega, ?_⟩
  rcases h.2 with ⟨h1, _⟩ | ⟨g', cap, cur, hv, hb, hg, h1, h2, h3, h4⟩
  · cases h1
  · simp only [Value.slice.injEq, true_and] at hv
    obtain ⟨hv1, rfl⟩ := hv
    refine .inr ⟨g', c, cur, by rw [hv1], hb, hg, by omega, h2, h3, ?_⟩
    rw [← h4, List.take_take]
    congr 1; omega
theorem take_set_ge {α : Type} (l : List α) (i k : Nat) (x : α) (h : i ≤ k) : (l.set k x).take i = l.take i := by
  rw [List.take_set_of_le h]
theorem own_setCells {B : Nat} {E : TypeId} {g n c : Nat} : ∀ (us vs : List Value) (i : Nat) (w : World), Own w B E (some ⟨g, 0, none⟩) n c vs → ∃ vs', vs'.take i = vs.take i ∧ Own (w.setCells g i us) B E (some ⟨g, 0, none⟩) n c vs'
  | [], vs, i, w, h => ⟨vs, rfl, h⟩
  | u :: us, vs, i, w, h => by
    obtain ⟨vs', h1, h2⟩ := own_setCells us _ (i + 1) _ (h.set i u)
    refine ⟨vs', ?_, h2⟩
    have h3 : (vs'.take (i + 1)).take i = ((vs.set i u).take (i + 1)).take i := by rw [h1]
    rw [List.take_take, List.take_take, show min i (i + 1) = i by omega] at h3
    rw [h3, take_set_ge _ _ _ _ (Nat.le_refl _)]
theorem chg_setCells {g : Nat} : ∀ (us : List Value) (i : Nat) (w : World), g < w.heap.size → Chg g (g + 1) w (w.setCells g i us)
  | [], i, w, _ => Chg.refl _ _ _
  | u :: us, i, w, h => (Chg.set w i u (Nat.le_refl _) (by omega)).trans (chg_setCells us (i + 1) _ (by rw [size_setCell]; exact h))

end Go.Proofs.Ytccoopnoakhedaa

/- Walks: short rows of numbers sorted by the library; what they hold stays. -/
namespace Go.Proofs.Ytccoopnoakhedaa
set_option maxRecDepth 100000
open Go.RowKit

theorem swap_perm {l : List Int} {i j : Nat} (hi : i < l.length) (hj : j < l.length) : ((l.set i (gi l j)).set j (gi l i)).Perm l := by
  have h1 : gi l i = l[i] := by simp [gi, hi]
  have h2 : gi l j = l[j] := by simp [gi, hj]
  rw [h1, h2]
  exact List.set_set_perm hi hj
theorem mk_drew {B : Nat} {a : Option Addr} {w w' : World} (h : Mk B a w w') : Mk B a w w'.drew := ⟨h.below.drew, h.size, h.block⟩
/-- sorted in place: only this row has changed, and it holds the same numbers -/
def SrtPost (B : Nat) (a : Option Addr) (n c : Nat) (l : List Int) (w : World) (e : Ending) (w' : World) : Prop := e = .returned (.tuple #[]) ∧ Mk B a w w' ∧ ∃ l', Own w' B 2 a n c (I l') ∧ l'.Perm l
set_option maxHeartbeats 2000000 in
theorem bits_len64 (n : Int) (w : World) (h0 : 0 ≤ n) (hn : n ≤ 12) : Calls Try.prog 85 #[.int .u64 n] w (fun e w' => w = w' ∧ ∃ k : Int, e = .returned (.int .i64 k)) := by
  have h : n = 0 ∨ n = 1 ∨ n = 2 ∨ n = 3 ∨ n = 4 ∨ n = 5 ∨ n = 6 ∨ n = 7 ∨ n = 8 ∨ n = 9 ∨ n = 10 ∨ n = 11 ∨ n = 12 := by omega
  rcases h with rfl | rfl | rfl | rfl | rfl | rfl | rfl | rfl | rfl | rfl | rfl | rfl | rfl
  all_goals
    go_enter Try.func85, Try.ntmps85
    go_wp2
    go_ret
    exact ⟨rfl, _, rfl⟩
set_option maxHeartbeats 2000000 in
theorem bits_len (n : Int) (w : World) (h0 : 0 ≤ n) (hn : n ≤ 12) : Calls Try.prog 73 #[.int .u64 n] w (fun e w' => w = w' ∧ ∃ k : Int, e = .returned (.int .i64 k)) := by
  have HL := Lib.hid (bits_len64 n w h0 hn)
  go_enter Try.func73, Try.ntmps73
  go_wp2_with ((with_reducible refine HL.out.mono ?_); rintro e w1 ⟨rfl, k, rfl⟩)
  go_ret
  exact ⟨rfl, k, rfl⟩
end Go.Proofs.Ytccoopnoakhedaa

/- Walks: the states that symbols lead to, in the program. -/
namespace Go.Proofs.Ytccoopnoakhedaa
set_option maxRecDepth 100000
open Go.RowKit

/-- the first m numbers of a row hold what the row held -/
def CmpPost (B : Nat) (g c : Nat) (l : List Int) (w : World) (e : Ending) (w' : World) : Prop :=
  ∃ (m : Nat) (L : List Int), e = .returned (.slice (some ⟨g, 0, none⟩) m c) ∧ Own w' B 2 (some ⟨g, 0, none⟩) m c (I L) ∧ m ≤ l.length ∧ (∀ v, v ∈ L ↔ v ∈ l) ∧ Chg g (g + 1) w w'
theorem mem_take_snoc {l : List Int} {k : Nat} (h : k < l.length) (v : Int) : v ∈ l.take (k + 1) ↔ v ∈ l.take k ∨ v = gi l k := by
  rw [take_gi h, List.mem_append]; simp
theorem gi_in_take {l : List Int} {k m : Nat} (h : k < m) (hl : k < l.length) : gi l k ∈ l.take m := by
  have h2 : k < (l.take m).length := by rw [List.length_take]; omega
  have h3 : (l.take m)[k] = gi l k := by rw [List.getElem_take]; simp [gi, hl]
  rw [← h3]; exact List.getElem_mem _
theorem gi_set_ne {l : List Int} {i k : Nat} {x : Int} (h : i ≠ k) : gi (l.set i x) k = gi l k := by
  unfold gi; rw [List.getD_eq_getElem?_getD, List.getD_eq_getElem?_getD, List.getElem?_set_ne h]
theorem ix_lit {P : Program} {E T : TypeId} (ht : P.underlying T = some (.slice E)) (he : P.cellsOf E = 1) (b off n c : Nat) (i : Int) (k : Nat) (hik : i = (k : Int)) (hk : k < n) (K : IntKind) (w' : World) :
    (Instr.indexAt T (.slice (some ⟨b, off, none⟩) n c) (.int K i)).run P w' = .ok (.pointer (some ⟨b, off + k, none⟩)) w' := by
  subst hik
  obtain ⟨i, hi, hs⟩ := cellsOf_size he (by omega)
  simp [Instr.indexAt, asIntOf, run_underlying ht, sizeOf, typeInfo, hi, hs, Addr.add_lit, hk]
/-- the row while it is cut short: the first kk of l2 hold what the first k + j of l held; from kk on it is l -/
structure CmI (l : List Int) (k j kk : Nat) (l2 : List Int) : Prop where
  len : l2.length = l.length
  lo : k ≤ kk
  hi : kk < k + j
  high : ∀ p, kk ≤ p → gi l2 p = gi l p
  mem : ∀ v, v ∈ l2.take kk ↔ v ∈ l.take (k + j)
theorem CmI.start {l : List Int} {k : Nat} (hk : 1 ≤ k) (hl : k < l.length) (h : gi l k = gi l (k - 1)) : CmI l k 1 k l :=
  ⟨rfl, Nat.le_refl _, by omega, fun _ _ => rfl, fun v => by
    rw [mem_take_snoc hl]
    refine ⟨.inl, fun h2 => h2.elim id ?_⟩
    rintro rfl
    rw [h]; exact gi_in_take (by omega) (by omega)⟩
theorem CmI.skip {l l2 : List Int} {k j kk : Nat} (H : CmI l k j kk l2) (hj : 1 ≤ j) (hl : k + j < l.length) (h : gi l (k + j) = gi l (k + j - 1)) : CmI l k (j + 1) kk l2 :=
  ⟨H.len, H.lo, by have := H.hi; omega, H.high, fun v => by
    rw [H.mem, ← Nat.add_assoc, mem_take_snoc hl]
    refine ⟨.inl, fun h2 => h2.elim id ?_⟩
    rintro rfl
    rw [h]; exact gi_in_take (by omega) (by omega)⟩
theorem CmI.keep {l l2 : List Int} {k j kk : Nat} (H : CmI l k j kk l2) (hl : k + j < l.length) : CmI l k (j + 1) (kk + 1) (l2.set kk (gi l (k + j))) :=
  ⟨by rw [List.length_set]; exact H.len, by have := H.lo; omega, by have := H.hi; omega, fun p hp => by rw [gi_set_ne (by omega)]; exact H.high p (by omega), fun v => by
    have h1 := H.hi
    have h2 := H.len
    have e : gi (l2.set kk (gi l (k + j))) kk = gi l (k + j) := by
      unfold gi
      rw [List.getD_eq_getElem?_getD, List.getElem?_set_self (by omega)]; rfl
    rw [mem_take_snoc (by rw [List.length_set]; omega), take_set_ge _ _ _ _ (Nat.le_refl _), e, H.mem, ← Nat.add_assoc, mem_take_snoc hl]⟩
end Go.Proofs.Ytccoopnoakhedaa

/- Walks: a row of one number, again and again. -/
namespace Go.Proofs.Ytccoopnoakhedaa
set_option maxRecDepth 100000
open Go.RowKit Go.Shelf

theorem wp_copy_runQ {P : Program} (w : World) {o : Oper} {a : Act} {K : Act → World → Prop} {Q : Exit → Act → World → Prop} (d s : Operand) (t t' : TypeId)
    (ho : o.op = .call { callee := .builtin .copy, args := #[d, s], argTypes := #[t, t'] }) (v u : Value) (hd : a.eval d = v) (hs : a.eval s = u) {v' : Value} {w' : World}
    (hr : (Builtin.copy_ #[t, t'] o.type #[v, u]).run P w = .ok v' w') (h : K (a.put o.dst v') w') : o.wp P a w K Q := by
  unfold Oper.wp execOp
  simp only [ho, resolve, invoke, builtin, Sem.run_bind, Sem.run_pure, Result.andThen_ok, List.map_toArray, List.map_cons, List.map_nil, hd, hs, hr]
  exact h

theorem wpList_copy_runQ {P : Program} (w : World) {ops : Array Oper} {rest : List Oper} {o : Oper} {a : Act} {Q : Exit → Act → World → Prop} (hgd : o.guard = none) (d s : Operand) (t t' : TypeId)
    (ho : o.op = .call { callee := .builtin .copy, args := #[d, s], argTypes := #[t, t'] }) (v u : Value) (hd : a.eval d = v) (hs : a.eval s = u) {v' : Value} {w' : World}
    (hr : (Builtin.copy_ #[t, t'] o.type #[v, u]).run P w = .ok v' w') (h : wpList P ops Q rest (a.put o.dst v') w') : wpList P ops Q (o :: rest) a w :=
  wpList_plain hgd fun _ hK => wp_copy_runQ w d s t t' ho v u hd hs hr (hK _ _ h)

theorem step_copy_runQ {P : Program} {ops : Array Oper} {o : Oper} {a : Act} {w : World} {K : Act → World → Prop} {Q : Exit → Act → World → Prop} {E : Prop}
    (hg : o.guard = none) (d x : Operand) (dT sT : TypeId) (hop : o.op = Op.call { callee := Callee.builtin Builtin.copy, args := #[d, x], argTypes := #[dT, sT] })
    (v u : Value) (hd : a.eval d = v) (hx : a.eval x = u) {v' : Value} {w' : World} (hr : (Builtin.copy_ #[dT, sT] o.type #[v, u]).run P w = .ok v' w') (hK : K (a.put o.dst v') w') :
    if Region.wanted o (yielded ops a.tmps) = true then Oper.wp P o a w K Q else E := by
  have hw : Region.wanted o (yielded ops a.tmps) = true := by simp [Region.wanted, hg]
  rw [if_pos hw]
  unfold Oper.wp
  simp [execOp, hop, resolve, invoke, builtin, hd, hx, hr, Result.andThen]
  exact hK

theorem gv_set_neQ {vs : List Value} {k j : Nat} {u : Value} (h : k ≠ j) : gv (vs.set k u) j = gv vs j := by
  simp [gv, List.getD_eq_getElem?_getD, List.getElem?_set_ne h]
theorem gv_set_eqQ {vs : List Value} {k : Nat} {u : Value} (h : k < vs.length) : gv (vs.set k u) k = u := by
  simp [gv, List.getD_eq_getElem?_getD, h]
/-- one value over and over, from a place on -/
theorem own_fill {B : Nat} {E : TypeId} {g n c : Nat} (u : Value) : ∀ (m : Nat) (vs : List Value) (i : Nat) (w : World), i + m ≤ n → Own w B E (some ⟨g, 0, none⟩) n c vs → ∃ vs', (∀ p, p < i → gv vs' p = gv vs p) ∧ (∀ p, i ≤ p → p < i + m → gv vs' p = u) ∧ Own (w.setCells g i (List.replicate m u)) B E (some ⟨g, 0, none⟩) n c vs'
  | 0, vs, i, w, _, h => ⟨vs, fun _ _ => rfl, fun p h1 h2 => by omega, h⟩
  | m + 1, vs, i, w, hi, h => by
    obtain ⟨vs', h1, h2, h3⟩ := own_fill u m _ (i + 1) _ (by omega) (h.set i u)
    refine ⟨vs', fun p hp => by rw [h1 p (by omega), gv_set_neQ (by omega)], fun p hp hq => ?_, by rw [List.replicate_succ]; exact h3⟩
    by_cases e : p = i
    · subst e
      rw [h1 p (by omega), gv_set_eqQ (by rw [h.len]; omega)]
    · exact h2 p (by omega) (by omega)
theorem gv_all {vs : List Value} {n : Nat} {v : Int} (hl : vs.length = n) (h : ∀ p, p < n → gv vs p = .int .i64 v) : vs = I (List.replicate n v) := by
  apply List.ext_getElem
  · simp [I, hl]
  · intro p h1 h2
    have := h p (by omega)
    simp [gv, h1] at this
    simp [I, this]
end Go.Proofs.Ytccoopnoakhedaa

/- Walks: the states that symbols lead to, in the program. -/
namespace Go.Proofs.Ytccoopnoakhedaa
set_option maxRecDepth 100000
open Go.RowKit

theorem own_some {w : World} {B : Nat} {E : TypeId} {a : Option Addr} {n c : Nat} {vs : List Value} (h : Own w B E a n c vs) (hn : 0 < n) : ∃ g, a = some ⟨g, 0, none⟩ := by
  rcases h.2 with ⟨h1, h2⟩ | ⟨g, cap, cur, hv, _⟩
  · omega
  · simp only [Value.slice.injEq, true_and] at hv
    exact ⟨g, hv.1⟩
theorem mem_gi {l : List Int} {v : Int} : v ∈ l ↔ ∃ d : Nat, d < l.length ∧ v = gi l d := by
  rw [List.mem_iff_getElem]
  constructor
  · rintro ⟨i, hi, rfl⟩
    exact ⟨i, hi, by simp [gi, hi]⟩
  · rintro ⟨d, hd, rfl⟩
    exact ⟨d, hd, by simp [gi, hd]⟩
/-- a row of the call's own: the states to which the digits lead -/
def RetRea (D : Ch) (p x : Int) (w : World) (e : Ending) (w' : World) : Prop :=
  ∃ (a : Option Addr) (m c : Nat) (L : List Int), e = .returned (.slice a m c) ∧ Own w' w.heap.size 2 a m c (I L) ∧ (∀ v, v ∈ L ↔ ∃ d : Nat, (d : Int) < D.base ∧ v = nextS D p x d) ∧ Ext w w' ∧ m ≤ 12
end Go.Proofs.Ytccoopnoakhedaa
