/- Plain: the least distance of two checked words, from the end and from the start. Conditions: none. -/
import Derived.Test.YtaiieodllhoelaaCh
import Derived.Test.YtaiieodllhoelaaChg
import Derived.Lib.SliceRun
import Derived.Test.YtaiieodllhoelaaMark
import Derived.Test.YtaiieodllhoelaaMix
import Derived.RegionTactic
import Derived.Test.YtaiieodllhoelaaVar
import Derived.Lib.Walk
import Derived.Shelf.RegionOpenPlain
import Derived.Laws.IdiomCopy
namespace Go.Proofs.Ytaiieodllhoelaa
set_option maxRecDepth 100000
open Go.RowKit

/-- v is the least of the numbers of P; far without one -/
structure IsMin (v F : Int) (P : Nat → Prop) : Prop where
  le : v ≤ F
  lb : ∀ d, P d → v ≤ (d : Int)
  at' : v = F ∨ ∃ d, P d ∧ v = (d : Int)
theorem IsMin.none (F : Int) {P : Nat → Prop} (h : ∀ d, ¬ P d) : IsMin F F P := ⟨Int.le_refl _, fun d hd => absurd hd (h d), .inl rfl⟩
theorem IsMin.congr {v F : Int} {P Q : Nat → Prop} (h : IsMin v F P) (hq : ∀ d, P d ↔ Q d) : IsMin v F Q :=
  ⟨h.le, fun d hd => h.lb d ((hq d).2 hd), h.at'.imp id fun ⟨d, h1, h2⟩ => ⟨d, (hq d).1 h1, h2⟩⟩
theorem IsMin.or {v u F : Int} {P Q : Nat → Prop} (h : IsMin v F P) (k : IsMin u F Q) : IsMin (min v u) F fun d => P d ∨ Q d := by
  refine ⟨by have := h.le; omega, fun d hd => ?_, ?_⟩
  · rcases hd with hd | hd
    · have := h.lb d hd; omega
    · have := k.lb d hd; omega
  · rcases Int.le_total v u with hl | hl
    · rw [Int.min_eq_left hl]
      exact h.at'.imp id fun ⟨d, h1, h2⟩ => ⟨d, .inl h1, h2⟩
    · rw [Int.min_eq_right hl]
      exact k.at'.imp id fun ⟨d, h1, h2⟩ => ⟨d, .inr h1, h2⟩
/-- one more is added to the second -/
theorem IsMin.orS {v u F : Int} {P Q : Nat → Prop} (h : IsMin v F P) (k : IsMin u F Q) : IsMin (min v (u + 1)) F fun d => P d ∨ ∃ d', Q d' ∧ d = d' + 1 := by
  refine ⟨by have := h.le; omega, fun d hd => ?_, ?_⟩
  · rcases hd with hd | ⟨d', hd, rfl⟩
    · have := h.lb d hd; omega
    · have := k.lb d' hd; push_cast; omega
  · rcases Int.le_total v (u + 1) with hl | hl
    · rw [Int.min_eq_left hl]
      exact h.at'.imp id fun ⟨d, h1, h2⟩ => ⟨d, .inl h1, h2⟩
    · rw [Int.min_eq_right hl]
      rcases k.at' with hk | ⟨d, h1, h2⟩
      · left; have := h.le; omega
      · exact .inr ⟨d + 1, .inr ⟨d, h1, rfl⟩, by push_cast; omega⟩
theorem IsMin.same {v u F F' : Int} {P : Nat → Prop} (h : IsMin v F P) (k : IsMin u F' P) (hF : ∀ d, P d → (d : Int) < F) (hF' : ∀ d, P d → (d : Int) < F') : (v = F ∧ u = F') ∨ (v = u ∧ v < F ∧ u < F') := by
  rcases h.at' with h1 | ⟨d, h1, h2⟩ <;> rcases k.at' with h3 | ⟨d', h3, h4⟩
  · exact .inl ⟨h1, h3⟩
  · exfalso; have := h.lb d' h3; have := hF d' h3; omega
  · exfalso; have := k.lb d h1; have := hF' d h1; omega
  · have := h.lb d' h3; have := k.lb d h1; have := hF d h1; have := hF' d' h3; exact .inr ⟨by omega, by omega, by omega⟩
section
variable (D : Ch)
/-- a digit -/
def IsDg (a : Nat) : Prop := (a : Int) < D.base
/-- two lists lead from two states, r places before the end, to the end; they differ at d places -/
def ApF : Nat → Int → Int → Nat → Prop
  | 0, x, y, d => x = D.fin ∧ y = D.fin ∧ d = 0
  | r + 1, x, y, d => ∃ a b : Nat, IsDg D a ∧ IsDg D b ∧ ∃ d', ApF r (nextS D ((D.places.length - (r + 1) : Nat) : Int) x a) (nextS D ((D.places.length - (r + 1) : Nat) : Int) y b) d' ∧ d = d' + if a = b then 0 else 1
/-- two different lists lead from a state to the end -/
def DfF : Nat → Int → Nat → Prop
  | 0, _, _ => False
  | r + 1, x, d => ∃ a : Nat, IsDg D a ∧ (DfF r (nextS D ((D.places.length - (r + 1) : Nat) : Int) x a) d ∨ ∃ b : Nat, IsDg D b ∧ a ≠ b ∧ ∃ d', ApF D r (nextS D ((D.places.length - (r + 1) : Nat) : Int) x a) (nextS D ((D.places.length - (r + 1) : Nat) : Int) x b) d' ∧ d = d' + 1)
/-- some list leads to a state -/
def EqT : Nat → Int → Prop
  | 0, x => x = D.start
  | k + 1, x' => ∃ x, EqT k x ∧ ∃ a : Nat, IsDg D a ∧ x' = nextS D (k : Int) x a
/-- two different lists lead to two states -/
def LsT : Nat → Int → Int → Nat → Prop
  | 0, _, _, _ => False
  | k + 1, x', y', d => ∃ x y, ∃ a b : Nat, IsDg D a ∧ IsDg D b ∧ x' = nextS D (k : Int) x a ∧ y' = nextS D (k : Int) y b ∧ ((∃ d', LsT k x y d' ∧ d = d' + if a = b then 0 else 1) ∨ x = y ∧ EqT D k x ∧ a ≠ b ∧ d = 1)
/-- what both tell together, k places behind the start -/
def BothT (k : Nat) (d : Nat) : Prop := (∃ x y d1 d2, LsT D k x y d1 ∧ ApF D (D.places.length - k) x y d2 ∧ d = d1 + d2) ∨ ∃ x, EqT D k x ∧ DfF D (D.places.length - k) x d
theorem bothT_step {k : Nat} (hk : k < D.places.length) (d : Nat) : BothT D k d ↔ BothT D (k + 1) d := by
  have hr : D.places.length - k = (D.places.length - (k + 1)) + 1 := by omega
  have hp : D.places.length - ((D.places.length - (k + 1)) + 1) = k := by omega
  unfold BothT
  rw [hr]
  generalize hR : D.places.length - (k + 1) = r at *
  constructor
  · rintro (⟨x, y, d1, d2, h1, h2, rfl⟩ | ⟨x, h1, h2⟩)
    · obtain ⟨a, b, ha, hb, d', h3, rfl⟩ := h2
      rw [hp] at h3
      exact .inl ⟨_, _, d1 + (if a = b then 0 else 1), d', ⟨x, y, a, b, ha, hb, rfl, rfl, .inl ⟨d1, h1, rfl⟩⟩, h3, by omega⟩
    · obtain ⟨a, ha, h2⟩ := h2
      rw [hp] at h2
      rcases h2 with h2 | ⟨b, hb, hne, d', h3, rfl⟩
      · exact .inr ⟨_, ⟨x, h1, a, ha, rfl⟩, h2⟩
      · exact .inl ⟨_, _, 1, d', ⟨x, x, a, b, ha, hb, rfl, rfl, .inr ⟨rfl, h1, hne, rfl⟩⟩, h3, by omega⟩
  · rintro (⟨x', y', d1, d2, ⟨x, y, a, b, ha, hb, rfl, rfl, h1⟩, h2, rfl⟩ | ⟨x', ⟨x, h1, a, ha, rfl⟩, h2⟩)
    · rcases h1 with ⟨d', h1, rfl⟩ | ⟨rfl, h1, hne, rfl⟩
      · exact .inl ⟨x, y, d', d2 + (if a = b then 0 else 1), h1, ⟨a, b, ha, hb, d2, by rw [hp]; exact h2, rfl⟩, by omega⟩
      · exact .inr ⟨x, h1, a, ha, .inr ⟨b, hb, hne, d2, by rw [hp]; exact h2, by omega⟩⟩
    · exact .inr ⟨x, h1, a, ha, .inl (by rw [hp]; exact h2)⟩
/-- from the end and from the start alike -/
theorem both_ends (d : Nat) : DfF D D.places.length D.start d ↔ LsT D D.places.length D.fin D.fin d := by
  have h : ∀ k, k ≤ D.places.length → (BothT D 0 d ↔ BothT D k d) := by
    intro k
    induction k with
    | zero => intro _; exact Iff.rfl
    | succ k ih => intro hk; exact (ih (by omega)).trans (bothT_step D (by omega) d)
  have h1 := h _ (Nat.le_refl _)
  have h0 : BothT D 0 d ↔ DfF D D.places.length D.start d := by
    unfold BothT
    rw [Nat.sub_zero]
    constructor
    · rintro (⟨_, _, _, _, h, _⟩ | ⟨x, hx, h⟩)
      · exact absurd h id
      · rw [show x = D.start from hx] at h; exact h
    · exact fun h => .inr ⟨_, rfl, h⟩
  have hn : BothT D D.places.length d ↔ LsT D D.places.length D.fin D.fin d := by
    unfold BothT
    rw [Nat.sub_self]
    constructor
    · rintro (⟨x, y, d1, d2, h1, ⟨rfl, rfl, rfl⟩, rfl⟩ | ⟨x, _, h⟩)
      · exact h1
      · exact absurd h id
    · exact fun h => .inl ⟨_, _, d, 0, h, ⟨rfl, rfl, rfl⟩, rfl⟩
  exact h0.symm.trans (h1.trans hn)
theorem ApF.le : ∀ (r : Nat) (x y : Int) (d : Nat), ApF D r x y d → d ≤ r
  | 0, _, _, _, ⟨_, _, h⟩ => by omega
  | r + 1, _, _, _, ⟨a, b, _, _, d', h, h2⟩ => by have := ApF.le r _ _ _ h; split at h2 <;> omega
theorem DfF.le : ∀ (r : Nat) (x : Int) (d : Nat), DfF D r x d → d ≤ r
  | 0, _, _, h => absurd h id
  | r + 1, _, _, ⟨a, _, h⟩ => by
    rcases h with h | ⟨b, _, _, d', h, rfl⟩
    · have := DfF.le r _ _ h; omega
    · have := ApF.le D r _ _ _ h; omega
end
end Go.Proofs.Ytaiieodllhoelaa

/- Plain: the least distance from the start, as a table that is filled quadruple by quadruple. Conditions: none. -/
namespace Go.Proofs.Ytaiieodllhoelaa
set_option maxRecDepth 100000
open Go.RowKit

section
variable (D : Ch)
theorem EqT.bd (hok : OkCh D) : ∀ (k : Nat) (x : Int), k ≤ D.places.length → EqT D k x → 0 ≤ x ∧ x < D.states
  | 0, x, _, h => by rw [show x = D.start from h]; exact ⟨hok.st0, hok.st1⟩
  | k + 1, _, hk, ⟨x, h, a, ha, he⟩ => by
    obtain ⟨h1, h2⟩ := EqT.bd hok k x (by omega) h
    rw [he]; unfold IsDg at ha
    exact hok.next (by omega) (by omega) h1 h2 (by omega) ha
theorem LsT.bd (hok : OkCh D) : ∀ (k : Nat) (x y : Int) (d : Nat), k ≤ D.places.length → LsT D k x y d → (0 ≤ x ∧ x < D.states) ∧ (0 ≤ y ∧ y < D.states) ∧ 1 ≤ d ∧ d ≤ k
  | 0, _, _, _, _, h => absurd h id
  | k + 1, _, _, d, hk, ⟨x, y, a, b, ha, hb, he, he2, h⟩ => by
    unfold IsDg at ha hb
    have h0 : (0 ≤ x ∧ x < D.states) ∧ (0 ≤ y ∧ y < D.states) ∧ 1 ≤ d ∧ d ≤ k + 1 := by
      rcases h with ⟨d', h, h3⟩ | ⟨h1, h, hne, h3⟩
      · obtain ⟨h4, h5, h6, h7⟩ := LsT.bd hok k x y d' (by omega) h
        refine ⟨h4, h5, ?_, ?_⟩ <;> (split at h3 <;> omega)
      · have := EqT.bd D hok k x (by omega) h
        subst h1
        exact ⟨this, this, by omega, by omega⟩
    obtain ⟨⟨h1, h2⟩, ⟨h3, h4⟩, h5, h6⟩ := h0
    rw [he, he2]
    exact ⟨hok.next (by omega) (by omega) h1 h2 (by omega) ha, hok.next (by omega) (by omega) h3 h4 (by omega) hb, h5, h6⟩
variable (i S bs : Nat)
/-- what one quadruple gives -/
def Ctr (x y a b : Nat) (d : Nat) : Prop := (∃ d', LsT D i x y d' ∧ d = d' + if a = b then 0 else 1) ∨ (x = y ∧ EqT D i x ∧ a ≠ b ∧ d = 1)
/-- the quadruples before this one -/
def Bef (X Y A B x y a b : Nat) : Prop := y < S ∧ a < bs ∧ b < bs ∧ (x < X ∨ x = X ∧ (y < Y ∨ y = Y ∧ (a < A ∨ a = A ∧ b < B)))
def Con (X Y A B : Nat) (x' y' : Nat) (d : Nat) : Prop := ∃ x y a b : Nat, Bef S bs X Y A B x y a b ∧ nextS D i x a = x' ∧ nextS D i y b = y' ∧ Ctr D i x y a b d
def InvL (far : Int) (X Y A B : Nat) (ll : List Int) : Prop := ll.length = S * S ∧ ∀ x', x' < S → ∀ y', y' < S → IsMin (gi ll (x' * S + y')) far (Con D i S bs X Y A B x' y')
variable {D i S bs}
variable {far : Int} {X Y A B : Nat} {ll : List Int}
theorem InvL.to {X' Y' A' B' : Nat} (h : InvL D i S bs far X Y A B ll) (hb : ∀ x y a b, Bef S bs X Y A B x y a b ↔ Bef S bs X' Y' A' B' x y a b) : InvL D i S bs far X' Y' A' B' ll :=
  ⟨h.1, fun x' hx y' hy => (h.2 x' hx y' hy).congr fun _ => ⟨fun ⟨x, y, a, b, h1, h2⟩ => ⟨x, y, a, b, (hb x y a b).1 h1, h2⟩, fun ⟨x, y, a, b, h1, h2⟩ => ⟨x, y, a, b, (hb x y a b).2 h1, h2⟩⟩⟩
theorem InvL.endB (h : InvL D i S bs far X Y A bs ll) : InvL D i S bs far X Y (A + 1) 0 ll := h.to fun x y a b => by unfold Bef; omega
theorem InvL.endA (h : InvL D i S bs far X Y bs 0 ll) (_hY : Y < S) : InvL D i S bs far X (Y + 1) 0 0 ll := h.to fun x y a b => by unfold Bef; omega
theorem InvL.endY (h : InvL D i S bs far X S 0 0 ll) : InvL D i S bs far (X + 1) 0 0 0 ll := h.to fun x y a b => by unfold Bef; omega
/-- nothing comes from this pair -/
theorem InvL.skip (h : InvL D i S bs far X Y 0 0 ll) (hno : ∀ a b d, ¬ Ctr D i X Y a b d) : InvL D i S bs far X (Y + 1) 0 0 ll :=
  ⟨h.1, fun x' hx y' hy => (h.2 x' hx y' hy).congr fun d => ⟨fun ⟨x, y, a, b, h1, h2⟩ => ⟨x, y, a, b, by unfold Bef at *; omega, h2⟩, fun ⟨x, y, a, b, h1, h2, h3, h4⟩ => ⟨x, y, a, b, by
    have hne : ¬ (x = X ∧ y = Y) := by rintro ⟨rfl, rfl⟩; exact hno a b d h4
    unfold Bef at *; omega, h2, h3, h4⟩⟩⟩
theorem idx_eq {S x y x' y' : Nat} (hy : y < S) (hy' : y' < S) : x * S + y = x' * S + y' ↔ x = x' ∧ y = y' := by
  constructor
  · intro h
    have h1 : (x * S + y) / S = x := by rw [Nat.mul_comm, Nat.mul_add_div (by omega), Nat.div_eq_of_lt hy]; omega
    have h2 : (x' * S + y') / S = x' := by rw [Nat.mul_comm, Nat.mul_add_div (by omega), Nat.div_eq_of_lt hy']; omega
    rw [h, h2] at h1
    subst h1
    exact ⟨rfl, by omega⟩
  · rintro ⟨rfl, rfl⟩; rfl
theorem idx_lt {S x y : Nat} (hx : x < S) (hy : y < S) : x * S + y < S * S := by
  have : (x + 1) * S ≤ S * S := Nat.mul_le_mul_right S (by omega)
  rw [Nat.add_mul] at this; omega
/-- one quadruple: the number at its place is set -/
theorem InvL.put {nx ny : Nat} (h : InvL D i S bs far X Y A B ll) (hA : A < bs) (hB : B < bs) (hY : Y < S) (hnx : nx < S) (hny : ny < S) (e1 : nextS D i X A = nx) (e2 : nextS D i Y B = ny) (v : Int)
    (hv : IsMin v far fun d => Con D i S bs X Y A B nx ny d ∨ Ctr D i X Y A B d) : InvL D i S bs far X Y A (B + 1) (ll.set (nx * S + ny) v) := by
  have hl := h.1
  refine ⟨by rw [List.length_set]; exact hl, fun x' hx y' hy => ?_⟩
  have key : ∀ d, Con D i S bs X Y A (B + 1) x' y' d ↔ Con D i S bs X Y A B x' y' d ∨ (x' = nx ∧ y' = ny ∧ Ctr D i X Y A B d) := fun d => by
    constructor
    · rintro ⟨x, y, a, b, h1, h2, h3, h4⟩
      by_cases e : x = X ∧ y = Y ∧ a = A ∧ b = B
      · obtain ⟨rfl, rfl, rfl, rfl⟩ := e
        exact .inr ⟨by rw [e1] at h2; omega, by rw [e2] at h3; omega, h4⟩
      · exact .inl ⟨x, y, a, b, by unfold Bef at *; omega, h2, h3, h4⟩
    · rintro (⟨x, y, a, b, h1, h2⟩ | ⟨rfl, rfl, h4⟩)
      · exact ⟨x, y, a, b, by unfold Bef at *; omega, h2⟩
      · exact ⟨X, Y, A, B, by unfold Bef; omega, e1, e2, h4⟩
  by_cases e : x' = nx ∧ y' = ny
  · obtain ⟨rfl, rfl⟩ := e
    have hi : gi (ll.set (x' * S + y') v) (x' * S + y') = v := by
      have := idx_lt hx hy
      unfold gi
      rw [List.getD_eq_getElem?_getD, List.getElem?_set_self (by omega)]; rfl
    rw [hi]
    exact hv.congr fun d => by rw [key]; simp
  · have hi : gi (ll.set (nx * S + ny) v) (x' * S + y') = gi ll (x' * S + y') := by
      unfold gi
      rw [List.getD_eq_getElem?_getD, List.getD_eq_getElem?_getD, List.getElem?_set_ne (fun h => e ((idx_eq hy hny).1 h.symm))]
    rw [hi]
    refine (h.2 x' hx y' hy).congr fun d => ?_
    rw [key]
    exact ⟨.inl, fun h => h.elim id fun ⟨h1, h2, _⟩ => absurd ⟨h1, h2⟩ e⟩
/-- one quadruple that gives nothing -/
theorem InvL.pass (h : InvL D i S bs far X Y A B ll) (hno : ∀ d, ¬ Ctr D i X Y A B d) : InvL D i S bs far X Y A (B + 1) ll :=
  ⟨h.1, fun x' hx y' hy => (h.2 x' hx y' hy).congr fun d => ⟨fun ⟨x, y, a, b, h1, h2⟩ => ⟨x, y, a, b, by unfold Bef at *; omega, h2⟩, fun ⟨x, y, a, b, h1, h2, h3, h4⟩ => ⟨x, y, a, b, by
    have hne : ¬ (x = X ∧ y = Y ∧ a = A ∧ b = B) := by rintro ⟨rfl, rfl, rfl, rfl⟩; exact hno d h4
    unfold Bef at *; omega, h2, h3, h4⟩⟩⟩
/-- the least of one quadruple: two symbols -/
theorem ctr_ne {u v : Int} {P : Nat → Prop} (h : IsMin v far P) (k : IsMin u far (LsT D i X Y)) (hAB : A ≠ B) (hne : ¬ (X = Y ∧ EqT D i X)) : IsMin (min v (u + 1)) far fun d => P d ∨ Ctr D i X Y A B d :=
  (h.orS k).congr fun d => ⟨fun h => h.imp id fun ⟨d', h1, h2⟩ => .inl ⟨d', h1, by rw [if_neg hAB]; exact h2⟩, fun h => h.imp id fun h => by
    rcases h with ⟨d', h1, h2⟩ | ⟨h1, h2, _⟩
    · rw [if_neg hAB] at h2; exact ⟨d', h1, h2⟩
    · exact absurd ⟨h1, h2⟩ hne⟩
theorem ctr_one {v : Int} {P : Nat → Prop} (hf : 1 ≤ far) (h : IsMin v far P) (hAB : A ≠ B) (hXY : X = Y) (hE : EqT D i X) : IsMin (min v (0 + 1)) far fun d => P d ∨ Ctr D i X Y A B d := by
  refine ⟨by have := h.le; omega, fun d hd => ?_, ?_⟩
  · rcases hd with hd | ⟨d', _, h2⟩ | ⟨_, _, _, h2⟩
    · have := h.lb d hd; omega
    · rw [if_neg hAB] at h2; omega
    · omega
  · rcases Int.le_total v 1 with hl | hl
    · rw [Int.min_eq_left (by omega)]
      exact h.at'.imp id fun ⟨d, h1, h2⟩ => ⟨d, .inl h1, h2⟩
    · rw [Int.min_eq_right (by omega)]
      exact .inr ⟨1, .inr (.inr ⟨hXY, hE, hAB, rfl⟩), rfl⟩
/-- one symbol twice -/
theorem ctr_eq {u v : Int} {P : Nat → Prop} (h : IsMin v far P) (k : IsMin u far (LsT D i X Y)) : IsMin (min v u) far fun d => P d ∨ Ctr D i X Y A A d :=
  (h.or k).congr fun d => ⟨fun h => h.imp id fun h => .inl ⟨d, h, by simp⟩, fun h => h.imp id fun h => by
    rcases h with ⟨d', h1, h2⟩ | ⟨_, _, h3, _⟩
    · rw [if_pos rfl] at h2; rw [h2]; exact h1
    · exact absurd rfl h3⟩
theorem ctr_eqE {u v : Int} {P : Nat → Prop} (e : A = B) (h : IsMin v far P) (k : IsMin u far (LsT D i X Y)) : IsMin (min v u) far fun d => P d ∨ Ctr D i X Y A B d := by
  subst e; exact ctr_eq h k
theorem ctr_no {u : Int} (k : IsMin u far (LsT D i X Y)) (hu : far ≤ u) (hfar : ∀ d, LsT D i X Y d → (d : Int) < far) (hne : ¬ (X = Y ∧ EqT D i X)) (a b d : Nat) : ¬ Ctr D i X Y a b d := by
  rintro (⟨d', h1, _⟩ | ⟨h1, h2, _⟩)
  · have := k.lb d' h1; have := hfar d' h1; omega
  · exact hne ⟨h1, h2⟩
theorem ctr_noE {u : Int} (k : IsMin u far (LsT D i X Y)) (hu : far ≤ u) (hfar : ∀ d, LsT D i X Y d → (d : Int) < far) (a d : Nat) : ¬ Ctr D i X Y a a d := by
  rintro (⟨d', h1, _⟩ | ⟨_, _, h2, _⟩)
  · have := k.lb d' h1; have := hfar d' h1; omega
  · exact h2 rfl
theorem invL0 (hl : ll.length = S * S) (h : ∀ p, p < S * S → gi ll p = far) : InvL D i S bs far 0 0 0 0 ll :=
  ⟨hl, fun x' hx y' hy => by rw [h _ (idx_lt hx hy)]; exact IsMin.none _ fun d ⟨x, y, a, b, h1, _⟩ => by unfold Bef at h1; omega⟩
theorem InvL.done (hok : OkCh D) (hS : D.states = S) (hbs : D.base = bs) (hi : i < D.places.length) (h : InvL D i S bs far S 0 0 0 ll) (x y : Nat) (hx : x < S) (hy : y < S) : IsMin (gi ll (x * S + y)) far (LsT D (i + 1) x y) :=
  (h.2 x hx y hy).congr fun d => by
    constructor
    · rintro ⟨x0, y0, a, b, h1, h2, h3, h4⟩
      unfold Bef at h1
      refine ⟨x0, y0, a, b, by unfold IsDg; omega, by unfold IsDg; omega, h2.symm, h3.symm, ?_⟩
      rcases h4 with h4 | ⟨h4, h5, h6, h7⟩
      · exact .inl h4
      · exact .inr ⟨by omega, h5, h6, h7⟩
    · rintro ⟨x0, y0, a, b, ha, hb, h2, h3, h4⟩
      unfold IsDg at ha hb
      have hbd : (0 ≤ x0 ∧ x0 < D.states) ∧ (0 ≤ y0 ∧ y0 < D.states) := by
        rcases h4 with ⟨d', h4, _⟩ | ⟨h4, h5, _⟩
        · have := LsT.bd D hok i x0 y0 d' (by omega) h4; exact ⟨this.1, this.2.1⟩
        · have := EqT.bd D hok i x0 (by omega) h5; subst h4; exact ⟨this, this⟩
      obtain ⟨⟨u1, u2⟩, u3, u4⟩ := hbd
      obtain ⟨x1, rfl⟩ := Int.eq_ofNat_of_zero_le u1
      obtain ⟨y1, rfl⟩ := Int.eq_ofNat_of_zero_le u3
      refine ⟨x1, y1, a, b, by unfold Bef; omega, h2.symm, h3.symm, ?_⟩
      rcases h4 with h4 | ⟨h4, h5, h6, h7⟩
      · exact .inl h4
      · exact .inr ⟨by omega, h5, h6, h7⟩
/-! ### the states that some list leads to -/
variable (D i S bs)
def BefE (X Y A x a : Nat) : Prop := a < bs ∧ (x < X ∨ x = X ∧ (X < Y ∨ X = Y ∧ a < A))
def InvE (X Y A : Nat) (E : Nat → Bool) : Prop := ∀ z, z < S → (E z = true ↔ ∃ x a : Nat, BefE bs X Y A x a ∧ EqT D i x ∧ nextS D i x a = z)
variable {D i S bs}
variable {E : Nat → Bool}
theorem invE0 : InvE D i S bs 0 0 0 fun _ => false := fun z _ => ⟨fun h => absurd h (by simp), fun ⟨x, a, h, _⟩ => by unfold BefE at h; omega⟩
theorem InvE.put {nx : Nat} (h : InvE D i S bs X Y A E) (hXY : X = Y) (hE : EqT D i X) (hA : A < bs) (hnx : nextS D i X A = nx) : InvE D i S bs X Y (A + 1) fun z => if z = nx then true else E z := fun z hz => by
  show (if z = nx then true else E z) = true ↔ _
  by_cases e : z = nx
  · rw [if_pos e]
    exact ⟨fun _ => ⟨X, A, by unfold BefE; omega, hE, by rw [e]; exact hnx⟩, fun _ => rfl⟩
  · rw [if_neg e, h z hz]
    constructor
    · rintro ⟨x, a, h1, h2⟩; exact ⟨x, a, by unfold BefE at *; omega, h2⟩
    · rintro ⟨x, a, h1, h2, h3⟩
      have hne : ¬ (x = X ∧ a = A) := by rintro ⟨rfl, rfl⟩; rw [hnx] at h3; omega
      exact ⟨x, a, by unfold BefE at *; omega, h2, h3⟩
theorem InvE.pass (h : InvE D i S bs X Y A E) (hno : ¬ (X = Y ∧ EqT D i X)) : InvE D i S bs X Y (A + 1) E := fun z hz => by
  rw [h z hz]
  constructor
  · rintro ⟨x, a, h1, h2⟩; exact ⟨x, a, by unfold BefE at *; omega, h2⟩
  · rintro ⟨x, a, h1, h2, h3⟩
    have hne : ¬ (x = X ∧ X = Y) := by rintro ⟨rfl, rfl⟩; exact hno ⟨rfl, h2⟩
    exact ⟨x, a, by unfold BefE at *; omega, h2, h3⟩
theorem InvE.endA (h : InvE D i S bs X Y bs E) : InvE D i S bs X (Y + 1) 0 E := fun z hz => by
  rw [h z hz]
  constructor <;> (rintro ⟨x, a, h1, h2⟩; exact ⟨x, a, by unfold BefE at *; omega, h2⟩)
theorem InvE.skip (h : InvE D i S bs X Y 0 E) (hno : ¬ (X = Y ∧ EqT D i X)) : InvE D i S bs X (Y + 1) 0 E := fun z hz => by
  rw [h z hz]
  constructor
  · rintro ⟨x, a, h1, h2⟩; exact ⟨x, a, by unfold BefE at *; omega, h2⟩
  · rintro ⟨x, a, h1, h2, h3⟩
    have hne : ¬ (x = X ∧ X = Y) := by rintro ⟨rfl, rfl⟩; exact hno ⟨rfl, h2⟩
    exact ⟨x, a, by unfold BefE at *; omega, h2, h3⟩
theorem InvE.endY (h : InvE D i S bs X S 0 E) (hX : X < S) : InvE D i S bs (X + 1) 0 0 E := fun z hz => by
  rw [h z hz]
  constructor <;> (rintro ⟨x, a, h1, h2⟩; exact ⟨x, a, by unfold BefE at *; omega, h2⟩)
theorem InvE.done (hok : OkCh D) (hS : D.states = S) (hbs : D.base = bs) (hi : i < D.places.length) (h : InvE D i S bs S 0 0 E) (z : Nat) (hz : z < S) : E z = true ↔ EqT D (i + 1) z := by
  rw [h z hz]
  constructor
  · rintro ⟨x, a, h1, h2, h3⟩
    unfold BefE at h1
    exact ⟨x, h2, a, by unfold IsDg; omega, h3.symm⟩
  · rintro ⟨x, h2, a, ha, h3⟩
    unfold IsDg at ha
    obtain ⟨u1, u2⟩ := EqT.bd D hok i x (by omega) h2
    obtain ⟨x1, rfl⟩ := Int.eq_ofNat_of_zero_le u1
    exact ⟨x1, a, by unfold BefE; omega, h2, h3.symm⟩
end
end Go.Proofs.Ytaiieodllhoelaa

/- Words: a row's own ends; cells that are cleared. Conditions: none; nothing here speaks of a program's text. -/
namespace Go.Proofs.Ytaiieodllhoelaa
set_option maxRecDepth 100000
open Go.RowKit

theorem own_suf {P : Program} {w : World} {B : Nat} {E : TypeId} {g n c : Nat} {vs : List Value} (h : Own w B E (some ⟨g, 0, none⟩) n c vs) (T : TypeId) (ht : P.underlying T = some (.slice E)) (he : P.cellsOf E = 1) (hel : P.elem T = E)
    (k : Nat) (hk : k < n) (w' : World) (K : IntKind) : (Instr.sliceAt T (.slice (some ⟨g, 0, none⟩) n c) (some (.int K k)) none none).run P w' = .ok (.slice (some ⟨g, k, none⟩) (n - k) (c - k)) w' := by
  obtain ⟨i, hi', hs⟩ := cellsOf_size he (by omega)
  have ht' : P.underlying T = some (.slice (P.elem T)) := by rw [hel]; exact ht
  have hc := h.sl.cap
  rw [run_sliceAt_slice w' T _ _ _ _ ht', run_slice_l w' T _ n c ht' K k (by omega) (by omega)]
  simp [sizeOf, typeInfo, hel, hi', hs, Result.andThen, sliced, Addr.add_lit]
  intro h; omega
theorem own_pre {P : Program} {w : World} {B : Nat} {E : TypeId} {g n c : Nat} {vs : List Value} (h : Own w B E (some ⟨g, 0, none⟩) n c vs) (T : TypeId) (ht : P.underlying T = some (.slice E)) (he : P.cellsOf E = 1) (hel : P.elem T = E)
    (k : Nat) (hk : k ≤ n) (w' : World) (K : IntKind) : (Instr.sliceAt T (.slice (some ⟨g, 0, none⟩) n c) none (some (.int K k)) none).run P w' = .ok (.slice (some ⟨g, 0, none⟩) k c) w' := by
  obtain ⟨i, hi', hs⟩ := cellsOf_size he (by omega)
  have ht' : P.underlying T = some (.slice (P.elem T)) := by rw [hel]; exact ht
  have hc := h.sl.cap
  rw [run_sliceAt_slice w' T _ _ _ _ ht', run_slice_h w' T _ n c ht' K k (by omega) (by omega)]
  simp [sizeOf, typeInfo, hel, hi', hs, Result.andThen, sliced, Addr.add_lit]
theorem own_cut {w : World} {B : Nat} {E : TypeId} {g n c : Nat} {vs : List Value} (h : Own w B E (some ⟨g, 0, none⟩) n c vs) (m : Nat) (hm : m ≤ n) : Own w B E (some ⟨g, 0, none⟩) m c (vs.take m) := by
  have hl := h.len
  refine ⟨by rw [List.length_take]; omega, ?_⟩
  rcases h.2 with ⟨h1, _⟩ | ⟨g', cap, cur, hv, hb, hg, h1, h2, h3, h4⟩
  · cases h1
  · simp only [Value.slice.injEq, true_and] at hv
    obtain ⟨hv1, rfl⟩ := hv
    refine .inr ⟨g', c, cur, by rw [hv1], hb, hg, by omega, h2, h3, ?_⟩
    rw [← h4, List.take_take]
    congr 1; omega
theorem take_set_ge {α : Type} (l : List α) (i k : Nat) (x : α) (h : i ≤ k) : (l.set k x).take i = l.take i := by
  rw [List.take_set_of_le h]
theorem own_setCells {B : Nat} {E : TypeId} {g n c : Nat} : ∀ (us vs : List Value) (i : Nat) (w : World), Own w B E (some ⟨g, 0, none⟩) n c vs → ∃ vs', vs'.take i = vs.take i ∧ Own (w.setCells g i us) B E (some ⟨g, 0, none⟩) n c vs'
  | [], vs, i, w, h => ⟨vs, rfl, h⟩
  | u :: us, vs, i, w, h => by
    obtain ⟨vs', h1, h2⟩ := own_setCells us _ (i + 1) _ (h.set i u)
    refine ⟨vs', ?_, h2⟩
    have h3 : (vs'.take (i + 1)).take i = ((vs.set i u).take (i + 1)).take i := by rw [h1]
    rw [List.take_take, List.take_take, show min i (i + 1) = i by omega] at h3
    rw [h3, take_set_ge _ _ _ _ (Nat.le_refl _)]
theorem chg_setCells {g : Nat} : ∀ (us : List Value) (i : Nat) (w : World), g < w.heap.size → Chg g (g + 1) w (w.setCells g i us)
  | [], i, w, _ => Chg.refl _ _ _
  | u :: us, i, w, h => (Chg.set w i u (Nat.le_refl _) (by omega)).trans (chg_setCells us (i + 1) _ (by rw [size_setCell]; exact h))

end Go.Proofs.Ytaiieodllhoelaa

/- Walks: short rows of numbers sorted by the library; what they hold stays. -/
namespace Go.Proofs.Ytaiieodllhoelaa
set_option maxRecDepth 100000
open Go.RowKit

theorem swap_perm {l : List Int} {i j : Nat} (hi : i < l.length) (hj : j < l.length) : ((l.set i (gi l j)).set j (gi l i)).Perm l := by
  have h1 : gi l i = l[i] := by simp [gi, hi]
  have h2 : gi l j = l[j] := by simp [gi, hj]
  rw [h1, h2]
  exact List.set_set_perm hi hj
theorem mk_drew {B : Nat} {a : Option Addr} {w w' : World} (h : Mk B a w w') : Mk B a w w'.drew := ⟨h.below.drew, h.size, h.block⟩
/-- sorted in place: only this row has changed, and it holds the same numbers -/
def SrtPost (B : Nat) (a : Option Addr) (n c : Nat) (l : List Int) (w : World) (e : Ending) (w' : World) : Prop := e = .returned (.tuple #[]) ∧ Mk B a w w' ∧ ∃ l', Own w' B 2 a n c (I l') ∧ l'.Perm l
set_option maxHeartbeats 400000 in
theorem cmp_nan (x : Int) (w : World) : Calls Try.prog 190 #[.int .i64 x] w (Same (.bool false) w) := by
  go_enter Try.func190, Try.ntmps190
  go_wp2
  go_ret
  exact ⟨by simp, rfl⟩
set_option maxHeartbeats 400000 in
theorem cmp_less (x y : Int) (w : World) : Calls Try.prog 227 #[.int .i64 x, .int .i64 y] w (Same (.bool (decide (x < y))) w) := by
  have HN := Lib.hid (fun z W => cmp_nan z W)
  go_enter Try.func227, Try.ntmps227
  go_wp2_with ((with_reducible refine (HN.out _ _).mono ?_); rintro e w1 ⟨rfl, rfl⟩)
  go_ret
  exact ⟨rfl, rfl⟩
set_option maxHeartbeats 2000000 in
theorem insSort (g n c : Nat) (l : List Int) (B : Nat) (w : World) (ho : Own w B 2 (some ⟨g, 0, none⟩) n c (I l)) (hn : n ≤ 1048576) :
    Calls Try.prog 221 #[.slice (some ⟨g, 0, none⟩) n c, .int .i64 0, .int .i64 n] w (SrtPost B (some ⟨g, 0, none⟩) n c l w) := by
  have HO := Lib.hid ho
  have hg := ho.lt
  clear ho
  go_enter Try.func221, Try.ntmps221
  go_wp2_with fail
  go_loopw [6] (fun v6 wr => ∃ (i : Nat) (l' : List Int), 1 ≤ i ∧ (i ≤ n ∨ i = 1) ∧ v6 = .int .i64 i ∧ Hid (Mk B (some ⟨g, 0, none⟩) w wr) ∧ Hid (Own wr B 2 (some ⟨g, 0, none⟩) n c (I l')) ∧ Hid (l'.Perm l)) (fun v6 _ => n - (intOf v6).toNat)
  case atStart => exact ⟨1, l, Nat.le_refl _, .inr rfl, rfl, Mk.refl _ _ _, HO.out, List.Perm.refl _⟩
  case round =>
    obtain ⟨i, l', hi1, hin, rfl, HM, HR, HP⟩ := hrel
    by_cases hlt : i < n
    · go_wp2_with fail
      go_loopw [7] (fun v7 wr => ∃ (j : Nat) (l' : List Int), j ≤ i ∧ v7 = .int .i64 j ∧ Hid (Mk B (some ⟨g, 0, none⟩) w wr) ∧ Hid (Own wr B 2 (some ⟨g, 0, none⟩) n c (I l')) ∧ Hid (l'.Perm l)) (fun v7 _ => (intOf v7).toNat)
      case atStart => exact ⟨i, l', Nat.le_refl _, rfl, HM.out, HR.out, HP.out⟩
      case round =>
        obtain ⟨j, l2, hji, rfl, HM2, HR2, HP2⟩ := hrel
        have HL2 := Lib.hid ((I_len l2).symm.trans HR2.out.len)
        by_cases hj0 : 0 < j
        · obtain ⟨i1, c1, f1⟩ := HR2.out.at (P := Try.prog) 25 und_int64s cell_int64 j (by omega) .i64
          obtain ⟨i2, c2, f2⟩ := HR2.out.at (P := Try.prog) 25 und_int64s cell_int64 (j - 1) (by omega) .i64
          rw [I_getD _ _ (by rw [HL2.out]; omega)] at c1 c2
          rw [show ((j - 1 : Nat) : Int) = (j : Int) - 1 by omega] at i2
          have HS := Lib.hid (swap_perm (l := l2) (i := j) (j := j - 1) (by rw [HL2.out]; omega) (by rw [HL2.out]; omega))
          have HCm := Lib.hid (fun W => cmp_less (l2.getD j 0) (l2.getD (j - 1) 0) W)
          have hne : j ≠ j - 1 := by omega
          have hne2 : j - 1 ≠ j := by omega
          have hjpos : decide (0 < (j : Int)) = true := decide_eq_true (by omega)
          by_cases hxy : l2.getD j 0 < l2.getD (j - 1) 0
          · rw [decide_eq_true hxy] at HCm
            clear hxy
            generalize hx : l2.getD j 0 = x at *
            generalize hy : l2.getD (j - 1) 0 = y at *
            have HS2 := Lib.hid (show ((l2.set j y).set (j - 1) x).Perm l2 from by rw [← hx, ← hy]; exact HS.out)
            clear hx hy HS
            go_wp2_with fail
            go_quiet ((go_at_call 227; exact quietS (HCm.out _)))
            obtain ⟨wq, hwq⟩ : ∃ W, W = wr.drewN nq := ⟨_, rfl⟩
            have hxq : Ext wr wq := by rw [hwq]; exact (Ext.refl wr).drewN nq
            have HMq := Lib.hid (show Mk B (some ⟨g, 0, none⟩) w wq from HM2.out.trans (Mk.ext hxq (by have := HM2.out.size; omega)))
            have HRq := Lib.hid (HR2.out.ext hxq)
            have hfz : ∀ k, k < n → wq.frozen? ⟨g, k, none⟩ = false := fun k hk => (HRq.out.at (P := Try.prog) 25 und_int64s cell_int64 k hk .i64).2.2
            have f1q := hfz j (by omega)
            have f2q := hfz (j - 1) (by omega)
            have c1q := hxq.cell c1
            have c2q := hxq.cell c2
            have hgB : B ≤ g := hg.1
            rw [← hwq]
            clear hwq c1 c2 f1 f2 hfz
            go_wp2_with fail
            go_region
            go_wp2
            refine ⟨⟨j - 1, _, by omega, by congr 1; omega, mk_drew (HMq.out.trans ((Mk.set wq j _ hgB).trans (Mk.set _ (j - 1) _ hgB))), ?_, HS2.out.trans HP2.out⟩, by simp [intOf]; omega⟩
            have h9 := ((HRq.out.set j (.int .i64 y)).set (j - 1) (.int .i64 x)).drew
            rw [I_set, I_set] at h9
            exact h9
          · rw [decide_eq_false hxy] at HCm
            clear hxy HS
            generalize l2.getD j 0 = x at *
            generalize l2.getD (j - 1) 0 = y at *
            go_wp2_with fail
            go_quiet ((go_at_call 227; exact quietS (HCm.out _)))
            have hxq : Ext wr (wr.drewN nq) := (Ext.refl wr).drewN nq
            go_wp2_with fail
            exact ⟨⟨i + 1, l2, by omega, .inl (by omega), by go_num, HM2.out.trans (Mk.ext hxq (by have := HM2.out.size; omega)), HR2.out.ext hxq, HP2.out⟩, by simp [intOf]; omega⟩
        · obtain rfl : j = 0 := by omega
          go_wp2_with fail
          go_quiet (fail)
          have hxq : Ext wr (wr.drewN nq) := (Ext.refl wr).drewN nq
          go_wp2_with fail
          exact ⟨⟨i + 1, l2, by omega, .inl (by omega), by go_num, HM2.out.trans (Mk.ext hxq (by have := HM2.out.size; omega)), HR2.out.ext hxq, HP2.out⟩, by simp [intOf]; omega⟩
    · go_wp2_with fail
      refine bodyPost_ret (v := .tuple #[]) (by simp [results, Try.results221, go_sem]) rfl ?_
      exact ⟨rfl, HM.out, l', HR.out, HP.out⟩
set_option maxHeartbeats 2000000 in
theorem pdqShort (g n c : Nat) (l : List Int) (B : Nat) (k : Int) (w : World) (ho : Own w B 2 (some ⟨g, 0, none⟩) n c (I l)) (hn : n ≤ 12) :
    Calls Try.prog 214 #[.slice (some ⟨g, 0, none⟩) n c, .int .i64 0, .int .i64 n, .int .i64 k] w (SrtPost B (some ⟨g, 0, none⟩) n c l w) := by
  have HS := Lib.hid (insSort g n c l B w ho (by omega))
  clear ho
  go_enter Try.func214, Try.ntmps214
  go_wp2_with fail
  refine wp_loop_rounds 1 ?_
  rw [rounds_succ]
  go_wp2_with ((go_at_call 221; (with_reducible refine HS.out.mono ?_); rintro e w1 ⟨rfl, hm, ho1⟩; have HM := Lib.hid hm; have HO1 := Lib.hid ho1; clear hm ho1))
  refine bodyPost_ret (v := .tuple #[]) (by simp [results, Try.results214, go_sem]) rfl ?_
  exact ⟨rfl, HM.out, HO1.out⟩
set_option maxHeartbeats 2000000 in
theorem bits_len64 (n : Int) (w : World) (h0 : 0 ≤ n) (hn : n ≤ 12) : Calls Try.prog 213 #[.int .u64 n] w (fun e w' => w = w' ∧ ∃ k : Int, e = .returned (.int .i64 k)) := by
  have h : n = 0 ∨ n = 1 ∨ n = 2 ∨ n = 3 ∨ n = 4 ∨ n = 5 ∨ n = 6 ∨ n = 7 ∨ n = 8 ∨ n = 9 ∨ n = 10 ∨ n = 11 ∨ n = 12 := by omega
  rcases h with rfl | rfl | rfl | rfl | rfl | rfl | rfl | rfl | rfl | rfl | rfl | rfl | rfl
  all_goals
    go_enter Try.func213, Try.ntmps213
    go_wp2
    go_ret
    exact ⟨rfl, _, rfl⟩
set_option maxHeartbeats 2000000 in
theorem bits_len (n : Int) (w : World) (h0 : 0 ≤ n) (hn : n ≤ 12) : Calls Try.prog 197 #[.int .u64 n] w (fun e w' => w = w' ∧ ∃ k : Int, e = .returned (.int .i64 k)) := by
  have HL := Lib.hid (bits_len64 n w h0 hn)
  go_enter Try.func197, Try.ntmps197
  go_wp2_with ((with_reducible refine HL.out.mono ?_); rintro e w1 ⟨rfl, k, rfl⟩)
  go_ret
  exact ⟨rfl, k, rfl⟩
set_option maxHeartbeats 2000000 in
theorem sortShort (g n c : Nat) (l : List Int) (B : Nat) (w : World) (ho : Own w B 2 (some ⟨g, 0, none⟩) n c (I l)) (hn : n ≤ 12) :
    Calls Try.prog 200 #[.slice (some ⟨g, 0, none⟩) n c] w (SrtPost B (some ⟨g, 0, none⟩) n c l w) := by
  have HS := Lib.hid (fun k => pdqShort g n c l B k w ho hn)
  have HB := Lib.hid (bits_len (n : Int) w (by omega) (by omega))
  clear ho
  go_enter Try.func200, Try.ntmps200
  go_wp2_with (first | ((with_reducible refine HB.out.mono ?_); rintro e w1 ⟨rfl, k, rfl⟩) | ((with_reducible refine (HS.out _).mono ?_); rintro e w2 ⟨rfl, hm, ho1⟩; have HM := Lib.hid hm; have HO1 := Lib.hid ho1; clear hm ho1))
  refine bodyPost_ret (v := .tuple #[]) (by simp [results, Try.results200, go_sem]) rfl ?_
  exact ⟨rfl, HM.out, HO1.out⟩
end Go.Proofs.Ytaiieodllhoelaa

/- Walks: the states that symbols lead to, in the program. -/
namespace Go.Proofs.Ytaiieodllhoelaa
set_option maxRecDepth 100000
open Go.RowKit

/-- the first m numbers of a row hold what the row held -/
def CmpPost (B : Nat) (g c : Nat) (l : List Int) (w : World) (e : Ending) (w' : World) : Prop :=
  ∃ (m : Nat) (L : List Int), e = .returned (.slice (some ⟨g, 0, none⟩) m c) ∧ Own w' B 2 (some ⟨g, 0, none⟩) m c (I L) ∧ m ≤ l.length ∧ (∀ v, v ∈ L ↔ v ∈ l) ∧ Chg g (g + 1) w w'
theorem mem_take_snoc {l : List Int} {k : Nat} (h : k < l.length) (v : Int) : v ∈ l.take (k + 1) ↔ v ∈ l.take k ∨ v = gi l k := by
  rw [take_gi h, List.mem_append]; simp
theorem gi_in_take {l : List Int} {k m : Nat} (h : k < m) (hl : k < l.length) : gi l k ∈ l.take m := by
  have h2 : k < (l.take m).length := by rw [List.length_take]; omega
  have h3 : (l.take m)[k] = gi l k := by rw [List.getElem_take]; simp [gi, hl]
  rw [← h3]; exact List.getElem_mem _
theorem gi_set_ne {l : List Int} {i k : Nat} {x : Int} (h : i ≠ k) : gi (l.set i x) k = gi l k := by
  unfold gi; rw [List.getD_eq_getElem?_getD, List.getD_eq_getElem?_getD, List.getElem?_set_ne h]
theorem ix_lit {P : Program} {E T : TypeId} (ht : P.underlying T = some (.slice E)) (he : P.cellsOf E = 1) (b off n c : Nat) (i : Int) (k : Nat) (hik : i = (k : Int)) (hk : k < n) (K : IntKind) (w' : World) :
    (Instr.indexAt T (.slice (some ⟨b, off, none⟩) n c) (.int K i)).run P w' = .ok (.pointer (some ⟨b, off + k, none⟩)) w' := by
  subst hik
  obtain ⟨i, hi, hs⟩ := cellsOf_size he (by omega)
  simp [Instr.indexAt, asIntOf, run_underlying ht, sizeOf, typeInfo, hi, hs, Addr.add_lit, hk]
/-- the row while it is cut short: the first kk of l2 hold what the first k + j of l held; from kk on it is l -/
structure CmI (l : List Int) (k j kk : Nat) (l2 : List Int) : Prop where
  len : l2.length = l.length
  lo : k ≤ kk
  hi : kk < k + j
  high : ∀ p, kk ≤ p → gi l2 p = gi l p
  mem : ∀ v, v ∈ l2.take kk ↔ v ∈ l.take (k + j)
theorem CmI.start {l : List Int} {k : Nat} (hk : 1 ≤ k) (hl : k < l.length) (h : gi l k = gi l (k - 1)) : CmI l k 1 k l :=
  ⟨rfl, Nat.le_refl _, by omega, fun _ _ => rfl, fun v => by
    rw [mem_take_snoc hl]
    refine ⟨.inl, fun h2 => h2.elim id ?_⟩
    rintro rfl
    rw [h]; exact gi_in_take (by omega) (by omega)⟩
theorem CmI.skip {l l2 : List Int} {k j kk : Nat} (H : CmI l k j kk l2) (hj : 1 ≤ j) (hl : k + j < l.length) (h : gi l (k + j) = gi l (k + j - 1)) : CmI l k (j + 1) kk l2 :=
  ⟨H.len, H.lo, by have := H.hi; omega, H.high, fun v => by
    rw [H.mem, ← Nat.add_assoc, mem_take_snoc hl]
    refine ⟨.inl, fun h2 => h2.elim id ?_⟩
    rintro rfl
    rw [h]; exact gi_in_take (by omega) (by omega)⟩
theorem CmI.keep {l l2 : List Int} {k j kk : Nat} (H : CmI l k j kk l2) (hl : k + j < l.length) : CmI l k (j + 1) (kk + 1) (l2.set kk (gi l (k + j))) :=
  ⟨by rw [List.length_set]; exact H.len, by have := H.lo; omega, by have := H.hi; omega, fun p hp => by rw [gi_set_ne (by omega)]; exact H.high p (by omega), fun v => by
    have h1 := H.hi
    have h2 := H.len
    have e : gi (l2.set kk (gi l (k + j))) kk = gi l (k + j) := by
      unfold gi
      rw [List.getD_eq_getElem?_getD, List.getElem?_set_self (by omega)]; rfl
    rw [mem_take_snoc (by rw [List.length_set]; omega), take_set_ge _ _ _ _ (Nat.le_refl _), e, H.mem, ← Nat.add_assoc, mem_take_snoc hl]⟩
set_option maxHeartbeats 2000000 in
theorem compactInts (g n c : Nat) (l : List Int) (B : Nat) (w : World) (ho : Own w B 2 (some ⟨g, 0, none⟩) n c (I l)) (hn : n ≤ 1048576) :
    Calls Try.prog 201 #[.slice (some ⟨g, 0, none⟩) n c] w (CmpPost B g c l w) := by
  have HL := Lib.hid ((I_len l).symm.trans ho.len)
  have HO := Lib.hid ho
  have hg := ho.lt
  have hI := fun (i : Int) (k : Nat) (hik : i = (k : Int)) (hk : k < n) (K : IntKind) (w' : World) => ix_lit (P := Try.prog) (T := 25) und_int64s cell_int64 g 0 n c i k hik hk K w'
  have HI := Lib.hid hI
  have HSu := Lib.hid (fun (k : Nat) (hk : k < n) (w' : World) (K : IntKind) => own_suf (P := Try.prog) ho 25 und_int64s cell_int64 elem_int64s k hk w' K)
  clear hI
  clear ho
  by_cases h2 : n < 2
  · go_enter Try.func201, Try.ntmps201
    go_wp2_with fail
    go_ret
    exact ⟨n, l, rfl, HO.out, by rw [HL.out]; exact Nat.le_refl _, fun v => Iff.rfl, Chg.refl _ _ _⟩
  go_enter Try.func201, Try.ntmps201
  go_wp2_with fail
  have hd2 : decide ((n : Int) < 2) = false := decide_eq_false (by omega)
  rw [hd2]
  clear hd2
  go_loopw [3] (fun v3 wr => ∃ k : Nat, 1 ≤ k ∧ k ≤ n ∧ v3 = .int .i64 k ∧ Ext w wr) (fun v3 _ => n - (intOf v3).toNat)
  case atStart => exact ⟨1, Nat.le_refl _, by omega, rfl, Ext.refl _⟩
  case round =>
    obtain ⟨k, hk1, hkn, rfl, hx⟩ := hrel
    by_cases hlt : k < n
    · have i1 := fun K w' => HI.out (k : Int) k rfl hlt K w'
      have i2 := fun K w' => HI.out ((k : Int) - 1) (k - 1) (by omega) (by omega) K w'
      rw [Nat.zero_add] at i1 i2
      have hOr := HO.out.ext hx
      have c1 : ∀ w', Ext wr w' → w'.cell? ⟨g, k, none⟩ = some (.int .i64 (gi l k)) := fun w' h => h.cell (by have := (hOr.at (P := Try.prog) 25 und_int64s cell_int64 k hlt .i64).2.1; rwa [I_getD _ _ (by rw [HL.out]; exact hlt)] at this)
      have c2 : ∀ w', Ext wr w' → w'.cell? ⟨g, k - 1, none⟩ = some (.int .i64 (gi l (k - 1))) := fun w' h => h.cell (by have := (hOr.at (P := Try.prog) 25 und_int64s cell_int64 (k - 1) (by omega) .i64).2.1; rwa [I_getD _ _ (by rw [HL.out]; omega)] at this)
      have HOr := Lib.hid hOr
      clear hOr
      have hww : Ext wr wr := Ext.refl _
      by_cases heq : gi l k = gi l (k - 1)
      · have HE := Lib.hid heq
        have hb : (gi l k == gi l (k - 1)) = true := by simpa using heq
        clear heq
        generalize hgx : gi l k = gx at c1 hb HE
        generalize hgy : gi l (k - 1) = gy at c2 hb HE
        have HGx := Lib.hid hgx
        have HGy := Lib.hid hgy
        have sf := HSu.out k hlt
        clear hgx hgy
        go_wp2_with fail
        (refine wp_region_from wr (by repeat (first | (with_reducible exact Ext.refl _) | (with_reducible refine Ext.drewN ?_ _) | (with_reducible refine Ext.drew ?_) | (with_reducible refine Ext.alloc ?_ _) | ((with_reducible refine Ext.setCell ?_ ?_ _); rotate_left; focus (first | (simp; done) | (simp; omega) | omega)) | assumption | (with_reducible refine Ext.trans ?_ (by assumption)))) (by kernel_rfl) (by kernel_rfl) (by kernel_rfl) ?_; (repeat (first | (refine mix_q rfl ?_; go_big_quiet_step (fail); refine wpQuiet_nil ?_; show wpMix _ _ _ _ _ _ _) | (refine mix_s rfl ?_; go_wp2_with (fail); first | refine ⟨up_of (by repeat (first | (with_reducible exact Ext.refl _) | (with_reducible refine Ext.drewN ?_ _) | (with_reducible refine Ext.drew ?_) | (with_reducible refine Ext.alloc ?_ _) | ((with_reducible refine Ext.setCell ?_ ?_ _); rotate_left; focus (first | (simp; done) | (simp; omega) | omega)) | assumption | (with_reducible refine Ext.trans ?_ (by assumption)))), ?_⟩ | refine ⟨rfl, rfl, up_of (by repeat (first | (with_reducible exact Ext.refl _) | (with_reducible refine Ext.drewN ?_ _) | (with_reducible refine Ext.drew ?_) | (with_reducible refine Ext.alloc ?_ _) | ((with_reducible refine Ext.setCell ?_ ?_ _); rotate_left; focus (first | (simp; done) | (simp; omega) | omega)) | assumption | (with_reducible refine Ext.trans ?_ (by assumption)))), ?_⟩))); refine mix_nil ?_)
        go_wp2_with fail
        have HST := Lib.hid (CmI.start hk1 (by rw [HL.out]; exact hlt) (HGx.out.trans (HE.out.trans HGy.out.symm)))
        clear c1 c2 hb
        go_loopw [3, 5] (fun v3 v5 wi => ∃ (j kk : Nat) (l2 : List Int), 1 ≤ j ∧ j ≤ n - k ∧ v3 = .int .i64 kk ∧ v5 = .int .i64 j ∧ Hid (CmI l k j kk l2) ∧ Hid (Own wi B 2 (some ⟨g, 0, none⟩) n c (I l2)) ∧ Chg g (g + 1) w wi) (fun _ v5 _ => n - (intOf v5).toNat)
        case atStart => exact ⟨1, k, l, Nat.le_refl _, by omega, rfl, rfl, HST, Lib.hid (HOr.out.ext (by repeat (first | (with_reducible exact Ext.refl _) | (with_reducible assumption) | (with_reducible refine Ext.drewN ?_ _) | (with_reducible refine Ext.drew ?_) | (with_reducible refine Ext.alloc ?_ _) | ((with_reducible refine Ext.setCell ?_ ?_ _); rotate_left; focus (first | (simp; done) | (simp; omega) | omega)) | (with_reducible refine Ext.trans ?_ (by with_reducible assumption))))), Chg.ext (hx.trans (by repeat (first | (with_reducible exact Ext.refl _) | (with_reducible assumption) | (with_reducible refine Ext.drewN ?_ _) | (with_reducible refine Ext.drew ?_) | (with_reducible refine Ext.alloc ?_ _) | ((with_reducible refine Ext.setCell ?_ ?_ _); rotate_left; focus (first | (simp; done) | (simp; omega) | omega)) | (with_reducible refine Ext.trans ?_ (by with_reducible assumption))))) _ _⟩
        case round =>
          obtain ⟨j, kk, l2, hj1, hjn, rfl, rfl, HD, HOw, hc⟩ := hrel
          have hlo := HD.out.lo
          have hhi := HD.out.hi
          by_cases hltj : j < n - k
          · have y1 := fun K w' => ix_lit (P := Try.prog) (T := 25) und_int64s cell_int64 g k (n - k) (c - k) (j : Int) j rfl hltj K w'
            have y2 := fun K w' => ix_lit (P := Try.prog) (T := 25) und_int64s cell_int64 g k (n - k) (c - k) ((j : Int) - 1) (j - 1) (by omega) (by omega) K w'
            have hll := HD.out.len.trans HL.out
            obtain ⟨_, d1, _⟩ := HOw.out.at (P := Try.prog) 25 und_int64s cell_int64 (k + j) (by omega) .i64
            obtain ⟨_, d2, _⟩ := HOw.out.at (P := Try.prog) 25 und_int64s cell_int64 (k + (j - 1)) (by omega) .i64
            rw [(I_getD l2 (k + j) (by omega)).trans (congrArg (Value.int .i64) (HD.out.high (k + j) (by omega)))] at d1
            rw [(I_getD l2 (k + (j - 1)) (by omega)).trans (congrArg (Value.int .i64) (HD.out.high (k + (j - 1)) (by omega)))] at d2
            have d1' : ∀ w', Ext wr w' → w'.cell? ⟨g, k + j, none⟩ = some (.int .i64 (gi l (k + j))) := fun w' h => h.cell d1
            have d2' : ∀ w', Ext wr w' → w'.cell? ⟨g, k + (j - 1), none⟩ = some (.int .i64 (gi l (k + (j - 1)))) := fun w' h => h.cell d2
            clear d1 d2
            have hww : Ext wr wr := Ext.refl _
            by_cases hq : gi l (k + j) = gi l (k + (j - 1))
            · have HD2 := Lib.hid (HD.out.skip hj1 (by rw [HL.out]; omega) (hq.trans (by congr 1; omega)))
              have hb2 : (gi l (k + j) == gi l (k + (j - 1))) = true := by simpa using hq
              clear hq
              generalize gi l (k + j) = ga at *
              generalize gi l (k + (j - 1)) = gb at *
              go_wp2_with fail
              (refine wp_region_from wr (by repeat (first | (with_reducible exact Ext.refl _) | (with_reducible refine Ext.drewN ?_ _) | (with_reducible refine Ext.drew ?_) | (with_reducible refine Ext.alloc ?_ _) | ((with_reducible refine Ext.setCell ?_ ?_ _); rotate_left; focus (first | (simp; done) | (simp; omega) | omega)) | assumption | (with_reducible refine Ext.trans ?_ (by assumption)))) (by kernel_rfl) (by kernel_rfl) (by kernel_rfl) ?_; (repeat (first | (refine mix_q rfl ?_; go_big_quiet_step (fail); refine wpQuiet_nil ?_; show wpMix _ _ _ _ _ _ _) | (refine mix_s rfl ?_; go_wp2_with (fail); first | refine ⟨up_of (by repeat (first | (with_reducible exact Ext.refl _) | (with_reducible refine Ext.drewN ?_ _) | (with_reducible refine Ext.drew ?_) | (with_reducible refine Ext.alloc ?_ _) | ((with_reducible refine Ext.setCell ?_ ?_ _); rotate_left; focus (first | (simp; done) | (simp; omega) | omega)) | assumption | (with_reducible refine Ext.trans ?_ (by assumption)))), ?_⟩ | refine ⟨rfl, rfl, up_of (by repeat (first | (with_reducible exact Ext.refl _) | (with_reducible refine Ext.drewN ?_ _) | (with_reducible refine Ext.drew ?_) | (with_reducible refine Ext.alloc ?_ _) | ((with_reducible refine Ext.setCell ?_ ?_ _); rotate_left; focus (first | (simp; done) | (simp; omega) | omega)) | assumption | (with_reducible refine Ext.trans ?_ (by assumption)))), ?_⟩))); refine mix_nil ?_)
              go_wp2_with fail
              exact ⟨⟨j + 1, kk, l2, by omega, by omega, rfl, by go_num, HD2, Lib.hid (HOw.out.ext (by repeat (first | (with_reducible exact Ext.refl _) | (with_reducible assumption) | (with_reducible refine Ext.drewN ?_ _) | (with_reducible refine Ext.drew ?_) | (with_reducible refine Ext.alloc ?_ _) | ((with_reducible refine Ext.setCell ?_ ?_ _); rotate_left; focus (first | (simp; done) | (simp; omega) | omega)) | (with_reducible refine Ext.trans ?_ (by with_reducible assumption))))), hc.trans (Chg.ext (by repeat (first | (with_reducible exact Ext.refl _) | (with_reducible assumption) | (with_reducible refine Ext.drewN ?_ _) | (with_reducible refine Ext.drew ?_) | (with_reducible refine Ext.alloc ?_ _) | ((with_reducible refine Ext.setCell ?_ ?_ _); rotate_left; focus (first | (simp; done) | (simp; omega) | omega)) | (with_reducible refine Ext.trans ?_ (by with_reducible assumption)))) _ _)⟩, by simp [intOf]; omega⟩
            · have hb2 : (gi l (k + j) == gi l (k + (j - 1))) = false := by simpa using hq
              have HD2 := Lib.hid (HD.out.keep (by rw [HL.out]; omega))
              have y3 := fun K w' => HI.out (kk : Int) kk rfl (by omega) K w'
              rw [Nat.zero_add] at y3
              obtain ⟨_, d3, d4⟩ := HOw.out.at (P := Try.prog) 25 und_int64s cell_int64 kk (by omega) .i64
              obtain ⟨old, hold⟩ : ∃ old, old = (I l2).getD kk undef := ⟨_, rfl⟩
              rw [← hold] at d3
              have d3' : ∀ w', Ext wr w' → w'.cell? ⟨g, kk, none⟩ = some old := fun w' h => h.cell d3
              have d4' : ∀ w', Ext wr w' → w'.frozen? ⟨g, kk, none⟩ = false := fun w' h => by
                rw [Below.frozen h (World.block_lt_of_cell? _ _ d3)]; exact d4
              have HOs := Lib.hid (fun W (h : Ext wr W) => I_set l2 kk (gi l (k + j)) ▸ (HOw.out.ext h).set kk (.int .i64 (gi l (k + j))))
              clear hold d3 d4 hq
              generalize gi l (k + j) = ga at *
              generalize gi l (k + (j - 1)) = gb at *
              go_wp2_with fail
              (refine wp_region_from wr (by repeat (first | (with_reducible exact Ext.refl _) | (with_reducible refine Ext.drewN ?_ _) | (with_reducible refine Ext.drew ?_) | (with_reducible refine Ext.alloc ?_ _) | ((with_reducible refine Ext.setCell ?_ ?_ _); rotate_left; focus (first | (simp; done) | (simp; omega) | omega)) | assumption | (with_reducible refine Ext.trans ?_ (by assumption)))) (by kernel_rfl) (by kernel_rfl) (by kernel_rfl) ?_; (repeat (first | (refine mix_q rfl ?_; go_big_quiet_step (fail); refine wpQuiet_nil ?_; show wpMix _ _ _ _ _ _ _) | (refine mix_s rfl ?_; go_wp2_with (fail); first | refine ⟨up_of (by repeat (first | (with_reducible exact Ext.refl _) | (with_reducible refine Ext.drewN ?_ _) | (with_reducible refine Ext.drew ?_) | (with_reducible refine Ext.alloc ?_ _) | ((with_reducible refine Ext.setCell ?_ ?_ _); rotate_left; focus (first | (simp; done) | (simp; omega) | omega)) | assumption | (with_reducible refine Ext.trans ?_ (by assumption)))), ?_⟩ | refine ⟨rfl, rfl, up_of (by repeat (first | (with_reducible exact Ext.refl _) | (with_reducible refine Ext.drewN ?_ _) | (with_reducible refine Ext.drew ?_) | (with_reducible refine Ext.alloc ?_ _) | ((with_reducible refine Ext.setCell ?_ ?_ _); rotate_left; focus (first | (simp; done) | (simp; omega) | omega)) | assumption | (with_reducible refine Ext.trans ?_ (by assumption)))), ?_⟩))); refine mix_nil ?_)
              go_wp2_with fail
              have hOq := HOs.out wr (Ext.refl _)
              have hgs : g < wr.heap.size := HOw.out.lt.2
              have hcs : Chg g (g + 1) w (wr.setCell ⟨g, kk, none⟩ (.int .i64 ga)) := hc.trans (Chg.set _ _ _ (Nat.le_refl _) (by omega))
              generalize wr.setCell ⟨g, kk, none⟩ (.int .i64 ga) = wx at *
              have hxx : Ext wx wx := Ext.refl _
              exact ⟨⟨j + 1, kk + 1, _, by omega, by omega, by go_num, by go_num, HD2, Lib.hid (hOq.ext (by repeat (first | (with_reducible exact Ext.refl _) | (with_reducible assumption) | (with_reducible refine Ext.drewN ?_ _) | (with_reducible refine Ext.drew ?_) | (with_reducible refine Ext.alloc ?_ _) | ((with_reducible refine Ext.setCell ?_ ?_ _); rotate_left; focus (first | (simp; done) | (simp; omega) | omega)) | (with_reducible refine Ext.trans ?_ (by with_reducible assumption))))), hcs.trans (Chg.ext (by repeat (first | (with_reducible exact Ext.refl _) | (with_reducible assumption) | (with_reducible refine Ext.drewN ?_ _) | (with_reducible refine Ext.drew ?_) | (with_reducible refine Ext.alloc ?_ _) | ((with_reducible refine Ext.setCell ?_ ?_ _); rotate_left; focus (first | (simp; done) | (simp; omega) | omega)) | (with_reducible refine Ext.trans ?_ (by with_reducible assumption)))) _ _)⟩, by simp [intOf]; omega⟩
          · obtain rfl : j = n - k := by omega
            have hsuf := own_suf (P := Try.prog) HOw.out 25 und_int64s cell_int64 elem_int64s kk (by omega)
            have hpre := own_pre (P := Try.prog) HOw.out 25 und_int64s cell_int64 elem_int64s kk (by omega)
            have hcl : ∀ ty, (Builtin.clear_ #[25] ty #[.slice (some ⟨g, kk, none⟩) (n - kk) (c - kk)]).run Try.prog wr = .ok (.tuple #[]) (wr.setCells g kk (List.replicate (n - kk) (.int .i64 0))) :=
              fun ty => Lib.run_clear_slice wr _ 2 ty (.int .i64 0) und_int64s (fun w => by simp [zeroValue, typeInfo, go_sem]; rfl) rfl rfl g kk _ _ (by omega) (fun t ht => by rw [(HOw.out.at (P := Try.prog) 25 und_int64s cell_int64 (kk + t) (by omega) .i64).2.1]; rfl) (fun t ht => (HOw.out.at (P := Try.prog) 25 und_int64s cell_int64 (kk + t) (by omega) .i64).2.2)
            have hgr : g < wr.heap.size := HOw.out.lt.2
            go_wp2
            go_ret
            obtain ⟨vs', h1, h2⟩ := own_setCells (List.replicate (n - kk) (.int .i64 0)) _ kk wr HOw.out
            have h3 := own_cut h2 kk (by omega)
            rw [h1, show (I l2).take kk = I (l2.take kk) by simp [I, List.map_take]] at h3
            exact ⟨kk, l2.take kk, rfl, h3, by rw [HL.out]; omega, fun v => by
              rw [HD.out.mem, show k + (n - k) = l.length by rw [HL.out]; omega, List.take_length], hc.trans (chg_setCells _ _ _ hgr)⟩
      · have hb : (gi l k == gi l (k - 1)) = false := by simpa using heq
        clear heq
        generalize gi l k = gx at *
        generalize gi l (k - 1) = gy at *
        go_wp2_with fail
        (refine wp_region_from wr (by repeat (first | (with_reducible exact Ext.refl _) | (with_reducible refine Ext.drewN ?_ _) | (with_reducible refine Ext.drew ?_) | (with_reducible refine Ext.alloc ?_ _) | ((with_reducible refine Ext.setCell ?_ ?_ _); rotate_left; focus (first | (simp; done) | (simp; omega) | omega)) | assumption | (with_reducible refine Ext.trans ?_ (by assumption)))) (by kernel_rfl) (by kernel_rfl) (by kernel_rfl) ?_; (repeat (first | (refine mix_q rfl ?_; go_big_quiet_step (fail); refine wpQuiet_nil ?_; show wpMix _ _ _ _ _ _ _) | (refine mix_s rfl ?_; go_wp2_with (fail); first | refine ⟨up_of (by repeat (first | (with_reducible exact Ext.refl _) | (with_reducible refine Ext.drewN ?_ _) | (with_reducible refine Ext.drew ?_) | (with_reducible refine Ext.alloc ?_ _) | ((with_reducible refine Ext.setCell ?_ ?_ _); rotate_left; focus (first | (simp; done) | (simp; omega) | omega)) | assumption | (with_reducible refine Ext.trans ?_ (by assumption)))), ?_⟩ | refine ⟨rfl, rfl, up_of (by repeat (first | (with_reducible exact Ext.refl _) | (with_reducible refine Ext.drewN ?_ _) | (with_reducible refine Ext.drew ?_) | (with_reducible refine Ext.alloc ?_ _) | ((with_reducible refine Ext.setCell ?_ ?_ _); rotate_left; focus (first | (simp; done) | (simp; omega) | omega)) | assumption | (with_reducible refine Ext.trans ?_ (by assumption)))), ?_⟩))); refine mix_nil ?_)
        go_wp2_with fail
        exact ⟨⟨k + 1, by omega, by omega, by go_num, hx.trans (by repeat (first | (with_reducible exact Ext.refl _) | (with_reducible assumption) | (with_reducible refine Ext.drewN ?_ _) | (with_reducible refine Ext.drew ?_) | (with_reducible refine Ext.alloc ?_ _) | ((with_reducible refine Ext.setCell ?_ ?_ _); rotate_left; focus (first | (simp; done) | (simp; omega) | omega)) | (with_reducible refine Ext.trans ?_ (by with_reducible assumption))))⟩, by simp [intOf]; omega⟩
    · obtain rfl : k = n := by omega
      go_wp2_with fail
      go_ret
      exact ⟨k, l, rfl, HO.out.ext hx, by rw [HL.out]; exact Nat.le_refl _, fun v => Iff.rfl, Chg.ext hx _ _⟩
end Go.Proofs.Ytaiieodllhoelaa

/- Walks: a row of one number, again and again. -/
namespace Go.Proofs.Ytaiieodllhoelaa
set_option maxRecDepth 100000
open Go.RowKit Go.Shelf

theorem wp_copy_runQ {P : Program} (w : World) {o : Oper} {a : Act} {K : Act → World → Prop} {Q : Exit → Act → World → Prop} (d s : Operand) (t t' : TypeId)
    (ho : o.op = .call { callee := .builtin .copy, args := #[d, s], argTypes := #[t, t'] }) (v u : Value) (hd : a.eval d = v) (hs : a.eval s = u) {v' : Value} {w' : World}
    (hr : (Builtin.copy_ #[t, t'] o.type #[v, u]).run P w = .ok v' w') (h : K (a.put o.dst v') w') : o.wp P a w K Q := by
  unfold Oper.wp execOp
  simp only [ho, resolve, invoke, builtin, Sem.run_bind, Sem.run_pure, Result.andThen_ok, List.map_toArray, List.map_cons, List.map_nil, hd, hs, hr]
  exact h

theorem wpList_copy_runQ {P : Program} (w : World) {ops : Array Oper} {rest : List Oper} {o : Oper} {a : Act} {Q : Exit → Act → World → Prop} (hgd : o.guard = none) (d s : Operand) (t t' : TypeId)
    (ho : o.op = .call { callee := .builtin .copy, args := #[d, s], argTypes := #[t, t'] }) (v u : Value) (hd : a.eval d = v) (hs : a.eval s = u) {v' : Value} {w' : World}
    (hr : (Builtin.copy_ #[t, t'] o.type #[v, u]).run P w = .ok v' w') (h : wpList P ops Q rest (a.put o.dst v') w') : wpList P ops Q (o :: rest) a w :=
  wpList_plain hgd fun _ hK => wp_copy_runQ w d s t t' ho v u hd hs hr (hK _ _ h)

theorem step_copy_runQ {P : Program} {ops : Array Oper} {o : Oper} {a : Act} {w : World} {K : Act → World → Prop} {Q : Exit → Act → World → Prop} {E : Prop}
    (hg : o.guard = none) (d x : Operand) (dT sT : TypeId) (hop : o.op = Op.call { callee := Callee.builtin Builtin.copy, args := #[d, x], argTypes := #[dT, sT] })
    (v u : Value) (hd : a.eval d = v) (hx : a.eval x = u) {v' : Value} {w' : World} (hr : (Builtin.copy_ #[dT, sT] o.type #[v, u]).run P w = .ok v' w') (hK : K (a.put o.dst v') w') :
    if Region.wanted o (yielded ops a.tmps) = true then Oper.wp P o a w K Q else E := by
  have hw : Region.wanted o (yielded ops a.tmps) = true := by simp [Region.wanted, hg]
  rw [if_pos hw]
  unfold Oper.wp
  simp [execOp, hop, resolve, invoke, builtin, hd, hx, hr, Result.andThen]
  exact hK

theorem gv_set_neQ {vs : List Value} {k j : Nat} {u : Value} (h : k ≠ j) : gv (vs.set k u) j = gv vs j := by
  simp [gv, List.getD_eq_getElem?_getD, List.getElem?_set_ne h]
theorem gv_set_eqQ {vs : List Value} {k : Nat} {u : Value} (h : k < vs.length) : gv (vs.set k u) k = u := by
  simp [gv, List.getD_eq_getElem?_getD, h]
/-- one value over and over, from a place on -/
theorem own_fill {B : Nat} {E : TypeId} {g n c : Nat} (u : Value) : ∀ (m : Nat) (vs : List Value) (i : Nat) (w : World), i + m ≤ n → Own w B E (some ⟨g, 0, none⟩) n c vs → ∃ vs', (∀ p, p < i → gv vs' p = gv vs p) ∧ (∀ p, i ≤ p → p < i + m → gv vs' p = u) ∧ Own (w.setCells g i (List.replicate m u)) B E (some ⟨g, 0, none⟩) n c vs'
  | 0, vs, i, w, _, h => ⟨vs, fun _ _ => rfl, fun p h1 h2 => by omega, h⟩
  | m + 1, vs, i, w, hi, h => by
    obtain ⟨vs', h1, h2, h3⟩ := own_fill u m _ (i + 1) _ (by omega) (h.set i u)
    refine ⟨vs', fun p hp => by rw [h1 p (by omega), gv_set_neQ (by omega)], fun p hp hq => ?_, by rw [List.replicate_succ]; exact h3⟩
    by_cases e : p = i
    · subst e
      rw [h1 p (by omega), gv_set_eqQ (by rw [h.len]; omega)]
    · exact h2 p (by omega) (by omega)
theorem gv_all {vs : List Value} {n : Nat} {v : Int} (hl : vs.length = n) (h : ∀ p, p < n → gv vs p = .int .i64 v) : vs = I (List.replicate n v) := by
  apply List.ext_getElem
  · simp [I, hl]
  · intro p h1 h2
    have := h p (by omega)
    simp [gv, h1] at this
    simp [I, this]
set_option maxHeartbeats 2000000 in
theorem bits_mul64 (n : Int) (w : World) (h : n = 4 ∨ n = 9 ∨ n = 25) : Calls Try.prog 199 #[.int .u64 1, .int .u64 n] w (fun e w' => w = w' ∧ e = .returned (.tuple #[.int .u64 0, .int .u64 n])) := by
  rcases h with rfl | rfl | rfl
  all_goals
    go_enter Try.func199, Try.ntmps199
    go_wp2
    refine bodyPost_ret (v := .tuple _) (by simp [results, Try.results199, go_sem]; rfl) rfl ?_
    exact ⟨rfl, rfl⟩
set_option maxHeartbeats 2000000 in
theorem bits_mul (n : Int) (w : World) (h : n = 4 ∨ n = 9 ∨ n = 25) : Calls Try.prog 193 #[.int .u64 1, .int .u64 n] w (fun e w' => w = w' ∧ e = .returned (.tuple #[.int .u64 0, .int .u64 n])) := by
  have HL := Lib.hid (bits_mul64 n w h)
  have h0 : 0 ≤ n ∧ n ≤ 25 := by omega
  go_enter Try.func193, Try.ntmps193
  go_wp2_with ((with_reducible refine HL.out.mono ?_); rintro e w1 ⟨rfl, rfl⟩)
  refine bodyPost_ret (v := .tuple _) (by simp [results, Try.results193, go_sem]; rfl) rfl ?_
  exact ⟨rfl, rfl⟩
/-- a row of the call's own, v at all its places -/
def RetRep (n : Nat) (v : Int) (w : World) (e : Ending) (w' : World) : Prop :=
  ∃ g, e = .returned (.slice (some ⟨g, 0, none⟩) n n) ∧ w.heap.size ≤ g ∧ Own w' g 2 (some ⟨g, 0, none⟩) n n (I (List.replicate n v)) ∧ Ext w w'
set_option maxHeartbeats 4000000 in
theorem repeatOne (xb xo cx : Nat) (v : Int) (n : Nat) (w : World) (hc : w.cell? ⟨xb, xo, none⟩ = some (.int .i64 v)) (h : (n : Int) = 4 ∨ (n : Int) = 9 ∨ (n : Int) = 25) :
    Calls Try.prog 181 #[.slice (some ⟨xb, xo, none⟩) 1 cx, .int .i64 n] w (RetRep n v w) := by
  have hn : 4 ≤ n ∧ n ≤ 25 := by omega
  have HB := Lib.hid (fun W => bits_mul (n : Int) W h)
  have HC := Lib.hid hc
  have hsi : (Try.prog.info? (2)).map (·.size) = some 1 := by
    obtain ⟨i0, hi0, h0, h1, h2⟩ := info_parts info_int64
    rw [hi0]; simp [h1]
  clear h hc
  go_enter Try.func181, Try.ntmps181
  go_wp2_with (first | ((with_reducible refine (HB.out _).mono ?_); rintro e w1 ⟨rfl, rfl⟩) | (at_make; refine law_make _ rfl _ _ 25 rfl 2 (.int .i64 0) 8 und_int64s info_int64 rfl _ _ n rfl rfl (by omega) (by unfold maxLen; omega) ?_; intro w2 hown hx hsz))
  obtain ⟨g, hg⟩ : ∃ g, g = w.heap.size := ⟨_, rfl⟩
  rw [← hg] at hown ⊢
  have hgw : w.heap.size ≤ g := by omega
  have hgl : g < w2.heap.size := hown.lt.2
  have hcp : ∀ W, Ext w2 W → ∀ ty, (Builtin.copy_ #[25, 25] ty #[.slice (some ⟨g, 0, none⟩) n n, .slice (some ⟨xb, xo, none⟩) 1 cx]).run Try.prog W = .ok (goInt 1) (W.setCells g 0 (List.replicate 1 (.int .i64 v))) := fun W hW ty => by
    have ho := hown.ext hW
    have h := run_copy_cells (P := Try.prog) W 25 25 ty 2 g 0 n n ⟨xb, xo, none⟩ 1 cx [.int .i64 v] und_int64s hsi (by simp only [List.length_singleton, Nat.min_def]; split <;> omega)
      (fun j u hj => by
        cases j with
        | zero => simp at hj; subst hj; rw [Addr.add_lit]; exact (hx.trans hW).cell HC.out
        | succ j => simp at hj)
      (fun j hj => by rw [(ho.at (P := Try.prog) 25 und_int64s cell_int64 (0 + j) (by simp at hj; omega) .i64).2.1]; rfl)
      (fun j hj => (ho.at (P := Try.prog) 25 und_int64s cell_int64 (0 + j) (by simp at hj; omega) .i64).2.2) (fun u hu => by simp at hu; subst hu; rfl)
    exact h
  obtain ⟨vs1, -, hv1, ho1⟩ := own_fill (.int .i64 v) 1 _ 0 w2 (by omega) hown
  have HO1 := Lib.hid ho1
  have HV1 := Lib.hid hv1
  have HX1 : Hid (Ext w (w2.setCells g 0 (List.replicate 1 (.int .i64 v)))) := Lib.hid (Ext.setCell hx hgw _)
  clear ho1 hv1 hown hsz hg
  have hcp2 := hcp w2 (Ext.refl _)
  clear hcp
  generalize w2.setCells g 0 (List.replicate 1 (.int .i64 v)) = w3 at *
  go_wp2_with (simp only [hcp2])
  go_loopw [8] (fun v8 wr => ∃ (k : Nat) (vs : List Value), 1 ≤ k ∧ k ≤ n ∧ v8 = .int .i64 k ∧ Hid (Own wr g 2 (some ⟨g, 0, none⟩) n n vs) ∧ Hid (∀ p, p < k → gv vs p = .int .i64 v) ∧ Ext w wr) (fun v8 _ => n - (intOf v8).toNat)
  case atStart => exact ⟨1, vs1, Nat.le_refl _, by omega, rfl, HO1, Lib.hid (fun p hp => HV1.out p (by omega) (by omega)), HX1.out⟩
  case round =>
    obtain ⟨k, vs, hk1, hkn, rfl, HO, HV, hxr⟩ := hrel
    clear hcp2
    by_cases hlt : k < n
    · have hsuf := own_suf (P := Try.prog) HO.out 25 und_int64s cell_int64 elem_int64s k hlt
      have hpre := own_pre (P := Try.prog) HO.out 25 und_int64s cell_int64 elem_int64s k hkn
      have hwr := HO.out.lt
      obtain ⟨m, hm, hmn⟩ : ∃ m, m = Nat.min k (n - k) ∧ k + m ≤ n ∧ 1 ≤ m := ⟨_, rfl, by simp only [Nat.min_def]; split <;> omega⟩
      have hcp : ∀ W, Ext wr W → ∀ ty, (Builtin.copy_ #[25, 25] ty #[.slice (some ⟨g, k, none⟩) (n - k) (n - k), .slice (some ⟨g, 0, none⟩) k n]).run Try.prog W = .ok (goInt m) (W.setCells g k (List.replicate m (.int .i64 v))) := fun W hW ty => by
        have ho := HO.out.ext hW
        have h := run_copy_cells (P := Try.prog) W 25 25 ty 2 g k (n - k) (n - k) ⟨g, 0, none⟩ k n (List.replicate m (.int .i64 v)) und_int64s hsi (by rw [List.length_replicate]; exact hm)
          (fun j u hj => by
            rw [List.getElem?_replicate] at hj
            split at hj
            · simp only [Option.some.injEq] at hj
              subst hj
              rw [Addr.add_lit, Nat.zero_add, (ho.at (P := Try.prog) 25 und_int64s cell_int64 j (by omega) .i64).2.1]
              exact congrArg some (HV.out j (by rename_i hjm; rw [hm] at hjm; have := Nat.min_le_left k (n - k); exact Nat.lt_of_lt_of_le hjm this))
            · cases hj)
          (fun j hj => by rw [(ho.at (P := Try.prog) 25 und_int64s cell_int64 (k + j) (by rw [List.length_replicate] at hj; omega) .i64).2.1]; rfl)
          (fun j hj => (ho.at (P := Try.prog) 25 und_int64s cell_int64 (k + j) (by rw [List.length_replicate] at hj; omega) .i64).2.2) (fun u hu => by rw [List.mem_replicate] at hu; rw [hu.2]; rfl)
        rw [List.length_replicate] at h
        exact h
      have hwx : Ext wr wr.drew := (Ext.refl _).drew
      have hcpn := hcp wr.drew hwx
      obtain ⟨vs2, hv2, hv3, ho2⟩ := own_fill (.int .i64 v) m vs k wr.drew hmn.1 (HO.out.ext hwx)
      have HO2 := Lib.hid ho2
      have HV2 : Hid (∀ p, p < k + m → gv vs2 p = .int .i64 v) := Lib.hid (fun p hp => by
        by_cases hpk : p < k
        · rw [hv2 p hpk]; exact HV.out p hpk
        · exact hv3 p (by omega) hp)
      have HX2 : Hid (Ext w (wr.drew.setCells g k (List.replicate m (.int .i64 v)))) := Lib.hid (Chg.to (chg_setCells _ _ _ hwr.2) (hxr.trans hwx) hgw)
      obtain ⟨hkm, hm1⟩ := hmn
      have hw1 : IntKind.i64.wrap ((k : Int) + (m : Int)) = (k : Int) + (m : Int) := by rw [IntKind.wrap_i64]; omega
      clear hcp ho2 hv2 hv3 hm
      generalize wr.drew.setCells g k (List.replicate m (.int .i64 v)) = w4 at *
      go_wp2_with fail
      have hx4 := HX2.out
      (refine wp_region_from w (by repeat (first | (with_reducible exact Ext.refl _) | (with_reducible refine Ext.drewN ?_ _) | (with_reducible refine Ext.drew ?_) | (with_reducible refine Ext.alloc ?_ _) | ((with_reducible refine Ext.setCell ?_ ?_ _); rotate_left; focus (first | (simp; done) | (simp; omega) | omega)) | assumption | (with_reducible refine Ext.trans ?_ (by assumption)))) (by kernel_rfl) (by kernel_rfl) (by kernel_rfl) ?_; (repeat (first | (refine mix_q rfl ?_; go_big_quiet_step (fail); refine wpQuiet_nil ?_; show wpMix _ _ _ _ _ _ _) | (refine mix_s rfl ?_; go_wp2_with ((at_builtin; refine wpList_copy_runQ _ rfl _ _ 25 25 rfl _ _ rfl rfl (hcpn _) ?_)); first | refine ⟨up_of (by repeat (first | (with_reducible exact Ext.refl _) | (with_reducible refine Ext.drewN ?_ _) | (with_reducible refine Ext.drew ?_) | (with_reducible refine Ext.alloc ?_ _) | ((with_reducible refine Ext.setCell ?_ ?_ _); rotate_left; focus (first | (simp; done) | (simp; omega) | omega)) | assumption | (with_reducible refine Ext.trans ?_ (by assumption)))), ?_⟩ | refine ⟨rfl, rfl, up_of (by repeat (first | (with_reducible exact Ext.refl _) | (with_reducible refine Ext.drewN ?_ _) | (with_reducible refine Ext.drew ?_) | (with_reducible refine Ext.alloc ?_ _) | ((with_reducible refine Ext.setCell ?_ ?_ _); rotate_left; focus (first | (simp; done) | (simp; omega) | omega)) | assumption | (with_reducible refine Ext.trans ?_ (by assumption)))), ?_⟩))); refine mix_nil ?_)
      have hw4 : Ext w4 w4 := Ext.refl _
      go_wp2_with fail
      exact ⟨⟨k + m, vs2, by omega, hkm, by go_num, HO2, HV2, hx4⟩, by simp [intOf]; omega⟩
    · obtain rfl : k = n := by omega
      go_wp2
      go_ret
      rw [gv_all HO.out.len HV.out] at HO
      exact ⟨g, rfl, hgw, HO.out, hxr⟩
end Go.Proofs.Ytaiieodllhoelaa

/- Walks: the states that symbols lead to, in the program. -/
namespace Go.Proofs.Ytaiieodllhoelaa
set_option maxRecDepth 100000
open Go.RowKit

theorem own_some {w : World} {B : Nat} {E : TypeId} {a : Option Addr} {n c : Nat} {vs : List Value} (h : Own w B E a n c vs) (hn : 0 < n) : ∃ g, a = some ⟨g, 0, none⟩ := by
  rcases h.2 with ⟨h1, h2⟩ | ⟨g, cap, cur, hv, _⟩
  · omega
  · simp only [Value.slice.injEq, true_and] at hv
    exact ⟨g, hv.1⟩
theorem mem_gi {l : List Int} {v : Int} : v ∈ l ↔ ∃ d : Nat, d < l.length ∧ v = gi l d := by
  rw [List.mem_iff_getElem]
  constructor
  · rintro ⟨i, hi, rfl⟩
    exact ⟨i, hi, by simp [gi, hi]⟩
  · rintro ⟨d, hd, rfl⟩
    exact ⟨d, hd, by simp [gi, hd]⟩
/-- a row of the call's own: the states to which the digits lead -/
def RetRea (D : Ch) (p x : Int) (w : World) (e : Ending) (w' : World) : Prop :=
  ∃ (a : Option Addr) (m c : Nat) (L : List Int), e = .returned (.slice a m c) ∧ Own w' w.heap.size 2 a m c (I L) ∧ (∀ v, v ∈ L ↔ ∃ d : Nat, (d : Int) < D.base ∧ v = nextS D p x d) ∧ Ext w w' ∧ m ≤ 12
set_option maxHeartbeats 2000000 in
theorem impl_reached (D : Ch) (q : Nat) (a : Option Addr) (n c : Nat) (a' : Option Addr) (n' c' : Nat) (p x : Int) (w : World) (hv : ChAt w q D a n c a' n' c') (hok : OkCh D) (hb : D.base ≤ 12)
    (hp0 : 0 ≤ p) (hp1 : p < D.places.length) (hx0 : 0 ≤ x) (hx1 : x < D.states) :
    Calls Try.prog 194 #[.pointer (some ⟨q, 0, none⟩), .int .i64 p, .int .i64 x] w (RetRea D p x w) := by
  obtain ⟨k0, k1, k2, k3, k4, k5, hts, hps⟩ := hv
  obtain ⟨g0, g1⟩ := hok.tab hp0 hp1
  have e1 := hok.tl (gi D.places p.toNat).toNat (by omega)
  have e2 := hok.rl (gi D.places p.toNat).toNat (by omega) x.toNat (by omega)
  have hb2 := hok.b2
  obtain ⟨b1, o1, f1, f2⟩ := hps.one (P := Try.prog) 25 2 und_int64s cell_int64 p hp0 (by rw [← hps.len]; exact hp1)
  obtain ⟨b2, o2, a2, n2, c2, ⟨f3, f4⟩, hm⟩ := hts.one (P := Try.prog) 24 43 und_tabs cell_tab1 (gi D.places p.toNat) g0 (by rw [← hts.len]; exact g1)
  obtain ⟨b3, o3, a3, n3, c3, ⟨f5, f6⟩, hr⟩ := hm.one (P := Try.prog) 43 25 und_rows cell_row1 x hx0 (by rw [← hm.len, e1]; exact hx1)
  have hmem : ∀ v, v ∈ gl (gm D.tabs (gi D.places p.toNat).toNat) x.toNat ↔ ∃ d : Nat, (d : Int) < D.base ∧ v = nextS D p x d := fun v => by
    rw [mem_gi]
    exact ⟨fun ⟨d, h1, h2⟩ => ⟨d, by omega, h2⟩, fun ⟨d, h1, h2⟩ => ⟨d, by omega, h2⟩⟩
  generalize gl (gm D.tabs (gi D.places p.toNat).toNat) x.toNat = l at *
  have hn3 := hr.len
  have hl12 : n3 ≤ 12 := by omega
  have hl0 : 0 < n3 := by omega
  have HM := Lib.hid hmem
  have HC := Lib.hid (fun w' (h : Ext w w') => clone_ints a3 n3 c3 l w' (hr.ext h) (by omega))
  have hll : (I l).length = n3 := by rw [I_len]; exact hn3
  have HL := Lib.hid hll
  clear hok e1 e2 hts hps hm hr hmem hb hll hn3
  go_enter Try.func194, Try.ntmps194
  have hww : Ext w w := Ext.refl _
  go_wp2_with fail
  (refine wp_region_from w (by repeat (first | (with_reducible exact Ext.refl _) | (with_reducible refine Ext.drewN ?_ _) | (with_reducible refine Ext.drew ?_) | (with_reducible refine Ext.alloc ?_ _) | ((with_reducible refine Ext.setCell ?_ ?_ _); rotate_left; focus (first | (simp; done) | (simp; omega) | omega)) | assumption | (with_reducible refine Ext.trans ?_ (by assumption)))) (by kernel_rfl) (by kernel_rfl) (by kernel_rfl) ?_; (repeat (first | (refine mix_q rfl ?_; go_big_quiet_step (fail); refine wpQuiet_nil ?_; show wpMix _ _ _ _ _ _ _) | (refine mix_s rfl ?_; go_wp2_with ((go_at_call 109; (with_reducible refine (HC.out _ (by repeat (first | (with_reducible exact Ext.refl _) | (with_reducible assumption) | (with_reducible refine Ext.drewN ?_ _) | (with_reducible refine Ext.drew ?_) | (with_reducible refine Ext.alloc ?_ _) | ((with_reducible refine Ext.setCell ?_ ?_ _); rotate_left; focus (first | (simp; done) | (simp; omega) | omega)) | (with_reducible refine Ext.trans ?_ (by with_reducible assumption))))).mono ?_); rintro e w1 ⟨ca, cc, rfl, ho1, hy1, -⟩; rw [HL.out] at ho1 ⊢; obtain ⟨g, rfl⟩ := own_some ho1 hl0; have HY1 := Lib.hid hy1; have hx1 : Ext w w1 := Ext.trans (by repeat (first | (with_reducible exact Ext.refl _) | (with_reducible assumption) | (with_reducible refine Ext.drewN ?_ _) | (with_reducible refine Ext.drew ?_) | (with_reducible refine Ext.alloc ?_ _) | ((with_reducible refine Ext.setCell ?_ ?_ _); rotate_left; focus (first | (simp; done) | (simp; omega) | omega)) | (with_reducible refine Ext.trans ?_ (by with_reducible assumption)))) hy1; have HO1 := Lib.hid ho1; clear ho1 hy1)); first | refine ⟨up_of (by repeat (first | (with_reducible exact Ext.refl _) | (with_reducible refine Ext.drewN ?_ _) | (with_reducible refine Ext.drew ?_) | (with_reducible refine Ext.alloc ?_ _) | ((with_reducible refine Ext.setCell ?_ ?_ _); rotate_left; focus (first | (simp; done) | (simp; omega) | omega)) | assumption | (with_reducible refine Ext.trans ?_ (by assumption)))), ?_⟩ | refine ⟨rfl, rfl, up_of (by repeat (first | (with_reducible exact Ext.refl _) | (with_reducible refine Ext.drewN ?_ _) | (with_reducible refine Ext.drew ?_) | (with_reducible refine Ext.alloc ?_ _) | ((with_reducible refine Ext.setCell ?_ ?_ _); rotate_left; focus (first | (simp; done) | (simp; omega) | omega)) | assumption | (with_reducible refine Ext.trans ?_ (by assumption)))), ?_⟩))); refine mix_nil ?_)
  have HS := Lib.hid (fun W (h : Ext w1 W) => sortShort g n3 cc l w.heap.size W (HO1.out.ext h) hl12)
  have hw1 : Ext w1 w1 := Ext.refl _
  go_wp2_with (go_at_call 200; (with_reducible refine (HS.out _ (by repeat (first | (with_reducible exact Ext.refl _) | (with_reducible assumption) | (with_reducible refine Ext.drewN ?_ _) | (with_reducible refine Ext.drew ?_) | (with_reducible refine Ext.alloc ?_ _) | ((with_reducible refine Ext.setCell ?_ ?_ _); rotate_left; focus (first | (simp; done) | (simp; omega) | omega)) | (with_reducible refine Ext.trans ?_ (by with_reducible assumption))))).mono ?_); rintro e w2 ⟨rfl, hm2, l2, ho2, hp2⟩; have HO2 := Lib.hid ho2; have hB := ho2.lt.1; have HM2 := Lib.hid hm2; have HP2 := Lib.hid hp2; clear ho2 hm2 hp2; have HCm := Lib.hid (fun W (h : Ext w2 W) => compactInts g n3 cc l2 w.heap.size W (HO2.out.ext h) (by omega)))
  have hw2 : Ext w2 w2 := Ext.refl _
  go_wp2_with (go_at_call 201; (with_reducible refine (HCm.out _ (by repeat (first | (with_reducible exact Ext.refl _) | (with_reducible assumption) | (with_reducible refine Ext.drewN ?_ _) | (with_reducible refine Ext.drew ?_) | (with_reducible refine Ext.alloc ?_ _) | ((with_reducible refine Ext.setCell ?_ ?_ _); rotate_left; focus (first | (simp; done) | (simp; omega) | omega)) | (with_reducible refine Ext.trans ?_ (by with_reducible assumption))))).mono ?_); rintro e w3 ⟨m, L, rfl, ho3, hle3, hm3, hc3⟩; have HO3 := Lib.hid ho3; have HM3 := Lib.hid hm3; have HC3 := Lib.hid hc3; clear ho3 hm3 hc3)
  go_ret
  have hx2 : Ext w w2 := Mk.to HM2.out hx1 (Nat.le_refl _)
  have h5 := HP2.out.length_eq
  have h6 : l.length = n3 := (I_len l).symm.trans HL.out
  exact ⟨_, m, cc, L, rfl, HO3.out, fun v => (HM3.out v).trans ((HP2.out.mem_iff).trans (HM.out v)), HC3.out.to hx2 hB, by omega⟩
end Go.Proofs.Ytaiieodllhoelaa
