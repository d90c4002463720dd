/- Plain: what a choice keeps; which chosen chains are valid. -/
import Derived.Test.YtefkefmhfoedcaaDoorDraw
import Derived.Test.YtefkefmhfoedcaaDoorChW
import Derived.Test.YtefkefmhfoedcaaDoorSAt
namespace Go.Proofs.YtefkefmhfoedcaaDoor
set_option maxRecDepth 100000
open Go.RowKit

theorem OwnMat.touchNe {w w' : World} {B g : Nat} {E1 E0 : TypeId} {a : Option Addr} {n c : Nat} {ll : List (List Int)} (h : OwnMat w B E1 E0 a n c ll) (ht : Touch g w w') (hB : g < B) : OwnMat w' B E1 E0 a n c ll :=
  ⟨h.len, let ⟨vs, h1, h2⟩ := h.rows; ⟨vs, h1.touchNe ht hB, fun k hk => let ⟨a', n', c', h3, h4⟩ := h2 k hk; ⟨a', n', c', h3, h4.touchNe ht hB⟩⟩⟩
theorem OwnCube.touchNe {w w' : World} {B g : Nat} {E2 E1 E0 : TypeId} {a : Option Addr} {n c : Nat} {ll : List (List (List Int))} (h : OwnCube w B E2 E1 E0 a n c ll) (ht : Touch g w w') (hB : g < B) : OwnCube w' B E2 E1 E0 a n c ll :=
  ⟨h.len, let ⟨vs, h1, h2⟩ := h.rows; ⟨vs, h1.touchNe ht hB, fun k hk => let ⟨a', n', c', h3, h4⟩ := h2 k hk; ⟨a', n', c', h3, h4.touchNe ht hB⟩⟩⟩
/-- the rows of a table of a chain with S states and b symbols -/
def TabOk (S b : Int) (t : List (List Int)) : Prop := (t.length : Int) = S ∧ ∀ r ∈ t, (r.length : Int) = b ∧ ∀ d ∈ r, 0 ≤ d ∧ d < S
theorem TabOk.small {S b : Int} {t : List (List Int)} (h : TabOk S b t) (hS : S ≤ 36) (hb : b ≤ 36) : t.length ≤ 1048576 ∧ ∀ r ∈ t, r.length ≤ 1048576 :=
  ⟨by have := h.1; omega, fun r hr => by have := (h.2 r hr).1; omega⟩
/-- a chosen chain -/
structure DrawnCh (D : Ch) : Prop where
  b2 : 2 ≤ D.base
  b36 : D.base ≤ 10
  s1 : 1 ≤ D.states
  s36 : D.states ≤ 10
  st : 0 ≤ D.start ∧ D.start < D.states
  en : 0 ≤ D.fin ∧ D.fin < D.states
  t1 : 1 ≤ D.tabs.length
  t3 : D.tabs.length ≤ 3
  p1 : 1 ≤ D.places.length
  p5 : D.places.length ≤ 5
  ts : ∀ t ∈ D.tabs, TabOk D.states D.base t
  pl : ∀ k ∈ D.places, 0 ≤ k ∧ k < D.tabs.length
theorem DrawnCh.valid {D : Ch} (h : DrawnCh D) : validCh D = true := by
  have h1 := h.b2; have h2 := h.b36; have h3 := h.s1; have h4 := h.s36; have h5 := h.st; have h6 := h.en
  have h7 := h.t1; have h8 := h.t3; have h9 := h.p1; have h10 := h.p5
  have hp : D.base ^ D.places.length ≤ 1000000000000000 := by
    have e1 : D.base ^ D.places.length ≤ D.base ^ 5 := by
      obtain ⟨j, hj⟩ := Nat.exists_eq_add_of_le h10
      rw [hj, Int.pow_add]
      have g1 : 0 < D.base ^ D.places.length := Int.pow_pos (by omega)
      have g2 : 0 < D.base ^ j := Int.pow_pos (by omega)
      have : D.base ^ D.places.length * 1 ≤ D.base ^ D.places.length * D.base ^ j := Int.mul_le_mul_of_nonneg_left (by omega) (by omega)
      omega
    have e2 : D.base ^ 5 ≤ 100000 := by
      obtain ⟨b, hb⟩ := Int.eq_ofNat_of_zero_le (show 0 ≤ D.base by omega)
      rw [hb] at h2 ⊢
      have h2' : b ≤ 10 := by omega
      have : b ^ 5 ≤ 10 ^ 5 := Nat.pow_le_pow_left h2' 5
      have h3 : ((b ^ 5 : Nat) : Int) ≤ ((10 ^ 5 : Nat) : Int) := Int.ofNat_le.2 this
      rw [Int.natCast_pow] at h3
      exact h3
    omega
  unfold validCh headCh powCh tabsCh placesCh
  simp only [Bool.and_eq_true, List.all_eq_true, decide_eq_true_eq, inB_t]
  refine ⟨by omega, hp, fun t ht => ?_, fun k hk => by have := h.pl k hk; omega⟩
  unfold tabCh
  simp only [Bool.and_eq_true, List.all_eq_true, decide_eq_true_eq]
  refine ⟨(h.ts t ht).1, fun r hr => ?_⟩
  unfold rowCh
  simp only [Bool.and_eq_true, List.all_eq_true, decide_eq_true_eq, inB_t]
  exact ⟨((h.ts t ht).2 r hr).1, fun d hd => by have := ((h.ts t ht).2 r hr).2 d hd; omega⟩
theorem DrawnCh.small {D : Ch} (h : DrawnCh D) : SmallCh D := fun t ht => (h.ts t ht).small (by have := h.s36; omega) (by have := h.b36; omega)
end Go.Proofs.YtefkefmhfoedcaaDoor

/- Walks: a table of a chain is chosen. -/
namespace Go.Proofs.YtefkefmhfoedcaaDoor
set_option maxRecDepth 100000
open Go.RowKit

/-- a table, chosen -/
def RetTab (g : Nat) (a : Option Addr) (n c : Nat) (l : List UInt8) (k : Int) (S b : Nat) (w : World) (e : Ending) (w' : World) : Prop :=
  ∃ (ad : Option Addr) (cc : Nat) (t : List (List Int)) (k' : Int), e = .returned (.slice ad S cc) ∧ TabOk S b t ∧ OwnMat w' w.heap.size 65 2 ad S cc t ∧ SrcB w' g a n c l k' ∧ k ≤ k' ∧ k' ≤ k + 300 ∧ Touch g w w'
theorem all_snoc {α : Type} {p : α → Prop} {l : List α} {x : α} (h : ∀ y ∈ l, p y) (hx : p x) : ∀ y ∈ l ++ [x], p y := fun y hy => by
  rcases List.mem_append.1 hy with hy | hy
  · exact h y hy
  · obtain rfl := List.mem_singleton.1 hy; exact hx
theorem mul_bd {x y a b : Int} (h1 : 0 ≤ x) (h2 : x ≤ a) (h3 : 0 ≤ y) (h4 : y ≤ b) : 0 ≤ x * y ∧ x * y ≤ a * b :=
  ⟨Int.mul_nonneg h1 h3, Int.mul_le_mul h2 h4 h3 (by omega)⟩
theorem mod_bd {x S : Int} (hS : 1 ≤ S) : 0 ≤ x % S ∧ x % S < S := ⟨Int.emod_nonneg _ (by omega), Int.emod_lt_of_pos _ (by omega)⟩
end Go.Proofs.YtefkefmhfoedcaaDoor

/- Walks: a valid chain is chosen. -/
namespace Go.Proofs.YtefkefmhfoedcaaDoor
set_option maxRecDepth 100000
open Go.RowKit

theorem SAt.touch {w w' : World} {g q : Nat} {T : TypeId} {cs : Array Value} (h : SAt w q T cs) (ht : Touch g w w') (hne : q ≠ g) : SAt w' q T cs := (ht.block q h.lt hne).trans h
theorem Touch.keepB {g lo hi : Nat} {w w' : World} (h : Touch g w w') (hg : g < lo) (hh : hi ≤ w.heap.size) : KeepB lo hi w w' := fun x h1 h2 => h.block x (by omega) (by omega)
theorem Touch.keepB0 {g : Nat} {w w' : World} (h : Touch g w w') (hg : g < w.heap.size) : KeepB 0 g w w' := fun x _ h2 => h.block x (by omega) (by omega)
section
variable {w : World} {g q1 q2 : Nat} {zv : Array Value} {b S st fi : Int} {v4 v5 : Value} {ad : Option Addr} {x cc : Nat} {vs : List Value} {tt : List (List (List Int))} {pd : Option Addr} {y pc : Nat} {pp : List Int} {Wi W W' : World}
end
/-- a chain, chosen -/
def RetDrCh (g : Nat) (a : Option Addr) (n c : Nat) (l : List UInt8) (k : Int) (b p : Nat) (w : World) (e : Ending) (w' : World) : Prop :=
  ∃ (D : Ch) (ad : Option Addr) (x cc : Nat) (pd : Option Addr) (pc : Nat) (k' : Int), e = .returned (.agg #[.int .i64 D.base, .int .i64 D.states, .int .i64 D.start, .int .i64 D.fin, .slice ad x cc, .slice pd p pc]) ∧ DrawnCh D ∧ D.base = b ∧ D.places.length = p ∧ x ≤ 3 ∧
    (∀ W, KeepB w.heap.size w'.heap.size w' W → ChIn W D ad x cc pd p pc) ∧ SrcB w' g a n c l k' ∧ k ≤ k' ∧ k' ≤ k + 1000 ∧ Touch g w w'
end Go.Proofs.YtefkefmhfoedcaaDoor
