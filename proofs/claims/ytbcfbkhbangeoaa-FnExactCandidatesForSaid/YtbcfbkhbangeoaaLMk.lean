/- Walks: the laws write marks into a registry, and look whether they are still there. -/
import Derived.Test.YtbcfbkhbangeoaaMarkR
import Derived.Test.YtbcfbkhbangeoaaRgL
import Derived.Test.YtbcfbkhbangeoaaSAt
namespace Go.Proofs.Ytbcfbkhbangeoaa
set_option maxRecDepth 100000
open Go.RowKit

def szRg2 (D : Rg) : Nat := szCh2 D.ch + D.issued.length + D.revoked.length
def markG (k : Nat) (D : Rg) : Rg := { D with ch := markC k D.ch, issued := markTs (k + szCh2 D.ch) D.issued.length, revoked := markL (k + szCh2 D.ch + D.issued.length) D.revoked.length }
end Go.Proofs.Ytbcfbkhbangeoaa

/- Words for the laws that write marks: rules for a block's cells. -/
namespace Go.Proofs.Ytbcfbkhbangeoaa
set_option maxRecDepth 100000
open Go.RowKit

section
variable {w : World} {g : Nat} {T : TypeId}
theorem SAt.rule {cs : Array Value} (h : SAt w g T cs) (i : Nat) (v : Value) (hv : cs[i]? = some v) : ∀ w', Ext w w' → w'.cell? ⟨g, i, none⟩ = some v := fun w' hx => by
  have := cell_of_row w' g i cs T (0, 0) (h.ext hx)
  rw [this, hv]
theorem SAt.r6 {v0 v1 v2 v3 v4 v5 : Value} (h : SAt w g T #[v0, v1, v2, v3, v4, v5]) :
    (∀ w', Ext w w' → w'.cell? ⟨g, 0, none⟩ = some v0) ∧ (∀ w', Ext w w' → w'.cell? ⟨g, 1, none⟩ = some v1) ∧ (∀ w', Ext w w' → w'.cell? ⟨g, 2, none⟩ = some v2) ∧
    (∀ w', Ext w w' → w'.cell? ⟨g, 3, none⟩ = some v3) ∧ (∀ w', Ext w w' → w'.cell? ⟨g, 4, none⟩ = some v4) ∧ (∀ w', Ext w w' → w'.cell? ⟨g, 5, none⟩ = some v5) :=
  ⟨h.rule 0 _ rfl, h.rule 1 _ rfl, h.rule 2 _ rfl, h.rule 3 _ rfl, h.rule 4 _ rfl, h.rule 5 _ rfl⟩
theorem SAt.r9 {v0 v1 v2 v3 v4 v5 v6 v7 v8 : Value} (h : SAt w g T #[v0, v1, v2, v3, v4, v5, v6, v7, v8]) :
    (∀ w', Ext w w' → w'.cell? ⟨g, 0, none⟩ = some v0) ∧ (∀ w', Ext w w' → w'.cell? ⟨g, 1, none⟩ = some v1) ∧ (∀ w', Ext w w' → w'.cell? ⟨g, 2, none⟩ = some v2) ∧
    (∀ w', Ext w w' → w'.cell? ⟨g, 3, none⟩ = some v3) ∧ (∀ w', Ext w w' → w'.cell? ⟨g, 4, none⟩ = some v4) ∧ (∀ w', Ext w w' → w'.cell? ⟨g, 5, none⟩ = some v5) ∧
    (∀ w', Ext w w' → w'.cell? ⟨g, 6, none⟩ = some v6) ∧ (∀ w', Ext w w' → w'.cell? ⟨g, 7, none⟩ = some v7) ∧ (∀ w', Ext w w' → w'.cell? ⟨g, 8, none⟩ = some v8) :=
  ⟨h.rule 0 _ rfl, h.rule 1 _ rfl, h.rule 2 _ rfl, h.rule 3 _ rfl, h.rule 4 _ rfl, h.rule 5 _ rfl, h.rule 6 _ rfl, h.rule 7 _ rfl, h.rule 8 _ rfl⟩
end
theorem sum_cons_le {α : Type} (f g : α → Nat) (l : List α) (h : ∀ x, f x ≤ g x) : (l.map f).sum ≤ (l.map g).sum := by
  induction l with
  | nil => simp
  | cons x l ih => have := h x; simp only [List.map_cons, List.sum_cons]; omega
theorem szLL_le (l : List (List (List Int))) : szLL l ≤ szC l := by
  have h := sum_cons_le szL szM l (fun x => by show (x.map List.length).sum ≤ x.length + (x.map List.length).sum; omega)
  show (l.map szL).sum ≤ l.length + (l.map szM).sum
  omega
theorem szCh2_le {D : Ch} (h : chSize D ≤ 1048576) : szCh2 D ≤ 1048576 := by
  have := szLL_le D.tabs; unfold chSize at h; unfold szCh2; omega
theorem szRg2_le {D : Rg} (h : rgSize D ≤ 1048576) : szRg2 D ≤ 1048576 := by
  have := szCh2_le (D := D.ch) (by unfold rgSize at h; omega)
  have h2 := szLL_le D.ch.tabs
  unfold rgSize chSize at h
  unfold szRg2 szCh2
  omega
theorem small_tabs {D : Ch} (h : SmallCh D) : ∀ t ∈ D.tabs, t.length ≤ 1048576 := fun t ht => (h t ht).1
/-- a result registry's size in marks -/
theorem RgIn.same {w : World} {R : Rg} {a : Option Addr} {n c : Nat} {b : Option Addr} {m d : Nat} {ia : Option Addr} {im ic : Nat} {ra : Option Addr} {rm rc : Nat} {a2 : Option Addr} {n2 c2 : Nat} {b2 : Option Addr} {m2 d2 : Nat} {ia2 : Option Addr} {im2 ic2 : Nat} {ra2 : Option Addr} {rm2 rc2 : Nat} (h : RgIn w R a n c b m d ia im ic ra rm rc) (h2 : RgIn w R a2 n2 c2 b2 m2 d2 ia2 im2 ic2 ra2 rm2 rc2) : n = n2 ∧ m = m2 ∧ im = im2 ∧ rm = rm2 :=
  ⟨h.ch.ts.len.symm.trans h2.ch.ts.len, h.ch.ps.len.symm.trans h2.ch.ps.len, h.is.len.symm.trans h2.is.len, h.rs.len.symm.trans h2.rs.len⟩
end Go.Proofs.Ytbcfbkhbangeoaa
