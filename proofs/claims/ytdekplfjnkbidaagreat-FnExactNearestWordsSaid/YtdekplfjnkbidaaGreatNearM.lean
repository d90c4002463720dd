/- Plain: the nearest words of a registry. -/
import Derived.Test.YtdekplfjnkbidaaGreatRgM
import Derived.Test.YtdekplfjnkbidaaGreatPutM
import Derived.Test.YtdekplfjnkbidaaGreatRgH
namespace Go.Proofs.YtdekplfjnkbidaaGreat
set_option maxRecDepth 100000
open Go.RowKit

theorem cost_self : ∀ (a : List UInt8), costS a a = 0
  | [] => by rw [cost_nil]; rfl
  | x :: a => by rw [cost_cons, cost_self a]; simp
theorem dist_self (a : ByteArray) : distS a a = 0 := cost_self _
/-- how far an issued word is -/
def farK (D : Rg) (s : ByteArray) (k : Nat) : Int := distS (gs D.issued k) s
/-- of the first k words, those that are not revoked and nearest, as they come, and how far they are; -1 without any -/
def nearS (D : Rg) (s : ByteArray) : Nat → List ByteArray × Int
  | 0 => ([], -1)
  | k + 1 => if revHas D k then nearS D s k else
    if (nearS D s k).2 < 0 ∨ farK D s k < (nearS D s k).2 then ([gs D.issued k], farK D s k)
    else if farK D s k = (nearS D s k).2 then ((nearS D s k).1 ++ [gs D.issued k], farK D s k) else nearS D s k
theorem far_pos (D : Rg) (s : ByteArray) (k : Nat) : 0 ≤ farK D s k := by unfold farK; omega
theorem near_rev {D : Rg} {s : ByteArray} {k : Nat} (h : revHas D k = true) : nearS D s (k + 1) = nearS D s k := by simp [nearS, h]
theorem near_new {D : Rg} {s : ByteArray} {k : Nat} (h : revHas D k = false) (hl : (nearS D s k).2 < 0 ∨ farK D s k < (nearS D s k).2) : nearS D s (k + 1) = ([gs D.issued k], farK D s k) := by simp [nearS, h, hl]
theorem near_more {D : Rg} {s : ByteArray} {k : Nat} (h : revHas D k = false) (hl : ¬ (nearS D s k).2 < 0) (he : farK D s k = (nearS D s k).2) : nearS D s (k + 1) = ((nearS D s k).1 ++ [gs D.issued k], farK D s k) := by
  rw [nearS, if_neg (by rw [h]; simp), if_neg (by omega), if_pos he]
theorem near_not {D : Rg} {s : ByteArray} {k : Nat} (h : revHas D k = false) (hl : ¬ (nearS D s k).2 < 0) (he : (nearS D s k).2 < farK D s k) : nearS D s (k + 1) = nearS D s k := by
  rw [nearS, if_neg (by rw [h]; simp), if_neg (by omega), if_neg (by omega)]
theorem near_nil (D : Rg) (s : ByteArray) : ∀ k, (nearS D s k).1 = [] ↔ (nearS D s k).2 < 0
  | 0 => by simp [nearS]
  | k + 1 => by
    have hp := far_pos D s k
    unfold nearS
    split
    · exact near_nil D s k
    split
    · simp; omega
    split
    · rename_i h1 _ h2
      simp; omega
    · exact near_nil D s k
theorem near_sub (D : Rg) (s : ByteArray) : ∀ k, k ≤ D.issued.length → (nearS D s k).1.Sublist (D.issued.take k)
  | 0, _ => by simp [nearS]
  | k + 1, h => by
    have ih := near_sub D s k (by omega)
    rw [take_gs (by omega)]
    unfold nearS
    split
    · exact ih.trans (List.sublist_append_left _ _)
    split
    · exact List.sublist_append_right _ _
    split
    · exact ih.append (List.Sublist.refl _)
    · exact ih.trans (List.sublist_append_left _ _)
theorem issued_nodup {D : Rg} (h : OkRg D) : D.issued.Nodup := by
  rw [List.nodup_iff_pairwise_ne, List.pairwise_iff_getElem]
  intro k i hk hi hki e
  have := h.far i k hki hi
  unfold farR at this
  have e1 : gs D.issued i = gs D.issued k := by simp [gs, List.getD_eq_getElem?_getD, hk, hi, e]
  rw [e1, dist_self] at this
  have := h.a1
  simp at *
  omega
theorem near_nodup {D : Rg} (h : OkRg D) (s : ByteArray) : (nearS D s D.issued.length).1.Nodup := by
  have h1 := near_sub D s D.issued.length (Nat.le_refl _)
  rw [List.take_length] at h1
  exact (issued_nodup h).sublist h1
/-- the answers -/
def askB (D : Rg) (s : ByteArray) : Bool := validRg D && wordB s.data.toList 36 20
def nearB (D : Rg) (s : ByteArray) : Bool := askB D s && !decide ((nearS D s D.issued.length).2 < 0)
def nearL (D : Rg) (s : ByteArray) : List ByteArray := if nearB D s then putAll (nearS D s D.issued.length).1 else []
def nearN (D : Rg) (s : ByteArray) : Int := if nearB D s then (nearS D s D.issued.length).2 else 0
def findB (D : Rg) (s : ByteArray) : Bool := nearB D s && decide (nearN D s ≤ (D.apart - 1) / 2)
def findT (D : Rg) (s : ByteArray) : ByteArray := if findB D s then gs (nearL D s) 0 else .empty
end Go.Proofs.YtdekplfjnkbidaaGreat
