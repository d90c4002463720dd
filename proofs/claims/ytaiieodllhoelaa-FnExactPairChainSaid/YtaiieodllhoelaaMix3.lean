/- A region that draws its order, the last operation apart (a store), in the worlds that go on from an earlier one. Conditions: none; nothing here speaks of a program's text. -/
import Derived.Test.YtaiieodllhoelaaMix2
namespace Go.Proofs.Ytaiieodllhoelaa
set_option maxRecDepth 100000
open Go.RowKit

def last2B (md : Region.Mode) (ops : Array Oper) (n : Nat) : Bool := decide (ops.size = n + 1) && (List.range n).all fun i => (lookM (masks md ops.toList 0 []) ops.size n).testBit i
theorem lastB_of {md : Region.Mode} {ops : Array Oper} {n : Nat} (h : last2B md ops n = true) : lastB md ops n = true := by
  have hs : Sound md ops ops.size (masks md ops.toList 0 []) := Sound.all ops.toList [] [] rfl ⟨rfl, fun j i hb => by simp [lookM] at hb⟩
  unfold last2B at h
  unfold lastB
  simp only [Bool.and_eq_true, decide_eq_true_eq, List.all_eq_true] at h ⊢
  exact ⟨h.1, fun i hi => hs.2 n i (h.2 i hi) ops.size (by omega)⟩
theorem wp_region_upl {P : Program} {id : Nat} {Q : Exit → Act → World → Prop} {a : Act} {w : World} {l : List Oper} (n : Nat) (w0 : World) (h0 : Ext w0 w) (hn : l.length = n + 1) (hm : P.follows .mixedOrders = true) (hB : Region.lexB .any l.toArray = true) (hS : seqB .any l.toArray = true) (hT : lastB .any l.toArray n = true)
    (h : wpMix P l.toArray (fun w' => ∃ x, w' = w0.up x) (fun a' w' => wpList P l.toArray Q (l.drop n) a' w') (l.take n) a w.drew) : (Code.region id l.toArray true).wp P Q a w := by
  have hd : l.drop n = [l[n]] := by
    rw [List.drop_eq_getElem_cons (by omega), List.drop_eq_nil_of_le (by omega)]
  have hl : l = l.take n ++ [l[n]] := by rw [← hd, List.take_append_drop]
  have hln : (l.take n).length = n := by simp; omega
  rw [hd] at h
  generalize l.take n = l1 at *
  generalize l[n] = o at *
  subst hl
  subst hln
  exact wp_region_last hm hB hS hT (up_of h0.drew) h
end Go.Proofs.Ytaiieodllhoelaa
