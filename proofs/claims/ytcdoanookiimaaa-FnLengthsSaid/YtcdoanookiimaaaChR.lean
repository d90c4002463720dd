/- Walks: RankOfWord. -/
import Derived.Test.YtcdoanookiimaaaChW
import Derived.Test.YtcdoanookiimaaaEnds
namespace Go.Proofs.Ytcdoanookiimaaa
set_option maxRecDepth 100000
open Go.RowKit

def rankTo (D : Ch) (ds : List Int) (k : Nat) : Int := ((List.range k).map fun (i : Nat) => partS D (D.places.length - i - 1) (i : Int) (runS D 0 D.start (ds.take i)) (gi ds i).toNat).sum
theorem rankTo_succ (D : Ch) (ds : List Int) (k : Nat) : rankTo D ds (k + 1) = rankTo D ds k + partS D (D.places.length - k - 1) (k : Int) (runS D 0 D.start (ds.take k)) (gi ds k).toNat := by
  unfold rankTo; rw [List.range_succ, List.map_append, List.sum_append]; simp
theorem rankTo_bd {D : Ch} (hok : OkCh D) {ds : List Int} (hd : DigC D ds) : ∀ k, k ≤ ds.length → k ≤ D.places.length → 0 ≤ rankTo D ds k ∧ rankTo D ds k ≤ k * 1000000000000000
  | 0, _, _ => by simp [rankTo]
  | k + 1, h1, h2 => by
    have ih := rankTo_bd hok hd k (by omega) (by omega)
    have h3 := hd.at (k := k) (by omega)
    have h4 := hok.part (f := D.places.length - k - 1) (by omega) (k : Int) (runS D 0 D.start (ds.take k)) (gi ds k).toNat (by omega)
    rw [rankTo_succ]
    omega
def rkRes (D : Ch) (s : ByteArray) : Int := if chkB D s then rankTo D (digC s) s.size else 0
theorem chk_parts {D : Ch} {s : ByteArray} (h : chkB D s = true) : OkCh D ∧ wordCh D s = true := by
  unfold chkB runOk at h
  simp only [Bool.and_eq_true] at h
  exact ⟨validCh_ok h.1.1, h.1.2⟩
end Go.Proofs.Ytcdoanookiimaaa
