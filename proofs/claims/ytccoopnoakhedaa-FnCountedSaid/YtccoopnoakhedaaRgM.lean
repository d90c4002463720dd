/- Plain: which registries are valid. -/
import Derived.Test.YtccoopnoakhedaaChW
import Derived.Test.YtccoopnoakhedaaEditS
namespace Go.Proofs.Ytccoopnoakhedaa
set_option maxRecDepth 100000
open Go.RowKit

structure Rg where
  ch : Ch
  apart : Int
  issued : List ByteArray
  revoked : List Int

/-- words i and k are far enough apart -/
def farR (R : Rg) (i k : Nat) : Bool := !decide ((distS (gs R.issued i) (gs R.issued k) : Int) < R.apart)
def issB (R : Rg) (i : Nat) : Bool := chkB R.ch (gs R.issued i) && (List.range i).all (farR R i)
def revB (R : Rg) (k : Nat) : Bool := inB (gi R.revoked k) 0 ((R.issued.length : Int) - 1) && (decide (k = 0) || decide (gi R.revoked (k - 1) < gi R.revoked k))
def headRg (R : Rg) : Bool := validCh R.ch && (inB R.apart 1 6 && decide (R.issued.length ≤ 40))
def issAll (R : Rg) : Bool := (List.range R.issued.length).all (issB R)
def revAll (R : Rg) : Bool := (List.range R.revoked.length).all (revB R)
def validRg (R : Rg) : Bool := headRg R && (issAll R && revAll R)
theorem farR_comm (R : Rg) (i k : Nat) : farR R i k = !decide ((distS (gs R.issued k) (gs R.issued i) : Int) < R.apart) := by rw [farR, dist_comm]
theorem rangeAll_no {p : Nat → Bool} {n k : Nat} (hk : k < n) (h : p k = false) : (List.range n).all p = false := List.all_eq_false.2 ⟨k, List.mem_range.2 hk, by rw [h]; simp⟩
theorem rangeAll_yes {p : Nat → Bool} {n : Nat} (h : ∀ k, k < n → p k = true) : (List.range n).all p = true := List.all_eq_true.2 fun k hk => h k (List.mem_range.1 hk)
/-- what a valid registry holds -/
structure OkRg (R : Rg) : Prop where
  ch : OkCh R.ch
  vc : validCh R.ch = true
  a1 : 1 ≤ R.apart
  a6 : R.apart ≤ 6
  n40 : R.issued.length ≤ 40
  chk : ∀ i, i < R.issued.length → chkB R.ch (gs R.issued i) = true
  size : ∀ i, i < R.issued.length → (gs R.issued i).size = R.ch.places.length
  s20 : ∀ i, i < R.issued.length → (gs R.issued i).size ≤ 20
  far : ∀ i k, k < i → i < R.issued.length → farR R i k = true
  rev : ∀ k, k < R.revoked.length → 0 ≤ gi R.revoked k ∧ gi R.revoked k < R.issued.length
  up : ∀ k, 0 < k → k < R.revoked.length → gi R.revoked (k - 1) < gi R.revoked k
theorem chk_size {D : Ch} {s : ByteArray} (h : chkB D s = true) : s.size = D.places.length ∧ s.size ≤ 20 := by
  unfold chkB runOk at h
  simp only [Bool.and_eq_true] at h
  exact ⟨(wordCh_t h.1.2).2.1, (wordCh_t h.1.2).2.2⟩
theorem validRg_ok {R : Rg} (h : validRg R = true) : OkRg R := by
  unfold validRg headRg issAll revAll at h
  simp only [Bool.and_eq_true, decide_eq_true_eq, List.all_eq_true] at h
  obtain ⟨⟨h1, h2, h3⟩, h4, h5⟩ := h
  have h2' := inB_t.1 h2
  have iss : ∀ i, i < R.issued.length → chkB R.ch (gs R.issued i) = true ∧ ∀ k, k < i → farR R i k = true := fun i hi => by
    have := h4 i (List.mem_range.2 hi)
    unfold issB at this
    simp only [Bool.and_eq_true, List.all_eq_true] at this
    exact ⟨this.1, fun k hk => this.2 k (List.mem_range.2 hk)⟩
  have rv : ∀ k, k < R.revoked.length → revB R k = true := fun k hk => h5 k (List.mem_range.2 hk)
  refine ⟨validCh_ok h1, h1, h2'.1, h2'.2, h3, fun i hi => (iss i hi).1, fun i hi => (chk_size (iss i hi).1).1, fun i hi => (chk_size (iss i hi).1).2, fun i k hk hi => (iss i hi).2 k hk, fun k hk => ?_, fun k h0 hk => ?_⟩
  · have := rv k hk
    unfold revB at this
    simp only [Bool.and_eq_true] at this
    have := inB_t.1 this.1
    omega
  · have := rv k hk
    unfold revB at this
    simp only [Bool.and_eq_true, Bool.or_eq_true, decide_eq_true_eq] at this
    omega
/-- an issued word's index, -1 of others -/
def atRg (R : Rg) (s : ByteArray) : Int := idx (fun x => s.toList == x.toList) R.issued
def revHas (R : Rg) (k : Int) : Bool := R.revoked.any fun x => x == k
/-- the status of a word -/
def statOk (R : Rg) (s : ByteArray) : Bool := validRg R && wordCh R.ch s
def statOf (R : Rg) (s : ByteArray) : Int := if statOk R s then (if atRg R s < 0 then 0 else if revHas R (atRg R s) then 2 else 1) else 0
end Go.Proofs.Ytccoopnoakhedaa
