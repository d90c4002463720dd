/- Plain: revoked words, the status of an issued word. -/
import Derived.Test.YtcdoanookiimaaaRev
import Derived.Test.YtcdoanookiimaaaIssQ
import Derived.Test.YtcdoanookiimaaaR8A
namespace Go.Proofs.Ytcdoanookiimaaa
set_option maxRecDepth 100000
open Go.RowKit

theorem idx_some {α : Type} {p : α → Bool} {l : List α} {d : α} {i : Nat} (h : idx p l = (i : Int)) : i < l.length ∧ p (l.getD i d) = true := by
  unfold idx at h
  split at h
  · rename_i k hk
    obtain rfl : k = i := by omega
    obtain ⟨h1, h2, _⟩ := List.findIdx?_eq_some_iff_getElem.1 hk
    exact ⟨h1, by rw [List.getD_eq_getElem?_getD, List.getElem?_eq_getElem h1]; exact h2⟩
  · omega
theorem mem_putI {y x : Int} : ∀ {l : List Int}, y ∈ putI l x ↔ y = x ∨ y ∈ l
  | [] => by simp [putI]
  | z :: l => by
    rw [putI]
    split
    · rw [List.mem_cons, mem_putI, List.mem_cons]
      constructor
      · rintro (h | h | h)
        · exact .inr (.inl h)
        · exact .inl h
        · exact .inr (.inr h)
      · rintro (h | h | h)
        · exact .inr (.inl h)
        · exact .inl h
        · exact .inr (.inr h)
    · simp
theorem putI_rise {x : Int} : ∀ {l : List Int}, l.Pairwise (· < ·) → x ∉ l → (putI l x).Pairwise (· < ·)
  | [], _, _ => by simp [putI]
  | z :: l, h, hx => by
    obtain ⟨h1, h2⟩ := List.pairwise_cons.1 h
    rw [putI]
    split
    · rename_i hz
      refine List.pairwise_cons.2 ⟨fun y hy => ?_, putI_rise h2 (fun h => hx (List.mem_cons_of_mem _ h))⟩
      rcases mem_putI.1 hy with rfl | hy'
      · exact hz
      · exact h1 y hy'
    · rename_i hz
      have hne : z ≠ x := fun e => hx (e ▸ List.mem_cons_self ..)
      refine List.pairwise_cons.2 ⟨fun y hy => ?_, h⟩
      rcases List.mem_cons.1 hy with rfl | hy'
      · omega
      · have := h1 y hy'; omega
theorem rise_of {D : Rg} (h : OkRg D) : D.revoked.Pairwise (· < ·) := by
  rw [List.pairwise_iff_getElem]
  intro i j hi hj hij
  obtain ⟨d, rfl⟩ := Nat.exists_eq_add_of_lt hij
  have := rev_up h (d + 1) i (by omega)
  rw [← gi_get hi, ← gi_get hj]
  rw [show i + d + 1 = i + (d + 1) by omega]
  omega
theorem rev_mem {D : Rg} {k : Int} : revHas D k = true ↔ k ∈ D.revoked := by
  unfold revHas
  rw [List.any_eq_true]
  exact ⟨fun ⟨x, hx, he⟩ => by rw [← beq_iff_eq.1 he]; exact hx, fun h => ⟨k, h, by simp⟩⟩
theorem rev_put {D : Rg} {s : ByteArray} {k : Int} : revHas (putR D s) k = (decide (k = atRg D s) || revHas D k) := by
  rw [Bool.eq_iff_iff, rev_mem, Bool.or_eq_true, decide_eq_true_eq, rev_mem]
  exact mem_putI
theorem OkRg.put {D : Rg} {s : ByteArray} {i : Nat} (h : OkRg D) (hi : atRg D s = i) (hn : i < D.issued.length) (hr : revHas D i = false) : OkRg (putR D s) := by
  have hx : (i : Int) ∉ D.revoked := fun hm => by rw [rev_mem.2 hm] at hr; cases hr
  have hrise := putI_rise (rise_of h) hx
  refine ⟨h.ch, h.vc, h.a1, h.a6, h.n40, h.chk, h.size, h.s20, h.far, fun k hk => ?_, fun k h0 hk => ?_⟩
  · have hm : gi (putR D s).revoked k ∈ putI D.revoked (atRg D s) := gi_mem hk
    rcases mem_putI.1 hm with e | hm'
    · rw [e, hi]; exact ⟨by omega, by show (i : Int) < D.issued.length; omega⟩
    · obtain ⟨j, hj, e⟩ := List.mem_iff_getElem.1 hm'
      have := h.rev j hj
      rw [gi_get hj, e] at this
      exact this
  · have e : (putR D s).revoked = putI D.revoked i := by rw [putR, hi]
    rw [e] at hk ⊢
    have := List.pairwise_iff_getElem.1 hrise (k - 1) k (by omega) hk (by omega)
    rw [gi_get hk, gi_get (show k - 1 < _ by omega)]
    exact this
/-- what a word that may be revoked is -/
theorem revOk_yes {D : Rg} {s : ByteArray} (h : revOk D s = true) : ∃ i : Nat, validRg D = true ∧ atRg D s = i ∧ i < D.issued.length ∧ gs D.issued i = s ∧ revHas D i = false := by
  unfold revOk at h
  simp only [Bool.and_eq_true, decide_eq_true_eq, Bool.not_eq_true'] at h
  obtain ⟨i, hi⟩ := Int.eq_ofNat_of_zero_le h.2.1
  have h3 := h.2.2
  rw [hi] at h3
  have h2 : idx (fun x => s.toList == x.toList) D.issued = (i : Int) := hi
  obtain ⟨h4, h5⟩ := idx_some (d := .empty) h2
  refine ⟨i, h.1, hi, h4, ?_, h3⟩
  have h6 := beq_iff_eq.1 h5
  simp only [ByteArray.toList_eq] at h6
  exact (ByteArray.ext (Array.toList_inj.1 h6)).symm
theorem stat_rev1 {D : Rg} {s : ByteArray} (hv : validRg D = true) (hw : wordCh D.ch s = true) : statOk D s = true ∧ decide (statOf D s = 1) = revOk D s := by
  have hs : statOk D s = true := by rw [statOk, hv, hw]; rfl
  refine ⟨hs, ?_⟩
  rw [statOf, hs, revOk, hv]
  by_cases h : atRg D s < 0
  · rw [if_pos h, decide_eq_false (show ¬ 0 ≤ atRg D s by omega)]; rfl
  · rw [if_neg h, decide_eq_true (show 0 ≤ atRg D s by omega)]
    cases revHas D (atRg D s) <;> rfl
theorem free_not {D : Rg} (h : OkRg D) {i : Nat} (hi : i < D.issued.length) : freeB D (gs D.issued i) = false := by
  unfold freeB
  rw [List.all_eq_false]
  exact ⟨_, gs_mem hi, by rw [dist_self, decide_eq_true (show ((0 : Nat) : Int) < D.apart by have := h.a1; omega)]; simp⟩
/-- a revoked word is not revoked anew, not issued anew -/
theorem rev_law {D : Rg} {s : ByteArray} (h : revOk D s = true) : OkRg (putR D s) ∧ revOk (putR D s) s = false ∧ issOk (putR D s) s = false ∧
    ∀ j, j < D.issued.length → statOf (putR D s) (gs D.issued j) = (if gs D.issued j = s then 2 else statOf D (gs D.issued j)) := by
  obtain ⟨i, hv, hi, hn, hs, hr⟩ := revOk_yes h
  have hok := validRg_ok hv
  have ho := hok.put hi hn hr
  have hat : atRg (putR D s) s = i := hi
  refine ⟨ho, ?_, ?_, fun j hj => ?_⟩
  · rw [revOk, hat, rev_put, hi, decide_eq_true rfl]; simp
  · rw [issOk]
    have := free_not ho (show i < (putR D s).issued.length from hn)
    rw [show gs (putR D s).issued i = s from hs] at this
    rw [this]; simp
  · have h1 := stat_issued hok hv hj
    have h2 := stat_issued ho ho.valid (show j < (putR D s).issued.length from hj)
    rw [show gs (putR D s).issued j = gs D.issued j from rfl] at h2
    rw [h2.2, h1.2, rev_put, hi]
    by_cases he : j = i
    · subst he
      rw [if_pos hs, decide_eq_true rfl]; rfl
    · have hne : gs D.issued j ≠ s := fun e => he (by
        have a1 := at_issued hok hj
        rw [e, hi] at a1
        omega)
      rw [if_neg hne, decide_eq_false (by omega), Bool.false_or]
end Go.Proofs.Ytcdoanookiimaaa
