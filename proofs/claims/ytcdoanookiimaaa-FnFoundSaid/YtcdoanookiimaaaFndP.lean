/- Plain: which issued words are nearest, how many are revoked, what the status of an issued word is. -/
import Derived.Test.YtcdoanookiimaaaNear
import Derived.Test.YtcdoanookiimaaaIssQ
import Derived.Test.YtcdoanookiimaaaR8A
namespace Go.Proofs.Ytcdoanookiimaaa
set_option maxRecDepth 100000
open Go.RowKit

theorem near_mem {D : Rg} {s : ByteArray} : ∀ k, k ≤ D.issued.length → ∀ x ∈ (nearS D s k).1, ∃ j, j < k ∧ x = gs D.issued j ∧ revHas D j = false ∧ farK D s j = (nearS D s k).2
  | 0, _, x, hx => by simp [nearS] at hx
  | k + 1, hk, x, hx => by
    have ih := near_mem (D := D) (s := s) k (by omega)
    cases hr : revHas D k with
    | true =>
      rw [near_rev hr] at hx ⊢
      obtain ⟨j, h1, h2⟩ := ih x hx
      exact ⟨j, by omega, h2⟩
    | false =>
      by_cases h1 : (nearS D s k).2 < 0 ∨ farK D s k < (nearS D s k).2
      · rw [near_new hr h1] at hx ⊢
        obtain rfl := List.mem_singleton.1 hx
        exact ⟨k, by omega, rfl, hr, rfl⟩
      · by_cases h2 : farK D s k = (nearS D s k).2
        · rw [near_more hr (by omega) h2] at hx ⊢
          rcases List.mem_append.1 hx with h | h
          · obtain ⟨j, g1, g2, g3, g4⟩ := ih x h
            exact ⟨j, by omega, g2, g3, by rw [g4, h2]⟩
          · obtain rfl := List.mem_singleton.1 h
            exact ⟨k, by omega, rfl, hr, rfl⟩
        · rw [near_not hr (by omega) (by omega)] at hx ⊢
          obtain ⟨j, g1, g2⟩ := ih x hx
          exact ⟨j, by omega, g2⟩
theorem near_neg {D : Rg} {s : ByteArray} : ∀ k, (nearS D s k).2 < 0 ↔ ∀ j, j < k → revHas D j = true
  | 0 => by simp [nearS]
  | k + 1 => by
    have ih := near_neg (D := D) (s := s) k
    have hf := far_pos D s k
    cases hr : revHas D k with
    | true =>
      rw [near_rev hr, ih]
      refine ⟨fun h j hj => ?_, fun h j hj => h j (by omega)⟩
      rcases Nat.lt_succ_iff_lt_or_eq.1 hj with h1 | rfl
      · exact h j h1
      · exact hr
    | false =>
      have hR : ¬ ∀ j, j < k + 1 → revHas D j = true := fun h => by have := h k (by omega); rw [hr] at this; cases this
      refine ⟨fun h => absurd h ?_, fun h => absurd h hR⟩
      by_cases h1 : (nearS D s k).2 < 0 ∨ farK D s k < (nearS D s k).2
      · rw [near_new hr h1]; simp only; omega
      · by_cases h2 : farK D s k = (nearS D s k).2
        · rw [near_more hr (by omega) h2]; simp only; omega
        · rw [near_not hr (by omega) (by omega)]; omega
theorem near_one {D : Rg} {s : ByteArray} {i : Nat} {r : Int} (hr : revHas D i = false) (hi : farK D s i ≤ r) (hn : ∀ j, j ≠ i → j < D.issued.length → r < farK D s j) :
    ∀ k, k ≤ D.issued.length → (k ≤ i → (nearS D s k).2 < 0 ∨ r < (nearS D s k).2) ∧ (i < k → nearS D s k = ([gs D.issued i], farK D s i))
  | 0, _ => ⟨fun _ => by simp [nearS], fun h => by omega⟩
  | k + 1, hk => by
    obtain ⟨h1, h2⟩ := near_one hr hi hn k (by omega)
    refine ⟨fun hki => ?_, fun hik => ?_⟩
    · have hf := hn k (by omega) (by omega)
      have h3 := h1 (by omega)
      cases hrk : revHas D k with
      | true => rw [near_rev hrk]; exact h3
      | false =>
        by_cases g1 : (nearS D s k).2 < 0 ∨ farK D s k < (nearS D s k).2
        · rw [near_new hrk g1]; exact .inr hf
        · by_cases g2 : farK D s k = (nearS D s k).2
          · rw [near_more hrk (by omega) g2]; exact .inr hf
          · rw [near_not hrk (by omega) (by omega)]; exact h3
    · by_cases he : k = i
      · subst he
        exact near_new hr (by rcases h1 (Nat.le_refl _) with h | h; exact .inl h; exact .inr (by omega))
      · have h3 := h2 (by omega)
        have hf := hn k he (by omega)
        have hp := far_pos D s i
        have e2 : (nearS D s k).2 = farK D s i := by rw [h3]
        cases hrk : revHas D k with
        | true => rw [near_rev hrk]; exact h3
        | false => rw [near_not hrk (by rw [e2]; omega) (by rw [e2]; omega)]; exact h3
/-- a word that is near an issued one is far from the others -/
theorem typed_far {D : Rg} (h : OkRg D) {i : Nat} {t : ByteArray} {r : Nat} (hi : i < D.issued.length) (ht : distS t (gs D.issued i) ≤ r) (ha : 2 * (r : Int) + 1 ≤ D.apart) :
    farK D t i ≤ r ∧ ∀ j, j ≠ i → j < D.issued.length → (r : Int) < farK D t j := by
  unfold farK
  refine ⟨by rw [dist_comm]; omega, fun j hj hjn => ?_⟩
  have h1 := far_apart h hjn hi hj
  have h2 := dist_tri (gs D.issued j) t (gs D.issued i)
  omega
theorem rev_few {D : Rg} (h : OkRg D) : D.revoked.length < D.issued.length ↔ ∃ j, j < D.issued.length ∧ revHas D j = false := by
  constructor
  · intro hlt
    apply Classical.byContradiction
    intro hno
    have hall : ∀ j, j < D.issued.length → revHas D j = true := fun j hj => by
      cases hr : revHas D j with
      | true => rfl
      | false => exact absurd ⟨j, hj, hr⟩ hno
    have main : ∀ k, k ≤ D.issued.length → k ≤ D.revoked.length ∧ ∀ j, j < k → gi D.revoked j = j := by
      intro k
      induction k with
      | zero => intro _; exact ⟨Nat.zero_le _, fun j hj => by omega⟩
      | succ k ih =>
        intro hk
        obtain ⟨g1, g2⟩ := ih (by omega)
        obtain ⟨q, hq, he⟩ := rev_at.1 (hall k (by omega))
        have hqk : k ≤ q := by
          apply Classical.byContradiction
          intro hc
          have := g2 q (by omega)
          omega
        obtain ⟨d, rfl⟩ := Nat.exists_eq_add_of_le hqk
        have h0 : (k : Int) ≤ gi D.revoked k := by
          by_cases hk0 : k = 0
          · have := (h.rev k (by omega)).1; omega
          · have h1 := h.up k (by omega) (by omega)
            have h2 := g2 (k - 1) (by omega)
            omega
        have h3 := rev_up h d k hq
        have hd : d = 0 := by omega
        subst hd
        refine ⟨by omega, fun j hj => ?_⟩
        rcases Nat.lt_succ_iff_lt_or_eq.1 hj with h4 | rfl
        · exact g2 j h4
        · exact he
    have := (main D.issued.length (Nat.le_refl _)).1
    omega
  · rintro ⟨j, hj, hr⟩
    apply Classical.byContradiction
    intro hc
    have hm : 0 < D.revoked.length := by omega
    have low : ∀ k, k < D.revoked.length → (k : Int) ≤ gi D.revoked k := fun k hk => by
      have h1 := rev_up h k 0 (by omega)
      have h2 := (h.rev 0 hm).1
      rw [Nat.zero_add] at h1
      omega
    have hlast := (h.rev (D.revoked.length - 1) (by omega)).2
    have hl2 := low (D.revoked.length - 1) (by omega)
    have hle : D.revoked.length = D.issued.length := by omega
    have h3 := rev_up h (D.revoked.length - 1 - j) j (by omega)
    rw [show j + (D.revoked.length - 1 - j) = D.revoked.length - 1 by omega] at h3
    have h4 := low j (by omega)
    have : revHas D j = true := rev_at.2 ⟨j, by omega, by omega⟩
    rw [hr] at this; cases this
theorem wordB_t {l : List UInt8} {m : Int} : wordB l 36 m = true ↔ (∀ c ∈ l, inB (dig c) 0 35 = true) ∧ (l.length : Int) ≤ m := by
  unfold wordB
  simp only [Bool.and_eq_true, List.all_eq_true, decide_eq_true_eq]
  exact ⟨fun h => ⟨h.1, h.2.2⟩, fun h => ⟨h.1, by decide, h.2⟩⟩
theorem word_mid {s u : ByteArray} {i j : Nat} (h : wordB s.data.toList 36 20 = true) (hs : s.size ≤ 10) (hu : wordB u.data.toList 36 20 = true) (hu1 : u.size = 1) (hj : j ≤ s.size) (hij : i ≤ j) : wordB (s.extract 0 i ++ u ++ s.extract j s.size).data.toList 36 20 = true := by
  obtain ⟨x, hx⟩ := one_byte hu1
  rw [list_mid s u i j x hx]
  obtain ⟨h1, _⟩ := wordB_t.1 h
  obtain ⟨h2, _⟩ := wordB_t.1 hu
  refine wordB_t.2 ⟨fun c hc => ?_, ?_⟩
  · rcases List.mem_append.1 hc with hc | hc
    · exact h1 c (List.mem_of_mem_take hc)
    · rcases List.mem_cons.1 hc with rfl | hc
      · exact h2 c (by rw [hx]; simp)
      · exact h1 c (List.mem_of_mem_drop hc)
  · simp only [List.length_append, List.length_take, List.length_cons, List.length_drop, Array.length_toList, ByteArray.size_data]; omega
theorem list_less (s : ByteArray) (i j : Nat) : (s.extract 0 i ++ s.extract j s.size).data.toList = s.data.toList.take i ++ s.data.toList.drop j := by
  simp [ByteArray.data_append, ByteArray.data_extract]
  exact List.take_of_length_le (by simp)
theorem word_less {s : ByteArray} {i j : Nat} (h : wordB s.data.toList 36 20 = true) (hs : s.size ≤ 10) (hj : i ≤ j) : wordB (s.extract 0 i ++ s.extract j s.size).data.toList 36 20 = true := by
  rw [list_less]
  obtain ⟨h1, _⟩ := wordB_t.1 h
  refine wordB_t.2 ⟨fun c hc => ?_, ?_⟩
  · rcases List.mem_append.1 hc with hc | hc
    · exact h1 c (List.mem_of_mem_take hc)
    · exact h1 c (List.mem_of_mem_drop hc)
  · simp only [List.length_append, List.length_take, List.length_drop, Array.length_toList, ByteArray.size_data]; omega
theorem word_all : ∀ m : Fin 36, wordB (textOf [(m.val : Int)]).data.toList 36 20 = true := by decide
theorem word_sym {z : Int} (h0 : 0 ≤ z) (h1 : z ≤ 35) : wordB (textOf [z]).data.toList 36 20 = true := by
  obtain ⟨k, rfl⟩ := Int.eq_ofNat_of_zero_le h0
  exact word_all ⟨k, by omega⟩
/-- what is nearest to a word that is near an issued one -/
theorem near_law {D : Rg} (h : OkRg D) {t : ByteArray} (ht : wordB t.data.toList 36 20 = true) : nearB D t = decide (D.revoked.length < D.issued.length) ∧
    ∀ x ∈ nearL D t, x.size ≤ 20 ∧ wordB x.data.toList 36 20 = true ∧ statOk D x = true ∧ statOf D x = 1 ∧ (distS t x : Int) = nearN D t ∧ ∃ j, j < D.issued.length ∧ x = gs D.issued j ∧ revHas D j = false := by
  have hask : askB D t = true := by rw [askB, ht]; have := h.valid; rw [this]; rfl
  refine ⟨?_, fun x hx => ?_⟩
  · rw [nearB, hask, Bool.true_and, Bool.eq_iff_iff]
    simp only [Bool.not_eq_true', decide_eq_false_iff_not, decide_eq_true_eq]
    rw [near_neg, rev_few h]
    constructor
    · intro hn
      apply Classical.byContradiction
      intro hc
      exact hn fun j hj => by
        cases hr : revHas D j with
        | true => rfl
        | false => exact absurd ⟨j, hj, hr⟩ hc
    · rintro ⟨j, hj, hr⟩ hn
      have := hn j hj
      rw [hr] at this; cases this
  · unfold nearL at hx
    split at hx
    · rename_i hnb
      obtain ⟨j, hj, he, hr, hf⟩ := near_mem D.issued.length (Nat.le_refl _) x ((mem_putAll _).1 hx)
      subst he
      have hc := h.chk j hj
      have hs := stat_issued h (h.valid) hj
      have hw : wordB (gs D.issued j).data.toList 36 20 = true := by
        unfold chkB runOk wordCh at hc
        simp only [Bool.and_eq_true] at hc
        have h1 := hc.1.2.1
        unfold wordB at h1
        simp only [Bool.and_eq_true, List.all_eq_true, decide_eq_true_eq] at h1
        have hb := h.ch.b36
        refine wordB_t.2 ⟨fun c hc' => ?_, h1.2.2⟩
        have h2 := inB_t.1 (h1.1 c hc')
        exact inB_t.2 (by omega)
      rw [hr] at hs
      refine ⟨h.s20 j hj, hw, hs.1, hs.2, ?_, j, hj, rfl, hr⟩
      rw [nearN, hnb, if_pos rfl, ← hf, farK, dist_comm]
    · cases hx
theorem found_law {D : Rg} (h : OkRg D) {i rd : Nat} {t : ByteArray} (hi : i < D.issued.length) (ht : wordB t.data.toList 36 20 = true) (hd : distS t (gs D.issued i) ≤ rd) (hrd : (D.apart - 1) / 2 = rd) :
    (revHas D i = false → findB D t = true ∧ findT D t = gs D.issued i ∧ nearB D t = true) ∧ (revHas D i = true → findB D t = true → findT D t ≠ gs D.issued i) := by
  have ha := h.a1
  obtain ⟨f1, f2⟩ := typed_far h hi hd (by omega)
  have hask : askB D t = true := by rw [askB, ht]; have := h.valid; rw [this]; rfl
  refine ⟨fun hr => ?_, fun hr hf he => ?_⟩
  · have hn := (near_one hr f1 f2 D.issued.length (Nat.le_refl _)).2 hi
    have hp := far_pos D t i
    have hb : nearB D t = true := by rw [nearB, hask, hn, decide_eq_false (by show ¬ farK D t i < 0; omega)]; rfl
    have hN : nearN D t = farK D t i := by rw [nearN, hb, hn]; rfl
    have hF : findB D t = true := by rw [findB, hb, hN, decide_eq_true (by omega)]; rfl
    refine ⟨hF, ?_, hb⟩
    rw [findT, hF, if_pos rfl, nearL, hb, if_pos rfl, hn]; rfl
  · have hl := (near_law h ht).2
    have hF := hf
    unfold findB at hF
    simp only [Bool.and_eq_true] at hF
    have hne : nearL D t ≠ [] := fun e => by
      unfold nearL at e
      rw [hF.1, if_pos rfl] at e
      have h1 : (nearS D t D.issued.length).1 = [] := by
        apply List.eq_nil_iff_forall_not_mem.2
        intro x hx
        have := (mem_putAll _).2 hx
        rw [e] at this; cases this
      have h2 := (near_nil D t D.issued.length).1 h1
      have h3 := hF.1
      unfold nearB at h3
      simp only [Bool.and_eq_true, Bool.not_eq_true', decide_eq_false_iff_not] at h3
      exact h3.2 h2
    have hm : findT D t ∈ nearL D t := by
      rw [findT, hf, if_pos rfl]
      exact gs_mem (by cases hq : nearL D t with
        | nil => exact absurd hq hne
        | cons y ys => simp)
    obtain ⟨_, _, _, _, _, j, hj, hx, hrj⟩ := hl _ hm
    rw [he] at hx
    have a1 := at_issued h hi
    have a2 := at_issued h hj
    rw [hx, a2] at a1
    have : j = i := by omega
    subst this
    rw [hr] at hrj; cases hrj
end Go.Proofs.Ytcdoanookiimaaa
