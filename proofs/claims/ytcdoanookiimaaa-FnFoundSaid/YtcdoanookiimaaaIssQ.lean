/- Plain: edit distances are at most the sum of those over a third word; one edit costs one. Conditions: none. -/
import Derived.Test.YtcdoanookiimaaaEditM
import Derived.Test.YtcdoanookiimaaaIss
namespace Go.Proofs.Ytcdoanookiimaaa
set_option maxRecDepth 100000

/-- how one list is made of another, with so many letters -/
inductive Al : List UInt8 → List UInt8 → Nat → Prop
  | nil : Al [] [] 0
  | del (x : UInt8) {a b : List UInt8} {n : Nat} : Al a b n → Al (x :: a) b (n + 1)
  | ins (y : UInt8) {a b : List UInt8} {n : Nat} : Al a b n → Al a (y :: b) (n + 1)
  | sub (x y : UInt8) {a b : List UInt8} {n : Nat} : Al a b n → Al (x :: a) (y :: b) (n + 1)
  | eq (x : UInt8) {a b : List UInt8} {n : Nat} : Al a b n → Al (x :: a) (x :: b) n
theorem cost_del (x : UInt8) (a b : List UInt8) : costS (x :: a) b ≤ costS a b + 1 := by
  cases b with
  | nil => rw [cost_nil', cost_nil']; simp
  | cons y b => rw [cost_cons]; omega
theorem cost_ins (y : UInt8) (a b : List UInt8) : costS a (y :: b) ≤ costS a b + 1 := by
  cases a with
  | nil => rw [cost_nil, cost_nil]; simp
  | cons x a => rw [cost_cons]; omega
theorem cost_sub (x y : UInt8) (a b : List UInt8) : costS (x :: a) (y :: b) ≤ costS a b + 1 := by
  rw [cost_cons]
  split <;> omega
theorem cost_eq (x : UInt8) (a b : List UInt8) : costS (x :: a) (x :: b) ≤ costS a b := by
  rw [cost_cons, if_pos rfl]; omega
theorem Al.le {a b : List UInt8} {n : Nat} (h : Al a b n) : costS a b ≤ n := by
  induction h with
  | nil => rw [cost_nil]; simp
  | del x _ ih => exact Nat.le_trans (cost_del x _ _) (by omega)
  | ins y _ ih => exact Nat.le_trans (cost_ins y _ _) (by omega)
  | sub x y _ ih => exact Nat.le_trans (cost_sub x y _ _) (by omega)
  | eq x _ ih => exact Nat.le_trans (cost_eq x _ _) ih
theorem al_ins : ∀ b : List UInt8, Al [] b b.length
  | [] => Al.nil
  | y :: b => Al.ins y (al_ins b)
theorem al_del : ∀ a : List UInt8, Al a [] a.length
  | [] => Al.nil
  | x :: a => Al.del x (al_del a)
theorem al_cost : ∀ (N : Nat) (a b : List UInt8), a.length + b.length ≤ N → Al a b (costS a b)
  | _, [], b, _ => by rw [cost_nil]; exact al_ins b
  | _, x :: a, [], _ => by rw [cost_nil']; exact al_del _
  | 0, x :: a, y :: b, h => by simp at h
  | N + 1, x :: a, y :: b, h => by
    simp only [List.length_cons] at h
    have h1 := al_cost N a (y :: b) (by simp only [List.length_cons]; omega)
    have h2 := al_cost N (x :: a) b (by simp only [List.length_cons]; omega)
    have h3 := al_cost N a b (by omega)
    rw [cost_cons]
    rcases Nat.le_total (costS a (y :: b) + 1) (costS (x :: a) b + 1) with e1 | e1
    · rw [Nat.min_eq_left e1]
      rcases Nat.le_total (costS a (y :: b) + 1) (costS a b + if x = y then 0 else 1) with e2 | e2
      · rw [Nat.min_eq_left e2]; exact Al.del x h1
      · rw [Nat.min_eq_right e2]
        split
        · rename_i e; subst e; exact Al.eq x h3
        · exact Al.sub x y h3
    · rw [Nat.min_eq_right e1]
      rcases Nat.le_total (costS (x :: a) b + 1) (costS a b + if x = y then 0 else 1) with e2 | e2
      · rw [Nat.min_eq_left e2]; exact Al.ins y h2
      · rw [Nat.min_eq_right e2]
        split
        · rename_i e; subst e; exact Al.eq x h3
        · exact Al.sub x y h3
theorem al_of (a b : List UInt8) : Al a b (costS a b) := al_cost _ a b (Nat.le_refl _)
theorem al_comp : ∀ (N : Nat) (a b c : List UInt8) (m n : Nat), a.length + b.length + c.length ≤ N → Al a b m → Al b c n → ∃ k, k ≤ m + n ∧ Al a c k := by
  intro N
  induction N with
  | zero =>
    intro a b c m n h h1 h2
    have ha : a = [] := List.eq_nil_of_length_eq_zero (by omega)
    have hc : c = [] := List.eq_nil_of_length_eq_zero (by omega)
    subst ha; subst hc
    exact ⟨0, by omega, Al.nil⟩
  | succ N ih =>
    intro a b c m n h h1 h2
    cases h2 with
    | nil => exact ⟨m, by omega, h1⟩
    | ins z h2 =>
      simp only [List.length_cons] at h
      obtain ⟨k, hk, hal⟩ := ih _ _ _ _ _ (by omega) h1 h2
      exact ⟨k + 1, by omega, Al.ins z hal⟩
    | del y h2 =>
      cases h1 with
      | del x h1 =>
        simp only [List.length_cons] at h
        obtain ⟨k, hk, hal⟩ := ih _ _ _ _ _ (by simp only [List.length_cons]; omega) h1 (Al.del y h2)
        exact ⟨k + 1, by omega, Al.del x hal⟩
      | ins _ h1 =>
        simp only [List.length_cons] at h
        obtain ⟨k, hk, hal⟩ := ih _ _ _ _ _ (by omega) h1 h2
        exact ⟨k, by omega, hal⟩
      | sub x _ h1 =>
        simp only [List.length_cons] at h
        obtain ⟨k, hk, hal⟩ := ih _ _ _ _ _ (by omega) h1 h2
        exact ⟨k + 1, by omega, Al.del x hal⟩
      | eq _ h1 =>
        simp only [List.length_cons] at h
        obtain ⟨k, hk, hal⟩ := ih _ _ _ _ _ (by omega) h1 h2
        exact ⟨k + 1, by omega, Al.del y hal⟩
    | sub y z h2 =>
      cases h1 with
      | del x h1 =>
        simp only [List.length_cons] at h
        obtain ⟨k, hk, hal⟩ := ih _ _ _ _ _ (by simp only [List.length_cons]; omega) h1 (Al.sub y z h2)
        exact ⟨k + 1, by omega, Al.del x hal⟩
      | ins _ h1 =>
        simp only [List.length_cons] at h
        obtain ⟨k, hk, hal⟩ := ih _ _ _ _ _ (by omega) h1 h2
        exact ⟨k + 1, by omega, Al.ins z hal⟩
      | sub x _ h1 =>
        simp only [List.length_cons] at h
        obtain ⟨k, hk, hal⟩ := ih _ _ _ _ _ (by omega) h1 h2
        exact ⟨k + 1, by omega, Al.sub x z hal⟩
      | eq _ h1 =>
        simp only [List.length_cons] at h
        obtain ⟨k, hk, hal⟩ := ih _ _ _ _ _ (by omega) h1 h2
        exact ⟨k + 1, by omega, Al.sub y z hal⟩
    | eq y h2 =>
      cases h1 with
      | del x h1 =>
        simp only [List.length_cons] at h
        obtain ⟨k, hk, hal⟩ := ih _ _ _ _ _ (by simp only [List.length_cons]; omega) h1 (Al.eq y h2)
        exact ⟨k + 1, by omega, Al.del x hal⟩
      | ins _ h1 =>
        simp only [List.length_cons] at h
        obtain ⟨k, hk, hal⟩ := ih _ _ _ _ _ (by omega) h1 h2
        exact ⟨k + 1, by omega, Al.ins y hal⟩
      | sub x _ h1 =>
        simp only [List.length_cons] at h
        obtain ⟨k, hk, hal⟩ := ih _ _ _ _ _ (by omega) h1 h2
        exact ⟨k + 1, by omega, Al.sub x y hal⟩
      | eq _ h1 =>
        simp only [List.length_cons] at h
        obtain ⟨k, hk, hal⟩ := ih _ _ _ _ _ (by omega) h1 h2
        exact ⟨k, by omega, Al.eq y hal⟩
theorem cost_tri (a b c : List UInt8) : costS a c ≤ costS a b + costS b c := by
  obtain ⟨k, hk, h⟩ := al_comp _ a b c _ _ (Nat.le_refl _) (al_of a b) (al_of b c)
  exact Nat.le_trans h.le hk
theorem Al.len {a b : List UInt8} {n : Nat} (h : Al a b n) : a.length ≤ b.length + n ∧ b.length ≤ a.length + n := by
  induction h with
  | nil => simp
  | del x _ ih => simp only [List.length_cons]; omega
  | ins y _ ih => simp only [List.length_cons]; omega
  | sub x y _ ih => simp only [List.length_cons]; omega
  | eq x _ ih => simp only [List.length_cons]; omega
theorem Al.zero {a b : List UInt8} {n : Nat} (h : Al a b n) (h0 : n = 0) : a = b := by
  induction h with
  | nil => rfl
  | del x _ ih => omega
  | ins y _ ih => omega
  | sub x y _ ih => omega
  | eq x _ ih => rw [ih h0]
theorem al_refl : ∀ a : List UInt8, Al a a 0
  | [] => Al.nil
  | x :: a => Al.eq x (al_refl a)
theorem Al.pre (p : List UInt8) {a b : List UInt8} {n : Nat} (h : Al a b n) : Al (p ++ a) (p ++ b) n := by
  induction p with
  | nil => exact h
  | cons x p ih => exact Al.eq x ih
theorem cost_len (a b : List UInt8) : a.length ≤ b.length + costS a b ∧ b.length ≤ a.length + costS a b := (al_of a b).len
theorem cost_zero {a b : List UInt8} (h : costS a b = 0) : a = b := (al_of a b).zero h
/-- of byte arrays -/
theorem dist_eq (a b : ByteArray) : distS a b = costS a.data.toList b.data.toList := by simp [distS, cst]
theorem dist_tri (a b c : ByteArray) : distS a c ≤ distS a b + distS b c := by
  rw [dist_eq, dist_eq, dist_eq]; exact cost_tri _ _ _
theorem dist_len (a b : ByteArray) : a.size ≤ b.size + distS a b ∧ b.size ≤ a.size + distS a b := by
  have := cost_len a.data.toList b.data.toList
  rw [ba_len, ba_len] at this
  rw [dist_eq]; exact this
theorem dist_zero {a b : ByteArray} (h : distS a b = 0) : a = b := by
  rw [dist_eq] at h
  exact ByteArray.ext (Array.toList_inj.1 (cost_zero h))
theorem more_l (l : List UInt8) (i : Nat) (x : UInt8) : costS (l.take i ++ (x :: l.drop i)) l ≤ 1 := by
  have h2 : Al (l.take i ++ (x :: l.drop i)) (l.take i ++ l.drop i) 1 := (Al.del x (al_refl _)).pre _
  rw [List.take_append_drop] at h2
  exact h2.le
theorem less_l (l : List UInt8) (i : Nat) : costS (l.take i ++ l.drop (i + 1)) l ≤ 1 := by
  rcases Nat.lt_or_ge i l.length with h | h
  · have h2 : Al (l.take i ++ l.drop (i + 1)) (l.take i ++ (l[i] :: l.drop (i + 1))) 1 := (Al.ins _ (al_refl _)).pre _
    rw [List.getElem_cons_drop, List.take_append_drop] at h2
    exact h2.le
  · rw [List.drop_eq_nil_of_le (by omega), List.append_nil, List.take_of_length_le h]
    exact Nat.le_trans (al_refl l).le (by omega)
theorem turn_l (l : List UInt8) (i : Nat) (x : UInt8) (h : i < l.length) : costS (l.take i ++ (x :: l.drop (i + 1))) l ≤ 1 := by
  have h2 : Al (l.take i ++ (x :: l.drop (i + 1))) (l.take i ++ (l[i] :: l.drop (i + 1))) 1 := (Al.sub x _ (al_refl _)).pre _
  rw [List.getElem_cons_drop, List.take_append_drop] at h2
  exact h2.le
theorem list_mid (s u : ByteArray) (i j : Nat) (x : UInt8) (hx : u.data.toList = [x]) : (s.extract 0 i ++ u ++ s.extract j s.size).data.toList = s.data.toList.take i ++ (x :: s.data.toList.drop j) := by
  rw [ByteArray.data_append, ByteArray.data_append, Array.toList_append, Array.toList_append, ByteArray.data_extract, ByteArray.data_extract, Array.toList_extract, Array.toList_extract, List.extract_eq_take_drop, List.extract_eq_take_drop, hx]
  rw [List.drop_zero, Nat.sub_zero, List.append_assoc, List.take_of_length_le (l := s.data.toList.drop j) (by rw [List.length_drop, ba_len]; omega)]
  rfl
theorem one_byte {u : ByteArray} (hu : u.size = 1) : ∃ x, u.data.toList = [x] := List.length_eq_one_iff.1 (by rw [ba_len]; exact hu)
/-- one symbol more -/
theorem dist_more (s : ByteArray) (u : ByteArray) (i : Nat) (hu : u.size = 1) : distS (s.extract 0 i ++ u ++ s.extract i s.size) s ≤ 1 := by
  obtain ⟨x, hx⟩ := one_byte hu
  rw [dist_eq, list_mid s u i i x hx]
  exact more_l _ _ _
/-- one symbol less -/
theorem dist_less (s : ByteArray) (i : Nat) : distS (s.extract 0 i ++ s.extract (i + 1) s.size) s ≤ 1 := by
  have h1 : (s.extract 0 i ++ s.extract (i + 1) s.size).data.toList = s.data.toList.take i ++ s.data.toList.drop (i + 1) := by
    rw [ByteArray.data_append, Array.toList_append, ByteArray.data_extract, ByteArray.data_extract, Array.toList_extract, Array.toList_extract, List.extract_eq_take_drop, List.extract_eq_take_drop]
    rw [List.drop_zero, Nat.sub_zero, List.take_of_length_le (l := s.data.toList.drop (i + 1)) (by rw [List.length_drop, ba_len]; omega)]
  rw [dist_eq, h1]
  exact less_l _ _
/-- another symbol -/
theorem dist_turn (s u : ByteArray) (i : Nat) (hu : u.size = 1) (hi : i < s.size) : distS (s.extract 0 i ++ u ++ s.extract (i + 1) s.size) s ≤ 1 := by
  obtain ⟨x, hx⟩ := one_byte hu
  rw [dist_eq, list_mid s u i (i + 1) x hx]
  exact turn_l _ _ _ (by rw [ba_len]; exact hi)
end Go.Proofs.Ytcdoanookiimaaa

/- Plain: issued words are apart; the status of an issued word. -/
namespace Go.Proofs.Ytcdoanookiimaaa
set_option maxRecDepth 100000
open Go.RowKit

theorem far_apart {D : Rg} (h : OkRg D) {i j : Nat} (hi : i < D.issued.length) (hj : j < D.issued.length) (hne : i ≠ j) : D.apart ≤ (distS (gs D.issued i) (gs D.issued j) : Int) := by
  have main : ∀ i k, k < i → i < D.issued.length → D.apart ≤ (distS (gs D.issued i) (gs D.issued k) : Int) := fun i k hk hi => by
    have := h.far i k hk hi
    unfold farR at this
    simp only [Bool.not_eq_true', decide_eq_false_iff_not] at this
    omega
  by_cases hlt : j < i
  · exact main i j hlt hi
  · rw [dist_comm]; exact main j i (by omega) hj
theorem rev_up {D : Rg} (h : OkRg D) : ∀ (d k : Nat), k + d < D.revoked.length → gi D.revoked k + d ≤ gi D.revoked (k + d)
  | 0, k, _ => by simp
  | d + 1, k, hk => by
    have := rev_up h d k (by omega)
    have h2 := h.up (k + (d + 1)) (by omega) hk
    rw [show k + (d + 1) - 1 = k + d by omega] at h2
    omega
theorem rev_at {D : Rg} {k : Nat} : revHas D k = true ↔ ∃ j, j < D.revoked.length ∧ gi D.revoked j = k := by
  unfold revHas
  rw [List.any_eq_true]
  constructor
  · rintro ⟨x, hx, he⟩
    obtain ⟨j, hj, rfl⟩ := List.mem_iff_getElem.1 hx
    exact ⟨j, hj, by rw [gi_get hj]; exact beq_iff_eq.1 he⟩
  · rintro ⟨j, hj, he⟩
    exact ⟨gi D.revoked j, gi_mem hj, by rw [he]; simp⟩
theorem at_issued {D : Rg} (h : OkRg D) {j : Nat} (hj : j < D.issued.length) : atRg D (gs D.issued j) = j := by
  refine idx_hitT hj (fun x hx => ?_) (by simp)
  obtain ⟨k, hk, rfl⟩ := List.mem_iff_getElem.1 hx
  simp only [List.length_take] at hk
  simp only [List.getElem_take]
  cases hb : ((gs D.issued j).toList == (D.issued[k]'(by omega)).toList) with
  | false => simp
  | true =>
    have h1 := beq_iff_eq.1 hb
    simp only [ByteArray.toList_eq] at h1
    have h2 : gs D.issued j = gs D.issued k := by rw [gs_get (show k < D.issued.length by omega)]; exact ByteArray.ext (Array.toList_inj.1 h1)
    have h3 := far_apart h hj (show k < D.issued.length by omega) (by omega)
    rw [h2, dist_self] at h3
    have := h.a1
    omega
theorem stat_issued {D : Rg} (h : OkRg D) (hv : validRg D = true) {j : Nat} (hj : j < D.issued.length) : statOk D (gs D.issued j) = true ∧ statOf D (gs D.issued j) = if revHas D j then 2 else 1 := by
  have hc := h.chk j hj
  have hw : wordCh D.ch (gs D.issued j) = true := by
    unfold chkB runOk at hc
    simp only [Bool.and_eq_true] at hc
    exact hc.1.2
  have hs : statOk D (gs D.issued j) = true := by rw [statOk, hv, hw]; rfl
  refine ⟨hs, ?_⟩
  rw [statOf, hs, at_issued h hj, if_pos rfl, if_neg (by omega)]
end Go.Proofs.Ytcdoanookiimaaa
