/- A quicker test that of two operations that change the world the later one waits for the earlier one: what each one waits for, as one number of bits. Conditions: none; nothing here speaks of a program's text. -/
import Derived.Test.YtohenfbgjjifbaaMix
namespace Go.Proofs.Ytohenfbgjjifbaa
set_option maxRecDepth 100000
open Go.RowKit

/-- what operation i waits for, of the first k -/
def lookM (acc : List Nat) (k i : Nat) : Nat := if i < k then acc.getD (k - 1 - i) 0 else 0
def mask1 (md : Region.Mode) (acc : List Nat) (k : Nat) (o : Oper) : Nat := o.after.toList.foldl (fun s e => if Region.binds md e then s ||| lookM acc k e.on else s) (2 ^ k)
def masks (md : Region.Mode) : List Oper → Nat → List Nat → List Nat
  | [], _, acc => acc
  | o :: rest, k, acc => masks md rest (k + 1) (mask1 md acc k o :: acc)
def seq2B (md : Region.Mode) (ops : Array Oper) : Bool :=
  (List.range ops.size).all fun i => match ops[i]? with
    | some oi => !seqOp oi.op || (List.range ops.size).all fun j => decide (j ≤ i) || match ops[j]? with
      | some oj => !seqOp oj.op || (lookM (masks md ops.toList 0 []) ops.size j).testBit i
      | none => true
    | none => true
theorem foldl_bit {α : Type} (f : α → Nat) (c : α → Bool) (i : Nat) : ∀ (l : List α) (s : Nat), (l.foldl (fun s e => if c e then s ||| f e else s) s).testBit i = true → s.testBit i = true ∨ ∃ e ∈ l, c e = true ∧ (f e).testBit i = true
  | [], s, h => .inl h
  | e :: l, s, h => by
    rw [List.foldl_cons] at h
    rcases foldl_bit f c i l _ h with h1 | ⟨e', he, h1⟩
    · by_cases hc : c e = true
      · rw [if_pos hc, Nat.testBit_or, Bool.or_eq_true] at h1
        rcases h1 with h1 | h1
        · exact .inl h1
        · exact .inr ⟨e, List.mem_cons_self .., hc, h1⟩
      · rw [if_neg hc] at h1; exact .inl h1
    · exact .inr ⟨e', List.mem_cons_of_mem _ he, h1⟩
def Sound (md : Region.Mode) (ops : Array Oper) (k : Nat) (acc : List Nat) : Prop := acc.length = k ∧ ∀ j i, (lookM acc k j).testBit i = true → ∀ f, j ≤ f → reach md ops f j i = true
theorem look_cons (m : Nat) (acc : List Nat) (k i : Nat) : lookM (m :: acc) (k + 1) i = if i = k then m else lookM acc k i := by
  unfold lookM
  by_cases h : i = k
  · subst h; rw [if_pos (by omega), if_pos rfl]; simp
  · rw [if_neg h]
    by_cases h2 : i < k
    · rw [if_pos (by omega), if_pos h2, show k + 1 - 1 - i = (k - 1 - i) + 1 by omega, List.getD_cons_succ]
    · rw [if_neg (by omega), if_neg h2]
theorem Sound.step {md : Region.Mode} {ops : Array Oper} {k : Nat} {acc : List Nat} {o : Oper} (h : Sound md ops k acc) (ho : ops[k]? = some o) : Sound md ops (k + 1) (mask1 md acc k o :: acc) := by
  refine ⟨by simp [h.1], fun j i hb f hf => ?_⟩
  rw [look_cons] at hb
  by_cases hj : j = k
  · subst hj
    rw [if_pos rfl] at hb
    unfold mask1 at hb
    rcases foldl_bit _ _ i _ _ hb with h1 | ⟨e, he, hc, h1⟩
    · rw [Nat.testBit_two_pow] at h1
      have h2 : j = i := by simpa using h1
      subst h2
      cases f <;> simp [reach]
    · have hlt : e.on < j := by
        rcases Nat.lt_or_ge e.on j with h2 | h2
        · exact h2
        · unfold lookM at h1; rw [if_neg (by omega)] at h1; simp at h1
      obtain ⟨f', rfl⟩ : ∃ f', f = f' + 1 := ⟨f - 1, by omega⟩
      have h2 := h.2 e.on i h1 f' (by omega)
      simp only [reach, ho, Bool.or_eq_true]
      right
      rw [Array.any_eq_true']
      exact ⟨e, by simpa using he, by rw [hc, h2]; rfl⟩
  · rw [if_neg hj] at hb
    exact h.2 j i hb f hf
theorem Sound.all {md : Region.Mode} {ops : Array Oper} : ∀ (rest pre : List Oper) (acc : List Nat), ops.toList = pre ++ rest → Sound md ops pre.length acc → Sound md ops ops.size (masks md rest pre.length acc)
  | [], pre, acc, h, hs => by
    have : ops.size = pre.length := by rw [← Array.length_toList, h]; simp
    rw [this]; exact hs
  | o :: rest, pre, acc, h, hs => by
    have ho : ops[pre.length]? = some o := by rw [← Array.getElem?_toList, h]; simp
    have := Sound.all rest (pre ++ [o]) (mask1 md acc pre.length o :: acc) (by rw [h]; simp) (by rw [List.length_append]; exact hs.step ho)
    rw [List.length_append] at this
    exact this
theorem seqB_of {md : Region.Mode} {ops : Array Oper} (h : seq2B md ops = true) : seqB md ops = true := by
  have hs : Sound md ops ops.size (masks md ops.toList 0 []) := Sound.all ops.toList [] [] rfl ⟨rfl, fun j i hb => by simp [lookM] at hb⟩
  unfold seq2B at h
  unfold seqB
  rw [List.all_eq_true] at h ⊢
  intro i hi
  have h1 := h i hi
  have hin := List.mem_range.1 hi
  rw [Array.getElem?_eq_getElem hin] at h1 ⊢
  simp only [Bool.or_eq_true] at h1 ⊢
  rcases h1 with h1 | h1
  · exact .inl h1
  · right
    rw [List.all_eq_true] at h1 ⊢
    intro j hj
    have h2 := h1 j hj
    have hjn := List.mem_range.1 hj
    rw [Array.getElem?_eq_getElem hjn] at h2 ⊢
    simp only [Bool.or_eq_true] at h2 ⊢
    rcases h2 with h2 | h2 | h2
    · exact .inl h2
    · exact .inr (.inl h2)
    · exact .inr (.inr (hs.2 j i h2 ops.size (by omega)))
end Go.Proofs.Ytohenfbgjjifbaa

/- A region that draws its order, the last operation apart (a store), in the worlds that go on from an earlier one. Conditions: none; nothing here speaks of a program's text. -/
namespace Go.Proofs.Ytohenfbgjjifbaa
set_option maxRecDepth 100000
open Go.RowKit

def last2B (md : Region.Mode) (ops : Array Oper) (n : Nat) : Bool := decide (ops.size = n + 1) && (List.range n).all fun i => (lookM (masks md ops.toList 0 []) ops.size n).testBit i
theorem lastB_of {md : Region.Mode} {ops : Array Oper} {n : Nat} (h : last2B md ops n = true) : lastB md ops n = true := by
  have hs : Sound md ops ops.size (masks md ops.toList 0 []) := Sound.all ops.toList [] [] rfl ⟨rfl, fun j i hb => by simp [lookM] at hb⟩
  unfold last2B at h
  unfold lastB
  simp only [Bool.and_eq_true, decide_eq_true_eq, List.all_eq_true] at h ⊢
  exact ⟨h.1, fun i hi => hs.2 n i (h.2 i hi) ops.size (by omega)⟩
theorem wp_region_upl {P : Program} {id : Nat} {Q : Exit → Act → World → Prop} {a : Act} {w : World} {l : List Oper} (n : Nat) (w0 : World) (h0 : Ext w0 w) (hn : l.length = n + 1) (hm : P.follows .mixedOrders = true) (hB : Region.lexB .any l.toArray = true) (hS : seqB .any l.toArray = true) (hT : lastB .any l.toArray n = true)
    (h : wpMix P l.toArray (fun w' => ∃ x, w' = w0.up x) (fun a' w' => wpList P l.toArray Q (l.drop n) a' w') (l.take n) a w.drew) : (Code.region id l.toArray true).wp P Q a w := by
  have hd : l.drop n = [l[n]] := by
    rw [List.drop_eq_getElem_cons (by omega), List.drop_eq_nil_of_le (by omega)]
  have hl : l = l.take n ++ [l[n]] := by rw [← hd, List.take_append_drop]
  have hln : (l.take n).length = n := by simp; omega
  rw [hd] at h
  generalize l.take n = l1 at *
  generalize l[n] = o at *
  subst hl
  subst hln
  exact wp_region_last hm hB hS hT (up_of h0.drew) h
end Go.Proofs.Ytohenfbgjjifbaa
