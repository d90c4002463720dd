/- Plain: check numbers, journals, texts cut at a mark, what is recovered of a journal. Conditions: none. -/
import Derived.Test.YtefkefmhfoedcaaDoorStrs
import Derived.Lib.IndexLaws
import Derived.Lib.ItoaLen
import Derived.Lib.ItoaNum
import Derived.Test.YtefkefmhfoedcaaDoorVar
import Derived.Test.YtefkefmhfoedcaaDoorShelf
import Derived.Test.YtefkefmhfoedcaaDoorText
import Derived.Test.YtefkefmhfoedcaaDoorNear
import Derived.Lib.AppendIntMem
import Derived.Shelf.Strings.BuilderF
namespace Go.Proofs.YtefkefmhfoedcaaDoor
set_option maxRecDepth 100000
open Go.RowKit

/-! ### bytes -/
def bl (s : ByteArray) : List UInt8 := s.data.toList
def mkB (l : List UInt8) : ByteArray := ⟨l.toArray⟩
theorem bl_mk (l : List UInt8) : bl (mkB l) = l := by simp [bl, mkB]
theorem mk_bl (s : ByteArray) : mkB (bl s) = s := by simp [bl, mkB]
theorem bl_len (s : ByteArray) : (bl s).length = s.size := by simp [bl]
theorem mk_size (l : List UInt8) : (mkB l).size = l.length := by simp [mkB, ByteArray.size]
theorem bl_app (s t : ByteArray) : bl (s ++ t) = bl s ++ bl t := by simp [bl]
theorem bl_ext {s t : ByteArray} (h : bl s = bl t) : s = t := by rw [← mk_bl s, h, mk_bl]
theorem bl_extract (s : ByteArray) (a b : Nat) : bl (s.extract a b) = ((bl s).take b).drop a := by
  unfold bl
  rw [ByteArray.data_extract, Array.toList_extract, List.extract_eq_take_drop, List.drop_take]
theorem bl_full (s : ByteArray) (a : Nat) : bl (s.extract a s.size) = (bl s).drop a := by
  rw [bl_extract, List.take_of_length_le (by rw [bl_len]; exact Nat.le_refl _)]
theorem bl_at (s : ByteArray) (k : Nat) (h : k < s.size) : (bl s)[k]'(by rw [bl_len]; exact h) = s[k] := by
  simp [bl]; rfl

/-! ### check numbers -/
def ckB (n : Int) (b : UInt8) : Int := (139 * n + b.toNat + 11) % 32749
def ckL (n : Int) (l : List UInt8) : Int := l.foldl ckB n
def ckS (n : Int) (s : ByteArray) : Int := ckL n (bl s)
theorem ckB_bd {n : Int} {b : UInt8} (_h : 0 ≤ n) : 0 ≤ ckB n b ∧ ckB n b ≤ 32748 := by unfold ckB; omega
theorem ckL_bd : ∀ (l : List UInt8) (n : Int), 0 ≤ n → n ≤ 32748 → 0 ≤ ckL n l ∧ ckL n l ≤ 32748
  | [], _, h0, h1 => ⟨h0, h1⟩
  | b :: l, _, h0, _ => ckL_bd l (ckB _ b) (ckB_bd h0).1 (ckB_bd h0).2
theorem ckL_snoc (n : Int) (l : List UInt8) (b : UInt8) : ckL n (l ++ [b]) = ckB (ckL n l) b := by simp [ckL]
theorem ckL_step (n : Int) (s : ByteArray) (k : Nat) (h : k < s.size) : ckL n ((bl s).take (k + 1)) = ckB (ckL n ((bl s).take k)) s[k] := by
  rw [List.take_add_one, List.getElem?_eq_getElem (by rw [bl_len]; exact h)]
  simp only [Option.toList_some]
  rw [ckL_snoc, bl_at s k h]
theorem ckL_full (n : Int) (s : ByteArray) (k : Nat) (h : s.size ≤ k) : ckL n ((bl s).take k) = ckS n s := by
  rw [List.take_of_length_le (by rw [bl_len]; exact h)]; rfl

/-! ### decimals -/
def decS (n : Int) : ByteArray := ⟨(Lib.itoa n).toArray⟩
theorem decS_pos (n : Int) (h : 0 ≤ n) : 1 ≤ (decS n).size := by
  unfold decS Lib.itoa
  rw [if_neg (by omega)]
  have := Lib.nDigits_pos n.toNat
  rw [← Lib.decDigits_length] at this
  simpa [ByteArray.size] using this
theorem decS_le (n : Int) (h0 : 0 ≤ n) (h1 : n ≤ 9223372036854775807) : (decS n).size ≤ 21 := by
  have := Lib.itoa_length_le n (by omega) h1
  simpa [decS, ByteArray.size] using this

/-! ### journals -/
def lineS (n : Int) (s : ByteArray) : ByteArray := decS n ++ ⟨#[32]⟩ ++ s ++ ⟨#[10]⟩
def ckK (l : List ByteArray) : Nat → Int
  | 0 => 0
  | k + 1 => ckS (ckK l k) (gs l k)
def jrK (l : List ByteArray) : Nat → ByteArray
  | 0 => .empty
  | k + 1 => jrK l k ++ lineS (ckK l (k + 1)) (gs l k)
theorem ckK_bd (l : List ByteArray) : ∀ k, 0 ≤ ckK l k ∧ ckK l k ≤ 32748
  | 0 => by simp [ckK]
  | k + 1 => ckL_bd _ _ (ckK_bd l k).1 (ckK_bd l k).2
theorem lineS_size (n : Int) (s : ByteArray) : (lineS n s).size = (decS n).size + s.size + 2 := by
  unfold lineS
  simp only [ByteArray.size_append]
  have h1 : (⟨#[32]⟩ : ByteArray).size = 1 := rfl
  have h2 : (⟨#[10]⟩ : ByteArray).size = 1 := rfl
  omega
theorem jrK_step (l : List ByteArray) (k : Nat) : (jrK l (k + 1)).size = (jrK l k).size + ((decS (ckK l (k + 1))).size + (gs l k).size + 2) := by
  rw [jrK, ByteArray.size_append, lineS_size]
theorem jrK_mono (l : List ByteArray) {i k : Nat} (h : i ≤ k) : (jrK l i).size ≤ (jrK l k).size := by
  induction k with
  | zero => obtain rfl : i = 0 := by omega
            exact Nat.le_refl _
  | succ k ih =>
    by_cases e : i = k + 1
    · subst e; exact Nat.le_refl _
    · have := ih (by omega); rw [jrK_step]; omega
/-- what the reference counts ahead -/
def sumK (l : List ByteArray) : Nat → Nat
  | 0 => 0
  | k + 1 => sumK l k + ((gs l k).size + 3)
theorem sumK_le (l : List ByteArray) : ∀ k, sumK l k ≤ (jrK l k).size
  | 0 => Nat.le_refl _
  | k + 1 => by
    have h1 := sumK_le l k
    have h2 := decS_pos (ckK l (k + 1)) (ckK_bd l (k + 1)).1
    rw [sumK, jrK_step]; omega
def hasB (c : UInt8) (s : ByteArray) : Bool := decide (c ∈ bl s)
theorem hasB_index (c : UInt8) (s : ByteArray) : decide (0 ≤ Lib.indexByte s.data.toList c) = hasB c s := by
  unfold hasB
  rw [decide_eq_decide]
  rcases Int.lt_or_le (Lib.indexByte s.data.toList c) 0 with h | h
  · have h1 := Lib.indexByte_ge s.data.toList c
    have h2 : Lib.indexByte s.data.toList c = -1 := by omega
    constructor
    · intro h3; omega
    · intro h3
      obtain ⟨k, hk, he⟩ := List.mem_iff_getElem.1 h3
      exact absurd (show (bl s)[k]? = some c from by rw [List.getElem?_eq_getElem hk, he]) (Lib.indexByte_none h2 k)
  · obtain ⟨o, ho⟩ := Int.eq_ofNat_of_zero_le h
    have h2 := (Lib.indexByte_some ho).1
    exact ⟨fun _ => List.mem_of_getElem? h2, fun _ => h⟩
def jrOk (l : List ByteArray) : Bool := (l.all fun s => !hasB 10 s) && decide ((jrK l l.length).size ≤ 4000)
def jrT (l : List ByteArray) : ByteArray := if jrOk l then jrK l l.length else .empty
theorem jrOk_long {l : List ByteArray} {k : Nat} (hk : k ≤ l.length) (h : 4000 < (jrK l k).size) : jrOk l = false := by
  have := jrK_mono l hk
  unfold jrOk
  rw [Bool.and_eq_false_iff]; right
  rw [decide_eq_false_iff_not]; omega
theorem jrOk_line {l : List ByteArray} {k : Nat} (hk : k < l.length) (h : 4000 < (gs l k).size) : jrOk l = false := by
  refine jrOk_long (k := k + 1) (by omega) ?_
  rw [jrK_step]; omega
theorem jrOk_nl {l : List ByteArray} {k : Nat} (hk : k < l.length) (h : hasB 10 (gs l k) = true) : jrOk l = false := by
  unfold jrOk
  rw [Bool.and_eq_false_iff]; left
  rw [List.all_eq_false]
  exact ⟨gs l k, gs_mem hk, by rw [h]; simp⟩
theorem jrOk_sum {l : List ByteArray} {k : Nat} (hk : k ≤ l.length) (h : 4000 < sumK l k) : jrOk l = false :=
  jrOk_long hk (by have := sumK_le l k; omega)
def noNl (l : List ByteArray) (k : Nat) : Prop := ∀ j, j < k → hasB 10 (gs l j) = false
theorem noNl_step {l : List ByteArray} {k : Nat} (h : noNl l k) (h2 : hasB 10 (gs l k) = false) : noNl l (k + 1) := fun j hj => by
  by_cases e : j < k
  · exact h j e
  · obtain rfl : j = k := by omega
    exact h2
theorem jrOk_yes {l : List ByteArray} (h : noNl l l.length) (h2 : (jrK l l.length).size ≤ 4000) : jrOk l = true := by
  unfold jrOk
  rw [Bool.and_eq_true, List.all_eq_true, decide_eq_true_eq]
  refine ⟨fun s hs => ?_, h2⟩
  obtain ⟨k, hk, rfl⟩ := List.mem_iff_getElem.1 hs
  have := h k hk
  rw [gs_get hk] at this
  rw [this]; rfl

/-! ### cut at a mark -/
def splitB (c : UInt8) : List UInt8 → List (List UInt8)
  | [] => [[]]
  | x :: t => if x = c then [] :: splitB c t else
    match splitB c t with
    | [] => [[x]]
    | p :: ps => (x :: p) :: ps
theorem splitB_ne (c : UInt8) : ∀ t, splitB c t ≠ []
  | [] => by simp [splitB]
  | x :: t => by
    unfold splitB
    split
    · simp
    · split <;> simp
/-- the parts ahead of the last one, and this -/
theorem splitB_snoc (c : UInt8) (x : UInt8) : ∀ (t : List UInt8) (ps : List (List UInt8)) (p : List UInt8), splitB c t = ps ++ [p] → splitB c (t ++ [x]) = if x = c then ps ++ [p] ++ [[]] else ps ++ [p ++ [x]]
  | [], ps, p, h => by
    have h1 : ps = [] ∧ p = [] := by
      have h2 := congrArg List.length h
      simp [splitB] at h2
      subst h2
      simpa [splitB] using h
    obtain ⟨rfl, rfl⟩ := h1
    by_cases e : x = c
    · simp [splitB, e]
    · simp [splitB, e]
  | y :: t, ps, p, h => by
    obtain ⟨qs, q, hq⟩ : ∃ qs q, splitB c t = qs ++ [q] := by
      rcases List.eq_nil_or_concat (splitB c t) with h1 | ⟨qs, q, h1⟩
      · exact absurd h1 (splitB_ne c t)
      · exact ⟨qs, q, by simpa using h1⟩
    have ih := splitB_snoc c x t qs q hq
    rw [List.cons_append]
    unfold splitB at h ⊢
    by_cases ey : y = c
    · rw [if_pos ey] at h ⊢
      rw [ih]
      rw [hq] at h
      have h3 : ps = [] :: qs ∧ p = q := by
        have := List.append_inj' (s₁ := [] :: qs) (t₁ := [q]) (s₂ := ps) (t₂ := [p]) (by simpa using h) rfl
        exact ⟨this.1.symm, by simpa using this.2.symm⟩
      obtain ⟨rfl, rfl⟩ := h3
      split <;> simp
    · rw [if_neg ey] at h ⊢
      rw [hq] at h
      rw [ih]
      cases qs with
      | nil =>
        simp only [List.nil_append] at h
        have h3 : ps = [] ∧ p = y :: q := by
          have := List.append_inj' (s₁ := []) (t₁ := [y :: q]) (s₂ := ps) (t₂ := [p]) (by simpa using h) rfl
          exact ⟨this.1.symm, by simpa using this.2.symm⟩
        obtain ⟨rfl, rfl⟩ := h3
        by_cases ex : x = c
        · simp [ex]
        · simp [ex]
      | cons q0 qs =>
        simp only [List.cons_append] at h
        have h3 : ps = (y :: q0) :: qs ∧ p = q := by
          have := List.append_inj' (s₁ := (y :: q0) :: qs) (t₁ := [q]) (s₂ := ps) (t₂ := [p]) (by simpa using h) rfl
          exact ⟨this.1.symm, by simpa using this.2.symm⟩
        obtain ⟨rfl, rfl⟩ := h3
        by_cases ex : x = c
        · simp [ex]
        · simp [ex]
theorem splitB_len (c : UInt8) : ∀ t : List UInt8, (splitB c t).length ≤ t.length + 1
  | [] => by simp [splitB]
  | x :: t => by
    have ih := splitB_len c t
    unfold splitB
    split
    · simp; omega
    · split
      · simp
      · rename_i h
        rw [h] at ih
        simp at ih ⊢; omega
def partsB (c : UInt8) (s : ByteArray) : List ByteArray := (splitB c (bl s)).map mkB
theorem partsB_len (c : UInt8) (s : ByteArray) : 1 ≤ (partsB c s).length ∧ (partsB c s).length ≤ s.size + 1 := by
  unfold partsB
  rw [List.length_map]
  have h1 := splitB_len c (bl s)
  rw [bl_len] at h1
  have h2 := List.length_pos_iff.2 (splitB_ne c (bl s))
  omega
/-- where part i begins -/
def offB (ps : List ByteArray) : Nat → Nat
  | 0 => 0
  | i + 1 => offB ps i + ((gs ps i).size + 1)
theorem offB_cons (p : ByteArray) (ps : List ByteArray) : ∀ i, offB (p :: ps) (i + 1) = (p.size + 1) + offB ps i
  | 0 => by simp [offB, gs]
  | i + 1 => by
    rw [offB, offB_cons p ps i, offB]
    have : gs (p :: ps) (i + 1) = gs ps i := by simp [gs]
    rw [this]; omega
theorem split_drop (c : UInt8) : ∀ (t : List UInt8) (i : Nat), i + 1 < (splitB c t).length →
    t.drop (offB ((splitB c t).map mkB) i) = (splitB c t).getD i [] ++ c :: t.drop (offB ((splitB c t).map mkB) (i + 1)) ∧ c ∉ (splitB c t).getD i []
  | [], i, h => by simp [splitB] at h
  | x :: t, i, h => by
    unfold splitB at h ⊢
    by_cases e : x = c
    · rw [if_pos e] at h ⊢
      rw [List.map_cons]
      cases i with
      | zero =>
        rw [offB_cons]
        have h0 : (mkB []).size = 0 := rfl
        rw [h0]
        simp [offB, e]
      | succ i =>
        rw [offB_cons, offB_cons]
        have h0 : (mkB []).size = 0 := rfl
        rw [h0]
        have ih := split_drop c t i (by simpa using h)
        rw [show 0 + 1 + offB ((splitB c t).map mkB) i = offB ((splitB c t).map mkB) i + 1 by omega, show 0 + 1 + offB ((splitB c t).map mkB) (i + 1) = offB ((splitB c t).map mkB) (i + 1) + 1 by omega]
        simpa using ih
    · rw [if_neg e] at h ⊢
      cases hs : splitB c t with
      | nil => exact absurd hs (splitB_ne c t)
      | cons p ps =>
        rw [hs] at h
        simp only at h ⊢
        have ih := fun i hi => split_drop c t i hi
        rw [hs] at ih
        rw [List.map_cons]
        cases i with
        | zero =>
          have h1 := ih 0 (by simpa using h)
          rw [List.map_cons, offB_cons] at h1
          rw [offB_cons]
          simp only [offB, List.drop_zero, Nat.add_zero] at h1 ⊢
          rw [mk_size] at h1 ⊢
          simp only [List.getD_cons_zero, List.length_cons] at h1 ⊢
          rw [List.drop_succ_cons]
          refine ⟨by rw [List.cons_append]; exact congrArg _ h1.1, fun hm => ?_⟩
          rcases List.mem_cons.1 hm with h2 | h2
          · exact e h2.symm
          · exact h1.2 h2
        | succ i =>
          have h1 := ih (i + 1) (by simpa using h)
          rw [List.map_cons, offB_cons, offB_cons] at h1
          rw [offB_cons, offB_cons]
          rw [mk_size] at h1 ⊢
          rw [List.length_cons, show p.length + 1 + 1 + offB (ps.map mkB) i = (p.length + 1 + offB (ps.map mkB) i) + 1 by omega, show p.length + 1 + 1 + offB (ps.map mkB) (i + 1) = (p.length + 1 + offB (ps.map mkB) (i + 1)) + 1 by omega, List.drop_succ_cons, List.drop_succ_cons]
          simpa using h1
theorem split_last (c : UInt8) : ∀ (t : List UInt8) (i : Nat), i + 1 = (splitB c t).length →
    t.drop (offB ((splitB c t).map mkB) i) = (splitB c t).getD i [] ∧ c ∉ (splitB c t).getD i []
  | [], i, h => by
    obtain rfl : i = 0 := by simpa [splitB] using h
    simp [splitB, offB]
  | x :: t, i, h => by
    unfold splitB at h ⊢
    by_cases e : x = c
    · rw [if_pos e] at h ⊢
      rw [List.map_cons]
      cases i with
      | zero => have := List.length_pos_iff.2 (splitB_ne c t); simp at h; exact absurd h (splitB_ne c t)
      | succ i =>
        rw [offB_cons]
        have h0 : (mkB []).size = 0 := rfl
        rw [h0, show 0 + 1 + offB ((splitB c t).map mkB) i = offB ((splitB c t).map mkB) i + 1 by omega]
        have ih := split_last c t i (by simpa using h)
        simpa using ih
    · rw [if_neg e] at h ⊢
      cases hs : splitB c t with
      | nil => exact absurd hs (splitB_ne c t)
      | cons p ps =>
        rw [hs] at h
        simp only at h ⊢
        have ih := fun i hi => split_last c t i hi
        rw [hs] at ih
        rw [List.map_cons]
        cases i with
        | zero =>
          have h1 := ih 0 (by simpa using h)
          simp only [offB, List.drop_zero, List.getD_cons_zero] at h1 ⊢
          refine ⟨congrArg _ h1.1, fun hm => ?_⟩
          rcases List.mem_cons.1 hm with h2 | h2
          · exact e h2.symm
          · exact h1.2 h2
        | succ i =>
          have h1 := ih (i + 1) (by simpa using h)
          rw [List.map_cons, offB_cons] at h1
          rw [offB_cons]
          rw [mk_size] at h1 ⊢
          rw [List.length_cons, show p.length + 1 + 1 + offB (ps.map mkB) i = (p.length + 1 + offB (ps.map mkB) i) + 1 by omega, List.drop_succ_cons]
          simpa using h1
theorem index_at {l r : List UInt8} {c : UInt8} (h : c ∉ l) : Lib.indexByte (l ++ c :: r) c = (l.length : Int) := by
  rcases Int.lt_or_le (Lib.indexByte (l ++ c :: r) c) 0 with h1 | h1
  · have h2 := Lib.indexByte_ge (l ++ c :: r) c
    exact absurd (by simp) (Lib.indexByte_none (l := l ++ c :: r) (c := c) (by omega) l.length)
  · obtain ⟨o, ho⟩ := Int.eq_ofNat_of_zero_le h1
    obtain ⟨h2, h3⟩ := Lib.indexByte_some ho
    rw [ho]
    rcases Nat.lt_trichotomy o l.length with h4 | h4 | h4
    · rw [List.getElem?_append_left h4] at h2
      exact absurd (List.mem_of_getElem? h2) h
    · rw [h4]
    · exact absurd (by simp) (h3 l.length h4)
theorem index_no {l : List UInt8} {c : UInt8} (h : c ∉ l) : Lib.indexByte l c = -1 := by
  rcases Int.lt_or_le (Lib.indexByte l c) 0 with h1 | h1
  · have h2 := Lib.indexByte_ge l c; omega
  · obtain ⟨o, ho⟩ := Int.eq_ofNat_of_zero_le h1
    exact absurd (List.mem_of_getElem? (Lib.indexByte_some ho).1) h

/-! ### what is recovered -/
def spI (p : ByteArray) : Int := Lib.indexByte (bl p) 32
def lineOf (p : ByteArray) : ByteArray := if 0 ≤ spI p then p.extract ((spI p).toNat + 1) p.size else .empty
def preOf (p : ByteArray) : ByteArray := p.extract 0 (spI p).toNat
theorem sp_bd (p : ByteArray) (h : 0 ≤ spI p) : (spI p).toNat < p.size := by
  obtain ⟨o, ho⟩ := Int.eq_ofNat_of_zero_le h
  have h1 := (Lib.indexByte_some ho).1
  rw [List.getElem?_eq_some_iff] at h1
  obtain ⟨h2, _⟩ := h1
  rw [bl_len] at h2
  rw [ho]; simpa using h2
theorem sp_parts (p : ByteArray) (h : 0 ≤ spI p) : preOf p ++ ⟨#[32]⟩ ++ lineOf p = p := by
  apply bl_ext
  have hb := sp_bd p h
  obtain ⟨o, ho⟩ := Int.eq_ofNat_of_zero_le h
  have h1 := (Lib.indexByte_some ho).1
  rw [bl_app, bl_app, preOf, bl_extract, lineOf, if_pos h, bl_full]
  have e1 : (spI p).toNat = o := by rw [ho]; simp
  rw [e1] at hb ⊢
  have h2 : bl (⟨#[32]⟩ : ByteArray) = [32] := rfl
  rw [h2, List.drop_zero]
  rw [List.getElem?_eq_some_iff] at h1
  obtain ⟨h3, h4⟩ := h1
  rw [List.append_assoc, List.singleton_append, ← h4, List.getElem_cons_drop, List.take_append_drop]
theorem sp_eq (p d : ByteArray) (h : 0 ≤ spI p) : d ++ ⟨#[32]⟩ ++ lineOf p = p ↔ preOf p = d := by
  constructor
  · intro h1
    have h2 := sp_parts p h
    have h3 := congrArg bl (h1.trans h2.symm)
    rw [bl_app, bl_app, bl_app, bl_app, List.append_assoc, List.append_assoc] at h3
    exact (bl_ext (List.append_cancel_right h3)).symm
  · rintro rfl
    exact sp_parts p h
def ckJ (ps : List ByteArray) : Nat → Int
  | 0 => 0
  | j + 1 => ckS (ckJ ps j) (lineOf (gs ps j))
theorem ckJ_bd (ps : List ByteArray) : ∀ j, 0 ≤ ckJ ps j ∧ ckJ ps j ≤ 32748
  | 0 => by simp [ckJ]
  | j + 1 => ckL_bd _ _ (ckJ_bd ps j).1 (ckJ_bd ps j).2
def recOk (ps : List ByteArray) (j : Nat) : Bool := decide (0 ≤ spI (gs ps j)) && decide (preOf (gs ps j) = decS (ckJ ps (j + 1)))
/-- how many of the first m parts are recovered -/
def recN (ps : List ByteArray) (m : Nat) : Nat := ((List.range m).takeWhile (recOk ps)).length
theorem takeWhile_len {α : Type} (p : α → Bool) : ∀ (l : List α) (i : Nat), i ≤ l.length → (∀ j (h : j < l.length), j < i → p l[j] = true) → (∀ h : i < l.length, p l[i] = false) → (l.takeWhile p).length = i
  | [], i, h, _, _ => by simp at h; simp [h]
  | x :: l, 0, _, _, h => by
    have := h (by simp)
    simp at this
    simp [this]
  | x :: l, i + 1, h, h1, h2 => by
    have h3 := h1 0 (by simp) (by omega)
    simp at h3
    rw [List.takeWhile_cons, h3]
    simp only [if_true, List.length_cons]
    rw [takeWhile_len p l i (by simpa using h) (fun j hj hji => by have := h1 (j + 1) (by simpa using hj) (by omega); simpa using this) (fun hi => by have := h2 (by simpa using hi); simpa using this)]
theorem recN_at {ps : List ByteArray} {m i : Nat} (hi : i ≤ m) (h1 : ∀ j, j < i → recOk ps j = true) (h2 : i = m ∨ recOk ps i = false) : recN ps m = i := by
  unfold recN
  refine takeWhile_len _ _ _ (by simpa using hi) (fun j hj hji => by simpa using h1 j hji) (fun h => ?_)
  rcases h2 with h2 | h2
  · simp at h; omega
  · simpa using h2
def recLines (ps : List ByteArray) (k : Nat) : List ByteArray := (List.range k).map fun j => lineOf (gs ps j)
theorem recLines_step (ps : List ByteArray) (k : Nat) : recLines ps (k + 1) = recLines ps k ++ [lineOf (gs ps k)] := by simp [recLines, List.range_succ]
theorem recLines_len (ps : List ByteArray) (k : Nat) : (recLines ps k).length = k := by simp [recLines]
/-- the answers -/
def linesB (s : ByteArray) : List ByteArray := (partsB 10 s).take ((partsB 10 s).length - 1)
def rcK (s : ByteArray) : Nat := recN (partsB 10 s) ((partsB 10 s).length - 1)
def rcOk (s : ByteArray) : Bool := decide (s.size ≤ 4000)
def rcL (s : ByteArray) : List ByteArray := if rcOk s then recLines (partsB 10 s) (rcK s) else []
def rcN (s : ByteArray) : Int := if rcOk s then (offB (partsB 10 s) (rcK s) : Nat) else 0
theorem gs_parts (c : UInt8) (s : ByteArray) (i : Nat) (h : i < (partsB c s).length) : bl (gs (partsB c s) i) = (splitB c (bl s)).getD i [] := by
  have h2 : i < (splitB c (bl s)).length := by simpa [partsB] using h
  rw [gs_get h]
  simp only [partsB, List.getElem_map]
  rw [bl_mk, List.getD_eq_getElem?_getD, List.getElem?_eq_getElem h2]
  rfl
/-- part i, by its place in the text -/
theorem part_drop (c : UInt8) (s : ByteArray) (i : Nat) (h : i + 1 < (partsB c s).length) :
    (bl s).drop (offB (partsB c s) i) = bl (gs (partsB c s) i) ++ c :: (bl s).drop (offB (partsB c s) (i + 1)) ∧ c ∉ bl (gs (partsB c s) i) := by
  rw [gs_parts c s i (by omega)]
  exact split_drop c (bl s) i (by simpa [partsB] using h)
theorem part_last (c : UInt8) (s : ByteArray) (i : Nat) (h : i + 1 = (partsB c s).length) : c ∉ (bl s).drop (offB (partsB c s) i) := by
  have := split_last c (bl s) i (by simpa [partsB] using h)
  unfold partsB
  rw [this.1]
  exact this.2
theorem jpart_bd (c : UInt8) (s : ByteArray) (i : Nat) (h : i + 1 < (partsB c s).length) : offB (partsB c s) i + (gs (partsB c s) i).size + 1 ≤ s.size := by
  have h1 := congrArg List.length (part_drop c s i h).1
  rw [List.length_drop, List.length_append, List.length_cons, List.length_drop, bl_len, bl_len] at h1
  omega
theorem off_bd (c : UInt8) (s : ByteArray) : ∀ i, i < (partsB c s).length → offB (partsB c s) i ≤ s.size
  | 0, _ => Nat.zero_le _
  | i + 1, h => by have := jpart_bd c s i h; rw [offB]; omega
theorem part_index (c : UInt8) (s : ByteArray) (i : Nat) (h : i + 1 < (partsB c s).length) : Lib.indexByte (bl (s.extract (offB (partsB c s) i) s.size)) c = ((gs (partsB c s) i).size : Int) := by
  obtain ⟨h1, h2⟩ := part_drop c s i h
  rw [bl_full, h1, index_at h2, bl_len]
theorem part_none (c : UInt8) (s : ByteArray) (i : Nat) (h : i + 1 = (partsB c s).length) : Lib.indexByte (bl (s.extract (offB (partsB c s) i) s.size)) c = -1 := by
  rw [bl_full]; exact index_no (part_last c s i h)
theorem part_is (c : UInt8) (s : ByteArray) (i : Nat) (h : i + 1 < (partsB c s).length) : s.extract (offB (partsB c s) i) (offB (partsB c s) i + (gs (partsB c s) i).size) = gs (partsB c s) i := by
  apply bl_ext
  rw [bl_extract, List.drop_take, (part_drop c s i h).1, Nat.add_sub_cancel_left, ← bl_len, List.take_left]
end Go.Proofs.YtefkefmhfoedcaaDoor

/- Walks: check numbers, decimals, texts cut at a mark, in the program and in the reference. -/
namespace Go.Proofs.YtefkefmhfoedcaaDoor
set_option maxRecDepth 100000
open Go.RowKit Go.Sort

/-- the library's table of powers of ten -/
def TabW (w : World) : Prop := Lib.TabIs Tryd.prog w "internal/strconv.uint64pow10" .u64 Lib.pow10Tab
theorem TabW.ext {w w' : World} (h : TabW w) (hx : Ext w w') : TabW w' := by
  unfold TabW Lib.TabIs World.var? at *
  rw [Option.bind_eq_some_iff] at *
  obtain ⟨g, h1, h2⟩ := h
  refine ⟨g, h1, ?_⟩
  cases ho : w.heap[g]? with
  | none => rw [ho] at h2; cases h2
  | some o => rw [hx.heap ho]; rw [ho] at h2; exact h2
theorem bld_ext {T e : TypeId} {B b : Nat} {bs : List Value} {w w' : World} (h : Lib.IsBuilderF T e B b bs w) (hx : Ext w w') : Lib.IsBuilderF T e B b bs w' := by
  have key : ∀ p, Lib.BuilderAtF T e B b p bs w → Lib.BuilderAtF T e B b p bs w' := fun p h => by
    obtain ⟨h1, v, h2, h3, h4⟩ := h
    refine ⟨h1, v, hx.heap h2, ⟨h3.1, ?_⟩, h4⟩
    rcases h3.2 with h5 | ⟨g, cap, cur, fz, hv, hb, hg, r⟩
    · exact .inl h5
    · exact .inr ⟨g, cap, cur, fz, hv, hb, hx.heap hg, r⟩
  rcases h with h | h
  · exact .inl (key _ h)
  · exact .inr (key _ h)
set_option maxHeartbeats 400000 in
theorem impl_Decimal (n : Int) (w : World) (h0 : -9223372036854775808 ≤ n) (h1 : n ≤ 9223372036854775807) (ht : TabW w) : Calls Tryd.prog 18 #[.int .i64 n] w (Ret (.string (decS n)) w) := by
  have HF := Lib.hid (Tryd.strconv_FormatInt_10 n h0 h1 w ht)
  clear ht
  go_enter Tryd.func18, Tryd.ntmps18
  go_wp2_with (refine HF.out.mono ?_; rintro e w1 ⟨rfl, k, os, rfl⟩)
  go_ret
  exact ⟨rfl, Lib.below_grow w.heap.size w (Nat.le_refl _) k os⟩
set_option maxHeartbeats 1000000 in
theorem impl_CheckOf (n : Int) (s : ByteArray) (w : World) (h0 : 0 ≤ n) (h1 : n ≤ 32748) (hs : s.size ≤ 4611686018427387904) : Calls Tryd.prog 16 #[.int .i64 n, .string s] w (Same (.tuple #[.int .i64 (ckS n s), .bool true]) w) := by
  have HI := Lib.hid (impl_in n 0 32748 w)
  rw [show inB n 0 32748 = true from inB_t.2 ⟨h0, h1⟩] at HI
  go_enter Tryd.func16, Tryd.ntmps16
  go_wp2_with (refine HI.out.mono ?_; rintro e w1 ⟨rfl, rfl⟩)
  go_loop [0, 6, 12] (fun v _ i => ∃ (k : Nat) (m : Int), k ≤ s.size ∧ i = .int .i64 k ∧ v = .int .i64 m ∧ Hid (m = ckL n ((bl s).take k)) ∧ 0 ≤ m ∧ m ≤ 32748) (fun _ _ i => s.size - (intOf i).toNat)
  case atStart => exact ⟨0, n, Nat.zero_le _, rfl, rfl, rfl, h0, h1⟩
  case round =>
    obtain ⟨k, m, hk, rfl, rfl, HM, hm0, hm1⟩ := hrel
    by_cases hlt : k < s.size
    · have HS := Lib.hid (ckL_step n s k hlt)
      have hb : (s[k].toNat : Int) ≤ 255 := by have := s[k].toNat_lt; omega
      have hb0 : (0 : Int) ≤ (s[k].toNat : Int) := by omega
      go_wp2
      exact ⟨⟨k + 1, ckB m s[k], by omega, by go_num, by unfold ckB; first | rfl | (congr 1; omega), by rw [Hid, HS.out, ← HM.out], (ckB_bd hm0).1, (ckB_bd hm0).2⟩, by simp [intOf]; omega⟩
    · go_wp2
      go_ret2
      obtain rfl : k = s.size := by omega
      rw [← ckL_full n s s.size (Nat.le_refl _), ← HM.out]
      exact ⟨rfl, rfl⟩
/-! ### decimals of the reference -/
def dgs (l : List UInt8) : List Int := l.map fun b => (b.toNat : Int)
theorem str_dgs (l : List UInt8) : strOfNums (dgs l) = ⟨l.toArray⟩ := by
  have h : ((fun n : Int => UInt8.ofNat n.toNat) ∘ fun b : UInt8 => (b.toNat : Int)) = id := by funext b; simp
  unfold strOfNums dgs
  rw [List.map_map]
  first | rw [h, List.map_id] | (congr 1; simp [h])
theorem dec_step (m : Nat) : Lib.decDigits m = (if m / 10 = 0 then [] else Lib.decDigits (m / 10)) ++ [UInt8.ofNat (48 + m % 10)] := by
  by_cases h : m < 10
  · rw [Lib.decDigits_one h, if_pos (by omega), List.nil_append, Nat.mod_eq_of_lt h]
  · rw [if_neg (by omega)]
    conv => lhs; rw [Lib.decDigits, dif_neg h]
def DecI (n : Nat) (L : List UInt8) (m : Nat) : Prop := (L = [] ∧ m = n) ∨ (L ≠ [] ∧ Lib.decDigits n = (if m = 0 then [] else Lib.decDigits m) ++ L)
theorem DecI.step {n m : Nat} {L : List UInt8} (h : DecI n L m) (hg : m ≠ 0 ∨ L = []) : DecI n (UInt8.ofNat (48 + m % 10) :: L) (m / 10) := by
  refine .inr ⟨by simp, ?_⟩
  rcases h with ⟨rfl, rfl⟩ | ⟨h1, h2⟩
  · exact dec_step m
  · rcases hg with hg | hg
    · rw [h2, if_neg hg, dec_step m, List.append_assoc]; rfl
    · exact absurd hg h1
theorem DecI.fin {n m : Nat} {L : List UInt8} (h : DecI n L m) (hm : m = 0) (hL : L ≠ []) : L = Lib.decDigits n := by
  rcases h with ⟨rfl, _⟩ | ⟨_, h2⟩
  · exact absurd rfl hL
  · rw [h2, if_pos hm, List.nil_append]
theorem dgs_cons (b : UInt8) (l : List UInt8) : dgs (b :: l) = (b.toNat : Int) :: dgs l := rfl
theorem dig_nat (m : Nat) : ((UInt8.ofNat (48 + m % 10)).toNat : Int) = 48 + (m : Int) % 10 := by
  rw [UInt8.toNat_ofNat']; omega
theorem DecI.len {n m : Nat} {L : List UInt8} (h : DecI n L m) (hn : n ≤ 9223372036854775807) : L.length ≤ 20 := by
  rcases h with ⟨rfl, _⟩ | ⟨_, h2⟩
  · simp
  · have h3 := congrArg List.length h2
    rw [Lib.decDigits_length, List.length_append] at h3
    have := Lib.nDigits_le20 n (by omega)
    omega
def lenOf : Value → Nat | .slice _ n _ => n | _ => 0
theorem Own.lit1 (w : World) (E : TypeId) (u : Value) : Own (w.alloc (.cells #[u] E)) w.heap.size E (Option.some ⟨w.heap.size, 0, Option.none⟩) 1 1 [u] :=
  World.ownsRow_lit (e := E) (size := 1) w #[u] 1 (Nat.le_refl _) (by unfold maxLen; omega) rfl
theorem oneU (l : List Int) : ∀ u ∈ U l, u.oneCell' = true := fun u hu => by
  obtain ⟨x, _, rfl⟩ := List.mem_map.1 hu; rfl
theorem U_len (l : List Int) : (U l).length = l.length := by simp [U]
theorem dgs_len (l : List UInt8) : (dgs l).length = l.length := by simp [dgs]
set_option maxHeartbeats 2000000 in
theorem spec_dec (n : Nat) (w : World) (h1 : n ≤ 9223372036854775807) : Calls Tryd.prog 30 #[.int .i64 (n : Int)] w (Ret (.string (decS n)) w) := by
  have HD := Lib.hid (show ∀ L, L = Lib.decDigits n → decS n = strOfNums (dgs L) from fun L hL => by rw [str_dgs, hL]; unfold decS Lib.itoa; rw [if_neg (by omega)]; simp)
  go_enter Tryd.func30, Tryd.ntmps30
  go_wp2_with fail
  go_loopw [3, 4, 5] (fun v r _ wr => ∃ (L : List UInt8) (m : Nat) (ad : Option Addr) (c : Nat), r = .int .i64 (m : Int) ∧ v = .slice ad L.length c ∧ Hid (DecI n L m) ∧ m ≤ n ∧ Hid (Own wr w.heap.size 5 ad L.length c (U (dgs L))) ∧ Ext w wr) (fun v r _ _ => (intOf r).toNat + (1 - lenOf v))
  case atStart => exact ⟨[], n, _, _, rfl, rfl, .inl ⟨rfl, rfl⟩, Nat.le_refl _, Own.lit0 w _, (by repeat (first | (with_reducible exact Ext.refl _) | (with_reducible refine Ext.drewN ?_ _) | (with_reducible refine Ext.drew ?_) | (with_reducible refine Ext.alloc ?_ _) | ((with_reducible refine Ext.setCell ?_ ?_ _); rotate_left; focus (first | (simp; done) | (simp; omega) | omega)) | assumption | (with_reducible refine Ext.trans ?_ (by assumption))))⟩
  case round =>
    obtain ⟨L, m, ad, c, rfl, rfl, HI, hm, HO, hx⟩ := hrel
    have hL := HI.out.len h1
    have hrr : Ext wr wr := Ext.refl _
    by_cases hg : m ≠ 0 ∨ L = []
    · have HN := Lib.hid (HI.out.step hg)
      have hd := dig_nat m
      obtain ⟨u, hu⟩ : ∃ u, u = UInt8.ofNat (48 + m % 10) := ⟨_, rfl⟩
      rw [← hu] at HN hd
      clear hu
      have hms : m / 10 + (1 - (L.length + 1)) < m + (1 - L.length) := by
        rcases hg with hg | hg
        · omega
        · subst hg; simp; omega
      obtain ⟨p, hp⟩ : ∃ p, p = L.length := ⟨_, rfl⟩
      have hgp : m ≠ 0 ∨ p = 0 := by
        rcases hg with hg | hg
        · exact .inl hg
        · right; rw [hp, hg]; rfl
      have HP := Lib.hid hp
      rw [← hp] at hms hL ⊢
      have HO2 := Lib.hid (show Own wr w.heap.size 5 ad p c (U (dgs L)) from by rw [hp]; exact HO.out)
      clear hp hg HO
      by_cases hm0 : m = 0
      · have hp0 : p = 0 := by omega
        subst hm0
        clear hgp
        go_wp2_with (at_builtin; refine law_appendsO _ rfl _ _ 22 rfl 5 (.int .u8 0) 1 und_u8s info_u8 rfl wr.heap.size _ 1 1 [_] ad p c (U (dgs L)) (oneU _) rfl rfl (Own.lit1 wr _ _) (Sl.ext HO2.out.sl (by repeat (first | (with_reducible exact Ext.refl _) | (with_reducible assumption) | (with_reducible refine Ext.drewN ?_ _) | (with_reducible refine Ext.drew ?_) | (with_reducible refine Ext.alloc ?_ _) | ((with_reducible refine Ext.setCell ?_ ?_ _); rotate_left; focus (first | (simp; done) | (simp; omega) | omega)) | (with_reducible refine Ext.trans ?_ (by with_reducible assumption))))) (by simp) (by omega) (by omega) ?_; intro ad1 cc1 w1 ho1 hb1 hg1; have hx1 : Ext wr w1 := Ext.below (by repeat (first | (with_reducible exact Ext.refl _) | (with_reducible assumption) | (with_reducible refine Ext.drewN ?_ _) | (with_reducible refine Ext.drew ?_) | (with_reducible refine Ext.alloc ?_ _) | ((with_reducible refine Ext.setCell ?_ ?_ _); rotate_left; focus (first | (simp; done) | (simp; omega) | omega)) | (with_reducible refine Ext.trans ?_ (by with_reducible assumption)))) hb1; clear hg1)
        exact ⟨⟨u :: L, 0, ad1, cc1, by go_num, by rw [List.length_cons, ← HP.out, hp0], HN.out, by omega, by
          rw [Hid, List.length_cons, ← HP.out, Nat.add_comm p 1, dgs_cons, hd]
          exact Own.mono ho1 hx.le, hx.trans hx1⟩, by simp [intOf, lenOf]; omega⟩
      · have hq0 : ((m : Int) != 0) = true := by simp; omega
        clear hgp
        go_wp2_with (at_builtin; refine law_appendsO _ rfl _ _ 22 rfl 5 (.int .u8 0) 1 und_u8s info_u8 rfl wr.heap.size _ 1 1 [_] ad p c (U (dgs L)) (oneU _) rfl rfl (Own.lit1 wr _ _) (Sl.ext HO2.out.sl (by repeat (first | (with_reducible exact Ext.refl _) | (with_reducible assumption) | (with_reducible refine Ext.drewN ?_ _) | (with_reducible refine Ext.drew ?_) | (with_reducible refine Ext.alloc ?_ _) | ((with_reducible refine Ext.setCell ?_ ?_ _); rotate_left; focus (first | (simp; done) | (simp; omega) | omega)) | (with_reducible refine Ext.trans ?_ (by with_reducible assumption))))) (by simp) (by omega) (by omega) ?_; intro ad1 cc1 w1 ho1 hb1 hg1; have hx1 : Ext wr w1 := Ext.below (by repeat (first | (with_reducible exact Ext.refl _) | (with_reducible assumption) | (with_reducible refine Ext.drewN ?_ _) | (with_reducible refine Ext.drew ?_) | (with_reducible refine Ext.alloc ?_ _) | ((with_reducible refine Ext.setCell ?_ ?_ _); rotate_left; focus (first | (simp; done) | (simp; omega) | omega)) | (with_reducible refine Ext.trans ?_ (by with_reducible assumption)))) hb1; clear hg1)
        exact ⟨⟨u :: L, m / 10, ad1, cc1, by go_num, by rw [List.length_cons, ← HP.out, Nat.add_comm], HN.out, by omega, by
          rw [Hid, List.length_cons, ← HP.out, Nat.add_comm p 1, dgs_cons, hd]
          exact Own.mono ho1 hx.le, hx.trans hx1⟩, by simp [intOf, lenOf]; omega⟩
    · have hm0 : m = 0 := by omega
      have hL0 : L ≠ [] := fun h => hg (.inr h)
      have HE := Lib.hid (HD.out L (HI.out.fin hm0 hL0))
      have hpos : L.length ≠ 0 := fun h => hL0 (List.eq_nil_of_length_eq_zero h)
      have hr := run_bytes_text wr _ ad L.length c _ HO.out
      obtain ⟨p, hp⟩ : ∃ p, p = L.length := ⟨_, rfl⟩
      rw [← hp] at hpos hL hr ⊢
      subst hm0
      clear hp hg hL0 HO HI
      go_wp2
      go_ret
      rw [HE.out]
      exact ⟨rfl, hx⟩
end Go.Proofs.YtefkefmhfoedcaaDoor
