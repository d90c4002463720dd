/- Plain: lists of texts in ascending order, each once. -/
import Derived.Test.YtcdoanookiimaaaStrs
import Derived.Shelf.Sort.Plain
namespace Go.Proofs.Ytcdoanookiimaaa
set_option maxRecDepth 100000
open Go.RowKit

/-- the order of texts -/
def lessS (a b : ByteArray) : Bool := Op.bytesLess a.toList b.toList
theorem lessS_lt {a b : ByteArray} : lessS a b = true ↔ a.data.toList < b.data.toList := by
  unfold lessS
  rw [bytesLess_eq, decide_eq_true_eq, ByteArray.toList_eq, ByteArray.toList_eq]
theorem ba_ext {a b : ByteArray} (h : a.data.toList = b.data.toList) : a = b := ByteArray.ext (Array.toList_inj.1 h)
theorem less_irrefl (a : ByteArray) : lessS a a = false := by
  rw [Bool.eq_false_iff]; intro h
  exact List.lt_irrefl _ (lessS_lt.1 h)
theorem less_trans {a b c : ByteArray} (h : lessS a b = true) (k : lessS b c = true) : lessS a c = true := lessS_lt.2 (List.lt_trans (lessS_lt.1 h) (lessS_lt.1 k))
theorem less_asymm {a b : ByteArray} (h : lessS a b = true) : lessS b a = false := by
  rw [Bool.eq_false_iff]; intro k
  have := less_trans h k
  rw [less_irrefl] at this; cases this
theorem less_tri {a b : ByteArray} (h : lessS a b = false) (hne : a ≠ b) : lessS b a = true := by
  have h1 : ¬ a.data.toList < b.data.toList := fun k => by rw [lessS_lt.2 k] at h; cases h
  rw [List.not_lt] at h1
  rw [lessS_lt]
  rw [← List.not_le]
  intro h2
  exact hne (ba_ext (List.le_antisymm h2 h1))
/-- each is less than all behind it -/
def ascS (l : List ByteArray) : Prop := l.Pairwise fun a b => lessS a b = true
/-- a text put into its place; one that is there is not put in again -/
def putS : List ByteArray → ByteArray → List ByteArray
  | [], t => [t]
  | x :: l, t => if lessS x t = true then x :: putS l t else if x = t then x :: l else t :: x :: l
theorem mem_putS {t x : ByteArray} : ∀ {l : List ByteArray}, x ∈ putS l t ↔ x = t ∨ x ∈ l
  | [] => by simp [putS]
  | y :: l => by
    unfold putS
    split
    · rw [List.mem_cons, List.mem_cons, mem_putS (l := l)]
      constructor
      · rintro (h | h | h)
        · exact .inr (.inl h)
        · exact .inl h
        · exact .inr (.inr h)
      · rintro (h | h | h)
        · exact .inr (.inl h)
        · exact .inl h
        · exact .inr (.inr h)
    · split
      · rename_i h
        subst h
        simp only [List.mem_cons]
        constructor
        · exact .inr
        · rintro (h | h)
          · exact .inl h
          · exact h
      · simp only [List.mem_cons]
theorem putS_asc {t : ByteArray} : ∀ {l : List ByteArray}, ascS l → ascS (putS l t)
  | [], _ => List.pairwise_singleton _ _
  | y :: l, h => by
    obtain ⟨h1, h2⟩ := List.pairwise_cons.1 h
    unfold putS
    split
    · rename_i hl
      refine List.pairwise_cons.2 ⟨fun z hz => ?_, putS_asc h2⟩
      rcases mem_putS.1 hz with rfl | hz
      · exact hl
      · exact h1 z hz
    · rename_i hl
      split
      · exact h
      · rename_i hne
        have hty := less_tri (by simpa using hl) hne
        refine List.pairwise_cons.2 ⟨fun z hz => ?_, h⟩
        rcases List.mem_cons.1 hz with rfl | hz
        · exact hty
        · exact less_trans hty (h1 z hz)
theorem asc_eq : ∀ {l m : List ByteArray}, ascS l → ascS m → (∀ x, x ∈ l ↔ x ∈ m) → l = m
  | [], [], _, _, _ => rfl
  | [], y :: m, _, _, h => by have := (h y).2 (List.mem_cons_self ..); cases this
  | x :: l, [], _, _, h => by have := (h x).1 (List.mem_cons_self ..); cases this
  | x :: l, y :: m, hl, hm, h => by
    obtain ⟨hl1, hl2⟩ := List.pairwise_cons.1 hl
    obtain ⟨hm1, hm2⟩ := List.pairwise_cons.1 hm
    have e : x = y := by
      rcases List.mem_cons.1 ((h x).1 (List.mem_cons_self ..)) with e | hx
      · exact e
      · rcases List.mem_cons.1 ((h y).2 (List.mem_cons_self ..)) with e | hy
        · exact e.symm
        · have a1 := hm1 x hx
          have a2 := hl1 y hy
          rw [less_asymm a1] at a2; cases a2
    subst e
    rw [asc_eq hl2 hm2 fun z => ?_]
    constructor
    · intro hz
      rcases List.mem_cons.1 ((h z).1 (List.mem_cons_of_mem _ hz)) with e | hz'
      · subst e
        have := hl1 z hz; rw [less_irrefl] at this; cases this
      · exact hz'
    · intro hz
      rcases List.mem_cons.1 ((h z).2 (List.mem_cons_of_mem _ hz)) with e | hz'
      · subst e
        have := hm1 z hz; rw [less_irrefl] at this; cases this
      · exact hz'
/-- the place is found by looking from the front -/
theorem putS_at : ∀ {l : List ByteArray} {t : ByteArray} {k : Nat}, k ≤ l.length → (∀ j, j < k → lessS (gs l j) t = true) → (k < l.length → lessS (gs l k) t = false) →
    putS l t = if k < l.length ∧ gs l k = t then l else l.take k ++ t :: l.drop k
  | [], t, k, hk, _, _ => by
    obtain rfl : k = 0 := by simpa using hk
    simp [putS]
  | x :: l, t, 0, _, _, hs => by
    have h0 : lessS x t = false := by have := hs (by simp); simpa [gs] using this
    unfold putS
    rw [if_neg (by rw [h0]; simp)]
    by_cases e : x = t
    · rw [if_pos e, if_pos ⟨by simp, by simpa [gs] using e⟩]
    · rw [if_neg e, if_neg (fun h => e (by simpa [gs] using h.2))]
      rfl
  | x :: l, t, k + 1, hk, hp, hs => by
    have h0 : lessS x t = true := by have := hp 0 (by omega); simpa [gs] using this
    have ih := putS_at (l := l) (t := t) (k := k) (by simpa using hk) (fun j hj => by have := hp (j + 1) (by omega); simpa [gs] using this) (fun h => by have := hs (by simpa using h); simpa [gs] using this)
    unfold putS
    rw [if_pos h0, ih]
    have e1 : gs (x :: l) (k + 1) = gs l k := by simp [gs]
    rw [e1]
    by_cases e : k < l.length ∧ gs l k = t
    · rw [if_pos e, if_pos ⟨by simpa using e.1, e.2⟩]
    · rw [if_neg e, if_neg (fun h => e ⟨by simpa using h.1, h.2⟩)]
      rfl
/-- all put in, one after another -/
def putAll (l : List ByteArray) : List ByteArray := l.foldl putS []
theorem putAll_snoc (l : List ByteArray) (t : ByteArray) : putAll (l ++ [t]) = putS (putAll l) t := by simp [putAll]
theorem foldl_asc : ∀ (l m : List ByteArray), ascS m → ascS (l.foldl putS m)
  | [], _, h => h
  | x :: l, m, h => foldl_asc l (putS m x) (putS_asc h)
theorem foldl_mem {x : ByteArray} : ∀ (l m : List ByteArray), x ∈ l.foldl putS m ↔ x ∈ m ∨ x ∈ l
  | [], m => by simp
  | y :: l, m => by
    rw [List.foldl_cons, foldl_mem l (putS m y), mem_putS, List.mem_cons]
    constructor
    · rintro ((h | h) | h)
      · exact .inr (.inl h)
      · exact .inl h
      · exact .inr (.inr h)
    · rintro (h | h | h)
      · exact .inl (.inr h)
      · exact .inl (.inl h)
      · exact .inr h
theorem putAll_asc (l : List ByteArray) : ascS (putAll l) := foldl_asc l [] List.Pairwise.nil
theorem mem_putAll {x : ByteArray} (l : List ByteArray) : x ∈ putAll l ↔ x ∈ l := by unfold putAll; rw [foldl_mem]; simp
theorem putS_len (t : ByteArray) : ∀ l : List ByteArray, (putS l t).length ≤ l.length + 1
  | [] => by simp [putS]
  | x :: l => by
    unfold putS
    split
    · have := putS_len t l
      simp only [List.length_cons]; omega
    · split <;> simp
theorem foldl_len : ∀ (l m : List ByteArray), (l.foldl putS m).length ≤ l.length + m.length
  | [], m => by simp
  | x :: l, m => by
    have h1 := foldl_len l (putS m x)
    have h2 := putS_len x m
    rw [List.foldl_cons, List.length_cons]; omega
theorem putAll_len (l : List ByteArray) : (putAll l).length ≤ l.length := by
  have := foldl_len l []
  simpa [putAll] using this
/-- sorted by the library -/
def keyS (l : List ByteArray) : List (List UInt8) := l.map (·.data.toList)
def sortK (l : List ByteArray) : List (List UInt8) := (keyS l).mergeSort fun x y => decide (x ≤ y)
def sortS (l : List ByteArray) : List ByteArray := (sortK l).map fun b => ⟨b.toArray⟩
theorem keyS_enc (l : List ByteArray) : (keyS l).map encStr = St l := by
  unfold keyS St
  rw [List.map_map]
  apply List.map_congr_left
  intro x _
  simp [encStr]
theorem sortK_enc (l : List ByteArray) : (sortK l).map encStr = St (sortS l) := by
  unfold sortS St
  rw [List.map_map]
  rfl
theorem sortS_len (l : List ByteArray) : (sortS l).length = l.length := by simp [sortS, sortK, keyS]
theorem sortK_len (l : List ByteArray) : (sortK l).length = l.length := by simp [sortK, keyS]
theorem key_back (l : List ByteArray) : (keyS l).map (fun b => (⟨b.toArray⟩ : ByteArray)) = l := by
  unfold keyS
  rw [List.map_map]
  have : (((fun b => (⟨b.toArray⟩ : ByteArray)) ∘ fun x : ByteArray => x.data.toList)) = id := by funext x; rfl
  rw [this, List.map_id]
theorem sortS_perm (l : List ByteArray) : (sortS l).Perm l := by
  have h : (sortK l).Perm (keyS l) := List.mergeSort_perm _ _
  have h2 := h.map fun b => (⟨b.toArray⟩ : ByteArray)
  rw [key_back] at h2
  exact h2
theorem mem_sortS {x : ByteArray} (l : List ByteArray) : x ∈ sortS l ↔ x ∈ l := (sortS_perm l).mem_iff
theorem sortK_sorted (l : List ByteArray) : (sortK l).Pairwise fun x y => x ≤ y := by
  have h := List.pairwise_mergeSort (le := fun (x y : List UInt8) => decide (x ≤ y)) (fun a b c h1 h2 => by simp only [decide_eq_true_eq] at *; exact List.le_trans h1 h2) (fun a b => by
    simp only [Bool.or_eq_true, decide_eq_true_eq]
    rcases Classical.em (a ≤ b) with h | h
    · exact .inl h
    · exact .inr (by have := List.not_le.1 h; exact List.le_of_lt this)) (keyS l)
  exact h.imp fun h => by simpa using h
theorem sortS_sorted (l : List ByteArray) : (sortS l).Pairwise fun a b => lessS b a = false := by
  unfold sortS
  rw [List.pairwise_map]
  refine (sortK_sorted l).imp fun {a b} h => ?_
  rw [Bool.eq_false_iff]
  intro k
  have := lessS_lt.1 k
  exact List.not_lt.2 h this
theorem sortS_asc {l : List ByteArray} (h : l.Nodup) : ascS (sortS l) := by
  have h1 : (sortS l).Nodup := (sortS_perm l).nodup_iff.2 h
  exact (List.Pairwise.and (sortS_sorted l) h1).imp fun {a b} h => less_tri h.1 (fun e => h.2 e.symm)
theorem sort_put {l : List ByteArray} (h : l.Nodup) : sortS l = putAll l :=
  asc_eq (sortS_asc h) (putAll_asc l) fun x => by rw [mem_sortS, mem_putAll]
end Go.Proofs.Ytcdoanookiimaaa
