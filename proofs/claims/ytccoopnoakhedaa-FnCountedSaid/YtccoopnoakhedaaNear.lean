/- Plain: lists of texts in ascending order, each once. -/
import Derived.Test.YtccoopnoakhedaaStrs
import Derived.Shelf.Sort.Plain
import Derived.Test.YtccoopnoakhedaaSAt
import Derived.Test.YtccoopnoakhedaaShelf
import Derived.Sort.OwnSorted
import Derived.Test.YtccoopnoakhedaaRgM
import Derived.Test.YtccoopnoakhedaaRgG
import Derived.Test.YtccoopnoakhedaaEditS
import Derived.Test.YtccoopnoakhedaaWords
namespace Go.Proofs.Ytccoopnoakhedaa
set_option maxRecDepth 100000
open Go.RowKit

/-- the order of texts -/
def lessS (a b : ByteArray) : Bool := Op.bytesLess a.toList b.toList
theorem lessS_lt {a b : ByteArray} : lessS a b = true ↔ a.data.toList < b.data.toList := by
  unfold lessS
  rw [bytesLess_eq, decide_eq_true_eq, ByteArray.toList_eq, ByteArray.toList_eq]
theorem ba_ext {a b : ByteArray} (h : a.data.toList = b.data.toList) : a = b := ByteArray.ext (Array.toList_inj.1 h)
theorem less_irrefl (a : ByteArray) : lessS a a = false := by
  rw [Bool.eq_false_iff]; intro h
  exact List.lt_irrefl _ (lessS_lt.1 h)
theorem less_trans {a b c : ByteArray} (h : lessS a b = true) (k : lessS b c = true) : lessS a c = true := lessS_lt.2 (List.lt_trans (lessS_lt.1 h) (lessS_lt.1 k))
theorem less_asymm {a b : ByteArray} (h : lessS a b = true) : lessS b a = false := by
  rw [Bool.eq_false_iff]; intro k
  have := less_trans h k
  rw [less_irrefl] at this; cases this
theorem less_tri {a b : ByteArray} (h : lessS a b = false) (hne : a ≠ b) : lessS b a = true := by
  have h1 : ¬ a.data.toList < b.data.toList := fun k => by rw [lessS_lt.2 k] at h; cases h
  rw [List.not_lt] at h1
  rw [lessS_lt]
  rw [← List.not_le]
  intro h2
  exact hne (ba_ext (List.le_antisymm h2 h1))
/-- each is less than all behind it -/
def ascS (l : List ByteArray) : Prop := l.Pairwise fun a b => lessS a b = true
/-- a text put into its place; one that is there is not put in again -/
def putS : List ByteArray → ByteArray → List ByteArray
  | [], t => [t]
  | x :: l, t => if lessS x t = true then x :: putS l t else if x = t then x :: l else t :: x :: l
theorem mem_putS {t x : ByteArray} : ∀ {l : List ByteArray}, x ∈ putS l t ↔ x = t ∨ x ∈ l
  | [] => by simp [putS]
  | y :: l => by
    unfold putS
    split
    · rw [List.mem_cons, List.mem_cons, mem_putS (l := l)]
      constructor
      · rintro (h | h | h)
        · exact .inr (.inl h)
        · exact .inl h
        · exact .inr (.inr h)
      · rintro (h | h | h)
        · exact .inr (.inl h)
        · exact .inl h
        · exact .inr (.inr h)
    · split
      · rename_i h
        subst h
        simp only [List.mem_cons]
        constructor
        · exact .inr
        · rintro (h | h)
          · exact .inl h
          · exact h
      · simp only [List.mem_cons]
theorem putS_asc {t : ByteArray} : ∀ {l : List ByteArray}, ascS l → ascS (putS l t)
  | [], _ => List.pairwise_singleton _ _
  | y :: l, h => by
    obtain ⟨h1, h2⟩ := List.pairwise_cons.1 h
    unfold putS
    split
    · rename_i hl
      refine List.pairwise_cons.2 ⟨fun z hz => ?_, putS_asc h2⟩
      rcases mem_putS.1 hz with rfl | hz
      · exact hl
      · exact h1 z hz
    · rename_i hl
      split
      · exact h
      · rename_i hne
        have hty := less_tri (by simpa using hl) hne
        refine List.pairwise_cons.2 ⟨fun z hz => ?_, h⟩
        rcases List.mem_cons.1 hz with rfl | hz
        · exact hty
        · exact less_trans hty (h1 z hz)
theorem asc_eq : ∀ {l m : List ByteArray}, ascS l → ascS m → (∀ x, x ∈ l ↔ x ∈ m) → l = m
  | [], [], _, _, _ => rfl
  | [], y :: m, _, _, h => by have := (h y).2 (List.mem_cons_self ..); cases this
  | x :: l, [], _, _, h => by have := (h x).1 (List.mem_cons_self ..); cases this
  | x :: l, y :: m, hl, hm, h => by
    obtain ⟨hl1, hl2⟩ := List.pairwise_cons.1 hl
    obtain ⟨hm1, hm2⟩ := List.pairwise_cons.1 hm
    have e : x = y := by
      rcases List.mem_cons.1 ((h x).1 (List.mem_cons_self ..)) with e | hx
      · exact e
      · rcases List.mem_cons.1 ((h y).2 (List.mem_cons_self ..)) with e | hy
        · exact e.symm
        · have a1 := hm1 x hx
          have a2 := hl1 y hy
          rw [less_asymm a1] at a2; cases a2
    subst e
    rw [asc_eq hl2 hm2 fun z => ?_]
    constructor
    · intro hz
      rcases List.mem_cons.1 ((h z).1 (List.mem_cons_of_mem _ hz)) with e | hz'
      · subst e
        have := hl1 z hz; rw [less_irrefl] at this; cases this
      · exact hz'
    · intro hz
      rcases List.mem_cons.1 ((h z).2 (List.mem_cons_of_mem _ hz)) with e | hz'
      · subst e
        have := hm1 z hz; rw [less_irrefl] at this; cases this
      · exact hz'
/-- the place is found by looking from the front -/
theorem putS_at : ∀ {l : List ByteArray} {t : ByteArray} {k : Nat}, k ≤ l.length → (∀ j, j < k → lessS (gs l j) t = true) → (k < l.length → lessS (gs l k) t = false) →
    putS l t = if k < l.length ∧ gs l k = t then l else l.take k ++ t :: l.drop k
  | [], t, k, hk, _, _ => by
    obtain rfl : k = 0 := by simpa using hk
    simp [putS]
  | x :: l, t, 0, _, _, hs => by
    have h0 : lessS x t = false := by have := hs (by simp); simpa [gs] using this
    unfold putS
    rw [if_neg (by rw [h0]; simp)]
    by_cases e : x = t
    · rw [if_pos e, if_pos ⟨by simp, by simpa [gs] using e⟩]
    · rw [if_neg e, if_neg (fun h => e (by simpa [gs] using h.2))]
      rfl
  | x :: l, t, k + 1, hk, hp, hs => by
    have h0 : lessS x t = true := by have := hp 0 (by omega); simpa [gs] using this
    have ih := putS_at (l := l) (t := t) (k := k) (by simpa using hk) (fun j hj => by have := hp (j + 1) (by omega); simpa [gs] using this) (fun h => by have := hs (by simpa using h); simpa [gs] using this)
    unfold putS
    rw [if_pos h0, ih]
    have e1 : gs (x :: l) (k + 1) = gs l k := by simp [gs]
    rw [e1]
    by_cases e : k < l.length ∧ gs l k = t
    · rw [if_pos e, if_pos ⟨by simpa using e.1, e.2⟩]
    · rw [if_neg e, if_neg (fun h => e ⟨by simpa using h.1, h.2⟩)]
      rfl
/-- all put in, one after another -/
def putAll (l : List ByteArray) : List ByteArray := l.foldl putS []
theorem putAll_snoc (l : List ByteArray) (t : ByteArray) : putAll (l ++ [t]) = putS (putAll l) t := by simp [putAll]
theorem foldl_asc : ∀ (l m : List ByteArray), ascS m → ascS (l.foldl putS m)
  | [], _, h => h
  | x :: l, m, h => foldl_asc l (putS m x) (putS_asc h)
theorem foldl_mem {x : ByteArray} : ∀ (l m : List ByteArray), x ∈ l.foldl putS m ↔ x ∈ m ∨ x ∈ l
  | [], m => by simp
  | y :: l, m => by
    rw [List.foldl_cons, foldl_mem l (putS m y), mem_putS, List.mem_cons]
    constructor
    · rintro ((h | h) | h)
      · exact .inr (.inl h)
      · exact .inl h
      · exact .inr (.inr h)
    · rintro (h | h | h)
      · exact .inl (.inr h)
      · exact .inl (.inl h)
      · exact .inr h
theorem putAll_asc (l : List ByteArray) : ascS (putAll l) := foldl_asc l [] List.Pairwise.nil
theorem mem_putAll {x : ByteArray} (l : List ByteArray) : x ∈ putAll l ↔ x ∈ l := by unfold putAll; rw [foldl_mem]; simp
theorem putS_len (t : ByteArray) : ∀ l : List ByteArray, (putS l t).length ≤ l.length + 1
  | [] => by simp [putS]
  | x :: l => by
    unfold putS
    split
    · have := putS_len t l
      simp only [List.length_cons]; omega
    · split <;> simp
theorem foldl_len : ∀ (l m : List ByteArray), (l.foldl putS m).length ≤ l.length + m.length
  | [], m => by simp
  | x :: l, m => by
    have h1 := foldl_len l (putS m x)
    have h2 := putS_len x m
    rw [List.foldl_cons, List.length_cons]; omega
theorem putAll_len (l : List ByteArray) : (putAll l).length ≤ l.length := by
  have := foldl_len l []
  simpa [putAll] using this
/-- sorted by the library -/
def keyS (l : List ByteArray) : List (List UInt8) := l.map (·.data.toList)
def sortK (l : List ByteArray) : List (List UInt8) := (keyS l).mergeSort fun x y => decide (x ≤ y)
def sortS (l : List ByteArray) : List ByteArray := (sortK l).map fun b => ⟨b.toArray⟩
theorem keyS_enc (l : List ByteArray) : (keyS l).map encStr = St l := by
  unfold keyS St
  rw [List.map_map]
  apply List.map_congr_left
  intro x _
  simp [encStr]
theorem sortK_enc (l : List ByteArray) : (sortK l).map encStr = St (sortS l) := by
  unfold sortS St
  rw [List.map_map]
  rfl
theorem sortS_len (l : List ByteArray) : (sortS l).length = l.length := by simp [sortS, sortK, keyS]
theorem sortK_len (l : List ByteArray) : (sortK l).length = l.length := by simp [sortK, keyS]
theorem key_back (l : List ByteArray) : (keyS l).map (fun b => (⟨b.toArray⟩ : ByteArray)) = l := by
  unfold keyS
  rw [List.map_map]
  have : (((fun b => (⟨b.toArray⟩ : ByteArray)) ∘ fun x : ByteArray => x.data.toList)) = id := by funext x; rfl
  rw [this, List.map_id]
theorem sortS_perm (l : List ByteArray) : (sortS l).Perm l := by
  have h : (sortK l).Perm (keyS l) := List.mergeSort_perm _ _
  have h2 := h.map fun b => (⟨b.toArray⟩ : ByteArray)
  rw [key_back] at h2
  exact h2
theorem mem_sortS {x : ByteArray} (l : List ByteArray) : x ∈ sortS l ↔ x ∈ l := (sortS_perm l).mem_iff
theorem sortK_sorted (l : List ByteArray) : (sortK l).Pairwise fun x y => x ≤ y := by
  have h := List.pairwise_mergeSort (le := fun (x y : List UInt8) => decide (x ≤ y)) (fun a b c h1 h2 => by simp only [decide_eq_true_eq] at *; exact List.le_trans h1 h2) (fun a b => by
    simp only [Bool.or_eq_true, decide_eq_true_eq]
    rcases Classical.em (a ≤ b) with h | h
    · exact .inl h
    · exact .inr (by have := List.not_le.1 h; exact List.le_of_lt this)) (keyS l)
  exact h.imp fun h => by simpa using h
theorem sortS_sorted (l : List ByteArray) : (sortS l).Pairwise fun a b => lessS b a = false := by
  unfold sortS
  rw [List.pairwise_map]
  refine (sortK_sorted l).imp fun {a b} h => ?_
  rw [Bool.eq_false_iff]
  intro k
  have := lessS_lt.1 k
  exact List.not_lt.2 h this
theorem sortS_asc {l : List ByteArray} (h : l.Nodup) : ascS (sortS l) := by
  have h1 : (sortS l).Nodup := (sortS_perm l).nodup_iff.2 h
  exact (List.Pairwise.and (sortS_sorted l) h1).imp fun {a b} h => less_tri h.1 (fun e => h.2 e.symm)
theorem sort_put {l : List ByteArray} (h : l.Nodup) : sortS l = putAll l :=
  asc_eq (sortS_asc h) (putAll_asc l) fun x => by rw [mem_sortS, mem_putAll]
end Go.Proofs.Ytccoopnoakhedaa

/- Walks: a text put into a list in ascending order (the reference). -/
namespace Go.Proofs.Ytccoopnoakhedaa
set_option maxRecDepth 100000
open Go.RowKit

theorem oneTs (l : List ByteArray) : ∀ u ∈ St l, u.oneCell' = true := fun u hu => by
  obtain ⟨x, _, rfl⟩ := List.mem_map.1 hu; rfl
/-- append(s, src...), src nil or not -/
theorem law_appendsO {P : Program} (w : World) {ops : Array Oper} {rest : List Oper} {o : Oper} {a : Act} {Q : Exit → Act → World → Prop}
    (hg : o.guard = none) (s x : Operand) (t : TypeId) (hop : o.op = Op.call { callee := Callee.builtin Builtin.append, args := #[s, x], argTypes := #[t, t] })
    (e : TypeId) (z : Value) (bytes : Nat) (h1 : P.underlying t = some (.slice e)) (h2 : (P.info? e).map (fun i => (i.zero, i.size, i.bytes)) = some (some z, 1, bytes)) (hz : z.cells.size = 1)
    (B : Nat) (ad : Option Addr) (n c : Nat) (vs : List Value) (src : Option Addr) (m c' : Nat) (us : List Value) (hu : ∀ u ∈ us, u.oneCell' = true) (hs : a.eval s = .slice ad n c) (hx : a.eval x = .slice src m c')
    (hown : Own w B e ad n c vs) (hsl : Sl w src m c' us) (hB : B ≤ w.heap.size) (hn : n + m < 1099511627776) (hb : bytes ≤ 64)
    (hK : ∀ ad' cc' w', Own w' B e ad' (n + m) cc' (vs ++ us) → Below B w w' → w.grownBy w' (Value.slice ad n c).ownBlock → wpList P ops Q rest (a.put o.dst (.slice ad' (n + m) cc')) w') :
    wpList P ops Q (o :: rest) a w := by
  cases src with
  | none =>
    have h0 : m = 0 := by
      rcases Nat.eq_zero_or_pos m with h | h
      · exact h
      · obtain ⟨b, off, ha, _⟩ := hsl.cells h; cases ha
    subst h0
    have hul : us = [] := List.eq_nil_of_length_eq_zero hsl.len
    subst hul
    exact law_append_none w hg s x t hop e z bytes h1 h2 B ad n c c' vs hs hx hown (hK ad c w (by rw [List.append_nil]; exact hown) (Below.refl _ _) ⟨rfl, rfl, rfl, Nat.le_refl _, fun _ _ _ => rfl⟩)
  | some ad0 => exact law_appends w hg s x t hop e z bytes h1 h2 hz B ad n c vs ad0 m c' us hu hs hx hown hsl hB hn hb fun ad' cc' w' g1 g2 g3 _ => hK ad' cc' w' g1 g2 g3
/-- a slice of texts -/
def RetTs (l : List ByteArray) (w : World) (e : Ending) (w' : World) : Prop := ∃ a c, e = .returned (.slice a l.length c) ∧ Strs w' a l.length c l ∧ Ext w w'
theorem RetTs.mk {l : List ByteArray} {w w' : World} {a : Option Addr} {n c : Nat} (hs : Strs w' a n c l) (hx : Ext w w') : RetTs l w (.returned (.slice a n c)) w' := by
  have := hs.len; subst this; exact ⟨a, c, rfl, hs, hx⟩
end Go.Proofs.Ytccoopnoakhedaa

/- Walks: slices.Sort at texts. -/
namespace Go.Proofs.Ytccoopnoakhedaa
set_option maxRecDepth 100000
open Go.RowKit Go.Sort

/-- slices.Sort: the row holds its texts in order; of what was there only its block has changed -/
theorem sort_strs (g n c B : Nat) (l : List ByteArray) (w : World) (ho : Own w B 9 (some ⟨g, 0, none⟩) n c (St l)) (hn : n ≤ 1048576) :
    Calls Try.prog 66 #[.slice (some ⟨g, 0, none⟩) n c] w (fun e w' => e = .returned (.tuple #[]) ∧ Own w' B 9 (some ⟨g, 0, none⟩) n c (St (sortS l)) ∧ w.grownBy w' (some g)) := by
  have hl : l.length = n := (St_len l).symm.trans ho.len
  have hk : (keyS l).length = n := by simp [keyS, hl]
  rcases ho.2 with ⟨h1, _⟩ | ⟨g', cap, cur, hv, hb, hg, hnc, hcm, hcs, htake⟩
  · cases h1
  simp only [Value.slice.injEq, Option.some.injEq, Addr.mk.injEq, and_true, true_and] at hv
  obtain ⟨rfl, rfl⟩ := hv
  have hH : Holds encStr w g 0 (keyS l).toArray := holds_of_block hg (by rw [hk, keyS_enc]; simpa using htake)
  have h := Try.slices_Sort_string g 0 c (keyS l) w hH (Array.getElem?_eq_some_iff.1 hg).1 (by rw [hk]; omega)
  rw [hk] at h
  refine h.mono ?_
  rintro e w' ⟨rfl, q, os, rfl⟩
  refine ⟨rfl, ?_, grownBy_sorted _⟩
  have h3 := ownsRow_sorted (ts := sortK l) (ss := keyS l) (n := q) (os := os) (by rw [sortK_len, hk, hl]) hb hg (by rw [hk]; exact hnc) hcm hcs
  rw [hk, sortK_enc] at h3
  exact h3
end Go.Proofs.Ytccoopnoakhedaa

/- Plain: the nearest words of a registry. -/
namespace Go.Proofs.Ytccoopnoakhedaa
set_option maxRecDepth 100000
open Go.RowKit

theorem cost_selfN : ∀ (a : List UInt8), costS a a = 0
  | [] => by rw [cost_nil]; rfl
  | x :: a => by rw [cost_cons, cost_selfN a]; simp
theorem dist_selfN (a : ByteArray) : distS a a = 0 := cost_selfN _
/-- how far an issued word is -/
def farK (D : Rg) (s : ByteArray) (k : Nat) : Int := distS (gs D.issued k) s
/-- of the first k words, those that are not revoked and nearest, as they come, and how far they are; -1 without any -/
def nearS (D : Rg) (s : ByteArray) : Nat → List ByteArray × Int
  | 0 => ([], -1)
  | k + 1 => if revHas D k then nearS D s k else
    if (nearS D s k).2 < 0 ∨ farK D s k < (nearS D s k).2 then ([gs D.issued k], farK D s k)
    else if farK D s k = (nearS D s k).2 then ((nearS D s k).1 ++ [gs D.issued k], farK D s k) else nearS D s k
theorem far_pos (D : Rg) (s : ByteArray) (k : Nat) : 0 ≤ farK D s k := by unfold farK; omega
theorem near_rev {D : Rg} {s : ByteArray} {k : Nat} (h : revHas D k = true) : nearS D s (k + 1) = nearS D s k := by simp [nearS, h]
theorem near_new {D : Rg} {s : ByteArray} {k : Nat} (h : revHas D k = false) (hl : (nearS D s k).2 < 0 ∨ farK D s k < (nearS D s k).2) : nearS D s (k + 1) = ([gs D.issued k], farK D s k) := by simp [nearS, h, hl]
theorem near_more {D : Rg} {s : ByteArray} {k : Nat} (h : revHas D k = false) (hl : ¬ (nearS D s k).2 < 0) (he : farK D s k = (nearS D s k).2) : nearS D s (k + 1) = ((nearS D s k).1 ++ [gs D.issued k], farK D s k) := by
  rw [nearS, if_neg (by rw [h]; simp), if_neg (by omega), if_pos he]
theorem near_not {D : Rg} {s : ByteArray} {k : Nat} (h : revHas D k = false) (hl : ¬ (nearS D s k).2 < 0) (he : (nearS D s k).2 < farK D s k) : nearS D s (k + 1) = nearS D s k := by
  rw [nearS, if_neg (by rw [h]; simp), if_neg (by omega), if_neg (by omega)]
theorem near_nil (D : Rg) (s : ByteArray) : ∀ k, (nearS D s k).1 = [] ↔ (nearS D s k).2 < 0
  | 0 => by simp [nearS]
  | k + 1 => by
    have hp := far_pos D s k
    unfold nearS
    split
    · exact near_nil D s k
    split
    · simp; omega
    split
    · rename_i h1 _ h2
      simp; omega
    · exact near_nil D s k
theorem near_sub (D : Rg) (s : ByteArray) : ∀ k, k ≤ D.issued.length → (nearS D s k).1.Sublist (D.issued.take k)
  | 0, _ => by simp [nearS]
  | k + 1, h => by
    have ih := near_sub D s k (by omega)
    rw [take_gs (by omega)]
    unfold nearS
    split
    · exact ih.trans (List.sublist_append_left _ _)
    split
    · exact List.sublist_append_right _ _
    split
    · exact ih.append (List.Sublist.refl _)
    · exact ih.trans (List.sublist_append_left _ _)
theorem issued_nodup {D : Rg} (h : OkRg D) : D.issued.Nodup := by
  rw [List.nodup_iff_pairwise_ne, List.pairwise_iff_getElem]
  intro k i hk hi hki e
  have := h.far i k hki hi
  unfold farR at this
  have e1 : gs D.issued i = gs D.issued k := by simp [gs, List.getD_eq_getElem?_getD, hk, hi, e]
  rw [e1, dist_selfN] at this
  have := h.a1
  simp at *
  omega
theorem near_nodup {D : Rg} (h : OkRg D) (s : ByteArray) : (nearS D s D.issued.length).1.Nodup := by
  have h1 := near_sub D s D.issued.length (Nat.le_refl _)
  rw [List.take_length] at h1
  exact (issued_nodup h).sublist h1
/-- the answers -/
def askB (D : Rg) (s : ByteArray) : Bool := validRg D && wordB s.data.toList 36 20
def nearB (D : Rg) (s : ByteArray) : Bool := askB D s && !decide ((nearS D s D.issued.length).2 < 0)
def nearL (D : Rg) (s : ByteArray) : List ByteArray := if nearB D s then putAll (nearS D s D.issued.length).1 else []
def nearN (D : Rg) (s : ByteArray) : Int := if nearB D s then (nearS D s D.issued.length).2 else 0
def findB (D : Rg) (s : ByteArray) : Bool := nearB D s && decide (nearN D s ≤ (D.apart - 1) / 2)
def findT (D : Rg) (s : ByteArray) : ByteArray := if findB D s then gs (nearL D s) 0 else .empty
end Go.Proofs.Ytccoopnoakhedaa

/- Walks: the nearest words of a registry, on both sides. -/
namespace Go.Proofs.Ytccoopnoakhedaa
set_option maxRecDepth 100000
open Go.RowKit

/-- the least distance as the program keeps it -/
def leastI (D : Rg) (s : ByteArray) (k : Nat) : Int := if (nearS D s k).2 < 0 then 1099511627776 else (nearS D s k).2
theorem wordB_size {s : ByteArray} (h : wordB s.data.toList 36 20 = true) : s.size ≤ 20 := by
  unfold wordB at h
  simp only [Bool.and_eq_true, decide_eq_true_eq, ba_len] at h
  omega
theorem near_bd (D : Rg) (s : ByteArray) : ∀ k, k ≤ D.issued.length → (∀ j, j < D.issued.length → (gs D.issued j).size ≤ 20) → s.size ≤ 20 → -1 ≤ (nearS D s k).2 ∧ (nearS D s k).2 ≤ 20
  | 0, _, _, _ => by simp [nearS]
  | k + 1, hk, h1, h2 => by
    have ih := near_bd D s k (by omega) h1 h2
    have h3 := dist_max (gs D.issued k) s
    have h4 := h1 k (by omega)
    have h5 : 0 ≤ farK D s k ∧ farK D s k ≤ 20 := by unfold farK; omega
    unfold nearS
    split
    · exact ih
    split
    · exact ⟨by omega, by simp only; omega⟩
    split
    · exact ⟨by simp only; omega, by simp only; omega⟩
    · exact ih
/-- a list, a number and whether they are there -/
def RetNear (l : List ByteArray) (n : Int) (b : Bool) (w : World) (e : Ending) (w' : World) : Prop :=
  ∃ a c, e = .returned (.tuple #[.slice a l.length c, .int .i64 n, .bool b]) ∧ Own w' w.heap.size 9 a l.length c (St l) ∧ Ext w w'
theorem RetNear.no {l : List ByteArray} {n : Int} {b : Bool} {w w' : World} (hl : l = []) (hn : n = 0) (hb : b = false) (hx : Ext w w') : RetNear l n b w (.returned (.tuple #[.slice none 0 0, .int .i64 0, .bool false])) w' := by
  subst hl; subst hn; subst hb
  exact ⟨none, 0, rfl, Own.nil _ _ _, hx⟩
theorem near_no {D : Rg} {s : ByteArray} (h : nearB D s = false) : nearL D s = [] ∧ nearN D s = 0 := by unfold nearL nearN; rw [h]; exact ⟨rfl, rfl⟩
theorem ask_no {D : Rg} {s : ByteArray} (h : askB D s = false) : nearB D s = false := by rw [nearB, h]; rfl
theorem strs_nil (w : World) (a : Option Addr) (c : Nat) : Strs w a 0 c [] := ⟨rfl, Nat.zero_le _, fun h => by omega⟩
/-- a list and a number -/
def RetNS (l : List ByteArray) (n : Int) (w : World) (e : Ending) (w' : World) : Prop :=
  ∃ a c, e = .returned (.tuple #[.slice a l.length c, .int .i64 n]) ∧ Strs w' a l.length c l ∧ Ext w w'
end Go.Proofs.Ytccoopnoakhedaa

/- Walks: FindWord, on both sides. -/
namespace Go.Proofs.Ytccoopnoakhedaa
set_option maxRecDepth 100000
open Go.RowKit

theorem Strs.one1 {P : Program} {w : World} {a : Option Addr} {n c : Nat} {l : List ByteArray} (h : Strs w a n c l) (T E : TypeId) (ht : P.underlying T = some (.slice E)) (he : P.cellsOf E = 1) (i : Int) (h0 : 0 ≤ i) (h1 : i < n) :
    ∃ b off, One P T w a n c i b off (.string (gs l i.toNat)) := by
  obtain ⟨b, off, h2⟩ := Sl.one h T E ht he i h0 h1
  rw [gv_St (by rw [h.len]; omega)] at h2
  exact ⟨b, off, h2⟩
theorem find_no {D : Rg} {s : ByteArray} (h : findB D s = false) : findT D s = .empty := by rw [findT, h]; rfl
theorem find_yes {D : Rg} {s : ByteArray} (h : findB D s = true) : findT D s = gs (nearL D s) 0 := by rw [findT, h]; rfl
end Go.Proofs.Ytccoopnoakhedaa

/- Walks: the distance of two words as the program gives it; whether a list has a text. -/
namespace Go.Proofs.Ytccoopnoakhedaa
set_option maxRecDepth 100000
open Go.RowKit

end Go.Proofs.Ytccoopnoakhedaa
