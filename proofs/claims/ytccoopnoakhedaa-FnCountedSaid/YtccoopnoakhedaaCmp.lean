/- Plain: texts with one symbol more or less; a list put in order, each text once. Conditions: none. -/
import Derived.Test.YtccoopnoakhedaaNear
import Derived.Test.YtccoopnoakhedaaText
import Derived.Lib.SlicesCompact
import Derived.Test.YtccoopnoakhedaaStrFn
import Derived.Test.YtccoopnoakhedaaChg
import Derived.Test.YtccoopnoakhedaaReac
import Derived.Lib.SliceRun
import Derived.Test.YtccoopnoakhedaaR8C
import Derived.Test.YtccoopnoakhedaaChW
import Derived.Test.YtccoopnoakhedaaCount
import Derived.Test.YtccoopnoakhedaaChL
namespace Go.Proofs.Ytccoopnoakhedaa
set_option maxRecDepth 100000
open Go.RowKit

/-! ### compacted -/
section
variable {α : Type} [Inhabited α] [DecidableEq α]
theorem mem_compact {zs : List α} {x : α} : x ∈ Lib.compact zs ↔ x ∈ zs := by
  unfold Lib.compact Lib.compactUpTo
  rw [List.mem_map]
  constructor
  · rintro ⟨j, hj, rfl⟩
    rw [List.mem_filter, List.mem_range] at hj
    have h1 := hj.1
    rw [getElem!_pos zs.toArray j (by simpa using h1)]
    simp
  · intro hx
    obtain ⟨j, hj, he⟩ := List.mem_iff_getElem.1 hx
    have key : ∀ j, j < zs.length → zs.toArray[j]! = x → ∃ i, i < zs.length ∧ Lib.keeps zs.toArray i = true ∧ zs.toArray[i]! = x := by
      intro j
      induction j with
      | zero => intro h1 h2; exact ⟨0, h1, by simp [Lib.keeps], h2⟩
      | succ j ih =>
        intro h1 h2
        by_cases e : zs.toArray[j]! = x
        · exact ih (by omega) e
        · exact ⟨j + 1, h1, Lib.keeps_pos (by rw [Nat.add_sub_cancel, h2]; exact fun h => e h.symm), h2⟩
    obtain ⟨i, h1, h2, h3⟩ := key j hj (by rw [getElem!_pos zs.toArray j (by simpa using hj)]; simpa using he)
    exact ⟨i, by rw [List.mem_filter, List.mem_range]; exact ⟨h1, h2⟩, h3⟩
theorem compact_len (zs : List α) : (Lib.compact zs).length ≤ zs.length := by
  unfold Lib.compact Lib.compactUpTo
  rw [List.length_map]
  exact Nat.le_trans (List.length_filter_le _ _) (by simp)
end
theorem compact_lt {zs : List (List UInt8)} (h : zs.Pairwise fun x y => x ≤ y) : (Lib.compact zs).Pairwise fun x y => x < y := by
  unfold Lib.compact Lib.compactUpTo
  rw [List.pairwise_map]
  have hr : ((List.range zs.length).filter (Lib.keeps zs.toArray)).Pairwise fun i j => i < j := List.pairwise_lt_range.filter _
  have hm : ∀ j ∈ (List.range zs.length).filter (Lib.keeps zs.toArray), j < zs.length ∧ Lib.keeps zs.toArray j = true := fun j hj => by
    rw [List.mem_filter, List.mem_range] at hj; exact hj
  refine List.Pairwise.imp_of_mem ?_ hr
  intro i j hi hj hij
  obtain ⟨_, _⟩ := hm i hi
  obtain ⟨hj1, hj2⟩ := hm j hj
  have g : ∀ k, k < zs.length → zs.toArray[k]! = zs[k]! := fun k hk => by
    rw [getElem!_pos zs.toArray k (by simpa using hk), getElem!_pos zs k hk]; simp
  have hne : zs[j]! ≠ zs[j - 1]! := by
    unfold Lib.keeps at hj2
    rw [decide_eq_true_eq] at hj2
    rcases hj2 with h1 | h1
    · omega
    · rwa [g j hj1, g (j - 1) (by omega)] at h1
  rw [g i (by omega), g j hj1]
  have hp := List.pairwise_iff_getElem.1 h
  have h1 : zs[i]! ≤ zs[j - 1]! := by
    rw [getElem!_pos zs i (by omega), getElem!_pos zs (j - 1) (by omega)]
    by_cases e : i = j - 1
    · subst e; exact List.le_refl _
    · exact hp i (j - 1) (by omega) (by omega) (by omega)
  have h2 : zs[j - 1]! ≤ zs[j]! := by
    rw [getElem!_pos zs j hj1, getElem!_pos zs (j - 1) (by omega)]
    exact hp (j - 1) j (by omega) hj1 (by omega)
  have h3 : zs[j - 1]! < zs[j]! := by
    rw [← List.not_le]
    intro h4
    exact hne (List.le_antisymm h4 h2)
  exact List.lt_of_le_of_lt h1 h3
/-- in order, each text once: as the library does it -/
def ordK (l : List ByteArray) : List (List UInt8) := Lib.compact (sortK l)
def ordS (l : List ByteArray) : List ByteArray := (ordK l).map fun b => ⟨b.toArray⟩
theorem ordS_len (l : List ByteArray) : (ordS l).length = (ordK l).length := by simp [ordS]
theorem ordK_le (l : List ByteArray) : (ordK l).length ≤ l.length := by
  have := compact_len (sortK l)
  rwa [sortK_len] at this
theorem ordK_enc (l : List ByteArray) : (ordK l).map encStr = St (ordS l) := by
  unfold ordS St
  rw [List.map_map]
  rfl
theorem ordS_asc (l : List ByteArray) : ascS (ordS l) := by
  unfold ascS ordS
  rw [List.pairwise_map]
  refine (compact_lt (sortK_sorted l)).imp fun {a b} h => ?_
  exact lessS_lt.2 h
theorem mem_ordS {x : ByteArray} (l : List ByteArray) : x ∈ ordS l ↔ x ∈ l := by
  unfold ordS ordK
  rw [List.mem_map, ← mem_sortS l, sortS, List.mem_map]
  constructor
  · rintro ⟨b, h1, h2⟩; exact ⟨b, mem_compact.1 h1, h2⟩
  · rintro ⟨b, h1, h2⟩; exact ⟨b, mem_compact.2 h1, h2⟩
theorem ord_put (l : List ByteArray) : ordS l = putAll l := asc_eq (ordS_asc l) (putAll_asc l) fun x => by rw [mem_ordS, mem_putAll]

/-! ### one symbol more, one less -/
def insAt (s : ByteArray) (i : Nat) (d : Int) : ByteArray := s.extract 0 i ++ textOf [d] ++ s.extract i s.size
def insRow (s : ByteArray) (b i : Nat) : List ByteArray := (List.range b).map fun (d : Nat) => insAt s i d
def insT (s : ByteArray) (b k : Nat) : List ByteArray := ((List.range k).map (insRow s b)).flatten
def cutAt (s : ByteArray) (i : Nat) : ByteArray := s.extract 0 i ++ s.extract (i + 1) s.size
def cutT (s : ByteArray) (k : Nat) : List ByteArray := (List.range k).map (cutAt s)
theorem insRow_len (s : ByteArray) (b i : Nat) : (insRow s b i).length = b := by simp [insRow]
theorem insRow_step (s : ByteArray) (b i : Nat) : insRow s (b + 1) i = insRow s b i ++ [insAt s i b] := by simp [insRow, List.range_succ]
theorem insT_step (s : ByteArray) (b k : Nat) : insT s b (k + 1) = insT s b k ++ insRow s b k := by simp [insT, List.range_succ]
theorem insT_len (s : ByteArray) (b k : Nat) : (insT s b k).length = k * b := by
  induction k with
  | zero => simp [insT]
  | succ k ih => rw [insT_step, List.length_append, ih, insRow_len]; rw [Nat.add_mul]; omega
theorem cutT_step (s : ByteArray) (k : Nat) : cutT s (k + 1) = cutT s k ++ [cutAt s k] := by simp [cutT, List.range_succ]
theorem cutT_len (s : ByteArray) (k : Nat) : (cutT s k).length = k := by simp [cutT]
theorem insAt_size {s : ByteArray} {i : Nat} (h : i ≤ s.size) (d : Int) : (insAt s i d).size = s.size + 1 := by
  unfold insAt
  rw [ByteArray.size_append, ByteArray.size_append, ByteArray.size_extract, ByteArray.size_extract, textOf_size]
  simp; omega
theorem cutAt_size {s : ByteArray} {i : Nat} (h : i < s.size) : (cutAt s i).size + 1 = s.size := by
  unfold cutAt
  rw [ByteArray.size_append, ByteArray.size_extract, ByteArray.size_extract]
  omega
/-- the checked ones of a list, those put in so far -/
theorem putAll_filter (p : ByteArray → Bool) (l : List ByteArray) (t : ByteArray) : putAll ((l ++ [t]).filter p) = if p t then putS (putAll (l.filter p)) t else putAll (l.filter p) := by
  rw [List.filter_append]
  cases h : p t
  · simp [h]
  · simp only [List.filter_cons, h, if_true, List.filter_nil]
    exact putAll_snoc _ _
/-- kept by a list that is cut short in place: the first i of l, the rest of m -/
theorem filter_take_le (p : ByteArray → Bool) (l : List ByteArray) (k : Nat) : ((l.take k).filter p).length ≤ (l.filter p).length := by
  conv => rhs; rw [← List.take_append_drop k l]
  rw [List.filter_append, List.length_append]; omega
theorem filter_take_k (p : ByteArray → Bool) (l : List ByteArray) (k : Nat) : ((l.take k).filter p).length ≤ k :=
  Nat.le_trans (List.length_filter_le _ _) (by rw [List.length_take]; omega)
end Go.Proofs.Ytccoopnoakhedaa

/- Walks: slices.DeleteFunc and slices.Compact over texts, in place of a row of the call's own. -/
namespace Go.Proofs.Ytccoopnoakhedaa
set_option maxRecDepth 100000
open Go.RowKit Go.Sort

/-- the row's own first texts, what is kept among them -/
structure DelI (p : ByteArray → Bool) (l : List ByteArray) (n i j : Nat) (L : List ByteArray) : Prop where
  len : L.length = n
  lt : i < j
  le : j ≤ n
  low : L.take i = (l.take j).filter fun x => !p x
  high : L.drop j = l.drop j
theorem DelI.start {p : ByteArray → Bool} {l : List ByteArray} {n k : Nat} (hl : l.length = n) (hk : k < n) (h1 : p (gs l k) = true) (h2 : NoneIn p (l.take k)) : DelI p l n k (k + 1) l :=
  ⟨hl, by omega, by omega, by
    rw [take_gs (by omega), List.filter_append, List.filter_eq_self.2 (fun x hx => by rw [h2 x hx]; rfl)]
    simp [h1], rfl⟩
theorem DelI.at {p : ByteArray → Bool} {l L : List ByteArray} {n i j : Nat} (h : DelI p l n i j L) (_hl : l.length = n) (_hj : j < n) : gs L j = gs l j := by
  have h1 : gs (L.drop j) 0 = gs (l.drop j) 0 := by rw [h.high]
  simpa [gs] using h1
theorem DelI.keep {p : ByteArray → Bool} {l L : List ByteArray} {n i j : Nat} (h : DelI p l n i j L) (hl : l.length = n) (hj : j < n) (hp : p (gs l j) = false) : DelI p l n (i + 1) (j + 1) (L.set i (gs l j)) :=
  ⟨by rw [List.length_set]; exact h.len, by have := h.lt; omega, by omega, by
    have h1 := h.lt
    have h2 := h.len
    rw [take_gs (l := l) (by omega), List.filter_append, ← h.low, take_gs (by rw [List.length_set]; omega), take_set_ge _ _ _ _ (Nat.le_refl _)]
    have e : gs (L.set i (gs l j)) i = gs l j := by simp only [gs, List.getD_eq_getElem?_getD]; rw [List.getElem?_set_self (by omega)]; rfl
    rw [e]
    simp [hp], by
    have h1 := h.lt
    have h3 := congrArg (List.drop 1) h.high
    rw [List.drop_drop, List.drop_drop] at h3
    rw [List.drop_set_of_lt (by omega)]
    exact h3⟩
theorem DelI.skip {p : ByteArray → Bool} {l L : List ByteArray} {n i j : Nat} (h : DelI p l n i j L) (hl : l.length = n) (hj : j < n) (hp : p (gs l j) = true) : DelI p l n i (j + 1) L :=
  ⟨h.len, by have := h.lt; omega, by omega, by
    rw [take_gs (l := l) (by omega), List.filter_append, ← h.low]
    simp [hp], by
    have h3 := congrArg (List.drop 1) h.high
    rw [List.drop_drop, List.drop_drop] at h3
    exact h3⟩
/-- the row cut to what is kept; nothing else has changed -/
def RetDel (g c B : Nat) (l : List ByteArray) (w : World) (e : Ending) (w' : World) : Prop :=
  e = .returned (.slice (some ⟨g, 0, none⟩) l.length c) ∧ Own w' B 9 (some ⟨g, 0, none⟩) l.length c (St l) ∧ Chg g (g + 1) w w'
theorem compactT (g n c B : Nat) (zs : List (List UInt8)) (w : World) (ho : Own w B 9 (some ⟨g, 0, none⟩) n c (zs.map encStr)) (hn : n ≤ 1048576) :
    Calls Try.prog 67 #[.slice (some ⟨g, 0, none⟩) n c] w (fun e w' => e = .returned (.slice (some ⟨g, 0, none⟩) (Lib.compact zs).length c) ∧ Own w' B 9 (some ⟨g, 0, none⟩) (Lib.compact zs).length c ((Lib.compact zs).map encStr) ∧ Chg g (g + 1) w w') := by
  have hl : zs.length = n := by have := ho.len; rwa [List.length_map] at this
  rcases ho.2 with ⟨h1, _⟩ | ⟨g', cap, cur, hv, hb, hg, hnc, hcm, hcs, htake⟩
  · cases h1
  simp only [Value.slice.injEq, Option.some.injEq, Addr.mk.injEq, and_true, true_and] at hv
  obtain ⟨rfl, rfl⟩ := hv
  have hH : Holds encStr w g 0 zs.toArray := holds_of_block hg (by rw [hl]; simpa using htake)
  have h := Try.slices_Compact_string g 0 c zs w hH (by omega) (by omega)
  rw [hl] at h
  refine h.mono ?_
  rintro e w' ⟨rfl, q, rfl⟩
  have hle := compact_len zs
  obtain ⟨ts, hts⟩ : ∃ ts, ts = Lib.compact zs ++ List.replicate (n - (Lib.compact zs).length) ([] : List UInt8) := ⟨_, rfl⟩
  have htl : ts.length = zs.length := by rw [hts, List.length_append, List.length_replicate]; omega
  rw [← hts]
  have h3 := ownsRow_sorted (ts := ts) (ss := zs) (n := q) (os := #[]) htl hb hg (by rw [hl]; exact hnc) hcm hcs
  rw [hl, grow_empty] at h3
  have h4 := own_cut h3 (Lib.compact zs).length (by omega)
  rw [← List.map_take, hts, List.take_left] at h4
  refine ⟨rfl, by rw [hts]; exact h4, ?_⟩
  have h5 := grownBy_sorted (w := w) (g := g) (n := q) (os := #[]) ts.toArray
  rw [grow_empty] at h5
  exact grown_chg h5 (fun k hk => by simp only [Option.some.injEq] at hk; omega)
end Go.Proofs.Ytccoopnoakhedaa

/- Walks: words with one symbol more or less; those that are checked, in order. -/
namespace Go.Proofs.Ytccoopnoakhedaa
set_option maxRecDepth 100000
open Go.RowKit

/-- a fresh row that is not nil -/
def RetRow (l : List ByteArray) (w : World) (e : Ending) (w' : World) : Prop :=
  ∃ g c, e = .returned (.slice (some ⟨g, 0, none⟩) l.length c) ∧ Own w' w.heap.size 9 (some ⟨g, 0, none⟩) l.length c (St l) ∧ Ext w w'
theorem RetRow.mk {l : List ByteArray} {w w' : World} {a : Option Addr} {n c : Nat} (ho : Own w' w.heap.size 9 a n c (St l)) (hn : 0 < n) (hx : Ext w w') : RetRow l w (.returned (.slice a n c)) w' := by
  have hl : l.length = n := (St_len l).symm.trans ho.len
  obtain ⟨g, rfl⟩ := own_some ho hn
  subst hl
  exact ⟨g, c, rfl, ho, hx⟩
set_option maxHeartbeats 2000000 in
theorem impl_ordered (g n c B : Nat) (l : List ByteArray) (w0 w : World) (ho : Own w B 9 (some ⟨g, 0, none⟩) n c (St l)) (hn : n ≤ 1048576) (_h0 : Ext w0 w) (_hB : w0.heap.size ≤ B) :
    Calls Try.prog 52 #[.slice (some ⟨g, 0, none⟩) n c] w (fun e w' => e = .returned (.slice (some ⟨g, 0, none⟩) (ordS l).length c) ∧ Own w' B 9 (some ⟨g, 0, none⟩) (ordS l).length c (St (ordS l)) ∧ Chg g (g + 1) w w') := by
  have hl : l.length = n := (St_len l).symm.trans ho.len
  have HS := Lib.hid (sort_strs g n c B l w ho hn)
  have hg := ho.lt
  have HC := Lib.hid (fun W (h : Own W B 9 (some ⟨g, 0, none⟩) n c (St (sortS l))) => compactT g n c B (sortK l) W (by rw [sortK_enc]; exact h) hn)
  have HE := Lib.hid (ordK_enc l)
  have HL := Lib.hid (ordS_len l)
  clear ho
  go_enter Try.func52, Try.ntmps52
  go_wp2_with (refine HS.out.mono ?_; rintro e w1 ⟨rfl, ho1, hg1⟩)
  have hc1 : Chg g (g + 1) w w1 := grown_chg hg1 (fun k hk => by simp only [Option.some.injEq] at hk; omega)
  have HO1 := Lib.hid ho1
  clear ho1 hg1
  go_wp2_with (refine (HC.out _ (Own.ext HO1.out (by repeat (first | (with_reducible exact Ext.refl _) | (with_reducible refine Ext.drewN ?_ _) | (with_reducible refine Ext.drew ?_) | (with_reducible refine Ext.alloc ?_ _) | ((with_reducible refine Ext.setCell ?_ ?_ _); rotate_left; focus (first | (simp; done) | (simp; omega) | omega)) | assumption | (with_reducible refine Ext.trans ?_ (by assumption)))))).mono ?_; rintro e w2 ⟨rfl, ho2, hc2⟩)
  have HO2 := Lib.hid ho2
  have hc3 : Chg g (g + 1) w w2 := hc1.trans ((Chg.ext (by repeat (first | (with_reducible exact Ext.refl _) | (with_reducible refine Ext.drewN ?_ _) | (with_reducible refine Ext.drew ?_) | (with_reducible refine Ext.alloc ?_ _) | ((with_reducible refine Ext.setCell ?_ ?_ _); rotate_left; focus (first | (simp; done) | (simp; omega) | omega)) | assumption | (with_reducible refine Ext.trans ?_ (by assumption)))) _ _).trans hc2)
  clear ho2 hc2
  go_wp2
  go_ret
  have h := HO2.out
  rw [show Lib.compact (sortK l) = ordK l from rfl, HE.out, ← HL.out] at h
  rw [show Lib.compact (sortK l) = ordK l from rfl, ← HL.out]
  exact ⟨rfl, h, hc3⟩
theorem _root_.Go.Proofs.Ytccoopnoakhedaa.ChAt.chgAt {w W : World} {q lo hi : Nat} {D : Ch} {a : Option Addr} {n c : Nat} {b : Option Addr} {m d : Nat} (h : ChAt w q D a n c b m d) (hc : Chg lo hi w W) (hd : q < lo ∨ hi ≤ q) (hI : ChIn W D a n c b m d) : ChAt W q D a n c b m d := by
  have hq : q < w.heap.size := World.block_lt_of_cell? w ⟨q, 0, none⟩ (h.c0 w (Ext.refl _))
  have hq2 : q < W.heap.size := Nat.lt_of_lt_of_le hq hc.size
  have key : ∀ i w', Ext W w' → w'.cell? ⟨q, i, none⟩ = w.cell? ⟨q, i, none⟩ := fun i w' hx => (Below.cell (p := ⟨q, i, none⟩) hx hq2).trans (World.cell?_of_block (hc.block q hq hd))
  exact ⟨fun w' hx => (key 0 w' hx).trans (h.c0 w (Ext.refl _)), fun w' hx => (key 1 w' hx).trans (h.c1 w (Ext.refl _)), fun w' hx => (key 2 w' hx).trans (h.c2 w (Ext.refl _)), fun w' hx => (key 3 w' hx).trans (h.c3 w (Ext.refl _)), fun w' hx => (key 4 w' hx).trans (h.c4 w (Ext.refl _)), fun w' hx => (key 5 w' hx).trans (h.c5 w (Ext.refl _)), hI.ts, hI.ps⟩
end Go.Proofs.Ytccoopnoakhedaa

/- Walks: completions and shortenings, in the program and in the reference. -/
namespace Go.Proofs.Ytccoopnoakhedaa
set_option maxRecDepth 100000
open Go.RowKit

def cmpB (C : Ch) (s : ByteArray) : Bool := validCh C && (wordB s.data.toList C.base 20 && decide (s.size + 1 = C.places.length))
def cmpL (C : Ch) (s : ByteArray) : List ByteArray := if cmpB C s then putAll ((insT s C.base.toNat (s.size + 1)).filter (chkB C)) else []
def shoB (C : Ch) (s : ByteArray) : Bool := validCh C && (wordB s.data.toList C.base 20 && decide (s.size = C.places.length + 1))
def shoL (C : Ch) (s : ByteArray) : List ByteArray := if shoB C s then putAll ((cutT s s.size).filter (chkB C)) else []
theorem wordB_len {s : ByteArray} {b : Int} (h : wordB s.data.toList b 20 = true) : s.size ≤ 20 := by
  unfold wordB at h
  simp only [Bool.and_eq_true, decide_eq_true_eq] at h
  have h1 := h.2.2
  have h2 : s.data.toList.length = s.size := by simp
  omega
/-- a list and whether it is there: of its own; as it reads -/
def RetTO (l : List ByteArray) (b : Bool) (w : World) (e : Ending) (w' : World) : Prop :=
  ∃ a c, e = .returned (.tuple #[.slice a l.length c, .bool b]) ∧ Own w' w.heap.size 9 a l.length c (St l) ∧ Ext w w'
def RetTS (l : List ByteArray) (b : Bool) (w : World) (e : Ending) (w' : World) : Prop :=
  ∃ a c, e = .returned (.tuple #[.slice a l.length c, .bool b]) ∧ Strs w' a l.length c l ∧ Ext w w'
theorem RetTO.no {l : List ByteArray} {b : Bool} {w w' : World} (hb : b = false) (hl : l = []) (hx : Ext w w') : RetTO l b w (.returned (.tuple #[.slice none 0 0, .bool false])) w' := by
  subst hb; subst hl
  exact ⟨none, 0, rfl, Own.nil _ _ _, hx⟩
theorem RetTO.toS {l : List ByteArray} {b : Bool} {w w' : World} {e : Ending} (h : RetTO l b w e w') : RetTS l b w e w' :=
  let ⟨a, c, h1, h2, h3⟩ := h; ⟨a, c, h1, h2.sl, h3⟩
theorem cmpL_no {C : Ch} {s : ByteArray} (h : cmpB C s = false) : cmpL C s = [] := by unfold cmpL; rw [h]; rfl
theorem shoL_no {C : Ch} {s : ByteArray} (h : shoB C s = false) : shoL C s = [] := by unfold shoL; rw [h]; rfl
theorem cmpL_yes {C : Ch} {s : ByteArray} (h : cmpB C s = true) : cmpL C s = putAll ((insT s C.base.toNat (s.size + 1)).filter (chkB C)) := by unfold cmpL; rw [h]; rfl
theorem shoL_yes {C : Ch} {s : ByteArray} (h : shoB C s = true) : shoL C s = putAll ((cutT s s.size).filter (chkB C)) := by unfold shoL; rw [h]; rfl
theorem cmpL_len (C : Ch) (s : ByteArray) : (cmpL C s).length ≤ 1048576 := by
  cases h : cmpB C s with
  | false => rw [cmpL_no h]; simp
  | true =>
    rw [cmpL_yes h]
    have h1 := putAll_len ((insT s C.base.toNat (s.size + 1)).filter (chkB C))
    have h2 := List.length_filter_le (chkB C) (insT s C.base.toNat (s.size + 1))
    rw [insT_len] at h2
    unfold cmpB at h
    simp only [Bool.and_eq_true, decide_eq_true_eq] at h
    have h3 := wordB_len h.2.1
    have h4 := (validCh_ok h.1).b36
    have h5 := Nat.mul_le_mul (show s.size + 1 ≤ 21 by omega) (show C.base.toNat ≤ 36 by omega)
    omega
theorem shoL_len (C : Ch) (s : ByteArray) : (shoL C s).length ≤ 1048576 := by
  cases h : shoB C s with
  | false => rw [shoL_no h]; simp
  | true =>
    rw [shoL_yes h]
    have h1 := putAll_len ((cutT s s.size).filter (chkB C))
    have h2 := List.length_filter_le (chkB C) (cutT s s.size)
    rw [cutT_len] at h2
    unfold shoB at h
    simp only [Bool.and_eq_true, decide_eq_true_eq] at h
    have h3 := wordB_len h.2.1
    omega
theorem insT_sizes {s : ByteArray} {b k : Nat} (hk : k ≤ s.size + 1) : ∀ x ∈ insT s b k, x.size = s.size + 1 := fun x hx => by
  unfold insT at hx
  rw [List.mem_flatten] at hx
  obtain ⟨r, hr, hx⟩ := hx
  obtain ⟨i, hi, rfl⟩ := List.mem_map.1 hr
  unfold insRow at hx
  obtain ⟨d, _, rfl⟩ := List.mem_map.1 hx
  exact insAt_size (by have := List.mem_range.1 hi; omega) _
theorem cutT_sizes {s : ByteArray} {k : Nat} (hk : k ≤ s.size) : ∀ x ∈ cutT s k, x.size + 1 = s.size := fun x hx => by
  unfold cutT at hx
  obtain ⟨i, hi, rfl⟩ := List.mem_map.1 hx
  exact cutAt_size (by have := List.mem_range.1 hi; omega)
theorem sym_bytes (d : Int) (w : World) : (convert 22 9 (.slice (some ⟨w.heap.size, 0, none⟩) 1 1)).run Try.prog (w.alloc (.cells #[.int .u8 (sym d)] 5)) = .ok (.string (textOf [d])) (w.alloc (.cells #[.int .u8 (sym d)] 5)) :=
  run_convert_bytes_arg _ 22 5 (by kernel_rfl) (by kernel_rfl) w.heap.size 0 1 1 [sym d] rfl (fun i hi => by
    obtain rfl : i = 0 := by omega
    exact cell_of_row _ _ 0 _ _ (0, 0) (heap_alloc_new w _)) 9 (by kernel_rfl)
theorem sym_bytesD (d : Int) (w : World) : (convert 22 9 (.slice (some ⟨w.heap.size, 0, none⟩) 1 1)).run Try.prog (w.alloc (.cells #[.int .u8 (sym d)] 5)).drew = .ok (.string (textOf [d])) (w.alloc (.cells #[.int .u8 (sym d)] 5)).drew := sym_bytes d w.drew
theorem RetTS.no {l : List ByteArray} {b : Bool} {w w' : World} (hb : b = false) (hl : l = []) (hx : Ext w w') : RetTS l b w (.returned (.tuple #[.slice none 0 0, .bool false])) w' := (RetTO.no hb hl hx).toS
theorem putAll_step (p : ByteArray → Bool) (l : List ByteArray) (t : ByteArray) (h : p t = true) : putAll ((l ++ [t]).filter p) = putS (putAll (l.filter p)) t := by rw [putAll_filter, h]; rfl
theorem putAll_skip (p : ByteArray → Bool) (l : List ByteArray) (t : ByteArray) (h : p t = false) : putAll ((l ++ [t]).filter p) = putAll (l.filter p) := by rw [putAll_filter, h]; rfl
end Go.Proofs.Ytccoopnoakhedaa

/- How long the lists of completions and shortenings are. -/
namespace Go.Proofs.Ytccoopnoakhedaa
set_option maxRecDepth 100000
theorem tslenCompletionsOf {C : Ch} {s : ByteArray} (_h : SmallCh C) (_h2 : chSize C ≤ 1048576) : (cmpL C s).length ≤ 1048576 := cmpL_len C s
theorem tslenShorteningsOf {C : Ch} {s : ByteArray} (_h : SmallCh C) (_h2 : chSize C ≤ 1048576) : (shoL C s).length ≤ 1048576 := shoL_len C s
end Go.Proofs.Ytccoopnoakhedaa
