/- Plain: texts in ascending order of a key, and of themselves where the keys are equal; neighbouring parts merged. Conditions: none. -/
import Derived.Test.YtbcfbkhbangeoaaNear
import Derived.Test.YtbcfbkhbangeoaaChg
import Derived.Test.YtbcfbkhbangeoaaStrs
import Derived.Deep.CutBlock
import Derived.Deep.CutRange
namespace Go.Proofs.Ytbcfbkhbangeoaa
set_option maxRecDepth 100000
open Go.RowKit

/-- ahead by the key; or, at equal keys, by the text -/
def rK (key : ByteArray → Int) (x y : ByteArray) : Prop := key x < key y ∨ (key x = key y ∧ lessS x y = true)
theorem rK.trans {key : ByteArray → Int} {x y z : ByteArray} (h : rK key x y) (k : rK key y z) : rK key x z := by
  rcases h with h | ⟨h, h'⟩ <;> rcases k with k | ⟨k, k'⟩
  · exact .inl (by omega)
  · exact .inl (by omega)
  · exact .inl (by omega)
  · exact .inr ⟨by omega, less_trans h' k'⟩
theorem rK.le {key : ByteArray → Int} {x y : ByteArray} (h : rK key x y) : key x ≤ key y := by
  rcases h with h | h
  · omega
  · omega
theorem rK.irrefl {key : ByteArray → Int} {x : ByteArray} (h : rK key x x) : False := by
  rcases h with h | ⟨_, h⟩
  · omega
  · rw [less_irrefl] at h; cases h
theorem rK_of {key : ByteArray → Int} {x y : ByteArray} (h : lessS x y = true) (k : ¬ key y < key x) : rK key x y := by
  by_cases e : key x = key y
  · exact .inr ⟨e, h⟩
  · exact .inl (by omega)
def ascR (key : ByteArray → Int) (l : List ByteArray) : Prop := l.Pairwise (rK key)
/-- every text of the one list stands ahead of every text of the other -/
def bef (A B : List ByteArray) : Prop := ∀ x ∈ A, ∀ y ∈ B, lessS x y = true
/-- merged -/
def IsMg (key : ByteArray → Int) (A B C : List ByteArray) : Prop := C.Perm (A ++ B) ∧ ascR key C
theorem bef.mono {A B A' B' : List ByteArray} (h : bef A B) (h1 : ∀ x ∈ A', x ∈ A) (h2 : ∀ y ∈ B', y ∈ B) : bef A' B' := fun x hx y hy => h x (h1 x hx) y (h2 y hy)
theorem gs_app1 {A B : List ByteArray} {i : Nat} (h : i < A.length) : gs (A ++ B) i = gs A i := by
  unfold gs; rw [List.getD_eq_getElem?_getD, List.getElem?_append_left h, List.getD_eq_getElem?_getD]
theorem gs_app2 (A B : List ByteArray) (i : Nat) : gs (A ++ B) (A.length + i) = gs B i := by
  unfold gs; rw [List.getD_eq_getElem?_getD, List.getElem?_append_right (by omega), List.getD_eq_getElem?_getD]; congr 2; omega
theorem gs_mid {P A B : List ByteArray} {i k : Nat} (hk : k = P.length + i) (h : i < A.length) : gs (P ++ (A ++ B)) k = gs A i := by
  subst hk; rw [gs_app2, gs_app1 h]
theorem ascR.le {key : ByteArray → Int} {l : List ByteArray} (h : ascR key l) {i j : Nat} (hij : i ≤ j) (hj : j < l.length) : key (gs l i) ≤ key (gs l j) := by
  rcases Nat.lt_or_ge i j with hlt | hge
  · have h1 := List.pairwise_iff_getElem.1 h i j (by omega) hj hlt
    rw [gs_get (by omega), gs_get hj]; exact h1.le
  · obtain rfl : i = j := by omega
    exact Int.le_refl _
theorem gs_in {l : List ByteArray} {x : ByteArray} (h : x ∈ l) : ∃ i, i < l.length ∧ x = gs l i := by
  obtain ⟨i, hi, rfl⟩ := List.getElem_of_mem h
  exact ⟨i, hi, (gs_get hi).symm⟩
theorem IsMg.one {key : ByteArray → Int} {A : List ByteArray} (h : ascR key A) : IsMg key A [] A := ⟨by simp, h⟩
theorem IsMg.two {key : ByteArray → Int} {B : List ByteArray} (h : ascR key B) : IsMg key [] B B := ⟨by simp, h⟩
theorem mg_split {key : ByteArray → Int} {A1 A2 B1 B2 C1 C2 : List ByteArray} (hA : ascR key (A1 ++ A2)) (hB : ascR key (B1 ++ B2)) (h12 : ∀ x ∈ A1, ∀ y ∈ B2, rK key x y) (h21 : ∀ y ∈ B1, ∀ x ∈ A2, rK key y x)
    (h1 : IsMg key A1 B1 C1) (h2 : IsMg key A2 B2 C2) : IsMg key (A1 ++ A2) (B1 ++ B2) (C1 ++ C2) := by
  unfold ascR at hA hB
  rw [List.pairwise_append] at hA hB
  refine ⟨?_, ?_⟩
  · refine (h1.1.append h2.1).trans ?_
    rw [List.append_assoc, List.append_assoc]
    refine List.Perm.append_left A1 ?_
    rw [← List.append_assoc, ← List.append_assoc]
    exact List.Perm.append_right B2 List.perm_append_comm
  · unfold ascR
    rw [List.pairwise_append]
    refine ⟨h1.2, h2.2, fun x hx y hy => ?_⟩
    have hx' := (h1.1.mem_iff).1 hx
    have hy' := (h2.1.mem_iff).1 hy
    rcases List.mem_append.1 hx' with hx' | hx' <;> rcases List.mem_append.1 hy' with hy' | hy'
    · exact hA.2.2 x hx' y hy'
    · exact h12 x hx' y hy'
    · exact h21 x hx' y hy'
    · exact hB.2.2 x hx' y hy'
theorem take_drop_mem {l : List ByteArray} {k : Nat} {x : ByteArray} : (x ∈ l.take k ↔ ∃ i, i < k ∧ i < l.length ∧ x = gs l i) ∧ (x ∈ l.drop k ↔ ∃ i, k ≤ i ∧ i < l.length ∧ x = gs l i) := by
  constructor
  · constructor
    · intro h
      obtain ⟨i, hi, rfl⟩ := List.getElem_of_mem h
      rw [List.length_take] at hi
      exact ⟨i, by omega, by omega, by rw [gs_get (by omega), List.getElem_take]⟩
    · rintro ⟨i, h1, h2, rfl⟩
      rw [gs_get h2]
      exact List.mem_take_iff_getElem.2 ⟨i, by omega, rfl⟩
  · constructor
    · intro h
      obtain ⟨i, hi, rfl⟩ := List.getElem_of_mem h
      rw [List.length_drop] at hi
      exact ⟨k + i, by omega, by omega, by rw [gs_get (by omega), List.getElem_drop]⟩
    · rintro ⟨i, h1, h2, rfl⟩
      rw [gs_get h2]
      exact List.mem_drop_iff_getElem.2 ⟨i - k, by omega, by congr 1; omega⟩
/-- where two ascending parts are cut so that no text of the right halves belongs ahead of one of the left halves -/
theorem mg_cut {key : ByteArray → Int} {A B : List ByteArray} (hA : ascR key A) (hB : ascR key B) (hb : bef A B) {s t : Nat} (hs : s ≤ A.length) (ht : t ≤ B.length)
    (h12 : 0 < s → t < B.length → ¬ key (gs B t) < key (gs A (s - 1))) (h21 : 0 < t → s < A.length → key (gs B (t - 1)) < key (gs A s)) :
    (∀ x ∈ A.take s, ∀ y ∈ B.drop t, rK key x y) ∧ (∀ y ∈ B.take t, ∀ x ∈ A.drop s, rK key y x) := by
  constructor
  · intro x hx y hy
    obtain ⟨i, h1, h2, rfl⟩ := take_drop_mem.1.1 hx
    obtain ⟨j, h3, h4, rfl⟩ := take_drop_mem.2.1 hy
    refine rK_of (hb _ (by rw [gs_get h2]; exact List.getElem_mem h2) _ (by rw [gs_get h4]; exact List.getElem_mem h4)) ?_
    have e1 := h12 (by omega) (by omega)
    have e2 := hA.le (show i ≤ s - 1 by omega) (by omega)
    have e3 := hB.le h3 h4
    omega
  · intro y hy x hx
    obtain ⟨i, h1, h2, rfl⟩ := take_drop_mem.1.1 hy
    obtain ⟨j, h3, h4, rfl⟩ := take_drop_mem.2.1 hx
    have e1 := h21 (by omega) (by omega)
    have e2 := hB.le (show i ≤ t - 1 by omega) (by omega)
    have e3 := hA.le h3 h4
    exact .inl (by omega)
theorem ascR.take {key : ByteArray → Int} {l : List ByteArray} (h : ascR key l) (k : Nat) : ascR key (l.take k) := List.Pairwise.sublist (List.take_sublist k l) h
theorem ascR.drop {key : ByteArray → Int} {l : List ByteArray} (h : ascR key l) (k : Nat) : ascR key (l.drop k) := List.Pairwise.sublist (List.drop_sublist k l) h
theorem mg_at {key : ByteArray → Int} {A B C1 C2 : List ByteArray} (hA : ascR key A) (hB : ascR key B) (hb : bef A B) {s t : Nat} (hs : s ≤ A.length) (ht : t ≤ B.length)
    (h12 : 0 < s → t < B.length → ¬ key (gs B t) < key (gs A (s - 1))) (h21 : 0 < t → s < A.length → key (gs B (t - 1)) < key (gs A s))
    (h1 : IsMg key (A.take s) (B.take t) C1) (h2 : IsMg key (A.drop s) (B.drop t) C2) : IsMg key A B (C1 ++ C2) := by
  obtain ⟨k1, k2⟩ := mg_cut hA hB hb hs ht h12 h21
  have h := mg_split (A1 := A.take s) (A2 := A.drop s) (B1 := B.take t) (B2 := B.drop t) (by rw [List.take_append_drop]; exact hA) (by rw [List.take_append_drop]; exact hB) k1 k2 h1 h2
  rwa [List.take_append_drop, List.take_append_drop] at h
/-- one text into an ascending part behind it -/
theorem mg_first {key : ByteArray → Int} {x : ByteArray} {B : List ByteArray} (hB : ascR key B) (hb : bef [x] B) {t : Nat} (ht : t ≤ B.length) (h1 : 0 < t → key (gs B (t - 1)) < key x) (h2 : t < B.length → ¬ key (gs B t) < key x) :
    IsMg key [x] B (B.take t ++ [x] ++ B.drop t) := by
  have hA : ascR key [x] := List.pairwise_singleton _ _
  refine ⟨?_, ?_⟩
  · have h3 : (B.take t ++ [x] ++ B.drop t).Perm ([x] ++ B.take t ++ B.drop t) := List.Perm.append_right _ List.perm_append_comm
    rwa [List.append_assoc [x], List.take_append_drop] at h3
  · unfold ascR
    rw [List.append_assoc, List.pairwise_append]
    have hBx := mg_cut (s := 0) hA hB hb (Nat.zero_le _) ht (fun h => by omega) (fun h _ => h1 h)
    have hBy := mg_cut (s := 1) hA hB hb (Nat.le_refl _) ht (fun _ h => h2 h) (fun _ h => absurd h (Nat.lt_irrefl _))
    refine ⟨hB.take t, ?_, fun a ha b hb' => ?_⟩
    · rw [List.singleton_append, List.pairwise_cons]
      exact ⟨fun b hb' => hBy.1 x (by simp) b hb', hB.drop t⟩
    · rw [List.singleton_append, List.mem_cons] at hb'
      rcases hb' with rfl | hb'
      · exact hBx.2 a ha b (by simp)
      · have h4 : ascR key (B.take t ++ B.drop t) := by rw [List.take_append_drop]; exact hB
        unfold ascR at h4
        rw [List.pairwise_append] at h4
        exact h4.2.2 a ha b hb'
/-- one text into an ascending part ahead of it -/
theorem mg_last {key : ByteArray → Int} {y : ByteArray} {A : List ByteArray} (hA : ascR key A) (hb : bef A [y]) {s : Nat} (hs : s ≤ A.length) (h1 : 0 < s → ¬ key y < key (gs A (s - 1))) (h2 : s < A.length → key y < key (gs A s)) :
    IsMg key A [y] (A.take s ++ [y] ++ A.drop s) := by
  have hB : ascR key [y] := List.pairwise_singleton _ _
  refine ⟨?_, ?_⟩
  · have h3 : (A.take s ++ [y] ++ A.drop s).Perm (A.take s ++ (A.drop s ++ [y])) := by rw [List.append_assoc]; exact List.Perm.append_left _ List.perm_append_comm
    rwa [← List.append_assoc, List.take_append_drop] at h3
  · unfold ascR
    rw [List.append_assoc, List.pairwise_append]
    have hBx := mg_cut (t := 0) hA hB hb hs (Nat.zero_le _) (fun h _ => h1 h) (fun h => by omega)
    have hBy := mg_cut (t := 1) hA hB hb hs (Nat.le_refl _) (fun _ h => absurd h (Nat.lt_irrefl _)) (fun _ h => h2 h)
    refine ⟨hA.take s, ?_, fun a ha b hb' => ?_⟩
    · rw [List.singleton_append, List.pairwise_cons]
      exact ⟨fun b hb' => hBy.2 y (by simp) b hb', hA.drop s⟩
    · rw [List.singleton_append, List.mem_cons] at hb'
      rcases hb' with rfl | hb'
      · exact hBx.1 a ha b (by simp)
      · have h4 : ascR key (A.take s ++ A.drop s) := by rw [List.take_append_drop]; exact hA
        unfold ascR at h4
        rw [List.pairwise_append] at h4
        exact h4.2.2 a ha b hb'
/-- two texts change places -/
theorem swap_mid (P M S : List ByteArray) (x y : ByteArray) {i j : Nat} (hi : i = P.length) (hj : j = P.length + 1 + M.length) : ((P ++ ([x] ++ (M ++ ([y] ++ S)))).set i y).set j x = P ++ ([y] ++ (M ++ ([x] ++ S))) := by
  subst hi hj
  rw [List.set_append_right _ _ (Nat.le_refl _), Nat.sub_self, List.singleton_append, List.set_cons_zero, List.set_append_right _ _ (by omega), show P.length + 1 + M.length - P.length = M.length + 1 by omega, List.set_cons_succ, List.set_append_right _ _ (Nat.le_refl _), Nat.sub_self, List.singleton_append, List.set_cons_zero]
  rfl
theorem gs_at (P S : List ByteArray) (x : ByteArray) {i : Nat} (hi : i = P.length) : gs (P ++ ([x] ++ S)) i = x := by
  subst hi
  have h := gs_app2 P ([x] ++ S) 0
  rw [Nat.add_zero] at h
  rw [h]; rfl
theorem take_snocS {l : List ByteArray} {k : Nat} (h : k < l.length) : l.take (k + 1) = l.take k ++ [gs l k] := by rw [List.take_succ_eq_append_getElem h, gs_get h]
theorem drop_consS {l : List ByteArray} {k : Nat} (h : k < l.length) : l.drop k = [gs l k] ++ l.drop (k + 1) := by rw [List.drop_eq_getElem_cons h, gs_get h]; rfl
theorem ascR_uniq {key : ByteArray → Int} : ∀ {l m : List ByteArray}, ascR key l → ascR key m → (∀ x, x ∈ l ↔ x ∈ m) → l = m
  | [], [], _, _, _ => rfl
  | [], y :: m, _, _, h => by have := (h y).2 (by simp); cases this
  | x :: l, [], _, _, h => by have := (h x).1 (by simp); cases this
  | x :: l, y :: m, h1, h2, h => by
    unfold ascR at h1 h2
    rw [List.pairwise_cons] at h1 h2
    have hxy : x = y := by
      rcases List.mem_cons.1 ((h x).1 (by simp)) with rfl | a
      · rfl
      · rcases List.mem_cons.1 ((h y).2 (by simp)) with rfl | b
        · rfl
        · exact absurd ((h1.1 y b).trans (h2.1 x a)) (fun h => h.irrefl)
    subst hxy
    rw [ascR_uniq h1.2 h2.2 (fun z => ⟨fun hz => ?_, fun hz => ?_⟩)]
    · rcases List.mem_cons.1 ((h z).1 (List.mem_cons_of_mem _ hz)) with rfl | h'
      · exact absurd (h1.1 z hz) (fun h => h.irrefl)
      · exact h'
    · rcases List.mem_cons.1 ((h z).2 (List.mem_cons_of_mem _ hz)) with rfl | h'
      · exact absurd (h2.1 z hz) (fun h => h.irrefl)
      · exact h'
end Go.Proofs.Ytbcfbkhbangeoaa

/- Walks: slices.SortStableFunc at texts, at any length. -/
namespace Go.Proofs.Ytbcfbkhbangeoaa
set_option maxRecDepth 100000
open Go.RowKit

def RowT (w : World) (B g n c : Nat) (l : List ByteArray) : Prop := Own w B 9 (some ⟨g, 0, none⟩) n c (St l)
theorem RowT.len {w : World} {B g n c : Nat} {l : List ByteArray} (h : RowT w B g n c l) : l.length = n := (St_len l).symm.trans (Own.len h)
theorem RowT.ext {w w' : World} {B g n c : Nat} {l : List ByteArray} (h : RowT w B g n c l) (hx : Ext w w') : RowT w' B g n c l := Own.ext h hx
theorem RowT.lt {w : World} {B g n c : Nat} {l : List ByteArray} (h : RowT w B g n c l) : B ≤ g ∧ g < w.heap.size := Own.lt h
theorem RowT.ix {w : World} {B g n c : Nat} {l : List ByteArray} (h : RowT w B g n c l) {k : Nat} (hk : k < n) (z : Int) (hz : z = (k : Int)) :
    (∀ w', (Instr.indexAt 42 (.slice (some ⟨g, 0, none⟩) n c) (.int .i64 z)).run Try.prog w' = .ok (.pointer (some ⟨g, k, none⟩)) w') ∧ (∀ w', Ext w w' → w'.cell? ⟨g, k, none⟩ = some (.string (gs l k))) ∧ w.frozen? ⟨g, k, none⟩ = false := by
  subst hz
  have hl := h.len
  obtain ⟨h1, h2, h3⟩ := Own.at (P := Try.prog) h 42 und_strs cell_str k hk .i64
  have hv : (St l).getD k undef = .string (gs l k) := by
    unfold St gs
    rw [List.getD_eq_getElem?_getD, List.getElem?_map, List.getElem?_eq_getElem (by omega), List.getD_eq_getElem?_getD, List.getElem?_eq_getElem (by omega)]; rfl
  rw [hv] at h2
  exact ⟨h1, fun w' hx => (bcell hx).1 _ _ (Own.lt h).2 |>.trans h2, h3⟩
theorem RowT.swap {w : World} {B g n c : Nat} {P M S : List ByteArray} {x y : ByteArray} (h : RowT w B g n c (P ++ ([x] ++ (M ++ ([y] ++ S))))) {i j : Nat} (hi : i = P.length) (hj : j = P.length + 1 + M.length) :
    RowT ((w.setCell ⟨g, i, none⟩ (.string y)).setCell ⟨g, j, none⟩ (.string x)) B g n c (P ++ ([y] ++ (M ++ ([x] ++ S)))) := by
  have h1 := (Own.set h i (.string y)).set j (.string x)
  rw [St_set, St_set, swap_mid P M S x y hi hj] at h1
  exact h1
theorem RowT.swap' {w : World} {B g n c : Nat} {P M S : List ByteArray} {x y : ByteArray} (h : RowT w B g n c (P ++ ([x] ++ (M ++ ([y] ++ S))))) {i j : Nat} (hi : i = P.length) (hj : j = P.length + 1 + M.length) :
    RowT ((w.setCell ⟨g, j, none⟩ (.string x)).setCell ⟨g, i, none⟩ (.string y)) B g n c (P ++ ([y] ++ (M ++ ([x] ++ S)))) := by
  have h1 := (Own.set h j (.string x)).set i (.string y)
  rw [St_set, St_set, List.set_comm _ _ (by omega), swap_mid P M S x y hi hj] at h1
  exact h1
theorem chg_two {w wr : World} {g i j : Nat} {u v : Value} (h : Chg g (g + 1) w wr) : Chg g (g + 1) w ((wr.setCell ⟨g, i, none⟩ u).setCell ⟨g, j, none⟩ v) :=
  (h.trans (Chg.setP _ ⟨g, i, none⟩ u (Nat.le_refl _) (Nat.lt_succ_self _))).trans (Chg.setP _ ⟨g, j, none⟩ v (Nat.le_refl _) (Nat.lt_succ_self _))
/-- nothing is returned, a row holds these texts, and nothing else has changed -/
def RetSw (B g n c : Nat) (l : List ByteArray) (w : World) (e : Ending) (w' : World) : Prop := e = .returned (.tuple #[]) ∧ RowT w' B g n c l ∧ Chg g (g + 1) w w'

/-! ### ranges that change places -/
def swR (P A M D S : List ByteArray) (i : Nat) : List ByteArray := P ++ (D.take i ++ (A.drop i ++ (M ++ (A.take i ++ (D.drop i ++ S)))))
theorem swR_zero (P A M D S : List ByteArray) : swR P A M D S 0 = P ++ (A ++ (M ++ (D ++ S))) := by simp [swR]
theorem swR_full {P A M D S : List ByteArray} {k : Nat} (hA : A.length = k) (hD : D.length = k) : swR P A M D S k = P ++ (D ++ (M ++ (A ++ S))) := by
  unfold swR
  rw [List.take_of_length_le (by omega), List.take_of_length_le (by omega), List.drop_eq_nil_of_le (by omega), List.drop_eq_nil_of_le (by omega)]
  simp
theorem swR_now {P A M D S : List ByteArray} {k i : Nat} (hA : A.length = k) (hD : D.length = k) (h : i < k) : swR P A M D S i = (P ++ D.take i) ++ ([gs A i] ++ ((A.drop (i + 1) ++ (M ++ A.take i)) ++ ([gs D i] ++ (D.drop (i + 1) ++ S)))) := by
  unfold swR
  rw [drop_consS (l := A) (k := i) (by omega), drop_consS (l := D) (k := i) (by omega)]
  simp only [List.append_assoc]
theorem swR_next {P A M D S : List ByteArray} {k i : Nat} (hA : A.length = k) (hD : D.length = k) (h : i < k) : (P ++ D.take i) ++ ([gs D i] ++ ((A.drop (i + 1) ++ (M ++ A.take i)) ++ ([gs A i] ++ (D.drop (i + 1) ++ S)))) = swR P A M D S (i + 1) := by
  unfold swR
  rw [take_snocS (l := A) (k := i) (by omega), take_snocS (l := D) (k := i) (by omega)]
  simp only [List.append_assoc]
set_option maxHeartbeats 2000000 in
theorem swapRange_strs (B g n c : Nat) (P A M D S : List ByteArray) (a b k : Nat) (ha : a = P.length) (hb : b = P.length + k + M.length) (hA : A.length = k) (hD : D.length = k) (v : Value) (w : World)
    (ho : RowT w B g n c (P ++ (A ++ (M ++ (D ++ S))))) (hn : n ≤ 1048576) :
    Calls Try.prog 146 #[.slice (some ⟨g, 0, none⟩) n c, .int .i64 a, .int .i64 b, .int .i64 k, v] w (RetSw B g n c (P ++ (D ++ (M ++ (A ++ S)))) w) := by
  have hl := ho.len
  simp only [List.length_append] at hl
  have HO := Lib.hid ho
  have HL := Lib.hid (show a + k ≤ n ∧ b + k ≤ n ∧ a + k ≤ b by omega)
  have hbd := HL.out
  have HA := Lib.hid ha
  have HB := Lib.hid hb
  have HAl := Lib.hid hA
  have HDl := Lib.hid hD
  clear ho hl ha hb hA hD
  go_enter Try.func146, Try.ntmps146
  go_wp2
  go_loopw [10] (fun v10 wr => ∃ i : Nat, i ≤ k ∧ v10 = .int .i64 i ∧ Hid (RowT wr B g n c (swR P A M D S i)) ∧ Hid (Chg g (g + 1) w wr)) (fun v10 _ => k - (intOf v10).toNat)
  case atStart => exact ⟨0, Nat.zero_le _, rfl, by rw [swR_zero]; exact HO.out, Chg.refl _ _ _⟩
  case round =>
    obtain ⟨i, hi, rfl, HR, HC⟩ := hrel
    by_cases hlt : i < k
    · have HNow := Lib.hid (show RowT wr B g n c ((P ++ D.take i) ++ ([gs A i] ++ ((A.drop (i + 1) ++ (M ++ A.take i)) ++ ([gs D i] ++ (D.drop (i + 1) ++ S))))) by rw [← swR_now HAl.out HDl.out hlt]; exact HR.out)
      have e1 : a + i = (P ++ D.take i).length := by have := HA.out; have := HDl.out; simp only [List.length_append, List.length_take]; omega
      have e2 : b + i = (P ++ D.take i).length + 1 + (A.drop (i + 1) ++ (M ++ A.take i)).length := by
        have := HA.out; have := HB.out; have := HAl.out; have := HDl.out
        simp only [List.length_append, List.length_take, List.length_drop]; omega
      have g1 : gs ((P ++ D.take i) ++ ([gs A i] ++ ((A.drop (i + 1) ++ (M ++ A.take i)) ++ ([gs D i] ++ (D.drop (i + 1) ++ S))))) (a + i) = gs A i := gs_at _ _ _ e1
      have g2 : gs ((P ++ D.take i) ++ ([gs A i] ++ ((A.drop (i + 1) ++ (M ++ A.take i)) ++ ([gs D i] ++ (D.drop (i + 1) ++ S))))) (b + i) = gs D i := by
        have h := gs_at ((P ++ D.take i) ++ ([gs A i] ++ (A.drop (i + 1) ++ (M ++ A.take i)))) (D.drop (i + 1) ++ S) (gs D i) (i := b + i) (by rw [e2]; simp only [List.length_append, List.length_singleton]; omega)
        simpa only [List.append_assoc] using h
      have hk2 := HNow.out.swap e1 e2
      rw [swR_next HAl.out HDl.out hlt] at hk2
      obtain ⟨i1, c1, f1⟩ := HNow.out.ix (k := a + i) (by omega) ((a : Int) + (i : Int)) (by omega)
      obtain ⟨i2, c2, f2⟩ := HNow.out.ix (k := b + i) (by omega) ((b : Int) + (i : Int)) (by omega)
      rw [g1] at c1
      rw [g2] at c2
      have d1 := c1 wr (Ext.refl _)
      have d2 := c2 wr (Ext.refl _)
      have HK := Lib.hid hk2
      have hne : a + i ≠ b + i := by omega
      have hne' : b + i ≠ a + i := by omega
      clear g1 g2 e1 e2 hk2 c1 c2
      go_wp2_with fail
      go_region
      go_wp2
      exact ⟨⟨i + 1, hlt, by go_num, HK.out.ext ((Ext.refl _).drew), (chg_two HC.out).trans (Chg.ext ((Ext.refl _).drew) _ _)⟩, by simp [intOf]; omega⟩
    · obtain rfl : i = k := by omega
      go_wp2
      refine bodyPost_ret (v := .tuple #[]) (by simp [results, Try.results146, go_sem]) rfl ⟨rfl, ?_, HC.out⟩
      rw [← swR_full HAl.out HDl.out]; exact HR.out
/-! ### a turn: two neighbouring parts change places -/
set_option maxHeartbeats 2000000 in
theorem rotate_strs (B g n c : Nat) (P X Y S : List ByteArray) (a m b : Nat) (ha : a = P.length) (hm : m = P.length + X.length) (hb : b = P.length + X.length + Y.length) (hX : 0 < X.length) (hY : 0 < Y.length) (v : Value) (w : World)
    (ho : RowT w B g n c (P ++ (X ++ (Y ++ S)))) (hn : n ≤ 1048576) :
    Calls Try.prog 134 #[.slice (some ⟨g, 0, none⟩) n c, .int .i64 a, .int .i64 m, .int .i64 b, v] w (RetSw B g n c (P ++ (Y ++ (X ++ S))) w) := by
  have hl := ho.len
  simp only [List.length_append] at hl
  have HO := Lib.hid ho
  have HSw := Lib.hid (fun (P A M D S : List ByteArray) (a b k : Nat) (ha : a = P.length) (hb : b = P.length + k + M.length) (hA : A.length = k) (hD : D.length = k) (W : World) (h : RowT W B g n c (P ++ (A ++ (M ++ (D ++ S))))) => swapRange_strs B g n c P A M D S a b k ha hb hA hD v W h hn)
  obtain ⟨T, hT⟩ : ∃ T, T = P ++ (Y ++ (X ++ S)) := ⟨_, rfl⟩
  have HT := Lib.hid hT
  rw [← hT]
  obtain ⟨i0, hi0⟩ : ∃ i, i = X.length := ⟨_, rfl⟩
  obtain ⟨j0, hj0⟩ : ∃ j, j = Y.length := ⟨_, rfl⟩
  have hma : (m : Int) - (a : Int) = (i0 : Int) := by omega
  have hbm : (b : Int) - (m : Int) = (j0 : Int) := by omega
  have hbd : i0 ≤ m ∧ m + j0 ≤ n ∧ 0 < i0 ∧ 0 < j0 := by omega
  have HI0 := Lib.hid hi0
  have HJ0 := Lib.hid hj0
  have HM0 := Lib.hid (show P.length = m - i0 by omega)
  clear ho hl ha hm hb hT hi0 hj0 hX hY
  go_enter Try.func134, Try.ntmps134
  go_wp2
  go_loopw [10, 11] (fun v10 v11 wr => ∃ (i j : Nat), v10 = .int .i64 i ∧ v11 = .int .i64 j ∧ 0 < i ∧ 0 < j ∧ i ≤ m ∧ m + j ≤ n ∧ Hid (∃ P X Y S : List ByteArray, P.length = m - i ∧ X.length = i ∧ Y.length = j ∧ RowT wr B g n c (P ++ (X ++ (Y ++ S))) ∧ P ++ (Y ++ (X ++ S)) = T) ∧ Hid (Chg g (g + 1) w wr)) (fun v10 v11 _ => (intOf v10).toNat + (intOf v11).toNat)
  case atStart => exact ⟨i0, j0, rfl, rfl, by omega, by omega, by omega, by omega, ⟨P, X, Y, S, HM0.out, HI0.out.symm, HJ0.out.symm, HO.out, HT.out.symm⟩, Chg.refl _ _ _⟩
  case round =>
    clear hma hbm hbd HI0 HJ0 HM0 HO HT
    obtain ⟨i, j, rfl, rfl, hi, hj, him, hmj, HR, HC⟩ := hrel
    by_cases heq : i = j
    · subst heq
      have hS := Lib.hid (fun W (h : Ext wr W) => by
        obtain ⟨P, X, Y, S, h1, h2, h3, h4, h5⟩ := HR.out
        have hh := HSw.out P X [] Y S (m - i) m i h1.symm (by rw [h1]; simp; omega) h2 h3 W (by simpa using h4.ext h)
        rw [show ([] : List ByteArray) ++ (X ++ S) = X ++ S from rfl, h5, show ((m - i : Nat) : Int) = (m : Int) - (i : Int) by omega] at hh
        exact hh)
      go_wp2_with ((with_reducible refine (hS.out _ (by repeat (first | (with_reducible exact Ext.refl _) | (with_reducible assumption) | (with_reducible refine Ext.drewN ?_ _) | (with_reducible refine Ext.drew ?_) | (with_reducible refine Ext.alloc ?_ _) | ((with_reducible refine Ext.setCell ?_ ?_ _); rotate_left; focus (first | (simp; done) | (simp; omega) | omega)) | (with_reducible refine Ext.trans ?_ (by with_reducible assumption))))).mono ?_); rintro e w1 ⟨rfl, ho1, hc1⟩)
      exact bodyPost_ret (v := .tuple #[]) (by simp [results, Try.results134, go_sem]) rfl ⟨rfl, ho1, HC.out.trans hc1⟩
    · by_cases hlt : j < i
      · have hS := Lib.hid (fun W (h : Ext wr W) => by
          obtain ⟨P, X, Y, S, h1, h2, h3, h4, h5⟩ := HR.out
          have hh := HSw.out P (X.take j) (X.drop j) Y S (m - i) m j h1.symm (by rw [h1, List.length_drop]; omega) (by rw [List.length_take]; omega) h3 W (by rw [← List.append_assoc (X.take j), List.take_append_drop]; exact h4.ext h)
          rw [show ((m - i : Nat) : Int) = (m : Int) - (i : Int) by omega] at hh
          exact hh.mono fun e w' hr => show e = .returned (.tuple #[]) ∧ (∃ P X Y S : List ByteArray, P.length = m - (i - j) ∧ X.length = i - j ∧ Y.length = j ∧ RowT w' B g n c (P ++ (X ++ (Y ++ S))) ∧ P ++ (Y ++ (X ++ S)) = T) ∧ Chg g (g + 1) W w' from
            ⟨hr.1, ⟨P ++ Y, X.drop j, X.take j, S, by rw [List.length_append]; omega, by rw [List.length_drop]; omega, by rw [List.length_take]; omega, by rw [List.append_assoc]; exact hr.2.1, by rw [← h5, ← List.append_assoc (X.take j), List.take_append_drop, List.append_assoc]⟩, hr.2.2⟩)
        have hij : (i : Int) - (j : Int) = ((i - j : Nat) : Int) := by omega
        go_wp2_with ((with_reducible refine (hS.out _ (by repeat (first | (with_reducible exact Ext.refl _) | (with_reducible assumption) | (with_reducible refine Ext.drewN ?_ _) | (with_reducible refine Ext.drew ?_) | (with_reducible refine Ext.alloc ?_ _) | ((with_reducible refine Ext.setCell ?_ ?_ _); rotate_left; focus (first | (simp; done) | (simp; omega) | omega)) | (with_reducible refine Ext.trans ?_ (by with_reducible assumption))))).mono ?_); rintro e w1 ⟨rfl, ho1, hc1⟩)
        exact ⟨⟨i - j, j, by rw [← hij], rfl, by omega, hj, by omega, hmj, ho1, HC.out.trans hc1⟩, by simp [intOf]; omega⟩
      · have hS := Lib.hid (fun W (h : Ext wr W) => by
          obtain ⟨P, X, Y, S, h1, h2, h3, h4, h5⟩ := HR.out
          have hh := HSw.out P X (Y.take (j - i)) (Y.drop (j - i)) S (m - i) (m + j - i) i h1.symm (by rw [h1, List.length_take]; omega) h2 (by rw [List.length_drop]; omega) W (by rw [← List.append_assoc (Y.take (j - i)), List.take_append_drop]; exact h4.ext h)
          rw [show ((m - i : Nat) : Int) = (m : Int) - (i : Int) by omega, show ((m + j - i : Nat) : Int) = (m : Int) + (j : Int) - (i : Int) by omega] at hh
          exact hh.mono fun e w' hr => show e = .returned (.tuple #[]) ∧ (∃ P X Y S : List ByteArray, P.length = m - i ∧ X.length = i ∧ Y.length = j - i ∧ RowT w' B g n c (P ++ (X ++ (Y ++ S))) ∧ P ++ (Y ++ (X ++ S)) = T) ∧ Chg g (g + 1) W w' from
            ⟨hr.1, ⟨P, Y.drop (j - i), Y.take (j - i), X ++ S, h1, by rw [List.length_drop]; omega, by rw [List.length_take]; omega, hr.2.1, by rw [← h5, ← List.append_assoc (Y.take (j - i)), List.take_append_drop]⟩, hr.2.2⟩)
        have hij : (j : Int) - (i : Int) = ((j - i : Nat) : Int) := by omega
        go_wp2_with ((with_reducible refine (hS.out _ (by repeat (first | (with_reducible exact Ext.refl _) | (with_reducible assumption) | (with_reducible refine Ext.drewN ?_ _) | (with_reducible refine Ext.drew ?_) | (with_reducible refine Ext.alloc ?_ _) | ((with_reducible refine Ext.setCell ?_ ?_ _); rotate_left; focus (first | (simp; done) | (simp; omega) | omega)) | (with_reducible refine Ext.trans ?_ (by with_reducible assumption))))).mono ?_); rintro e w1 ⟨rfl, ho1, hc1⟩)
        exact ⟨⟨i, j - i, rfl, by rw [← hij], hi, by omega, him, by omega, ho1, HC.out.trans hc1⟩, by simp [intOf]; omega⟩
/-! ### one text into an ascending part -/
/-- a function that compares texts by a key -/
structure CmpK (key : ByteArray → Int) (Q : ByteArray → Prop) (fd : Nat) (caps : Array Value) (g : Nat) (w0 : World) : Prop where
  ed : ∀ args w', (callFunc fd args).run Try.prog w' = .ok (.enter fd args) w'
  cmp : ∀ x y, Q x → Q y → ∃ r : Int, (r < 0 ↔ key x < key y) ∧ ∀ W, Chg g (g + 1) w0 W → Calls Try.prog fd (#[.string x, .string y] ++ caps) W (Ret (.int .i64 r) W)
/-- nothing is returned; a part of a row has been put in order -/
def RetMg (key : ByteArray → Int) (B g n c : Nat) (P A S : List ByteArray) (w : World) (e : Ending) (w' : World) : Prop :=
  e = .returned (.tuple #[]) ∧ (∃ C : List ByteArray, C.Perm A ∧ ascR key C ∧ RowT w' B g n c (P ++ (C ++ S))) ∧ Chg g (g + 1) w w'
theorem chg_ext {g : Nat} {w w' w'' : World} (h : Chg g (g + 1) w w') (k : Ext w' w'') : Chg g (g + 1) w w'' := h.trans (Chg.ext k _ _)
theorem gs_part {P A S : List ByteArray} {k i : Nat} (hk : k = P.length + i) (hi : i < A.length) : gs (P ++ (A ++ S)) k = gs A i := gs_mid hk hi
set_option maxHeartbeats 8000000 in
theorem insert_strs (key : ByteArray → Int) (Q : ByteArray → Prop) (fd : Nat) (caps : Array Value) (B g n c : Nat) (w0 : World) (hcmp : CmpK key Q fd caps g w0) (P A S : List ByteArray) (a b : Nat) (ha : a = P.length) (hb : b = P.length + A.length) (w : World) (hw : Chg g (g + 1) w0 w)
    (ho : RowT w B g n c (P ++ (A ++ S))) (hn : n ≤ 1048576) (hA : ascS A) (hQ : ∀ x ∈ A, Q x) :
    Calls Try.prog 125 #[.slice (some ⟨g, 0, none⟩) n c, .int .i64 a, .int .i64 b, .func (.func fd) #[] caps] w (RetMg key B g n c P A S w) := by
  have hl := ho.len
  simp only [List.length_append] at hl
  have HO := Lib.hid ho
  have HCmp := Lib.hid hcmp.cmp
  have hed := hcmp.ed
  have HA := Lib.hid hA
  have HQ := Lib.hid hQ
  have HW := Lib.hid hw
  have hb1 : a ≤ b ∧ b ≤ n := by omega
  have HPa := Lib.hid ha
  obtain ⟨m, hm⟩ : ∃ m, m = A.length := ⟨_, rfl⟩
  have HM := Lib.hid hm
  have hbm : b = a + m := by omega
  have HBM := Lib.hid hbm
  clear hbm ho hA hQ hw ha hb hm hl hcmp
  go_enter Try.func125, Try.ntmps125
  go_wp2_with fail
  by_cases hm0 : m = 0
  · have hlt0 : ¬ ((a : Int) + 1 < (b : Int)) := by have := HBM.out; omega
    subst hm0
    have hA0 : A = [] := List.eq_nil_of_length_eq_zero HM.out.symm
    have HZ := Lib.hid hA0
    clear hA0
    go_loopw [8] (fun v8 wr => v8 = .int .i64 ((a : Int) + 1) ∧ Hid (wr = w)) (fun _ _ => 0)
    case atStart => exact ⟨rfl, rfl⟩
    case round =>
      obtain ⟨rfl, HE⟩ := hrel
      go_wp2_with fail
      refine bodyPost_ret (v := .tuple #[]) (by simp [results, Try.results125, go_sem]) rfl ⟨rfl, ⟨[], by rw [HZ.out], List.Pairwise.nil, ?_⟩, ?_⟩
      · rw [HE.out]; have h := HO.out; rw [HZ.out] at h; exact h
      · rw [HE.out]; exact Chg.refl _ _ _
  go_loopw [8] (fun v8 wr => ∃ k : Nat, 1 ≤ k ∧ k ≤ m ∧ v8 = .int .i64 ((a : Int) + (k : Int)) ∧ Hid (∃ C : List ByteArray, C.Perm (A.take k) ∧ ascR key C ∧ RowT wr B g n c (P ++ (C ++ (A.drop k ++ S)))) ∧ Hid (Chg g (g + 1) w wr)) (fun v8 _ => b - (intOf v8).toNat)
  case atStart =>
    refine ⟨1, Nat.le_refl _, by omega, rfl, ⟨A.take 1, List.Perm.refl _, ?_, ?_⟩, Chg.refl _ _ _⟩
    · unfold ascR
      have h1 : (A.take 1).length = 1 := by rw [List.length_take, ← HM.out]; omega
      obtain ⟨x, hx⟩ := List.length_eq_one_iff.1 h1
      rw [hx]; exact List.pairwise_singleton _ _
    · rw [← List.append_assoc (A.take 1), List.take_append_drop]; exact HO.out
  case round =>
    clear HO
    obtain ⟨k, hk1, hkm, rfl, HR, HC⟩ := hrel
    have hbm := HBM.out
    by_cases hlt : k < m
    · obtain ⟨C, hperm, hasc, hrow⟩ := HR.out
      have HPerm := Lib.hid hperm
      have HAsc := Lib.hid hasc
      have HCl := Lib.hid (show C.length = k by rw [hperm.length_eq, List.length_take, ← HM.out]; omega)
      have HRow := Lib.hid (show RowT wr B g n c (P ++ (C.take k ++ ([gs A k] ++ (C.drop k ++ (A.drop (k + 1) ++ S))))) by
        rw [drop_consS (l := A) (k := k) (by rw [← HM.out]; exact hlt)] at hrow
        rw [List.take_of_length_le (by rw [HCl.out]; exact Nat.le_refl _), List.drop_eq_nil_of_le (by rw [HCl.out]; exact Nat.le_refl _), List.nil_append]
        rw [List.append_assoc] at hrow; exact hrow)
      have hkb : (a : Int) + (k : Int) < (b : Int) := by omega
      clear hperm hasc hrow HR hbm
      go_wp2_with fail
      rename World => wo
      go_loopw [9] (fun v9 wr => ∃ j : Nat, j ≤ k ∧ v9 = .int .i64 ((a : Int) + (j : Int)) ∧ Hid (RowT wr B g n c (P ++ (C.take j ++ ([gs A k] ++ (C.drop j ++ (A.drop (k + 1) ++ S)))))) ∧ Hid (∀ t, j ≤ t → t < k → key (gs A k) < key (gs C t)) ∧ Hid (Chg g (g + 1) w wr)) (fun v9 _ => (intOf v9).toNat)
      case atStart => exact ⟨k, Nat.le_refl _, rfl, HRow.out, fun t h1 h2 => by omega, HC.out⟩
      case round =>
        clear HRow HC
        obtain ⟨j, hjk, rfl, HRow, HGt, HC⟩ := hrel
        have HRet := Lib.hid (fun (h : 0 < j → ¬ key (gs A k) < key (gs C (j - 1))) W (hx : Ext wr W) => show (∃ C' : List ByteArray, C'.Perm (A.take (k + 1)) ∧ ascR key C' ∧ RowT W B g n c (P ++ (C' ++ (A.drop (k + 1) ++ S)))) ∧ Chg g (g + 1) w W from by
          have hkA : k < A.length := by rw [← HM.out]; exact hlt
          have hb : bef C [gs A k] := fun u hu v hv => by
            rw [List.mem_singleton] at hv; subst hv
            obtain ⟨i, h1, h2, rfl⟩ := take_drop_mem.1.1 ((HPerm.out.mem_iff).1 hu)
            rw [gs_get h2, gs_get hkA]
            exact List.pairwise_iff_getElem.1 HA.out i k h2 hkA h1
          have hmg := mg_last (key := key) HAsc.out hb (s := j) (by rw [HCl.out]; exact hjk) h (fun hj => HGt.out j (Nat.le_refl _) (by rw [← HCl.out]; exact hj))
          refine ⟨⟨C.take j ++ [gs A k] ++ C.drop j, ?_, hmg.2, ?_⟩, chg_ext HC.out hx⟩
          · rw [take_snocS hkA]
            exact hmg.1.trans (List.Perm.append_right _ HPerm.out)
          · have h2 := HRow.out.ext hx
            simpa only [List.append_assoc] using h2)
        have HPad := HPa.out
        have HCl2 := HCl.out
        have hlenT : (C.take j).length = j := by rw [List.length_take]; omega
        obtain ⟨ia, ca, fa⟩ := HRow.out.ix (k := a + j) (by omega) ((a : Int) + (j : Int)) (by omega)
        rw [show gs (P ++ (C.take j ++ ([gs A k] ++ (C.drop j ++ (A.drop (k + 1) ++ S))))) (a + j) = gs A k by
          have h := gs_at (P ++ C.take j) (C.drop j ++ (A.drop (k + 1) ++ S)) (gs A k) (i := a + j) (by rw [List.length_append, hlenT, HPad])
          rwa [List.append_assoc] at h] at ca
        have hQx : Q (gs A k) := HQ.out _ (by rw [gs_get (by rw [← HM.out]; exact hlt)]; exact List.getElem_mem _)
        have hxr : Chg g (g + 1) w0 wr := HW.out.trans HC.out
        have hbm := HBM.out
        by_cases hj : 0 < j
        · obtain ⟨j', hj'⟩ : ∃ j', j = j' + 1 := ⟨j - 1, by omega⟩
          have hjC : j' < C.length := by omega
          have e1 : C.take j = C.take j' ++ [gs C j'] := by rw [hj']; exact take_snocS hjC
          have HRow1 := Lib.hid (show RowT wr B g n c ((P ++ C.take j') ++ ([gs C j'] ++ ([] ++ ([gs A k] ++ (C.drop j ++ (A.drop (k + 1) ++ S)))))) by
            have h := HRow.out
            rw [e1] at h
            simpa only [List.append_assoc, List.nil_append] using h)
          have hlenT' : (P ++ C.take j').length = a + j' := by rw [List.length_append, List.length_take]; omega
          obtain ⟨ib, cb, fb⟩ := HRow1.out.ix (k := a + j') (by omega) ((a : Int) + (j : Int) - 1) (by omega)
          rw [gs_at _ _ _ hlenT'.symm] at cb
          have HSw := Lib.hid (fun W (hx : Ext wr W) => show RowT ((W.setCell ⟨g, a + j, none⟩ (.string (gs C j'))).setCell ⟨g, a + j', none⟩ (.string (gs A k))) B g n c (P ++ (C.take j' ++ ([gs A k] ++ (C.drop j' ++ (A.drop (k + 1) ++ S))))) from by
            have hsw := (HRow1.out.ext hx).swap' (i := a + j') (j := a + j) hlenT'.symm (by rw [hlenT']; simp; omega)
            rw [drop_consS hjC, ← hj']
            simpa only [List.append_assoc, List.nil_append] using hsw)
          have HFz := Lib.hid (fun W (hx : Ext wr W) => And.intro ((HRow.out.ext hx).ix (k := a + j) (by omega) ((a : Int) + (j : Int)) (by omega)).2.2 ((HRow1.out.ext hx).ix (k := a + j') (by omega) ((a : Int) + (j : Int) - 1) (by omega)).2.2)
          have hQy : Q (gs C j') := HQ.out _ (List.mem_of_mem_take ((HPerm.out.mem_iff).1 (by rw [gs_get hjC]; exact List.getElem_mem _)))
          obtain ⟨r, hr, hcall⟩ := HCmp.out (gs A k) (gs C j') hQx hQy
          have HCall := Lib.hid (fun W (h : Ext wr W) => hcall W (chg_ext hxr h))
          have HR := Lib.hid hr
          have HJ := Lib.hid hj'
          have hne : a + j ≠ a + j' := by omega
          have hne' : a + j' ≠ a + j := by omega
          clear hcall hr e1 hj' hbm HPad HCl2 hlenT hlenT'
          have da := ca wr (Ext.refl _)
          have db := cb wr (Ext.refl _)
          have hwr : Ext wr wr := Ext.refl _
          have hjz : decide ((a : Int) < (a : Int) + (j : Int)) = true := decide_eq_true (by omega)
          by_cases hrk : r < 0
          · have HLt := Lib.hid (HR.out.1 hrk)
            clear HRet
            go_wp2_with fail
            (refine wp_region_from wr (by repeat (first | (with_reducible exact Ext.refl _) | (with_reducible refine Ext.drewN ?_ _) | (with_reducible refine Ext.drew ?_) | (with_reducible refine Ext.alloc ?_ _) | ((with_reducible refine Ext.setCell ?_ ?_ _); rotate_left; focus (first | (simp; done) | (simp; omega) | omega)) | assumption | (with_reducible refine Ext.trans ?_ (by assumption)))) (by kernel_rfl) (by kernel_rfl) (by kernel_rfl) ?_; (repeat (first | (refine mix_q rfl ?_; go_big_quiet_step (fail); refine wpQuiet_nil ?_; show wpMix _ _ _ _ _ _ _) | (refine mix_s rfl ?_; go_wp2_with (((with_reducible refine (HCall.out _ (by repeat (first | (with_reducible exact Ext.refl _) | (with_reducible assumption) | (with_reducible refine Ext.drewN ?_ _) | (with_reducible refine Ext.drew ?_) | (with_reducible refine Ext.alloc ?_ _) | ((with_reducible refine Ext.setCell ?_ ?_ _); rotate_left; focus (first | (simp; done) | (simp; omega) | omega)) | (with_reducible refine Ext.trans ?_ (by with_reducible assumption))))).mono ?_); rintro e w5 ⟨rfl, hy5⟩; have hx5 : Ext wr w5 := Ext.trans (by repeat (first | (with_reducible exact Ext.refl _) | (with_reducible assumption) | (with_reducible refine Ext.drewN ?_ _) | (with_reducible refine Ext.drew ?_) | (with_reducible refine Ext.alloc ?_ _) | ((with_reducible refine Ext.setCell ?_ ?_ _); rotate_left; focus (first | (simp; done) | (simp; omega) | omega)) | (with_reducible refine Ext.trans ?_ (by with_reducible assumption)))) hy5; clear hy5)); first | refine ⟨up_of (by repeat (first | (with_reducible exact Ext.refl _) | (with_reducible refine Ext.drewN ?_ _) | (with_reducible refine Ext.drew ?_) | (with_reducible refine Ext.alloc ?_ _) | ((with_reducible refine Ext.setCell ?_ ?_ _); rotate_left; focus (first | (simp; done) | (simp; omega) | omega)) | assumption | (with_reducible refine Ext.trans ?_ (by assumption)))), ?_⟩ | refine ⟨rfl, rfl, up_of (by repeat (first | (with_reducible exact Ext.refl _) | (with_reducible refine Ext.drewN ?_ _) | (with_reducible refine Ext.drew ?_) | (with_reducible refine Ext.alloc ?_ _) | ((with_reducible refine Ext.setCell ?_ ?_ _); rotate_left; focus (first | (simp; done) | (simp; omega) | omega)) | assumption | (with_reducible refine Ext.trans ?_ (by assumption)))), ?_⟩))); refine mix_nil ?_)
            go_wp2_with fail
            have da5 := ca w5 hx5
            have db5 := cb w5 hx5
            obtain ⟨fa5, fb5⟩ := HFz.out w5 hx5
            have HSw5 := Lib.hid (HSw.out w5 hx5)
            clear da db
            go_region
            go_wp2
            refine ⟨⟨j', by have := HJ.out; omega, by have := HJ.out; congr 1; omega, HSw5.out.ext (Ext.refl _).drew, fun t h1 h2 => ?_, (chg_two (chg_ext HC.out hx5)).trans (Chg.ext (Ext.refl _).drew _ _)⟩, by have := HJ.out; simp [intOf]; omega⟩
            by_cases e : t = j'
            · subst e; exact HLt.out
            · exact HGt.out t (by have := HJ.out; omega) h2
          · have HGe := Lib.hid (HRet.out (fun _ h => hrk (HR.out.2 (by have e := HJ.out; rw [e, Nat.add_sub_cancel] at h; exact h))))
            clear HRet
            go_wp2_with fail
            (refine wp_region_from wr (by repeat (first | (with_reducible exact Ext.refl _) | (with_reducible refine Ext.drewN ?_ _) | (with_reducible refine Ext.drew ?_) | (with_reducible refine Ext.alloc ?_ _) | ((with_reducible refine Ext.setCell ?_ ?_ _); rotate_left; focus (first | (simp; done) | (simp; omega) | omega)) | assumption | (with_reducible refine Ext.trans ?_ (by assumption)))) (by kernel_rfl) (by kernel_rfl) (by kernel_rfl) ?_; (repeat (first | (refine mix_q rfl ?_; go_big_quiet_step (fail); refine wpQuiet_nil ?_; show wpMix _ _ _ _ _ _ _) | (refine mix_s rfl ?_; go_wp2_with (((with_reducible refine (HCall.out _ (by repeat (first | (with_reducible exact Ext.refl _) | (with_reducible assumption) | (with_reducible refine Ext.drewN ?_ _) | (with_reducible refine Ext.drew ?_) | (with_reducible refine Ext.alloc ?_ _) | ((with_reducible refine Ext.setCell ?_ ?_ _); rotate_left; focus (first | (simp; done) | (simp; omega) | omega)) | (with_reducible refine Ext.trans ?_ (by with_reducible assumption))))).mono ?_); rintro e w5 ⟨rfl, hy5⟩; have hx5 : Ext wr w5 := Ext.trans (by repeat (first | (with_reducible exact Ext.refl _) | (with_reducible assumption) | (with_reducible refine Ext.drewN ?_ _) | (with_reducible refine Ext.drew ?_) | (with_reducible refine Ext.alloc ?_ _) | ((with_reducible refine Ext.setCell ?_ ?_ _); rotate_left; focus (first | (simp; done) | (simp; omega) | omega)) | (with_reducible refine Ext.trans ?_ (by with_reducible assumption)))) hy5; clear hy5)); first | refine ⟨up_of (by repeat (first | (with_reducible exact Ext.refl _) | (with_reducible refine Ext.drewN ?_ _) | (with_reducible refine Ext.drew ?_) | (with_reducible refine Ext.alloc ?_ _) | ((with_reducible refine Ext.setCell ?_ ?_ _); rotate_left; focus (first | (simp; done) | (simp; omega) | omega)) | assumption | (with_reducible refine Ext.trans ?_ (by assumption)))), ?_⟩ | refine ⟨rfl, rfl, up_of (by repeat (first | (with_reducible exact Ext.refl _) | (with_reducible refine Ext.drewN ?_ _) | (with_reducible refine Ext.drew ?_) | (with_reducible refine Ext.alloc ?_ _) | ((with_reducible refine Ext.setCell ?_ ?_ _); rotate_left; focus (first | (simp; done) | (simp; omega) | omega)) | assumption | (with_reducible refine Ext.trans ?_ (by assumption)))), ?_⟩))); refine mix_nil ?_)
            have HG5 := Lib.hid (HGe.out w5 hx5)
            go_wp2_with fail
            exact ⟨⟨k + 1, by omega, by omega, by go_num, HG5.out.1, HG5.out.2⟩, by simp [intOf]; omega⟩
        · obtain rfl : j = 0 := by omega
          have hret := HRet.out (fun h => absurd h (Nat.lt_irrefl 0)) wr.drew (Ext.refl _).drew
          have HRt := Lib.hid hret
          clear hret HRet hbm HPad HCl2 hlenT
          go_wp2_with fail
          (refine wp_region_from wr (by repeat (first | (with_reducible exact Ext.refl _) | (with_reducible refine Ext.drewN ?_ _) | (with_reducible refine Ext.drew ?_) | (with_reducible refine Ext.alloc ?_ _) | ((with_reducible refine Ext.setCell ?_ ?_ _); rotate_left; focus (first | (simp; done) | (simp; omega) | omega)) | assumption | (with_reducible refine Ext.trans ?_ (by assumption)))) (by kernel_rfl) (by kernel_rfl) (by kernel_rfl) ?_; (repeat (first | (refine mix_q rfl ?_; go_big_quiet_step (fail); refine wpQuiet_nil ?_; show wpMix _ _ _ _ _ _ _) | (refine mix_s rfl ?_; go_wp2_with (fail); first | refine ⟨up_of (by repeat (first | (with_reducible exact Ext.refl _) | (with_reducible refine Ext.drewN ?_ _) | (with_reducible refine Ext.drew ?_) | (with_reducible refine Ext.alloc ?_ _) | ((with_reducible refine Ext.setCell ?_ ?_ _); rotate_left; focus (first | (simp; done) | (simp; omega) | omega)) | assumption | (with_reducible refine Ext.trans ?_ (by assumption)))), ?_⟩ | refine ⟨rfl, rfl, up_of (by repeat (first | (with_reducible exact Ext.refl _) | (with_reducible refine Ext.drewN ?_ _) | (with_reducible refine Ext.drew ?_) | (with_reducible refine Ext.alloc ?_ _) | ((with_reducible refine Ext.setCell ?_ ?_ _); rotate_left; focus (first | (simp; done) | (simp; omega) | omega)) | assumption | (with_reducible refine Ext.trans ?_ (by assumption)))), ?_⟩))); refine mix_nil ?_)
          go_wp2_with fail
          exact ⟨⟨k + 1, by omega, by omega, by go_num, HRt.out.1, HRt.out.2⟩, by simp [intOf]; omega⟩
    · obtain rfl : k = m := by omega
      obtain ⟨C, hperm, hasc, hrow⟩ := HR.out
      have HFin := Lib.hid (show RetMg key B g n c P A S w (.returned (.tuple #[])) wr from ⟨rfl, ⟨C, by rw [HM.out, List.take_of_length_le (Nat.le_refl _)] at hperm; exact hperm, hasc, by rw [HM.out, List.drop_eq_nil_of_le (Nat.le_refl _), List.nil_append] at hrow; exact hrow⟩, HC.out⟩)
      clear hperm hasc hrow HR
      go_wp2_with fail
      exact bodyPost_ret (v := .tuple #[]) (by simp [results, Try.results125, go_sem]) rfl HFin.out
end Go.Proofs.Ytbcfbkhbangeoaa

/- Walks: slices.symMergeCmpFunc and slices.SortStableFunc at texts. -/
namespace Go.Proofs.Ytbcfbkhbangeoaa
set_option maxRecDepth 100000
open Go.RowKit

theorem ret_mg {key : ByteArray → Int} {B g n c : Nat} {P A D S C : List ByteArray} {w w' : World} (h : IsMg key A D C) (hr : RowT w' B g n c (P ++ (C ++ S))) (hc : Chg g (g + 1) w w') : RetMg key B g n c P (A ++ D) S w (.returned (.tuple #[])) w' := ⟨rfl, ⟨C, h.1, h.2, hr⟩, hc⟩
set_option maxHeartbeats 8000000 in
/-- one text ahead of an ascending part -/
theorem merge_first (key : ByteArray → Int) (Q : ByteArray → Prop) (fd : Nat) (caps : Array Value) (B g n c : Nat) (w0 : World) (hcmp : CmpK key Q fd caps g w0) (P D S : List ByteArray) (x : ByteArray) (a m b : Nat) (w : World) (hD0 : 0 < D.length)
    (ha : a = P.length) (hm : m = a + 1) (hb : b = m + D.length) (hw : Chg g (g + 1) w0 w) (ho : RowT w B g n c (P ++ ([x] ++ (D ++ S)))) (hn : n ≤ 1048576) (hasc : ascR key D) (hbef : bef [x] D) (hQx : Q x) (hQ : ∀ y ∈ D, Q y) :
    Calls Try.prog 126 #[.slice (some ⟨g, 0, none⟩) n c, .int .i64 a, .int .i64 m, .int .i64 b, .func (.func fd) #[] caps] w (RetMg key B g n c P ([x] ++ D) S w) := by
  have hl := ho.len
  simp only [List.length_append, List.length_singleton] at hl
  have HO := Lib.hid ho
  have HCmp := Lib.hid hcmp.cmp
  have hed := hcmp.ed
  have HQ := Lib.hid hQ
  have HQx := Lib.hid hQx
  have HW := Lib.hid hw
  have HAsc := Lib.hid hasc
  have HBef := Lib.hid hbef
  have HPa := Lib.hid ha
  obtain ⟨ld, hld⟩ : ∃ k, k = D.length := ⟨_, rfl⟩
  have HLd := Lib.hid hld
  have HB := Lib.hid (show m = a + 1 ∧ b = m + ld ∧ b ≤ n ∧ 0 < ld by omega)
  have hma : (m : Int) - (a : Int) = 1 := by omega
  have hb20 : b ≤ 1048576 := by have := HB.out; omega
  clear ho hQ hQx hw hasc hbef ha hm hb hl hcmp hld hD0
  go_enter Try.func126, Try.ntmps126
  go_wp2_with fail
  try rw [hma]
  clear hma
  go_wp2_with fail
  go_loopw [10, 11] (fun v10 v11 wr => ∃ i j : Nat, v10 = .int .i64 i ∧ v11 = .int .i64 j ∧ m ≤ i ∧ i ≤ j ∧ j ≤ b ∧ Hid (∀ t, m + t < i → key (gs D t) < key x) ∧ Hid (∀ t, j ≤ m + t → t < ld → key x ≤ key (gs D t)) ∧ Ext w wr) (fun v10 v11 _ => (intOf v11).toNat - (intOf v10).toNat)
  case atStart => exact ⟨m, b, rfl, rfl, Nat.le_refl _, by have := HB.out; omega, Nat.le_refl _, fun t h => by omega, fun t h1 h2 => by have := HB.out; omega, Ext.refl _⟩
  case round =>
    obtain ⟨i, j, rfl, rfl, hi, hij, hjb, HL, HG, hxr⟩ := hrel
    have hbb := HB.out
    by_cases hlt : i < j
    · obtain ⟨h, hh⟩ : ∃ h, h = (i + j) / 2 := ⟨_, rfl⟩
      have hhi : ((i : Int) + (j : Int)) / 2 = (h : Int) := by omega
      have hhb : i ≤ h ∧ h < j := by omega
      obtain ⟨t, ht⟩ : ∃ t, h = m + t := ⟨h - m, by omega⟩
      have HT := Lib.hid ht
      have htl : t < D.length := by have := HLd.out; omega
      have hPa := HPa.out
      obtain ⟨i1, c1, _⟩ := (HO.out.ext hxr).ix (k := h) (by omega) (h : Int) rfl
      obtain ⟨i2, c2, _⟩ := (HO.out.ext hxr).ix (k := a) (by omega) (a : Int) rfl
      rw [gs_at P (D ++ S) x hPa] at c2
      rw [show gs (P ++ ([x] ++ (D ++ S))) h = gs D t by
        have h1 := gs_part (P := P ++ [x]) (A := D) (S := S) (k := h) (i := t) (by rw [List.length_append, List.length_singleton]; omega) htl
        rwa [List.append_assoc] at h1] at c1
      have hm1 : gs D t ∈ D := by rw [gs_get htl]; exact List.getElem_mem htl
      obtain ⟨r, hr, hcall⟩ := HCmp.out (gs D t) x (HQ.out _ hm1) HQx.out
      have HCall := Lib.hid (fun W (h : Ext wr W) => hcall W (chg_ext (chg_ext HW.out hxr) h))
      have HR := Lib.hid hr
      clear hh ht hPa hcall hr hm1 hbb
      have hwr : Ext wr wr := Ext.refl _
      by_cases hrk : r < 0
      · have HLt := Lib.hid (HR.out.1 hrk)
        go_wp2_with fail
        (try rw [hhi])
        clear hhi
        (refine wp_region_from wr (by repeat (first | (with_reducible exact Ext.refl _) | (with_reducible refine Ext.drewN ?_ _) | (with_reducible refine Ext.drew ?_) | (with_reducible refine Ext.alloc ?_ _) | ((with_reducible refine Ext.setCell ?_ ?_ _); rotate_left; focus (first | (simp; done) | (simp; omega) | omega)) | assumption | (with_reducible refine Ext.trans ?_ (by assumption)))) (by kernel_rfl) (by kernel_rfl) (by kernel_rfl) ?_; (repeat (first | (refine mix_q rfl ?_; go_big_quiet_step (fail); refine wpQuiet_nil ?_; show wpMix _ _ _ _ _ _ _) | (refine mix_s rfl ?_; go_wp2_with (((with_reducible refine (HCall.out _ (by repeat (first | (with_reducible exact Ext.refl _) | (with_reducible assumption) | (with_reducible refine Ext.drewN ?_ _) | (with_reducible refine Ext.drew ?_) | (with_reducible refine Ext.alloc ?_ _) | ((with_reducible refine Ext.setCell ?_ ?_ _); rotate_left; focus (first | (simp; done) | (simp; omega) | omega)) | (with_reducible refine Ext.trans ?_ (by with_reducible assumption))))).mono ?_); rintro e w5 ⟨rfl, hy5⟩; have hx5 : Ext wr w5 := Ext.trans (by repeat (first | (with_reducible exact Ext.refl _) | (with_reducible assumption) | (with_reducible refine Ext.drewN ?_ _) | (with_reducible refine Ext.drew ?_) | (with_reducible refine Ext.alloc ?_ _) | ((with_reducible refine Ext.setCell ?_ ?_ _); rotate_left; focus (first | (simp; done) | (simp; omega) | omega)) | (with_reducible refine Ext.trans ?_ (by with_reducible assumption)))) hy5; clear hy5)); first | refine ⟨up_of (by repeat (first | (with_reducible exact Ext.refl _) | (with_reducible refine Ext.drewN ?_ _) | (with_reducible refine Ext.drew ?_) | (with_reducible refine Ext.alloc ?_ _) | ((with_reducible refine Ext.setCell ?_ ?_ _); rotate_left; focus (first | (simp; done) | (simp; omega) | omega)) | assumption | (with_reducible refine Ext.trans ?_ (by assumption)))), ?_⟩ | refine ⟨rfl, rfl, up_of (by repeat (first | (with_reducible exact Ext.refl _) | (with_reducible refine Ext.drewN ?_ _) | (with_reducible refine Ext.drew ?_) | (with_reducible refine Ext.alloc ?_ _) | ((with_reducible refine Ext.setCell ?_ ?_ _); rotate_left; focus (first | (simp; done) | (simp; omega) | omega)) | assumption | (with_reducible refine Ext.trans ?_ (by assumption)))), ?_⟩))); refine mix_nil ?_)
        go_wp2_with fail
        refine ⟨⟨h + 1, j, by go_num, rfl, by omega, by omega, hjb, fun u hu => ?_, HG.out, hxr.trans hx5⟩, by simp [intOf]; omega⟩
        have h1 := HAsc.out.le (i := u) (j := t) (by have := HT.out; omega) (by have := HT.out; have := HLd.out; have := HB.out; omega)
        have := HLt.out
        omega
      · have HGe := Lib.hid (show key x ≤ key (gs D t) from Int.not_lt.1 fun h => hrk (HR.out.2 h))
        go_wp2_with fail
        (try rw [hhi])
        clear hhi
        (refine wp_region_from wr (by repeat (first | (with_reducible exact Ext.refl _) | (with_reducible refine Ext.drewN ?_ _) | (with_reducible refine Ext.drew ?_) | (with_reducible refine Ext.alloc ?_ _) | ((with_reducible refine Ext.setCell ?_ ?_ _); rotate_left; focus (first | (simp; done) | (simp; omega) | omega)) | assumption | (with_reducible refine Ext.trans ?_ (by assumption)))) (by kernel_rfl) (by kernel_rfl) (by kernel_rfl) ?_; (repeat (first | (refine mix_q rfl ?_; go_big_quiet_step (fail); refine wpQuiet_nil ?_; show wpMix _ _ _ _ _ _ _) | (refine mix_s rfl ?_; go_wp2_with (((with_reducible refine (HCall.out _ (by repeat (first | (with_reducible exact Ext.refl _) | (with_reducible assumption) | (with_reducible refine Ext.drewN ?_ _) | (with_reducible refine Ext.drew ?_) | (with_reducible refine Ext.alloc ?_ _) | ((with_reducible refine Ext.setCell ?_ ?_ _); rotate_left; focus (first | (simp; done) | (simp; omega) | omega)) | (with_reducible refine Ext.trans ?_ (by with_reducible assumption))))).mono ?_); rintro e w5 ⟨rfl, hy5⟩; have hx5 : Ext wr w5 := Ext.trans (by repeat (first | (with_reducible exact Ext.refl _) | (with_reducible assumption) | (with_reducible refine Ext.drewN ?_ _) | (with_reducible refine Ext.drew ?_) | (with_reducible refine Ext.alloc ?_ _) | ((with_reducible refine Ext.setCell ?_ ?_ _); rotate_left; focus (first | (simp; done) | (simp; omega) | omega)) | (with_reducible refine Ext.trans ?_ (by with_reducible assumption)))) hy5; clear hy5)); first | refine ⟨up_of (by repeat (first | (with_reducible exact Ext.refl _) | (with_reducible refine Ext.drewN ?_ _) | (with_reducible refine Ext.drew ?_) | (with_reducible refine Ext.alloc ?_ _) | ((with_reducible refine Ext.setCell ?_ ?_ _); rotate_left; focus (first | (simp; done) | (simp; omega) | omega)) | assumption | (with_reducible refine Ext.trans ?_ (by assumption)))), ?_⟩ | refine ⟨rfl, rfl, up_of (by repeat (first | (with_reducible exact Ext.refl _) | (with_reducible refine Ext.drewN ?_ _) | (with_reducible refine Ext.drew ?_) | (with_reducible refine Ext.alloc ?_ _) | ((with_reducible refine Ext.setCell ?_ ?_ _); rotate_left; focus (first | (simp; done) | (simp; omega) | omega)) | assumption | (with_reducible refine Ext.trans ?_ (by assumption)))), ?_⟩))); refine mix_nil ?_)
        go_wp2_with fail
        refine ⟨⟨i, h, rfl, rfl, hi, by omega, by omega, HL.out, fun u hu hul => ?_, hxr.trans hx5⟩, by simp [intOf]; omega⟩
        have h1 := HAsc.out.le (i := t) (j := u) (by have := HT.out; omega) (by have := HLd.out; omega)
        have := HGe.out
        omega
    · obtain rfl : i = j := by omega
      obtain ⟨T, hT⟩ : ∃ T, i = m + T := ⟨i - m, by omega⟩
      have HT := Lib.hid hT
      have HMg := Lib.hid (mg_first (key := key) HAsc.out HBef.out (t := T) (by have := HLd.out; omega) (fun h => HL.out (T - 1) (by omega)) (fun h => Int.not_lt.2 (HG.out T (by omega) (by have := HLd.out; omega))))
      have hTi : (i : Int) - 1 = (a : Int) + (T : Int) := by omega
      clear hT hbb HL HG
      go_wp2_with fail
      rename World => wo
      go_loopw [13] (fun v13 wr => ∃ t : Nat, t ≤ T ∧ v13 = .int .i64 ((a : Int) + (t : Int)) ∧ Hid (RowT wr B g n c (P ++ (D.take t ++ ([x] ++ (D.drop t ++ S))))) ∧ Hid (Chg g (g + 1) w wr)) (fun v13 _ => i - (intOf v13).toNat)
      case atStart => exact ⟨0, Nat.zero_le _, by simp, (by simpa using HO.out.ext hxr : RowT wo B g n c (P ++ (D.take 0 ++ ([x] ++ (D.drop 0 ++ S))))), Chg.ext hxr _ _⟩
      case round =>
        obtain ⟨t, htT, rfl, HRow, HC⟩ := hrel
        by_cases hlt2 : t < T
        · have hbb := HB.out
          have hTT := HT.out
          have htl : t < D.length := by have := HLd.out; omega
          have HRow1 := Lib.hid (show RowT wr B g n c ((P ++ D.take t) ++ ([x] ++ ([] ++ ([gs D t] ++ (D.drop (t + 1) ++ S))))) by
            have h := HRow.out
            rw [drop_consS htl] at h
            simpa only [List.append_assoc, List.nil_append] using h)
          have hlenT : (P ++ D.take t).length = a + t := by have := HPa.out; rw [List.length_append, List.length_take]; omega
          obtain ⟨i1, c1, f1⟩ := HRow1.out.ix (k := a + t) (by omega) ((a : Int) + (t : Int)) (by omega)
          obtain ⟨i2, c2, f2⟩ := HRow1.out.ix (k := a + t + 1) (by omega) ((a : Int) + (t : Int) + 1) (by omega)
          rw [gs_at _ _ _ hlenT.symm] at c1
          rw [show gs ((P ++ D.take t) ++ ([x] ++ ([] ++ ([gs D t] ++ (D.drop (t + 1) ++ S))))) (a + t + 1) = gs D t by
            have h1 := gs_at ((P ++ D.take t) ++ [x]) (D.drop (t + 1) ++ S) (gs D t) (i := a + t + 1) (by rw [List.length_append, hlenT]; rfl)
            simpa only [List.append_assoc, List.nil_append] using h1] at c2
          have d1 := c1 wr (Ext.refl _)
          have d2 := c2 wr (Ext.refl _)
          have hsw := HRow1.out.swap (i := a + t) (j := a + t + 1) hlenT.symm (by rw [hlenT]; simp)
          have HSw := Lib.hid (show RowT ((wr.setCell ⟨g, a + t, none⟩ (.string (gs D t))).setCell ⟨g, a + t + 1, none⟩ (.string x)) B g n c (P ++ (D.take (t + 1) ++ ([x] ++ (D.drop (t + 1) ++ S)))) by
            rw [take_snocS htl]
            simpa only [List.append_assoc, List.nil_append] using hsw)
          have hne : a + t ≠ a + t + 1 := by omega
          have hne' : a + t + 1 ≠ a + t := by omega
          have hle : (a : Int) + (t : Int) < (i : Int) - 1 := by omega
          have hbd : a + t + 1 ≤ 1048576 ∧ i ≤ 1048576 := by omega
          clear hbb hTT hlenT hsw c1 c2 hTi
          go_wp2_with fail
          go_region
          go_wp2
          exact ⟨⟨t + 1, hlt2, by go_num, HSw.out.ext (Ext.refl _).drew, (chg_two HC.out).trans (Chg.ext (Ext.refl _).drew _ _)⟩, by have := HT.out; have := HB.out; simp [intOf]; omega⟩
        · obtain rfl : t = T := by omega
          have hle : ¬ (a : Int) + (t : Int) < (i : Int) - 1 := by omega
          have hbd : i ≤ 1048576 := by have := HB.out; omega
          have HFin := Lib.hid (ret_mg HMg.out (by have h := HRow.out; simpa only [List.append_assoc] using h) HC.out)
          clear hTi
          go_wp2_with fail

          exact bodyPost_ret (v := .tuple #[]) (by simp [results, Try.results126, go_sem]) rfl HFin.out
set_option maxHeartbeats 8000000 in
/-- one text behind an ascending part -/
theorem merge_last (key : ByteArray → Int) (Q : ByteArray → Prop) (fd : Nat) (caps : Array Value) (B g n c : Nat) (w0 : World) (hcmp : CmpK key Q fd caps g w0) (P A S : List ByteArray) (y : ByteArray) (a m b : Nat) (w : World) (hA0 : 1 < A.length)
    (ha : a = P.length) (hm : m = a + A.length) (hb : b = m + 1) (hw : Chg g (g + 1) w0 w) (ho : RowT w B g n c (P ++ (A ++ ([y] ++ S)))) (hn : n ≤ 1048576) (hasc : ascR key A) (hbef : bef A [y]) (hQy : Q y) (hQ : ∀ x ∈ A, Q x) :
    Calls Try.prog 126 #[.slice (some ⟨g, 0, none⟩) n c, .int .i64 a, .int .i64 m, .int .i64 b, .func (.func fd) #[] caps] w (RetMg key B g n c P (A ++ [y]) S w) := by
  have hl := ho.len
  simp only [List.length_append, List.length_singleton] at hl
  have HO := Lib.hid ho
  have HCmp := Lib.hid hcmp.cmp
  have hed := hcmp.ed
  have HQ := Lib.hid hQ
  have HQy := Lib.hid hQy
  have HW := Lib.hid hw
  have HAsc := Lib.hid hasc
  have HBef := Lib.hid hbef
  have HPa := Lib.hid ha
  obtain ⟨la, hla⟩ : ∃ k, k = A.length := ⟨_, rfl⟩
  have HLa := Lib.hid hla
  have HB := Lib.hid (show m = a + la ∧ b = m + 1 ∧ b ≤ n ∧ 1 < la by omega)
  have hq1 : ((m : Int) - (a : Int) == 1) = false := beq_eq_false_iff_ne.2 (by omega)
  have hq2 : ((b : Int) - (m : Int) == 1) = true := beq_iff_eq.2 (by omega)
  have hb20 : b ≤ 1048576 ∧ m ≤ 1048576 ∧ a ≤ 1048576 := by have := HB.out; omega
  clear ho hQ hQy hw hasc hbef ha hm hb hl hcmp hla hA0
  go_enter Try.func126, Try.ntmps126
  go_wp2_with fail
  go_loopw [14, 15] (fun v14 v15 wr => ∃ i j : Nat, v14 = .int .i64 i ∧ v15 = .int .i64 j ∧ a ≤ i ∧ i ≤ j ∧ j ≤ m ∧ Hid (∀ t, a + t < i → key (gs A t) ≤ key y) ∧ Hid (∀ t, j ≤ a + t → t < la → key y < key (gs A t)) ∧ Ext w wr) (fun v14 v15 _ => (intOf v15).toNat - (intOf v14).toNat)
  case atStart => exact ⟨a, m, rfl, rfl, Nat.le_refl _, by have := HB.out; omega, Nat.le_refl _, fun t h => by omega, fun t h1 h2 => by have := HB.out; omega, Ext.refl _⟩
  case round =>
    obtain ⟨i, j, rfl, rfl, hi, hij, hjb, HL, HG, hxr⟩ := hrel
    have hbb := HB.out
    by_cases hlt : i < j
    · obtain ⟨h, hh⟩ : ∃ h, h = (i + j) / 2 := ⟨_, rfl⟩
      have hhi : ((i : Int) + (j : Int)) / 2 = (h : Int) := by omega
      have hhb : i ≤ h ∧ h < j := by omega
      obtain ⟨t, ht⟩ : ∃ t, h = a + t := ⟨h - a, by omega⟩
      have HT := Lib.hid ht
      have htl : t < A.length := by have := HLa.out; omega
      have hPa := HPa.out
      obtain ⟨i1, c1, _⟩ := (HO.out.ext hxr).ix (k := h) (by omega) (h : Int) rfl
      obtain ⟨i2, c2, _⟩ := (HO.out.ext hxr).ix (k := m) (by omega) (m : Int) rfl
      rw [show gs (P ++ (A ++ ([y] ++ S))) m = y by
        have h1 := gs_at (P ++ A) S y (i := m) (by rw [List.length_append]; have := HLa.out; omega)
        rwa [List.append_assoc] at h1] at c2
      rw [gs_part (P := P) (A := A) (S := [y] ++ S) (k := h) (i := t) (by omega) htl] at c1
      have hm1 : gs A t ∈ A := by rw [gs_get htl]; exact List.getElem_mem htl
      obtain ⟨r, hr, hcall⟩ := HCmp.out y (gs A t) HQy.out (HQ.out _ hm1)
      have HCall := Lib.hid (fun W (h : Ext wr W) => hcall W (chg_ext (chg_ext HW.out hxr) h))
      have HR := Lib.hid hr
      clear hh ht hPa hcall hr hm1 hbb
      have hwr : Ext wr wr := Ext.refl _
      by_cases hrk : r < 0
      · have hd : decide (r < 0) = true := decide_eq_true hrk
        have HLt := Lib.hid (HR.out.1 hrk)
        go_wp2_with fail
        (try rw [hhi])
        clear hhi
        (refine wp_region_from wr (by repeat (first | (with_reducible exact Ext.refl _) | (with_reducible refine Ext.drewN ?_ _) | (with_reducible refine Ext.drew ?_) | (with_reducible refine Ext.alloc ?_ _) | ((with_reducible refine Ext.setCell ?_ ?_ _); rotate_left; focus (first | (simp; done) | (simp; omega) | omega)) | assumption | (with_reducible refine Ext.trans ?_ (by assumption)))) (by kernel_rfl) (by kernel_rfl) (by kernel_rfl) ?_; (repeat (first | (refine mix_q rfl ?_; go_big_quiet_step (fail); refine wpQuiet_nil ?_; show wpMix _ _ _ _ _ _ _) | (refine mix_s rfl ?_; go_wp2_with (((with_reducible refine (HCall.out _ (by repeat (first | (with_reducible exact Ext.refl _) | (with_reducible assumption) | (with_reducible refine Ext.drewN ?_ _) | (with_reducible refine Ext.drew ?_) | (with_reducible refine Ext.alloc ?_ _) | ((with_reducible refine Ext.setCell ?_ ?_ _); rotate_left; focus (first | (simp; done) | (simp; omega) | omega)) | (with_reducible refine Ext.trans ?_ (by with_reducible assumption))))).mono ?_); rintro e w5 ⟨rfl, hy5⟩; have hx5 : Ext wr w5 := Ext.trans (by repeat (first | (with_reducible exact Ext.refl _) | (with_reducible assumption) | (with_reducible refine Ext.drewN ?_ _) | (with_reducible refine Ext.drew ?_) | (with_reducible refine Ext.alloc ?_ _) | ((with_reducible refine Ext.setCell ?_ ?_ _); rotate_left; focus (first | (simp; done) | (simp; omega) | omega)) | (with_reducible refine Ext.trans ?_ (by with_reducible assumption)))) hy5; clear hy5)); first | refine ⟨up_of (by repeat (first | (with_reducible exact Ext.refl _) | (with_reducible refine Ext.drewN ?_ _) | (with_reducible refine Ext.drew ?_) | (with_reducible refine Ext.alloc ?_ _) | ((with_reducible refine Ext.setCell ?_ ?_ _); rotate_left; focus (first | (simp; done) | (simp; omega) | omega)) | assumption | (with_reducible refine Ext.trans ?_ (by assumption)))), ?_⟩ | refine ⟨rfl, rfl, up_of (by repeat (first | (with_reducible exact Ext.refl _) | (with_reducible refine Ext.drewN ?_ _) | (with_reducible refine Ext.drew ?_) | (with_reducible refine Ext.alloc ?_ _) | ((with_reducible refine Ext.setCell ?_ ?_ _); rotate_left; focus (first | (simp; done) | (simp; omega) | omega)) | assumption | (with_reducible refine Ext.trans ?_ (by assumption)))), ?_⟩))); refine mix_nil ?_)
        go_wp2_with fail
        refine ⟨⟨i, h, rfl, rfl, hi, by omega, by omega, HL.out, fun u hu hul => ?_, hxr.trans hx5⟩, by simp [intOf]; omega⟩
        have h1 := HAsc.out.le (i := t) (j := u) (by have := HT.out; omega) (by have := HLa.out; omega)
        have := HLt.out
        omega
      · have hd : decide (r < 0) = false := decide_eq_false hrk
        have HGe := Lib.hid (show key (gs A t) ≤ key y from Int.not_lt.1 fun h => hrk (HR.out.2 h))
        go_wp2_with fail
        (try rw [hhi])
        clear hhi
        (refine wp_region_from wr (by repeat (first | (with_reducible exact Ext.refl _) | (with_reducible refine Ext.drewN ?_ _) | (with_reducible refine Ext.drew ?_) | (with_reducible refine Ext.alloc ?_ _) | ((with_reducible refine Ext.setCell ?_ ?_ _); rotate_left; focus (first | (simp; done) | (simp; omega) | omega)) | assumption | (with_reducible refine Ext.trans ?_ (by assumption)))) (by kernel_rfl) (by kernel_rfl) (by kernel_rfl) ?_; (repeat (first | (refine mix_q rfl ?_; go_big_quiet_step (fail); refine wpQuiet_nil ?_; show wpMix _ _ _ _ _ _ _) | (refine mix_s rfl ?_; go_wp2_with (((with_reducible refine (HCall.out _ (by repeat (first | (with_reducible exact Ext.refl _) | (with_reducible assumption) | (with_reducible refine Ext.drewN ?_ _) | (with_reducible refine Ext.drew ?_) | (with_reducible refine Ext.alloc ?_ _) | ((with_reducible refine Ext.setCell ?_ ?_ _); rotate_left; focus (first | (simp; done) | (simp; omega) | omega)) | (with_reducible refine Ext.trans ?_ (by with_reducible assumption))))).mono ?_); rintro e w5 ⟨rfl, hy5⟩; have hx5 : Ext wr w5 := Ext.trans (by repeat (first | (with_reducible exact Ext.refl _) | (with_reducible assumption) | (with_reducible refine Ext.drewN ?_ _) | (with_reducible refine Ext.drew ?_) | (with_reducible refine Ext.alloc ?_ _) | ((with_reducible refine Ext.setCell ?_ ?_ _); rotate_left; focus (first | (simp; done) | (simp; omega) | omega)) | (with_reducible refine Ext.trans ?_ (by with_reducible assumption)))) hy5; clear hy5)); first | refine ⟨up_of (by repeat (first | (with_reducible exact Ext.refl _) | (with_reducible refine Ext.drewN ?_ _) | (with_reducible refine Ext.drew ?_) | (with_reducible refine Ext.alloc ?_ _) | ((with_reducible refine Ext.setCell ?_ ?_ _); rotate_left; focus (first | (simp; done) | (simp; omega) | omega)) | assumption | (with_reducible refine Ext.trans ?_ (by assumption)))), ?_⟩ | refine ⟨rfl, rfl, up_of (by repeat (first | (with_reducible exact Ext.refl _) | (with_reducible refine Ext.drewN ?_ _) | (with_reducible refine Ext.drew ?_) | (with_reducible refine Ext.alloc ?_ _) | ((with_reducible refine Ext.setCell ?_ ?_ _); rotate_left; focus (first | (simp; done) | (simp; omega) | omega)) | assumption | (with_reducible refine Ext.trans ?_ (by assumption)))), ?_⟩))); refine mix_nil ?_)
        go_wp2_with fail
        refine ⟨⟨h + 1, j, by go_num, rfl, by omega, by omega, hjb, fun u hu => ?_, HG.out, hxr.trans hx5⟩, by simp [intOf]; omega⟩
        have h1 := HAsc.out.le (i := u) (j := t) (by have := HT.out; omega) (by have := HT.out; have := HLa.out; have := HB.out; omega)
        have := HGe.out
        omega
    · obtain rfl : i = j := by omega
      obtain ⟨T, hT⟩ : ∃ T, i = a + T := ⟨i - a, by omega⟩
      have HT := Lib.hid hT
      have HMg := Lib.hid (mg_last (key := key) HAsc.out HBef.out (s := T) (by have := HLa.out; omega) (fun h => Int.not_lt.2 (HL.out (T - 1) (by omega))) (fun h => HG.out T (by omega) (by have := HLa.out; omega)))
      clear hT hbb HL HG
      go_wp2_with fail
      rename World => wo
      go_loopw [17] (fun v17 wr => ∃ t : Nat, T ≤ t ∧ t ≤ la ∧ v17 = .int .i64 ((a : Int) + (t : Int)) ∧ Hid (RowT wr B g n c (P ++ (A.take t ++ ([y] ++ (A.drop t ++ S))))) ∧ Hid (Chg g (g + 1) w wr)) (fun v17 _ => (intOf v17).toNat - i)
      case atStart =>
        refine ⟨la, by have := HT.out; have := HB.out; omega, Nat.le_refl _, by have := HB.out; congr 1; omega, ?_, Chg.ext hxr _ _⟩
        show RowT wo B g n c (P ++ (A.take la ++ ([y] ++ (A.drop la ++ S))))
        rw [List.take_of_length_le (by rw [HLa.out]; exact Nat.le_refl _), List.drop_eq_nil_of_le (by rw [HLa.out]; exact Nat.le_refl _)]
        simpa using HO.out.ext hxr
      case round =>
        obtain ⟨t, htT, htl, rfl, HRow, HC⟩ := hrel
        by_cases hlt2 : T < t
        · have hbb := HB.out
          have hTT := HT.out
          obtain ⟨t', ht'⟩ : ∃ t', t = t' + 1 := ⟨t - 1, by omega⟩
          have htl' : t' < A.length := by have := HLa.out; omega
          have HRow1 := Lib.hid (show RowT wr B g n c ((P ++ A.take t') ++ ([gs A t'] ++ ([] ++ ([y] ++ (A.drop t ++ S))))) by
            have h := HRow.out
            rw [show A.take t = A.take t' ++ [gs A t'] by rw [ht']; exact take_snocS htl'] at h
            simpa only [List.append_assoc, List.nil_append] using h)
          have hlenT : (P ++ A.take t').length = a + t' := by have := HPa.out; rw [List.length_append, List.length_take]; omega
          obtain ⟨i1, c1, f1⟩ := HRow1.out.ix (k := a + t') (by omega) ((a : Int) + (t : Int) - 1) (by omega)
          obtain ⟨i2, c2, f2⟩ := HRow1.out.ix (k := a + t) (by omega) ((a : Int) + (t : Int)) (by omega)
          rw [gs_at _ _ _ hlenT.symm] at c1
          rw [show gs ((P ++ A.take t') ++ ([gs A t'] ++ ([] ++ ([y] ++ (A.drop t ++ S))))) (a + t) = y by
            have h1 := gs_at ((P ++ A.take t') ++ [gs A t']) (A.drop t ++ S) y (i := a + t) (by rw [List.length_append, hlenT, ht']; rfl)
            simpa only [List.append_assoc, List.nil_append] using h1] at c2
          have d1 := c1 wr (Ext.refl _)
          have d2 := c2 wr (Ext.refl _)
          have hsw := HRow1.out.swap' (i := a + t') (j := a + t) hlenT.symm (by rw [hlenT]; simp; omega)
          have HSw := Lib.hid (show RowT ((wr.setCell ⟨g, a + t, none⟩ (.string (gs A t'))).setCell ⟨g, a + t', none⟩ (.string y)) B g n c (P ++ (A.take t' ++ ([y] ++ (A.drop t' ++ S)))) by
            rw [drop_consS htl', ← ht']
            simpa only [List.append_assoc, List.nil_append] using hsw)
          have hne : a + t ≠ a + t' := by omega
          have hne' : a + t' ≠ a + t := by omega
          have hle : (i : Int) < (a : Int) + (t : Int) := by omega
          have hbd : a + t ≤ 1048576 := by omega
          have HTt := Lib.hid ht'
          clear hbb hTT hlenT hsw c1 c2 ht'
          go_wp2_with fail
          go_region
          go_wp2
          exact ⟨⟨t', by have := HTt.out; omega, by have := HTt.out; omega, by have := HTt.out; congr 1; omega, HSw.out.ext (Ext.refl _).drew, (chg_two HC.out).trans (Chg.ext (Ext.refl _).drew _ _)⟩, by have := HTt.out; have := HT.out; simp [intOf]; omega⟩
        · obtain rfl : t = T := by omega
          have hle : ¬ (i : Int) < (a : Int) + (t : Int) := by have := HT.out; omega
          have HFin := Lib.hid (ret_mg HMg.out (by have h := HRow.out; simpa only [List.append_assoc] using h) HC.out)
          go_wp2_with fail
          exact bodyPost_ret (v := .tuple #[]) (by simp [results, Try.results126, go_sem]) rfl HFin.out
end Go.Proofs.Ytbcfbkhbangeoaa

/- Walks: slices.symMergeCmpFunc at texts, and the sort. -/
namespace Go.Proofs.Ytbcfbkhbangeoaa
set_option maxRecDepth 100000
open Go.RowKit

/-- what the search of the place to cut has found: the key of the one behind is less -/
def ppC (key : ByteArray → Int) (A D : List ByteArray) (a md c : Nat) : Prop := key (gs D (md - 1 - c)) < key (gs A (c - a))
theorem ppC_mono {key : ByteArray → Int} {A D : List ByteArray} (hA : ascR key A) (hD : ascR key D) {a md c c' : Nat} (h : ppC key A D a md c) (hc : c ≤ c') (hc' : c' - a < A.length) (hd : md - 1 - c < D.length) : ppC key A D a md c' := by
  have h1 := hA.le (show c - a ≤ c' - a by omega) hc'
  have h2 := hD.le (show md - 1 - c' ≤ md - 1 - c by omega) hd
  unfold ppC at *
  omega
theorem mid_in {i j h : Nat} (hlt : i < j) (hh : h = (i + j) / 2) : i ≤ h ∧ h < j := by omega
/-- the bounds of the search -/
structure Bnd (a m b la ld md lo hi : Nat) : Prop where
  hm : m = a + la
  hb : b = m + ld
  hmd : md = (a + b) / 2
  la1 : 1 < la
  ld1 : 1 < ld
  lo1 : a ≤ lo
  lohi : lo ≤ hi
  him : hi ≤ m
  himd : hi ≤ md
  lob : md + m ≤ b + lo
  lo2 : lo = a ∨ lo + b = md + m
  hi2 : hi = m ∨ hi = md
theorem bnd_of {a m b la ld md : Nat} (hm : m = a + la) (hb : b = m + ld) (hmd : md = (a + b) / 2) (la1 : 1 < la) (ld1 : 1 < ld) : (md < m → Bnd a m b la ld md (md + m - b) md) ∧ (¬ md < m → Bnd a m b la ld md a m) :=
  ⟨fun h => ⟨hm, hb, hmd, la1, ld1, by omega, by omega, by omega, Nat.le_refl _, by omega, .inr (by omega), .inr rfl⟩,
   fun h => ⟨hm, hb, hmd, la1, ld1, Nat.le_refl _, by omega, Nat.le_refl _, by omega, by omega, .inl rfl, .inl rfl⟩⟩
theorem Bnd.idx {a m b la ld md lo hi h n : Nat} (hB : Bnd a m b la ld md lo hi) (h1 : lo ≤ h) (h2 : h < hi) (hbn : b ≤ n) (hn : n ≤ 1048576) :
    h - a < la ∧ md - 1 - h < ld ∧ md + m - 1 - h < n ∧ h < n ∧ (md : Int) + (m : Int) - 1 - (h : Int) = ((md + m - 1 - h : Nat) : Int) ∧ h = a + (h - a) ∧ md + m - 1 - h = a + la + (md - 1 - h) ∧ h ≤ 1048576 := by
  have b1 := hB.hm; have b2 := hB.hb; have b4 := hB.lo1; have b5 := hB.him; have b6 := hB.himd; have b7 := hB.lob
  clear hB
  refine ⟨by omega, by omega, by omega, by omega, by omega, by omega, by omega, by omega⟩
theorem Bnd.mdin {a m b la ld md lo hi : Nat} (hB : Bnd a m b la ld md lo hi) : a < md ∧ md < b := by
  have b1 := hB.hm; have b2 := hB.hb; have b3 := hB.hmd; have b4 := hB.la1; have b5 := hB.ld1
  clear hB
  constructor <;> omega
theorem Bnd.ends {a m b la ld md lo hi c : Nat} (hB : Bnd a m b la ld md lo hi) (h1 : lo ≤ c) (h2 : c < hi) : c - a < la ∧ md - 1 - c < ld := by
  have b1 := hB.hm; have b2 := hB.hb; have b4 := hB.lo1; have b5 := hB.him; have b6 := hB.himd; have b7 := hB.lob
  clear hB
  constructor <;> omega
theorem Bnd.found {a m b la ld md lo hi i n : Nat} (hB : Bnd a m b la ld md lo hi) (h1 : lo ≤ i) (h2 : i ≤ hi) (hbn : b ≤ n) (hn : n ≤ 1048576) :
    i = a + (i - a) ∧ md = i + (md - i) ∧ (md : Int) + (m : Int) - (i : Int) = ((m + (md - i) : Nat) : Int) ∧ i ≤ 1048576 ∧ m + (md - i) ≤ 1048576 := by
  have b1 := hB.hm; have b2 := hB.hb; have b4 := hB.lo1; have b5 := hB.him; have b6 := hB.himd; have b7 := hB.lob
  clear hB
  refine ⟨by omega, by omega, by omega, by omega, by omega⟩
/-- what is found, as the places to cut both parts -/
theorem cut_found {key : ByteArray → Int} {A D : List ByteArray} {a m b la ld md lo hi st : Nat} (hB : Bnd a m b la ld md lo hi) (hla : la = A.length) (hld : ld = D.length) (h1 : lo ≤ st) (h2 : st ≤ hi)
    (hL : ∀ c, lo ≤ c → c < st → ¬ ppC key A D a md c) (hG : ∀ c, st ≤ c → c < hi → ppC key A D a md c) :
    st - a ≤ la ∧ md - st ≤ ld ∧ (0 < st - a → md - st < D.length → ¬ key (gs D (md - st)) < key (gs A (st - a - 1))) ∧ (0 < md - st → st - a < A.length → key (gs D (md - st - 1)) < key (gs A (st - a))) := by
  have b1 := hB.hm; have b2 := hB.hb; have b3 := hB.hmd; have b4 := hB.lo1; have b5 := hB.him; have b6 := hB.himd; have b7 := hB.lob
  refine ⟨by omega, by omega, fun h3 h4 => ?_, fun h3 h4 => ?_⟩
  · have hlt : lo < st := by
      rcases hB.lo2 with e | e
      · omega
      · omega
    have h := hL (st - 1) (by omega) (by omega)
    unfold ppC at h
    rw [show md - 1 - (st - 1) = md - st by omega, show st - 1 - a = st - a - 1 by omega] at h
    exact h
  · have hlt : st < hi := by
      rcases hB.hi2 with e | e
      · omega
      · omega
    have h := hG st (Nat.le_refl _) hlt
    unfold ppC at h
    rw [show md - 1 - st = md - st - 1 by omega] at h
    exact h
/-- the row once the two middle parts have changed places, and once the left half is merged -/
def StR (B g n c : Nat) (P A D S : List ByteArray) (s t : Nat) (w W : World) : Prop := RowT W B g n c (P ++ (A.take s ++ (D.take t ++ (A.drop s ++ (D.drop t ++ S))))) ∧ Chg g (g + 1) w W
def StL (key : ByteArray → Int) (B g n c : Nat) (P A D S : List ByteArray) (s t : Nat) (w W : World) : Prop := (∃ C, IsMg key (A.take s) (D.take t) C ∧ RowT W B g n c (P ++ (C ++ (A.drop s ++ (D.drop t ++ S))))) ∧ Chg g (g + 1) w W
theorem StR.ext {B g n c : Nat} {P A D S : List ByteArray} {s t : Nat} {w W W' : World} (h : StR B g n c P A D S s t w W) (hx : Ext W W') : StR B g n c P A D S s t w W' := ⟨h.1.ext hx, chg_ext h.2 hx⟩
theorem StL.ext {key : ByteArray → Int} {B g n c : Nat} {P A D S : List ByteArray} {s t : Nat} {w W W' : World} (h : StL key B g n c P A D S s t w W) (hx : Ext W W') : StL key B g n c P A D S s t w W' := by
  obtain ⟨⟨C, h1, h2⟩, h3⟩ := h
  exact ⟨⟨C, h1, h2.ext hx⟩, chg_ext h3 hx⟩
theorem stR_no {B g n c : Nat} {P A D S : List ByteArray} {s t : Nat} {w W : World} (h : A.length ≤ s ∨ t = 0) (hr : RowT W B g n c (P ++ (A ++ (D ++ S)))) (hc : Chg g (g + 1) w W) : StR B g n c P A D S s t w W := by
  refine ⟨?_, hc⟩
  rcases h with h | rfl
  · rw [List.take_of_length_le h, List.drop_eq_nil_of_le h, List.nil_append, ← List.append_assoc (D.take t), List.take_append_drop]; exact hr
  · rw [List.take_zero, List.drop_zero, List.nil_append, ← List.append_assoc (A.take s), List.take_append_drop]; exact hr
theorem stL_no {key : ByteArray → Int} {B g n c : Nat} {P A D S : List ByteArray} {s t : Nat} {w W : World} (hA : ascR key A) (hD : ascR key D) (h : s = 0 ∨ t = 0) (hr : StR B g n c P A D S s t w W) : StL key B g n c P A D S s t w W := by
  refine ⟨⟨A.take s ++ D.take t, ?_, by rw [List.append_assoc]; exact hr.1⟩, hr.2⟩
  rcases h with rfl | rfl
  · exact IsMg.two (hD.take t)
  · rw [List.take_zero, List.append_nil]; exact IsMg.one (hA.take s)
theorem fin_no {key : ByteArray → Int} {B g n c : Nat} {P A D S : List ByteArray} {s t : Nat} {w W : World} (hA : ascR key A) (hD : ascR key D) (hmg : ∀ C1 C2, IsMg key (A.take s) (D.take t) C1 → IsMg key (A.drop s) (D.drop t) C2 → IsMg key A D (C1 ++ C2)) (h : A.length ≤ s ∨ D.length ≤ t) (hr : StL key B g n c P A D S s t w W) : RetMg key B g n c P (A ++ D) S w (.returned (.tuple #[])) W := by
  obtain ⟨⟨C1, h1, h2⟩, h3⟩ := hr
  refine ret_mg (hmg C1 (A.drop s ++ D.drop t) h1 ?_) (by simpa only [List.append_assoc] using h2) h3
  rcases h with h | h
  · rw [List.drop_eq_nil_of_le h]; exact IsMg.two (hD.drop t)
  · rw [List.drop_eq_nil_of_le h, List.append_nil]; exact IsMg.one (hA.drop s)
theorem fin_yes {key : ByteArray → Int} {B g n c : Nat} {P A D S C1 : List ByteArray} {s t : Nat} {w W W' : World} (hmg : ∀ C1 C2, IsMg key (A.take s) (D.take t) C1 → IsMg key (A.drop s) (D.drop t) C2 → IsMg key A D (C1 ++ C2)) (h1 : IsMg key (A.take s) (D.take t) C1) (hc : Chg g (g + 1) w W) {e : Ending} (h : RetMg key B g n c (P ++ C1) (A.drop s ++ D.drop t) S W e W') : RetMg key B g n c P (A ++ D) S w e W' := by
  obtain ⟨he, ⟨C2, h2, h3, h4⟩, h5⟩ := h
  have hm := hmg C1 C2 h1 ⟨h2, h3⟩
  exact ⟨he, ⟨C1 ++ C2, hm.1, hm.2, by simpa only [List.append_assoc] using h4⟩, hc.trans h5⟩
/-- parts of at most so many texts are merged -/
def MergeAt (key : ByteArray → Int) (Q : ByteArray → Prop) (fd : Nat) (caps : Array Value) (B g n c : Nat) (w0 : World) (N : Nat) : Prop :=
  ∀ (P A D S : List ByteArray) (a m b : Nat) (w : World), A.length + D.length ≤ N → 0 < A.length → 0 < D.length →
    a = P.length → m = a + A.length → b = m + D.length → Chg g (g + 1) w0 w → RowT w B g n c (P ++ (A ++ (D ++ S))) → ascR key A → ascR key D → bef A D → (∀ x ∈ A, Q x) → (∀ y ∈ D, Q y) →
    Calls Try.prog 126 #[.slice (some ⟨g, 0, none⟩) n c, .int .i64 a, .int .i64 m, .int .i64 b, .func (.func fd) #[] caps] w (RetMg key B g n c P (A ++ D) S w)
/-- the places of the parts -/
def PlX (a m b la ld md i en s t : Nat) : Prop := i = a + s ∧ md = i + t ∧ en = m + t ∧ m = a + la ∧ b = m + ld ∧ s ≤ la ∧ t ≤ ld ∧ a < md ∧ md < b
theorem turn_yes {B g n c : Nat} {P A D S : List ByteArray} {a m b la ld md i en s t : Nat} {w wr : World} {v : Value} (hX : PlX a m b la ld md i en s t) (hPa : a = P.length) (hla : la = A.length) (hld : ld = D.length) (hn : n ≤ 1048576) (ho : RowT w B g n c (P ++ (A ++ (D ++ S)))) (hxr : Ext w wr) (q1 : i < m) (q2 : m < en) (W : World) (hx : Ext wr W) :
    Calls Try.prog 134 #[.slice (some ⟨g, 0, none⟩) n c, .int .i64 i, .int .i64 m, .int .i64 en, v] W (fun e W' => e = .returned (.tuple #[]) ∧ StR B g n c P A D S s t w W') := by
  obtain ⟨x1, x2, x3, x4, x5, x6, x7, x8, x9⟩ := hX
  have h := rotate_strs B g n c (P ++ A.take s) (A.drop s) (D.take t) (D.drop t ++ S) i m en (by rw [List.length_append, List.length_take]; omega) (by rw [List.length_append, List.length_take, List.length_drop]; omega) (by rw [List.length_append, List.length_take, List.length_drop, List.length_take]; omega) (by rw [List.length_drop]; omega) (by rw [List.length_take]; omega) v W (by
    have h2 := (ho.ext hxr).ext hx
    rw [List.append_assoc, ← List.append_assoc (D.take t), List.take_append_drop, ← List.append_assoc (A.take s), List.take_append_drop]
    exact h2) hn
  refine h.mono fun e W' hr => ⟨hr.1, ?_, (Chg.ext (hxr.trans hx) _ _).trans hr.2.2⟩
  have h2 := hr.2.1
  rwa [List.append_assoc] at h2
theorem left_yes {key : ByteArray → Int} {Q : ByteArray → Prop} {fd : Nat} {caps : Array Value} {B g n c N : Nat} {w0 : World} {P A D S : List ByteArray} {a m b la ld md i en s t : Nat} {w : World} (ih : MergeAt key Q fd caps B g n c w0 N) (hX : PlX a m b la ld md i en s t) (hPa : a = P.length) (hla : la = A.length) (hld : ld = D.length) (hN : A.length + D.length ≤ N + 1) (hw : Chg g (g + 1) w0 w) (hA : ascR key A) (hD : ascR key D) (hb : bef A D) (hQA : ∀ x ∈ A, Q x) (hQD : ∀ y ∈ D, Q y) (q3 : a < i) (q4 : i < md) (W : World) (hR : StR B g n c P A D S s t w W) :
    Calls Try.prog 126 #[.slice (some ⟨g, 0, none⟩) n c, .int .i64 a, .int .i64 i, .int .i64 md, .func (.func fd) #[] caps] W (fun e W' => e = .returned (.tuple #[]) ∧ StL key B g n c P A D S s t w W') := by
  obtain ⟨x1, x2, x3, x4, x5, x6, x7, x8, x9⟩ := hX
  have h := ih P (A.take s) (D.take t) (A.drop s ++ (D.drop t ++ S)) a i md W (by rw [List.length_take, List.length_take]; omega) (by rw [List.length_take]; omega) (by rw [List.length_take]; omega) hPa (by rw [List.length_take]; omega) (by rw [List.length_take]; omega) (hw.trans hR.2) hR.1 (hA.take s) (hD.take t) (hb.mono (fun x hx => List.mem_of_mem_take hx) (fun x hx => List.mem_of_mem_take hx)) (fun x hx => hQA x (List.mem_of_mem_take hx)) (fun x hx => hQD x (List.mem_of_mem_take hx))
  refine h.mono fun e W' ⟨he, ⟨C, c1, c2, c3⟩, c4⟩ => ⟨he, ⟨C, ⟨c1, c2⟩, c3⟩, hR.2.trans c4⟩
theorem right_yes {key : ByteArray → Int} {Q : ByteArray → Prop} {fd : Nat} {caps : Array Value} {B g n c N : Nat} {w0 : World} {P A D S : List ByteArray} {a m b la ld md i en s t : Nat} {w : World} (ih : MergeAt key Q fd caps B g n c w0 N) (hX : PlX a m b la ld md i en s t) (hPa : a = P.length) (hla : la = A.length) (hld : ld = D.length) (hN : A.length + D.length ≤ N + 1) (hw : Chg g (g + 1) w0 w) (hA : ascR key A) (hD : ascR key D) (hb : bef A D) (hQA : ∀ x ∈ A, Q x) (hQD : ∀ y ∈ D, Q y)
    (hmg : ∀ C1 C2, IsMg key (A.take s) (D.take t) C1 → IsMg key (A.drop s) (D.drop t) C2 → IsMg key A D (C1 ++ C2)) (q5 : md < en) (q6 : en < b) (W : World) (hL : StL key B g n c P A D S s t w W) :
    Calls Try.prog 126 #[.slice (some ⟨g, 0, none⟩) n c, .int .i64 md, .int .i64 en, .int .i64 b, .func (.func fd) #[] caps] W (RetMg key B g n c P (A ++ D) S w) := by
  obtain ⟨x1, x2, x3, x4, x5, x6, x7, x8, x9⟩ := hX
  obtain ⟨⟨C, c1, c2⟩, c3⟩ := hL
  have hC : C.length = s + t := by rw [c1.1.length_eq, List.length_append, List.length_take, List.length_take]; omega
  have h := ih (P ++ C) (A.drop s) (D.drop t) S md en b W (by rw [List.length_drop, List.length_drop]; omega) (by rw [List.length_drop]; omega) (by rw [List.length_drop]; omega) (by rw [List.length_append]; omega) (by rw [List.length_drop]; omega) (by rw [List.length_drop]; omega) (hw.trans c3) (by rw [List.append_assoc]; exact c2) (hA.drop s) (hD.drop t) (hb.mono (fun x hx => List.mem_of_mem_drop hx) (fun x hx => List.mem_of_mem_drop hx)) (fun x hx => hQA x (List.mem_of_mem_drop hx)) (fun x hx => hQD x (List.mem_of_mem_drop hx))
  exact h.mono fun e W' hr => fin_yes hmg c1 c3 hr
set_option maxHeartbeats 16000000 in
theorem merge_step (key : ByteArray → Int) (Q : ByteArray → Prop) (fd : Nat) (caps : Array Value) (B g n c : Nat) (w0 : World) (hcmp : CmpK key Q fd caps g w0) (hn : n ≤ 1048576) (N : Nat) (ih : MergeAt key Q fd caps B g n c w0 N) : MergeAt key Q fd caps B g n c w0 (N + 1) := by
  intro P A D S a m b w hN hA0 hD0 ha hm hb hw ho hA hD hbef hQA hQD
  by_cases hA1 : A.length = 1
  · obtain ⟨x, rfl⟩ := List.length_eq_one_iff.1 hA1
    exact merge_first key Q fd caps B g n c w0 hcmp P D S x a m b w hD0 ha (by simpa using hm) hb hw ho hn hD hbef (hQA x (by simp)) hQD
  by_cases hD1 : D.length = 1
  · obtain ⟨y, rfl⟩ := List.length_eq_one_iff.1 hD1
    exact merge_last key Q fd caps B g n c w0 hcmp P A S y a m b w (by omega) ha hm (by simpa using hb) hw ho hn hA hbef (hQD y (by simp)) hQA
  have hl := ho.len
  simp only [List.length_append] at hl
  have IH := Lib.hid ih
  clear ih
  have HO := Lib.hid ho
  have HCmp := Lib.hid hcmp.cmp
  have hed := hcmp.ed
  have HQA := Lib.hid hQA
  have HQD := Lib.hid hQD
  have HW := Lib.hid hw
  have HA := Lib.hid hA
  have HD := Lib.hid hD
  have HBef := Lib.hid hbef
  have HPa := Lib.hid ha
  have HNn := Lib.hid hN
  obtain ⟨la, hla⟩ : ∃ k, k = A.length := ⟨_, rfl⟩
  obtain ⟨ld, hld⟩ : ∃ k, k = D.length := ⟨_, rfl⟩
  obtain ⟨md, hmd⟩ : ∃ k, k = (a + b) / 2 := ⟨_, rfl⟩
  have HLa := Lib.hid hla
  have HLd := Lib.hid hld
  have HBn := Lib.hid (bnd_of (a := a) (m := m) (b := b) (la := la) (ld := ld) (md := md) (by rw [hla]; exact hm) (by rw [hld]; exact hb) hmd (by omega) (by omega))
  have HBb := Lib.hid (show b ≤ n ∧ a < m ∧ m < b ∧ a ≤ md ∧ md ≤ b by omega)
  have hq1 : ((m : Int) - (a : Int) == 1) = false := beq_eq_false_iff_ne.2 (by omega)
  have hq2 : ((b : Int) - (m : Int) == 1) = false := beq_eq_false_iff_ne.2 (by omega)
  have hb20 : b ≤ 1048576 ∧ m ≤ 1048576 ∧ a ≤ 1048576 ∧ md ≤ 1048576 := by omega
  have hmdI : ((a : Int) + (b : Int)) / 2 = (md : Int) := by omega
  clear ho hQA hQD hw hA hD hbef ha hm hb hl hcmp hla hld hA0 hD0 hA1 hD1 hN hmd
  by_cases hmm : md < m
  all_goals
    obtain ⟨lo, hi, hbd, hlo, hhi⟩ : ∃ lo hi : Nat, Bnd a m b la ld md lo hi ∧ (md < m → (lo : Int) = (md : Int) + (m : Int) - (b : Int) ∧ hi = md) ∧ (¬ md < m → lo = a ∧ hi = m) := by
      first
        | exact ⟨_, _, HBn.out.1 hmm, fun _ => ⟨by have := (HBn.out.1 hmm).lob; have := HBb.out; omega, rfl⟩, fun h => absurd hmm h⟩
        | exact ⟨_, _, HBn.out.2 hmm, fun h => absurd h hmm, fun _ => ⟨rfl, rfl⟩⟩
    have HBd := Lib.hid hbd
    have HLo := Lib.hid hlo
    have HHi := Lib.hid hhi
    clear hbd hlo hhi
    go_enter Try.func126, Try.ntmps126
    go_wp2_with fail
    clear hmdI hq1 hq2
    go_loopw [20, 21] (fun v20 v21 wr => ∃ i j : Nat, v20 = .int .i64 i ∧ v21 = .int .i64 j ∧ lo ≤ i ∧ i ≤ j ∧ j ≤ hi ∧ Hid (∀ c, lo ≤ c → c < i → ¬ ppC key A D a md c) ∧ Hid (∀ c, j ≤ c → c < hi → ppC key A D a md c) ∧ Ext w wr) (fun v20 v21 _ => (intOf v21).toNat - (intOf v20).toNat)
    case atStart =>
      refine ⟨lo, hi, ?_, ?_, Nat.le_refl _, HBd.out.lohi, Nat.le_refl _, fun c h1 h2 => absurd h2 (Nat.not_lt.2 h1), fun c h1 h2 => absurd h2 (Nat.not_lt.2 h1), Ext.refl _⟩
      · first | rw [(HLo.out hmm).1] | rw [(HHi.out hmm).1]
      · first | rw [(HLo.out hmm).2] | rw [(HHi.out hmm).2]
    case round =>
      obtain ⟨i, j, rfl, rfl, hi1, hij, hj1, HL, HG, hxr⟩ := hrel
      by_cases hlt : i < j
      · obtain ⟨h, hh⟩ : ∃ h, h = (i + j) / 2 := ⟨_, rfl⟩
        have hhi : ((i : Int) + (j : Int)) / 2 = (h : Int) := by rw [hh]; simp
        have hhb : i ≤ h ∧ h < j := mid_in hlt hh
        obtain ⟨hal, hdl, hps, hhn, hpi, hha, hpp, hh20⟩ := HBd.out.idx (n := n) (Nat.le_trans hi1 hhb.1) (Nat.lt_of_lt_of_le hhb.2 hj1) HBb.out.1 hn
        have hlo := Nat.le_trans hi1 hhb.1
        have hhh := Nat.lt_of_lt_of_le hhb.2 hj1
        have HI := Lib.hid (show lo ≤ i ∧ i ≤ h ∧ h < j ∧ j ≤ hi from ⟨hi1, hhb.1, hhb.2, hj1⟩)
        have hij20 : i ≤ 1048576 ∧ j ≤ 1048576 := ⟨Nat.le_trans (Nat.le_trans hij (Nat.le_trans hj1 HBd.out.him)) hb20.2.1, Nat.le_trans (Nat.le_trans hj1 HBd.out.him) hb20.2.1⟩
        rw [HLa.out] at hal
        rw [HLd.out] at hdl
        obtain ⟨i1, c1, _⟩ := (HO.out.ext hxr).ix (k := md + m - 1 - h) hps ((md : Int) + (m : Int) - 1 - (h : Int)) hpi
        obtain ⟨i2, c2, _⟩ := (HO.out.ext hxr).ix (k := h) hhn (h : Int) rfl
        rw [gs_part (P := P) (A := A) (S := D ++ S) (k := h) (i := h - a) (by rw [← HPa.out]; exact hha) hal] at c2
        rw [show gs (P ++ (A ++ (D ++ S))) (md + m - 1 - h) = gs D (md - 1 - h) by
          have h1 := gs_part (P := P ++ A) (A := D) (S := S) (k := md + m - 1 - h) (i := md - 1 - h) (by rw [List.length_append, ← HPa.out, ← HLa.out]; exact hpp) hdl
          rwa [List.append_assoc] at h1] at c1
        obtain ⟨r, hr, hcall⟩ := HCmp.out (gs D (md - 1 - h)) (gs A (h - a)) (HQD.out _ (by rw [gs_get hdl]; exact List.getElem_mem hdl)) (HQA.out _ (by rw [gs_get hal]; exact List.getElem_mem hal))
        have HCall := Lib.hid (fun W (h : Ext wr W) => hcall W (chg_ext (chg_ext HW.out hxr) h))
        have HR := Lib.hid (show r < 0 ↔ ppC key A D a md h from hr)
        have HUp := Lib.hid (fun (hp : ppC key A D a md h) (c : Nat) (h1 : h ≤ c) (h2 : c < hi) => ppC_mono HA.out HD.out hp h1 (by rw [← HLa.out]; exact (HBd.out.ends (Nat.le_trans hlo h1) h2).1) hdl)
        have HDn := Lib.hid (fun (hp : ¬ ppC key A D a md h) (c : Nat) (h1 : lo ≤ c) (h2 : c ≤ h) => show ¬ ppC key A D a md c from fun hc => hp (ppC_mono HA.out HD.out hc h2 hal (by rw [← HLd.out]; exact (HBd.out.ends h1 (Nat.lt_of_le_of_lt h2 hhh)).2)))
        have hp1 : (0 : Int) ≤ (md : Int) + (m : Int) - 1 - (h : Int) := by rw [hpi]; exact Int.natCast_nonneg _
        clear hh hcall hr hal hdl hps hhn hpi hha hpp hlo hhh hi1 hij hj1 hhb
        have hwr : Ext wr wr := Ext.refl _
        by_cases hrk : r < 0
        · have hd : decide (r < 0) = true := decide_eq_true hrk
          have HLt := Lib.hid (HUp.out (HR.out.1 hrk))
          go_wp2_with fail
          (try rw [hhi])
          clear hhi
          (refine wp_region_from wr (by repeat (first | (with_reducible exact Ext.refl _) | (with_reducible refine Ext.drewN ?_ _) | (with_reducible refine Ext.drew ?_) | (with_reducible refine Ext.alloc ?_ _) | ((with_reducible refine Ext.setCell ?_ ?_ _); rotate_left; focus (first | (simp; done) | (simp; omega) | omega)) | assumption | (with_reducible refine Ext.trans ?_ (by assumption)))) (by kernel_rfl) (by kernel_rfl) (by kernel_rfl) ?_; (repeat (first | (refine mix_q rfl ?_; go_big_quiet_step (fail); refine wpQuiet_nil ?_; show wpMix _ _ _ _ _ _ _) | (refine mix_s rfl ?_; go_wp2_with (((with_reducible refine (HCall.out _ (by repeat (first | (with_reducible exact Ext.refl _) | (with_reducible assumption) | (with_reducible refine Ext.drewN ?_ _) | (with_reducible refine Ext.drew ?_) | (with_reducible refine Ext.alloc ?_ _) | ((with_reducible refine Ext.setCell ?_ ?_ _); rotate_left; focus (first | (simp; done) | (simp; omega) | omega)) | (with_reducible refine Ext.trans ?_ (by with_reducible assumption))))).mono ?_); rintro e w5 ⟨rfl, hy5⟩; have hx5 : Ext wr w5 := Ext.trans (by repeat (first | (with_reducible exact Ext.refl _) | (with_reducible assumption) | (with_reducible refine Ext.drewN ?_ _) | (with_reducible refine Ext.drew ?_) | (with_reducible refine Ext.alloc ?_ _) | ((with_reducible refine Ext.setCell ?_ ?_ _); rotate_left; focus (first | (simp; done) | (simp; omega) | omega)) | (with_reducible refine Ext.trans ?_ (by with_reducible assumption)))) hy5; clear hy5)); first | refine ⟨up_of (by repeat (first | (with_reducible exact Ext.refl _) | (with_reducible refine Ext.drewN ?_ _) | (with_reducible refine Ext.drew ?_) | (with_reducible refine Ext.alloc ?_ _) | ((with_reducible refine Ext.setCell ?_ ?_ _); rotate_left; focus (first | (simp; done) | (simp; omega) | omega)) | assumption | (with_reducible refine Ext.trans ?_ (by assumption)))), ?_⟩ | refine ⟨rfl, rfl, up_of (by repeat (first | (with_reducible exact Ext.refl _) | (with_reducible refine Ext.drewN ?_ _) | (with_reducible refine Ext.drew ?_) | (with_reducible refine Ext.alloc ?_ _) | ((with_reducible refine Ext.setCell ?_ ?_ _); rotate_left; focus (first | (simp; done) | (simp; omega) | omega)) | assumption | (with_reducible refine Ext.trans ?_ (by assumption)))), ?_⟩))); refine mix_nil ?_)
          go_wp2_with fail
          have hI := HI.out
          exact ⟨⟨i, h, rfl, rfl, hI.1, hI.2.1, Nat.le_trans (Nat.le_of_lt hI.2.2.1) hI.2.2.2, HL.out, HLt.out, hxr.trans hx5⟩, by simp [intOf]; omega⟩
        · have hd : decide (r < 0) = false := decide_eq_false hrk
          have HGe := Lib.hid (HDn.out fun hp => hrk (HR.out.2 hp))
          go_wp2_with fail
          (try rw [hhi])
          clear hhi
          (refine wp_region_from wr (by repeat (first | (with_reducible exact Ext.refl _) | (with_reducible refine Ext.drewN ?_ _) | (with_reducible refine Ext.drew ?_) | (with_reducible refine Ext.alloc ?_ _) | ((with_reducible refine Ext.setCell ?_ ?_ _); rotate_left; focus (first | (simp; done) | (simp; omega) | omega)) | assumption | (with_reducible refine Ext.trans ?_ (by assumption)))) (by kernel_rfl) (by kernel_rfl) (by kernel_rfl) ?_; (repeat (first | (refine mix_q rfl ?_; go_big_quiet_step (fail); refine wpQuiet_nil ?_; show wpMix _ _ _ _ _ _ _) | (refine mix_s rfl ?_; go_wp2_with (((with_reducible refine (HCall.out _ (by repeat (first | (with_reducible exact Ext.refl _) | (with_reducible assumption) | (with_reducible refine Ext.drewN ?_ _) | (with_reducible refine Ext.drew ?_) | (with_reducible refine Ext.alloc ?_ _) | ((with_reducible refine Ext.setCell ?_ ?_ _); rotate_left; focus (first | (simp; done) | (simp; omega) | omega)) | (with_reducible refine Ext.trans ?_ (by with_reducible assumption))))).mono ?_); rintro e w5 ⟨rfl, hy5⟩; have hx5 : Ext wr w5 := Ext.trans (by repeat (first | (with_reducible exact Ext.refl _) | (with_reducible assumption) | (with_reducible refine Ext.drewN ?_ _) | (with_reducible refine Ext.drew ?_) | (with_reducible refine Ext.alloc ?_ _) | ((with_reducible refine Ext.setCell ?_ ?_ _); rotate_left; focus (first | (simp; done) | (simp; omega) | omega)) | (with_reducible refine Ext.trans ?_ (by with_reducible assumption)))) hy5; clear hy5)); first | refine ⟨up_of (by repeat (first | (with_reducible exact Ext.refl _) | (with_reducible refine Ext.drewN ?_ _) | (with_reducible refine Ext.drew ?_) | (with_reducible refine Ext.alloc ?_ _) | ((with_reducible refine Ext.setCell ?_ ?_ _); rotate_left; focus (first | (simp; done) | (simp; omega) | omega)) | assumption | (with_reducible refine Ext.trans ?_ (by assumption)))), ?_⟩ | refine ⟨rfl, rfl, up_of (by repeat (first | (with_reducible exact Ext.refl _) | (with_reducible refine Ext.drewN ?_ _) | (with_reducible refine Ext.drew ?_) | (with_reducible refine Ext.alloc ?_ _) | ((with_reducible refine Ext.setCell ?_ ?_ _); rotate_left; focus (first | (simp; done) | (simp; omega) | omega)) | assumption | (with_reducible refine Ext.trans ?_ (by assumption)))), ?_⟩))); refine mix_nil ?_)
          go_wp2_with fail
          have hI := HI.out
          exact ⟨⟨h + 1, j, by go_num, rfl, by omega, by omega, hI.2.2.2, fun c h1 h2 => HGe.out c h1 (by omega), HG.out, hxr.trans hx5⟩, by simp [intOf]; omega⟩
      · obtain rfl : i = j := Nat.le_antisymm hij (Nat.not_lt.1 hlt)
        have hcf := cut_found HBd.out HLa.out HLd.out hi1 hj1 HL.out HG.out
        obtain ⟨f1, f2, henI, f4, f5⟩ := HBd.out.found (n := n) hi1 hj1 HBb.out.1 hn
        obtain ⟨s, hs⟩ : ∃ s, s = i - a := ⟨_, rfl⟩
        obtain ⟨t, ht⟩ : ∃ t, t = md - i := ⟨_, rfl⟩
        rw [← hs, ← ht] at hcf
        rw [← hs] at f1
        rw [← ht] at f2 henI f5
        obtain ⟨en, hen⟩ : ∃ e, e = m + t := ⟨_, rfl⟩
        rw [← hen] at henI f5
        have HX := Lib.hid (show PlX a m b la ld md i en s t from ⟨f1, f2, hen, HBd.out.hm, HBd.out.hb, hcf.1, hcf.2.1, HBd.out.mdin.1, HBd.out.mdin.2⟩)
        have hsA : s ≤ A.length := by rw [← HLa.out]; exact hcf.1
        have htD : t ≤ D.length := by rw [← HLd.out]; exact hcf.2.1
        have HMg := Lib.hid (fun C1 C2 => mg_at (C1 := C1) (C2 := C2) HA.out HD.out HBef.out hsA htD hcf.2.2.1 hcf.2.2.2)
        clear hcf hs ht hen HL HG f1 f2 hi1 hij hj1 hlt hsA htD
        have HT1 := Lib.hid (fun (q1 : i < m) (q2 : m < en) W (hx : Ext wr W) => turn_yes (v := .func (.func fd) #[] caps) HX.out HPa.out HLa.out HLd.out hn HO.out hxr q1 q2 W hx)
        have HT0 := Lib.hid (fun (h : A.length ≤ s ∨ t = 0) W (hx : Ext wr W) => stR_no h ((HO.out.ext hxr).ext hx) (Chg.ext (hxr.trans hx) _ _))
        have HL1 := Lib.hid (fun (q3 : a < i) (q4 : i < md) W (hR : StR B g n c P A D S s t w W) => left_yes IH.out HX.out HPa.out HLa.out HLd.out HNn.out HW.out HA.out HD.out HBef.out HQA.out HQD.out q3 q4 W hR)
        have HL0 := Lib.hid (fun (h : s = 0 ∨ t = 0) W (hR : StR B g n c P A D S s t w W) => stL_no HA.out HD.out h hR)
        have HF1 := Lib.hid (fun (q5 : md < en) (q6 : en < b) W (hL : StL key B g n c P A D S s t w W) => right_yes IH.out HX.out HPa.out HLa.out HLd.out HNn.out HW.out HA.out HD.out HBef.out HQA.out HQD.out HMg.out q5 q6 W hL)
        have HF0 := Lib.hid (fun (h : A.length ≤ s ∨ D.length ≤ t) W (hL : StL key B g n c P A D S s t w W) => fin_no HA.out HD.out HMg.out h hL)
        have hwr : Ext wr wr := Ext.refl _
        have HQ := Lib.hid (show (¬ i < m → A.length ≤ s) ∧ (¬ m < en → t = 0) ∧ (¬ a < i → s = 0) ∧ (¬ i < md → t = 0) ∧ (¬ md < en → A.length ≤ s) ∧ (¬ en < b → D.length ≤ t) from by
          obtain ⟨x1, x2, x3, x4, x5, x6, x7, x8, x9⟩ := HX.out
          have hLa := HLa.out
          have hLd := HLd.out
          refine ⟨fun h => ?_, fun h => ?_, fun h => ?_, fun h => ?_, fun h => ?_, fun h => ?_⟩ <;> omega)
        have HEq := Lib.hid (show (i < m ↔ md < en) ∧ (m < en ↔ i < md) from by
          obtain ⟨x1, x2, x3, x4, x5, x6, x7, x8, x9⟩ := HX.out
          constructor <;> constructor <;> intro h <;> omega)
        by_cases q1 : i < m <;> by_cases q2 : m < en <;> by_cases q3 : a < i <;> by_cases q6 : en < b
        all_goals
          have q5 := HEq.out.1
          have q4 := HEq.out.2
          simp only [q1, q2, true_iff, false_iff] at q5 q4
          go_wp2_with (first
            | (go_at_call 134; (with_reducible refine (HT1.out q1 q2 _ (by repeat (first | (with_reducible exact Ext.refl _) | (with_reducible assumption) | (with_reducible refine Ext.drewN ?_ _) | (with_reducible refine Ext.drew ?_) | (with_reducible refine Ext.alloc ?_ _) | ((with_reducible refine Ext.setCell ?_ ?_ _); rotate_left; focus (first | (simp; done) | (simp; omega) | omega)) | (with_reducible refine Ext.trans ?_ (by with_reducible assumption))))).mono ?_); rintro e w5 ⟨rfl, hr5⟩; have HR5 := Lib.hid hr5; clear hr5)
            | (go_at_call 126; first
              | ((with_reducible refine (HL1.out q3 q4 _ HR5.out).mono ?_); rintro e w6 ⟨rfl, hl6⟩; have HL6 := Lib.hid hl6; clear hl6)
              | ((with_reducible refine (HL1.out q3 q4 _ (HT0.out (by first | exact .inl (HQ.out.1 q1) | exact .inr (HQ.out.2.1 q2)) _ (by repeat (first | (with_reducible exact Ext.refl _) | (with_reducible assumption) | (with_reducible refine Ext.drewN ?_ _) | (with_reducible refine Ext.drew ?_) | (with_reducible refine Ext.alloc ?_ _) | ((with_reducible refine Ext.setCell ?_ ?_ _); rotate_left; focus (first | (simp; done) | (simp; omega) | omega)) | (with_reducible refine Ext.trans ?_ (by with_reducible assumption)))))).mono ?_); rintro e w6 ⟨rfl, hl6⟩; have HL6 := Lib.hid hl6; clear hl6)
              | ((with_reducible refine (HF1.out q5 q6 _ HL6.out).mono ?_); rintro e w7 ⟨rfl, hf7⟩; have HF7 := Lib.hid hf7; clear hf7)
              | ((with_reducible refine (HF1.out q5 q6 _ (HL0.out (by first | exact .inl (HQ.out.2.2.1 q3) | exact .inr (HQ.out.2.2.2.1 q4)) _ HR5.out)).mono ?_); rintro e w7 ⟨rfl, hf7⟩; have HF7 := Lib.hid hf7; clear hf7)
              | ((with_reducible refine (HF1.out q5 q6 _ (HL0.out (by first | exact .inl (HQ.out.2.2.1 q3) | exact .inr (HQ.out.2.2.2.1 q4)) _ (HT0.out (by first | exact .inl (HQ.out.1 q1) | exact .inr (HQ.out.2.1 q2)) _ (by repeat (first | (with_reducible exact Ext.refl _) | (with_reducible assumption) | (with_reducible refine Ext.drewN ?_ _) | (with_reducible refine Ext.drew ?_) | (with_reducible refine Ext.alloc ?_ _) | ((with_reducible refine Ext.setCell ?_ ?_ _); rotate_left; focus (first | (simp; done) | (simp; omega) | omega)) | (with_reducible refine Ext.trans ?_ (by with_reducible assumption))))))).mono ?_); rintro e w7 ⟨rfl, hf7⟩; have HF7 := Lib.hid hf7; clear hf7)))
          (try refine bodyPost_ret (v := .tuple #[]) (by simp [results, Try.results126, go_sem]) rfl ?_)
        all_goals first
          | exact ⟨rfl, HF7.out⟩
          | exact HF0.out (by first | exact .inl (HQ.out.2.2.2.2.1 q5) | exact .inr (HQ.out.2.2.2.2.2 q6)) _ HL6.out
          | exact HF0.out (by first | exact .inl (HQ.out.2.2.2.2.1 q5) | exact .inr (HQ.out.2.2.2.2.2 q6)) _ (HL0.out (by first | exact .inl (HQ.out.2.2.1 q3) | exact .inr (HQ.out.2.2.2.1 q4)) _ HR5.out)
          | exact HF0.out (by first | exact .inl (HQ.out.2.2.2.2.1 q5) | exact .inr (HQ.out.2.2.2.2.2 q6)) _ (HL0.out (by first | exact .inl (HQ.out.2.2.1 q3) | exact .inr (HQ.out.2.2.2.1 q4)) _ (HT0.out (by first | exact .inl (HQ.out.1 q1) | exact .inr (HQ.out.2.1 q2)) _ (by repeat (first | (with_reducible exact Ext.refl _) | (with_reducible assumption) | (with_reducible refine Ext.drewN ?_ _) | (with_reducible refine Ext.drew ?_) | (with_reducible refine Ext.alloc ?_ _) | ((with_reducible refine Ext.setCell ?_ ?_ _); rotate_left; focus (first | (simp; done) | (simp; omega) | omega)) | (with_reducible refine Ext.trans ?_ (by with_reducible assumption))))))
theorem merge_strs (key : ByteArray → Int) (Q : ByteArray → Prop) (fd : Nat) (caps : Array Value) (B g n c : Nat) (w0 : World) (hcmp : CmpK key Q fd caps g w0) (hn : n ≤ 1048576) (N : Nat) : MergeAt key Q fd caps B g n c w0 N := by
  induction N with
  | zero => intro P A D S a m b w hN hA0; omega
  | succ N ih => exact merge_step key Q fd caps B g n c w0 hcmp hn N ih
end Go.Proofs.Ytbcfbkhbangeoaa

/- Walks: slices.SortStableFunc at texts, at any length. -/
namespace Go.Proofs.Ytbcfbkhbangeoaa
set_option maxRecDepth 100000
open Go.RowKit

/-! ### plain: blocks -/
def segB (l : List ByteArray) (s q : Nat) : List ByteArray := (l.drop (q * s)).take s
/-- a block holds the texts of the first list's block, ascending -/
def BlkK (key : ByteArray → Int) (l l0 : List ByteArray) (s q : Nat) : Prop := (segB l s q).Perm (segB l0 s q) ∧ ascR key (segB l s q)
theorem seg_len {l : List ByteArray} {s q : Nat} (h : q * s + s ≤ l.length) : (segB l s q).length = s := by unfold segB; rw [List.length_take, List.length_drop]; omega
theorem seg_nil {l : List ByteArray} {s q : Nat} (h : l.length ≤ q * s) : segB l s q = [] := by unfold segB; rw [List.drop_eq_nil_of_le h, List.take_nil]
theorem seg_two (l : List ByteArray) (s k : Nat) : segB l (2 * s) k = segB l s (2 * k) ++ segB l s (2 * k + 1) := by
  unfold segB
  have e1 : k * (2 * s) = 2 * k * s := by rw [← Nat.mul_assoc, Nat.mul_comm k 2]
  have e2 : (2 * k + 1) * s = 2 * k * s + s := by rw [Nat.add_mul, Nat.one_mul]
  rw [e1, e2, Nat.two_mul s, List.take_add, List.drop_drop]
theorem seg_pre {P X Y : List ByteArray} {s q : Nat} (h : q * s + s ≤ P.length) : segB (P ++ X) s q = segB (P ++ Y) s q := by
  unfold segB
  rw [List.drop_append_of_le_length (by omega), List.drop_append_of_le_length (by omega), List.take_append_of_le_length (by rw [List.length_drop]; omega), List.take_append_of_le_length (by rw [List.length_drop]; omega)]
theorem drop_app_len (A B : List ByteArray) (i : Nat) : (A ++ B).drop (A.length + i) = B.drop i := by rw [List.drop_append, List.drop_eq_nil_of_le (by omega), List.nil_append]; congr 1; omega
theorem seg_suf {P C C' S : List ByteArray} {s q : Nat} (hl : C.length = C'.length) (h : P.length + C.length ≤ q * s) : segB (P ++ (C ++ S)) s q = segB (P ++ (C' ++ S)) s q := by
  unfold segB
  congr 1
  have e : ∀ X : List ByteArray, X.length = C.length → (P ++ (X ++ S)).drop (q * s) = S.drop (q * s - (P.length + C.length)) := fun X hX => by
    have h2 : q * s = (P ++ X).length + (q * s - (P.length + C.length)) := by rw [List.length_append, hX]; omega
    rw [← List.append_assoc]
    conv => lhs; rw [h2]
    rw [drop_app_len]
  rw [e C rfl, e C' hl.symm]
theorem seg_at {P C S : List ByteArray} {s q : Nat} (hq : q * s = P.length) (hC : C.length = s ∨ (C.length ≤ s ∧ S = [])) : segB (P ++ (C ++ S)) s q = C := by
  unfold segB
  rw [hq, List.drop_left]
  rcases hC with h | ⟨h, rfl⟩
  · rw [← h, List.take_left]
  · rw [List.append_nil, List.take_of_length_le h]
theorem split3 (l : List ByteArray) (a s : Nat) : l.take a ++ ((l.drop a).take s ++ l.drop (a + s)) = l := by
  rw [← List.drop_drop, List.take_append_drop, List.take_append_drop]
/-- one block is put in order -/
theorem blk_ins {key : ByteArray → Int} {l l0 l' C : List ByteArray} {t k : Nat} (hTo : ∀ q, q < k → BlkK key l l0 t q) (hd : l.drop (k * t) = l0.drop (k * t)) (hk : k * t ≤ l.length) (hp : C.Perm ((l.drop (k * t)).take t)) (hC : ascR key C) (hl' : l' = l.take (k * t) ++ (C ++ l.drop (k * t + t))) :
    (∀ q, q < k + 1 → BlkK key l' l0 t q) ∧ (k * t + t ≤ l.length → l'.drop ((k + 1) * t) = l0.drop ((k + 1) * t)) ∧ l'.length = l.length := by
  have hPl : (l.take (k * t)).length = k * t := by rw [List.length_take]; omega
  have hCl : C.length = ((l.drop (k * t)).take t).length := hp.length_eq
  have hCl2 : C.length ≤ t := by rw [hCl, List.length_take]; omega
  have hs := split3 l (k * t) t
  refine ⟨fun q hq => ?_, fun h => ?_, ?_⟩
  · by_cases hlt : q < k
    · have hle : q * t + t ≤ (l.take (k * t)).length := by
        rw [hPl]
        have := Nat.mul_le_mul_right t (show q + 1 ≤ k by omega)
        rw [Nat.add_mul, Nat.one_mul] at this; exact this
      have h1 := hTo q hlt
      have e : segB l' t q = segB l t q := by
        rw [hl', ← hs]
        rw [hs]
        exact (seg_pre hle).trans (by rw [hs])
      unfold BlkK; rw [e]; exact h1
    · obtain rfl : q = k := by omega
      have e : segB l' t q = C := by
        rw [hl']
        refine seg_at hPl.symm ?_
        by_cases hf : q * t + t ≤ l.length
        · left; rw [hCl, List.length_take, List.length_drop]; omega
        · right; exact ⟨hCl2, List.drop_eq_nil_of_le (by omega)⟩
      unfold BlkK; rw [e]
      refine ⟨?_, hC⟩
      unfold segB; rw [← hd]; exact hp
  · have e1 : (k + 1) * t = k * t + t := by rw [Nat.add_mul, Nat.one_mul]
    have hCt : C.length = t := by rw [hCl, List.length_take, List.length_drop]; omega
    rw [e1, hl', ← List.append_assoc, List.drop_append, List.drop_eq_nil_of_le (by rw [List.length_append, hPl]; omega), List.nil_append, List.length_append, hPl, hCt, Nat.sub_self, List.drop_zero, ← List.drop_drop, hd, List.drop_drop]
  · rw [hl']
    conv => rhs; rw [← hs]
    rw [List.length_append, List.length_append, List.length_append, List.length_append, hCl]
theorem blk_all {key : ByteArray → Int} {l l0 : List ByteArray} {t k : Nat} (hTo : ∀ q, q < k → BlkK key l l0 t q) (h : l.length ≤ k * t) (hl : l0.length = l.length) : ∀ q, BlkK key l l0 t q := fun q => by
  by_cases hq : q < k
  · exact hTo q hq
  · have hle : k * t ≤ q * t := Nat.mul_le_mul_right t (by omega)
    unfold BlkK
    rw [seg_nil (by omega), seg_nil (by omega)]
    exact ⟨List.Perm.refl _, List.Pairwise.nil⟩
theorem seg_mem {l : List ByteArray} {s q : Nat} {x : ByteArray} (h : x ∈ segB l s q) : ∃ i, q * s ≤ i ∧ i < q * s + s ∧ i < l.length ∧ x = gs l i := by
  unfold segB at h
  obtain ⟨i, hi, rfl⟩ := List.getElem_of_mem h
  rw [List.length_take, List.length_drop] at hi
  exact ⟨q * s + i, by omega, by omega, by omega, by rw [gs_get (by omega), List.getElem_take, List.getElem_drop]⟩
theorem asc_at {l : List ByteArray} (h : ascS l) {i j : Nat} (hij : i < j) (hj : j < l.length) : lessS (gs l i) (gs l j) = true := by
  rw [gs_get (by omega), gs_get hj]; exact List.pairwise_iff_getElem.1 h i j (by omega) hj hij
theorem blk_bef {key : ByteArray → Int} {l l0 : List ByteArray} {s p q : Nat} (h0 : ascS l0) (hpq : p < q) (h1 : BlkK key l l0 s p) (h2 : BlkK key l l0 s q) : bef (segB l s p) (segB l s q) := fun x hx y hy => by
  obtain ⟨i, a1, a2, a3, rfl⟩ := seg_mem ((h1.1.mem_iff).1 hx)
  obtain ⟨j, b1, b2, b3, rfl⟩ := seg_mem ((h2.1.mem_iff).1 hy)
  have := Nat.mul_le_mul_right s (show p + 1 ≤ q by omega)
  rw [Nat.add_mul, Nat.one_mul] at this
  exact asc_at h0 (by omega) b3
theorem blk_Q {key : ByteArray → Int} {Q : ByteArray → Prop} {l l0 : List ByteArray} {s p : Nat} (hQ : ∀ x ∈ l0, Q x) (h1 : BlkK key l l0 s p) : ∀ x ∈ segB l s p, Q x := fun x hx => by
  obtain ⟨i, a1, a2, a3, rfl⟩ := seg_mem ((h1.1.mem_iff).1 hx)
  exact hQ _ (by rw [gs_get a3]; exact List.getElem_mem a3)
/-- the parts of a row at a pair of blocks -/
theorem split_two (l : List ByteArray) (s k : Nat) : l.take (k * (2 * s)) ++ (segB l s (2 * k) ++ (segB l s (2 * k + 1) ++ l.drop (k * (2 * s) + 2 * s))) = l := by
  have h := split3 l (k * (2 * s)) (2 * s)
  have e := seg_two l s k
  unfold segB at e
  rw [e] at h
  unfold segB
  rwa [List.append_assoc] at h
/-- two blocks are merged -/
theorem blk_two {key : ByteArray → Int} {l l0 l' C : List ByteArray} {s k : Nat} (_hl0 : l0.length = l.length) (hTo : ∀ q, q < k → BlkK key l l0 (2 * s) q) (hFr : ∀ q, 2 * k ≤ q → BlkK key l l0 s q) (hk : k * (2 * s) ≤ l.length) (hp : C.Perm (segB l s (2 * k) ++ segB l s (2 * k + 1))) (hC : ascR key C) (hl' : l' = l.take (k * (2 * s)) ++ (C ++ l.drop (k * (2 * s) + 2 * s))) :
    (∀ q, q < k + 1 → BlkK key l' l0 (2 * s) q) ∧ (∀ q, 2 * (k + 1) ≤ q → BlkK key l' l0 s q) ∧ l'.length = l.length := by
  have hPl : (l.take (k * (2 * s))).length = k * (2 * s) := by rw [List.length_take]; omega
  have hCseg : C.length = (segB l (2 * s) k).length := by rw [seg_two]; exact hp.length_eq
  have hCle : C.length ≤ 2 * s := by rw [hCseg]; unfold segB; rw [List.length_take]; omega
  have hs : l.take (k * (2 * s)) ++ (segB l (2 * s) k ++ l.drop (k * (2 * s) + 2 * s)) = l := split3 l _ _
  refine ⟨fun q hq => ?_, fun q hq => ?_, ?_⟩
  · by_cases hlt : q < k
    · have hle : q * (2 * s) + 2 * s ≤ (l.take (k * (2 * s))).length := by
        rw [hPl]
        have := Nat.mul_le_mul_right (2 * s) (show q + 1 ≤ k by omega)
        rw [Nat.add_mul, Nat.one_mul] at this; exact this
      have e : segB l' (2 * s) q = segB l (2 * s) q := by
        rw [hl']
        exact (seg_pre (Y := segB l (2 * s) k ++ l.drop (k * (2 * s) + 2 * s)) hle).trans (by rw [hs])
      unfold BlkK; rw [e]; exact hTo q hlt
    · obtain rfl : q = k := by omega
      have e : segB l' (2 * s) q = C := by
        rw [hl']
        refine seg_at hPl.symm ?_
        by_cases hf : q * (2 * s) + 2 * s ≤ l.length
        · left; rw [hCseg, seg_len hf]
        · right; exact ⟨hCle, List.drop_eq_nil_of_le (by omega)⟩
      unfold BlkK; rw [e]
      refine ⟨?_, hC⟩
      rw [seg_two]
      exact hp.trans ((hFr _ (Nat.le_refl _)).1.append (hFr _ (by omega)).1)
  · have hge : k * (2 * s) + 2 * s ≤ q * s := by
      have := Nat.mul_le_mul_right s hq
      rw [show 2 * (k + 1) * s = k * (2 * s) + 2 * s by rw [Nat.mul_add, Nat.add_mul, Nat.mul_one, ← Nat.mul_assoc k 2 s, Nat.mul_comm k 2]] at this
      exact this
    have hCl : C.length = (segB l (2 * s) k).length := hCseg
    have e : segB l' s q = segB l s q := by
      rw [hl']
      refine (seg_suf hCl (by rw [hPl]; omega)).trans ?_
      rw [hs]
    unfold BlkK; rw [e]; exact hFr q (by omega)
  · rw [hl']
    conv => rhs; rw [← hs]
    rw [List.length_append, List.length_append, List.length_append, List.length_append, hCseg]
/-- a last block that has no second half -/
theorem blk_last {key : ByteArray → Int} {l l0 : List ByteArray} {s k : Nat} (hl0 : l0.length = l.length) (hTo : ∀ q, q < k → BlkK key l l0 (2 * s) q) (hFr : ∀ q, 2 * k ≤ q → BlkK key l l0 s q) (h : l.length ≤ k * (2 * s) + s) : ∀ q, q < k + 1 → BlkK key l l0 (2 * s) q := fun q hq => by
  by_cases hlt : q < k
  · exact hTo q hlt
  · obtain rfl : q = k := by omega
    have h1 := hFr (2 * q) (Nat.le_refl _)
    have e2 : (2 * q + 1) * s = q * (2 * s) + s := by rw [Nat.add_mul, Nat.one_mul, ← Nat.mul_assoc, Nat.mul_comm q 2]
    unfold BlkK
    rw [seg_two, seg_two, seg_nil (l := l) (q := 2 * q + 1) (by omega), seg_nil (l := l0) (q := 2 * q + 1) (by omega), List.append_nil, List.append_nil]
    exact h1
theorem blk_done {key : ByteArray → Int} {l l0 : List ByteArray} {s : Nat} (hl0 : l0.length = l.length) (h : BlkK key l l0 s 0) (hs : l.length ≤ s) : l.Perm l0 ∧ ascR key l := by
  unfold BlkK segB at h
  rw [Nat.zero_mul, List.drop_zero, List.drop_zero, List.take_of_length_le hs, List.take_of_length_le (by omega)] at h
  exact h
/-- nothing is returned, and a row has been put in order -/
def RetSt (key : ByteArray → Int) (B g n c : Nat) (l0 : List ByteArray) (w : World) (e : Ending) (w' : World) : Prop := e = .returned (.tuple #[]) ∧ (∃ l : List ByteArray, l.Perm l0 ∧ ascR key l ∧ RowT w' B g n c l) ∧ Chg g (g + 1) w w'
def InvA (key : ByteArray → Int) (B g n c : Nat) (l0 : List ByteArray) (k : Nat) (w W : World) : Prop := ∃ l : List ByteArray, RowT W B g n c l ∧ (∀ q, q < k → BlkK key l l0 20 q) ∧ l.drop (k * 20) = l0.drop (k * 20) ∧ Chg g (g + 1) w W
def InvB (key : ByteArray → Int) (B g n c : Nat) (l0 : List ByteArray) (s : Nat) (w W : World) : Prop := ∃ l : List ByteArray, RowT W B g n c l ∧ (∀ q, BlkK key l l0 s q) ∧ Chg g (g + 1) w W
def InvC (key : ByteArray → Int) (B g n c : Nat) (l0 : List ByteArray) (s k : Nat) (w W : World) : Prop := ∃ l : List ByteArray, RowT W B g n c l ∧ (∀ q, q < k → BlkK key l l0 (2 * s) q) ∧ (∀ q, 2 * k ≤ q → BlkK key l l0 s q) ∧ Chg g (g + 1) w W
theorem ins_block (key : ByteArray → Int) (Q : ByteArray → Prop) (fd : Nat) (caps : Array Value) (B g n c : Nat) (w0 : World) (hcmp : CmpK key Q fd caps g w0) (hn : n ≤ 1048576) (l0 : List ByteArray) (hl0 : l0.length = n) (h0 : ascS l0) (hQ : ∀ x ∈ l0, Q x) (k b : Nat) (hb : b = min (k * 20 + 20) n) (hk : k * 20 ≤ n) (w W : World) (hw : Chg g (g + 1) w0 w) (hI : InvA key B g n c l0 k w W) :
    Calls Try.prog 125 #[.slice (some ⟨g, 0, none⟩) n c, .int .i64 (k * 20 : Nat), .int .i64 b, .func (.func fd) #[] caps] W (fun e W' => e = .returned (.tuple #[]) ∧ ∃ l : List ByteArray, RowT W' B g n c l ∧ (∀ q, q < k + 1 → BlkK key l l0 20 q) ∧ (k * 20 + 20 ≤ n → l.drop ((k + 1) * 20) = l0.drop ((k + 1) * 20)) ∧ Chg g (g + 1) w W') := by
  obtain ⟨l, h1, h2, h3, h4⟩ := hI
  have hl := h1.len
  have hmem : ∀ x ∈ (l.drop (k * 20)).take 20, x ∈ l0 := fun x hx => by
    rw [h3] at hx; exact List.mem_of_mem_drop (List.mem_of_mem_take hx)
  have h := insert_strs key Q fd caps B g n c w0 hcmp (l.take (k * 20)) ((l.drop (k * 20)).take 20) (l.drop (k * 20 + 20)) (k * 20) b (by rw [List.length_take]; omega) (by rw [List.length_take, List.length_take, List.length_drop]; omega) W (hw.trans h4) (by rw [split3]; exact h1) hn
    (by rw [h3]; exact List.Pairwise.sublist ((List.take_sublist _ _).trans (List.drop_sublist _ _)) h0) (fun x hx => hQ x (hmem x hx))
  refine h.mono fun e W' ⟨he, ⟨C, c1, c2, c3⟩, c4⟩ => ⟨he, _, c3, ?_⟩
  obtain ⟨b1, b2, b3⟩ := blk_ins (l' := l.take (k * 20) ++ (C ++ l.drop (k * 20 + 20))) h2 h3 (by omega) c1 c2 rfl
  exact ⟨b1, fun hle => b2 (by omega), h4.trans c4⟩
theorem two_block (key : ByteArray → Int) (Q : ByteArray → Prop) (fd : Nat) (caps : Array Value) (B g n c : Nat) (w0 : World) (hcmp : CmpK key Q fd caps g w0) (hn : n ≤ 1048576) (l0 : List ByteArray) (hl0 : l0.length = n) (h0 : ascS l0) (hQ : ∀ x ∈ l0, Q x) (s k a m b : Nat) (hs : 0 < s) (ha : a = k * (2 * s)) (hm : m = a + s) (hb : b = min (a + 2 * s) n) (hmn : m < n) (w W : World) (hw : Chg g (g + 1) w0 w) (hI : InvC key B g n c l0 s k w W) :
    Calls Try.prog 126 #[.slice (some ⟨g, 0, none⟩) n c, .int .i64 a, .int .i64 m, .int .i64 b, .func (.func fd) #[] caps] W (fun e W' => e = .returned (.tuple #[]) ∧ InvC key B g n c l0 s (k + 1) w W') := by
  obtain ⟨l, h1, h2, h3, h4⟩ := hI
  have hl := h1.len
  have e1 : 2 * k * s = a := by rw [ha, ← Nat.mul_assoc, Nat.mul_comm k 2]
  have e2 : (2 * k + 1) * s = a + s := by rw [Nat.add_mul, Nat.one_mul, e1]
  have la : (segB l s (2 * k)).length = s := seg_len (by omega)
  have ld : (segB l s (2 * k + 1)).length = min s (n - m) := by unfold segB; rw [List.length_take, List.length_drop]; omega
  have p1 := h3 (2 * k) (Nat.le_refl _)
  have p2 := h3 (2 * k + 1) (by omega)
  have hrow : RowT W B g n c (l.take a ++ (segB l s (2 * k) ++ (segB l s (2 * k + 1) ++ l.drop (a + 2 * s)))) := by rw [ha, split_two]; exact h1
  have h := merge_strs key Q fd caps B g n c w0 hcmp hn ((segB l s (2 * k)).length + (segB l s (2 * k + 1)).length) (l.take a) (segB l s (2 * k)) (segB l s (2 * k + 1)) (l.drop (a + 2 * s)) a m b W (Nat.le_refl _) (by omega) (by omega) (by rw [List.length_take]; omega) (by omega) (by omega) (hw.trans h4) hrow p1.2 p2.2 (blk_bef h0 (by omega) p1 p2) (blk_Q hQ p1) (blk_Q hQ p2)
  refine h.mono fun e W' ⟨he, ⟨C, c1, c2, c3⟩, c4⟩ => ⟨he, _, c3, ?_⟩
  obtain ⟨b1, b2, b3⟩ := blk_two (l' := l.take a ++ (C ++ l.drop (a + 2 * s))) (by omega) h2 h3 (by omega) c1 c2 (by rw [ha])
  exact ⟨b1, b2, h4.trans c4⟩
set_option maxHeartbeats 8000000 in
theorem stable_strs (key : ByteArray → Int) (Q : ByteArray → Prop) (fd : Nat) (caps : Array Value) (B g n c : Nat) (w : World) (hcmp : CmpK key Q fd caps g w) (hn : n ≤ 1048576) (l0 : List ByteArray) (h0 : ascS l0) (hQ : ∀ x ∈ l0, Q x) (ho : RowT w B g n c l0) :
    Calls Try.prog 94 #[.slice (some ⟨g, 0, none⟩) n c, .int .i64 n, .func (.func fd) #[] caps] w (RetSt key B g n c l0 w) := by
  have hl0 := ho.len
  have HO := Lib.hid ho
  have HIns := Lib.hid (fun (k b : Nat) (hb : b = min (k * 20 + 20) n) (hk : k * 20 ≤ n) W hI => ins_block key Q fd caps B g n c w hcmp hn l0 hl0 h0 hQ k b hb hk w W (Chg.refl _ _ _) hI)
  have HTwo := Lib.hid (fun (s k a m b : Nat) (hs : 0 < s) (ha : a = k * (2 * s)) (hm : m = a + s) (hb : b = min (a + 2 * s) n) (hmn : m < n) W hI => two_block key Q fd caps B g n c w hcmp hn l0 hl0 h0 hQ s k a m b hs ha hm hb hmn w W (Chg.refl _ _ _) hI)
  have HL := Lib.hid hl0
  clear ho h0 hQ hcmp hl0
  go_enter Try.func94, Try.ntmps94
  go_wp2_with fail
  go_loopw [7, 8] (fun v7 v8 wr => ∃ k a : Nat, v7 = .int .i64 a ∧ v8 = .int .i64 ((a : Int) + 20) ∧ a ≤ n ∧ Hid (a = k * 20) ∧ Hid (InvA key B g n c l0 k w wr)) (fun v7 _ _ => n - (intOf v7).toNat)
  case atStart => exact ⟨0, 0, rfl, rfl, Nat.zero_le _, rfl, l0, HO.out, fun q hq => by omega, rfl, Chg.refl _ _ _⟩
  case round =>
    obtain ⟨k, a, rfl, rfl, han, HA, HI⟩ := hrel
    by_cases hlt : a + 20 ≤ n
    · have HC := Lib.hid (HIns.out k (a + 20) (by rw [← HA.out]; omega) (by rw [← HA.out]; exact han) wr HI.out)
      rw [← HA.out] at HC
      have hc20 : ((a + 20 : Nat) : Int) = (a : Int) + 20 := by omega
      rw [hc20] at HC
      clear hc20
      go_wp2_with ((with_reducible refine HC.out.mono ?_); rintro e w5 ⟨rfl, l, r1, r2, r3, r4⟩; have HR := Lib.hid (And.intro r1 (And.intro r2 (And.intro r3 r4))); clear r1 r2 r3 r4)
      obtain ⟨r1, r2, r3, r4⟩ := HR.out
      exact ⟨⟨k + 1, a + 20, by go_num, by go_num, hlt, (by have := HA.out; omega : a + 20 = (k + 1) * 20), l, r1, r2, r3 (by have := HA.out; omega), r4⟩, by simp [intOf]; omega⟩
    · have HC := Lib.hid (HIns.out k n (by rw [← HA.out]; omega) (by rw [← HA.out]; exact han) wr HI.out)
      rw [← HA.out] at HC
      go_wp2_with ((with_reducible refine HC.out.mono ?_); rintro e w5 ⟨rfl, l, r1, r2, _, r4⟩; have HR := Lib.hid (And.intro r1 (And.intro r2 r4)); clear r1 r2 r4)
      have HB0 := Lib.hid (show InvB key B g n c l0 20 w w5 from ⟨l, HR.out.1, blk_all HR.out.2.1 (by have := HR.out.1.len; have := HA.out; omega) (by have := HR.out.1.len; have := HL.out; omega), HR.out.2.2⟩)
      clear HR HC HI HA
      go_loopw [6, 7, 8, 9] (fun v6 v7 v8 v9 wr => ∃ s : Nat, v6 = .int .i64 s ∧ 20 ≤ s ∧ s ≤ 2097152 ∧ Hid (InvB key B g n c l0 s w wr)) (fun v6 _ _ _ _ => n - (intOf v6).toNat)
      case atStart => exact ⟨20, rfl, Nat.le_refl _, by omega, HB0.out⟩
      case round =>
        clear HB0
        obtain ⟨s, rfl, hs20, hs21, HB⟩ := hrel
        by_cases hsn : s < n
        · go_wp2_with fail
          rename World => wo
          go_loopw [7, 8] (fun v7 v8 wr => ∃ k a : Nat, v7 = .int .i64 a ∧ v8 = .int .i64 ((a : Int) + 2 * (s : Int)) ∧ a ≤ n ∧ Hid (a = k * (2 * s)) ∧ Hid (InvC key B g n c l0 s k w wr)) (fun v7 _ _ => n - (intOf v7).toNat)
          case atStart =>
            obtain ⟨l, r1, r2, r3⟩ := HB.out
            exact ⟨0, 0, rfl, by simp, Nat.zero_le _, (Nat.zero_mul _).symm, l, r1, fun q hq => by omega, fun q _ => r2 q, r3⟩
          case round =>
            clear HB
            obtain ⟨k, a, rfl, rfl, han, HA, HC⟩ := hrel
            have HNx := Lib.hid (show (k + 1) * (2 * s) = a + 2 * s by rw [Nat.add_mul, Nat.one_mul, ← HA.out])
            by_cases hlt : a + 2 * s ≤ n
            · have HM := Lib.hid (HTwo.out s k a (a + s) (a + 2 * s) (by omega) HA.out rfl (by omega) (by omega) wr HC.out)
              rw [show ((a + 2 * s : Nat) : Int) = (a : Int) + 2 * (s : Int) by omega, show ((a + s : Nat) : Int) = (a : Int) + (s : Int) by omega] at HM
              go_wp2_with ((with_reducible refine HM.out.mono ?_); rintro e w5 ⟨rfl, r5⟩; have HR := Lib.hid r5; clear r5)
              exact ⟨⟨k + 1, a + 2 * s, by go_num, by go_num, hlt, HNx.out.symm, HR.out⟩, by simp [intOf]; omega⟩
            · by_cases hmn : a + s < n
              · have HM := Lib.hid (HTwo.out s k a (a + s) n (by omega) HA.out rfl (by omega) hmn wr HC.out)
                rw [show ((a + s : Nat) : Int) = (a : Int) + (s : Int) by omega] at HM
                go_wp2_with ((with_reducible refine HM.out.mono ?_); rintro e w5 ⟨rfl, r5⟩; have HR := Lib.hid r5; clear r5)
                refine ⟨⟨2 * s, by go_num, by omega, by omega, ?_⟩, by simp [intOf]; omega⟩
                obtain ⟨l, r1, r2, r3, r4⟩ := HR.out
                exact ⟨l, r1, blk_all r2 (by rw [r1.len, HNx.out]; omega) (by rw [r1.len]; exact HL.out), r4⟩
              · go_wp2_with fail
                refine ⟨⟨2 * s, by go_num, by omega, by omega, ?_⟩, by simp [intOf]; omega⟩
                obtain ⟨l, r1, r2, r3, r4⟩ := HC.out
                exact ⟨l, r1, blk_all (blk_last (by rw [r1.len]; exact HL.out) r2 r3 (by rw [r1.len, ← HA.out]; omega)) (by rw [r1.len, HNx.out]; omega) (by rw [r1.len]; exact HL.out), r4⟩
        · obtain ⟨l, r1, r2, r3⟩ := HB.out
          have hd := blk_done (by rw [r1.len]; exact HL.out) (r2 0) (by rw [r1.len]; omega)
          have HFin := Lib.hid (show RetSt key B g n c l0 w (.returned (.tuple #[])) wr from ⟨rfl, ⟨l, hd.1, hd.2, r1⟩, r3⟩)
          clear hd r1 r2 r3
          go_wp2_with fail
          exact bodyPost_ret (v := .tuple #[]) (by simp [results, Try.results94, go_sem]) rfl HFin.out
theorem sortStable_strs (key : ByteArray → Int) (Q : ByteArray → Prop) (fd : Nat) (caps : Array Value) (B g n c : Nat) (w : World) (hcmp : CmpK key Q fd caps g w) (hn : n ≤ 1048576) (l0 : List ByteArray) (h0 : ascS l0) (hQ : ∀ x ∈ l0, Q x) (ho : RowT w B g n c l0) :
    Calls Try.prog 56 #[.slice (some ⟨g, 0, none⟩) n c, .func (.func fd) #[] caps] w (RetSt key B g n c l0 w) := by
  have H := Lib.hid (stable_strs key Q fd caps B g n c w hcmp hn l0 h0 hQ ho)
  clear hcmp h0 hQ ho
  go_enter Try.func56, Try.ntmps56
  go_wp2_with ((with_reducible refine H.out.mono ?_); rintro e w5 ⟨rfl, h5, hc5⟩; have H5 := Lib.hid h5; clear h5)
  exact bodyPost_ret (v := .tuple #[]) (by simp [results, Try.results56, go_sem]) rfl ⟨rfl, H5.out, hc5⟩
end Go.Proofs.Ytbcfbkhbangeoaa
