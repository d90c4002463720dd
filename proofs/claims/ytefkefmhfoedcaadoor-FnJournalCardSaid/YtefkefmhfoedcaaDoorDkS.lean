/- Plain law: a journal that is cut, and one in which a byte is another. Conditions: none. -/
import Derived.Test.YtefkefmhfoedcaaDoorJrB
import Derived.Test.YtefkefmhfoedcaaDoorB10T
import Derived.Test.YtefkefmhfoedcaaDoorDesk
import Derived.Deep.CutBlock
import Derived.Deep.RegionHeld3
namespace Go.Proofs.YtefkefmhfoedcaaDoor
set_option maxRecDepth 100000
open Go.RowKit

/-! ### cut at a mark -/
theorem splitB_app (c : UInt8) : ∀ (t s : List UInt8) (ps : List (List UInt8)) (p : List UInt8), splitB c s = ps ++ [p] → ∃ r rs, splitB c (s ++ t) = ps ++ (r :: rs)
  | [], s, ps, p, h => ⟨p, [], by rw [List.append_nil]; exact h⟩
  | x :: t, s, ps, p, h => by
    have h1 := splitB_snoc c x s ps p h
    rw [show s ++ x :: t = (s ++ [x]) ++ t by simp]
    by_cases e : x = c
    · rw [if_pos e] at h1
      obtain ⟨r, rs, h2⟩ := splitB_app c t (s ++ [x]) (ps ++ [p]) [] h1
      exact ⟨p, r :: rs, by rw [h2]; simp⟩
    · rw [if_neg e] at h1
      exact splitB_app c t (s ++ [x]) ps (p ++ [x]) h1
theorem splitB_cat (c : UInt8) : ∀ (q s : List UInt8) (ps : List (List UInt8)) (p : List UInt8), c ∉ q → splitB c s = ps ++ [p] → splitB c (s ++ q) = ps ++ [p ++ q]
  | [], s, ps, p, _, h => by rw [List.append_nil, List.append_nil]; exact h
  | x :: q, s, ps, p, hq, h => by
    have h1 := splitB_snoc c x s ps p h
    rw [if_neg (fun e => hq (by rw [e]; exact List.mem_cons_self ..))] at h1
    rw [show s ++ x :: q = (s ++ [x]) ++ q by simp, show p ++ x :: q = (p ++ [x]) ++ q by simp]
    exact splitB_cat c q (s ++ [x]) ps (p ++ [x]) (fun e => hq (List.mem_cons_of_mem _ e)) h1
theorem splitB_count (c : UInt8) : ∀ s : List UInt8, (splitB c s).length = s.count c + 1
  | [] => by simp [splitB]
  | x :: s => by
    have ih := splitB_count c s
    unfold splitB
    split
    · rename_i e
      rw [List.length_cons, ih, e, List.count_cons_self]
    · rename_i e
      rw [List.count_cons_of_ne (fun h => e h)]
      have h0 := splitB_ne c s
      cases h1 : splitB c s with
      | nil => exact absurd h1 h0
      | cons p ps => rw [h1] at ih; simpa using ih
theorem split_snoc (l : List (List UInt8)) (h : l ≠ []) : ∃ ps p, l = ps ++ [p] := ⟨l.dropLast, l.getLast h, (List.dropLast_concat_getLast h).symm⟩
/-- the complete parts of a beginning are parts of the whole -/
theorem parts_pre (s s' : ByteArray) (t : List UInt8) (h : bl s' = bl s ++ t) : (partsB 10 s).length ≤ (partsB 10 s').length ∧ ∀ j, j + 1 < (partsB 10 s).length → gs (partsB 10 s') j = gs (partsB 10 s) j := by
  obtain ⟨ps, p, h1⟩ := split_snoc (splitB 10 (bl s)) (splitB_ne _ _)
  obtain ⟨r, rs, h2⟩ := splitB_app 10 t (bl s) ps p h1
  rw [← h] at h2
  have e1 : partsB 10 s = ps.map mkB ++ [mkB p] := by simp [partsB, h1]
  have e2 : partsB 10 s' = ps.map mkB ++ (mkB r :: rs.map mkB) := by simp [partsB, h2]
  refine ⟨by rw [e1, e2]; simp, fun j hj => ?_⟩
  rw [e1] at hj ⊢
  rw [e2]
  have hj2 : j < (ps.map mkB).length := by simpa using hj
  unfold gs
  simp only [List.getD_eq_getElem?_getD]
  rw [List.getElem?_append_left hj2, List.getElem?_append_left hj2]

/-! ### what is recovered, of texts that agree -/
theorem ckJ_eq {ps qs : List ByteArray} : ∀ k, (∀ j, j < k → gs ps j = gs qs j) → ckJ ps k = ckJ qs k
  | 0, _ => rfl
  | k + 1, h => by rw [ckJ, ckJ, ckJ_eq k (fun j hj => h j (by omega)), h k (by omega)]
theorem offB_eq {ps qs : List ByteArray} : ∀ k, (∀ j, j < k → gs ps j = gs qs j) → offB ps k = offB qs k
  | 0, _ => rfl
  | k + 1, h => by rw [offB, offB, offB_eq k (fun j hj => h j (by omega)), h k (by omega)]
theorem recOk_eq {ps qs : List ByteArray} {k : Nat} (h : ∀ j, j ≤ k → gs ps j = gs qs j) : recOk ps k = recOk qs k := by
  unfold recOk
  rw [h k (Nat.le_refl _), ckJ_eq (k + 1) (fun j hj => h j (by omega))]
theorem offB_mono (ps : List ByteArray) {i k : Nat} (h : i ≤ k) : offB ps i ≤ offB ps k := by
  induction k with
  | zero => obtain rfl : i = 0 := by omega
            exact Nat.le_refl _
  | succ k ih =>
    by_cases e : i = k + 1
    · subst e; exact Nat.le_refl _
    · have := ih (by omega); rw [offB]; omega
theorem takeWhile_at {α : Type} (p : α → Bool) (l : List α) : (l.takeWhile p).length ≤ l.length ∧ ∀ j (h : j < l.length), j < (l.takeWhile p).length → p l[j] = true := by
  induction l with
  | nil => simp
  | cons x l ih =>
    cases hx : p x
    · simp [hx]
    · simp only [List.takeWhile_cons, hx, if_true, List.length_cons]
      refine ⟨by have := ih.1; omega, fun j h hj => ?_⟩
      cases j with
      | zero => simpa using hx
      | succ j => simpa using ih.2 j (by simpa using h) (by omega)
theorem takeWhile_ge {α : Type} (p : α → Bool) : ∀ (l : List α) (i : Nat), i ≤ l.length → (∀ j (h : j < l.length), j < i → p l[j] = true) → i ≤ (l.takeWhile p).length
  | _, 0, _, _ => Nat.zero_le _
  | [], i + 1, h, _ => by simp at h
  | x :: l, i + 1, h, h1 => by
    have h3 := h1 0 (by simp) (by omega)
    simp only [List.getElem_cons_zero] at h3
    rw [List.takeWhile_cons, h3]
    simp only [if_true, List.length_cons]
    have := takeWhile_ge p l i (by simpa using h) (fun j hj hji => by have := h1 (j + 1) (by simpa using hj) (by omega); simpa using this)
    omega
theorem recN_le (ps : List ByteArray) (m : Nat) : recN ps m ≤ m ∧ ∀ j, j < recN ps m → recOk ps j = true := by
  obtain ⟨ha, h⟩ := takeWhile_at (recOk ps) (List.range m)
  have hb : recN ps m ≤ m := by unfold recN; simpa using ha
  refine ⟨hb, fun j hj => ?_⟩
  have h1 : j < m := Nat.lt_of_lt_of_le hj hb
  have := h j (by simpa using h1) hj
  simpa using this
theorem recN_ge {ps : List ByteArray} {m i : Nat} (hi : i ≤ m) (h1 : ∀ j, j < i → recOk ps j = true) : i ≤ recN ps m :=
  takeWhile_ge _ _ _ (by simpa using hi) (fun j hj hji => by simpa using h1 j hji)
theorem rcK_le (s : ByteArray) : rcK s + 1 ≤ (partsB 10 s).length ∧ ∀ j, j < rcK s → recOk (partsB 10 s) j = true := by
  have h := recN_le (partsB 10 s) ((partsB 10 s).length - 1)
  have h2 := (partsB_len 10 s).1
  exact ⟨by unfold rcK; omega, h.2⟩
theorem gs_rec {ps : List ByteArray} {k j : Nat} (h : j < k) : gs (recLines ps k) j = lineOf (gs ps j) := by
  rw [gs_get (by rw [recLines_len]; exact h)]; simp [recLines]
theorem ck_rec {ps : List ByteArray} {k : Nat} : ∀ j, j ≤ k → ckK (recLines ps k) j = ckJ ps j
  | 0, _ => rfl
  | j + 1, h => by rw [ckK, ckJ, ck_rec j (by omega), gs_rec (by omega)]
/-- what is recovered has the beginning as its journal -/
theorem jr_rec (s : ByteArray) : ∀ j, j ≤ rcK s → jrK (recLines (partsB 10 s) (rcK s)) j = s.extract 0 (offB (partsB 10 s) j)
  | 0, _ => by rw [jrK, offB]; apply bl_ext; rw [bl_extract]; simp [bl]
  | j + 1, h => by
    obtain ⟨h1, h2⟩ := rcK_le s
    have h3 := h2 j (by omega)
    have h4 := (part_drop 10 s j (by omega)).1
    unfold recOk at h3
    rw [Bool.and_eq_true, decide_eq_true_eq, decide_eq_true_eq] at h3
    rw [jrK, jr_rec s j (by omega), ck_rec (j + 1) (by omega), gs_rec (by omega), lineS, ← h3.2, sp_parts _ h3.1]
    apply bl_ext
    have h5 := offB_mono (partsB 10 s) (show j ≤ j + 1 by omega)
    have h6 : offB (partsB 10 s) (j + 1) = offB (partsB 10 s) j + ((gs (partsB 10 s) j).size + 1) := rfl
    rw [bl_app, bl_app, bl_extract, bl_extract, List.drop_zero, List.drop_zero, h6, List.take_add, h4]
    have h7 : bl (⟨#[10]⟩ : ByteArray) = [10] := rfl
    rw [h7]
    have h8 : (gs (partsB 10 s) j).size + 1 = (bl (gs (partsB 10 s) j)).length + 1 := by rw [bl_len]
    rw [h8, List.take_length_add_append]
    simp
theorem rc_small {s : ByteArray} (h : s.size ≤ 4000) : rcL s = recLines (partsB 10 s) (rcK s) ∧ rcN s = (offB (partsB 10 s) (rcK s) : Nat) ∧ rcOk s = true := by
  have h1 : rcOk s = true := by unfold rcOk; rw [decide_eq_true_eq]; exact h
  unfold rcL rcN
  rw [h1]; exact ⟨rfl, rfl, rfl⟩
theorem line_no (p : ByteArray) (h : 10 ∉ bl p) : hasB 10 (lineOf p) = false := by
  unfold hasB lineOf
  rw [decide_eq_false_iff_not]
  split
  · rw [bl_full]; exact fun e => h (List.mem_of_mem_drop e)
  · simp [bl]
/-- A: what is recovered has a journal, and this is a beginning of the text -/
theorem rc_back (s : ByteArray) (h : s.size ≤ 4000) : ∃ k : Nat, rcN s = (k : Int) ∧ k ≤ s.size ∧ jrOk (rcL s) = true ∧ jrT (rcL s) = s.extract 0 k := by
  obtain ⟨h1, h2, _⟩ := rc_small h
  have h3 := (rcK_le s).1
  have h4 := off_bd 10 s (rcK s) (by omega)
  have h5 := jr_rec s (rcK s) (Nat.le_refl _)
  have h6 : (rcL s).length = rcK s := by rw [h1, recLines_len]
  have hj : jrOk (rcL s) = true := by
    refine jrOk_yes (fun j hj => ?_) ?_
    · rw [h6] at hj
      rw [h1, gs_rec hj]
      exact line_no _ (part_drop 10 s j (by omega)).2
    · rw [h6, h1, h5, ByteArray.size_extract]; omega
  refine ⟨_, h2, h4, hj, ?_⟩
  unfold jrT
  rw [hj, if_pos rfl, h6, h1, h5]
/-- C: of a longer text at least as much is recovered -/
theorem rc_more (s s' : ByteArray) (t : List UInt8) (h : bl s' = bl s ++ t) (hs : s'.size ≤ 4000) : rcN s ≤ rcN s' := by
  have hl : s.size ≤ 4000 := by have := congrArg List.length h; rw [List.length_append, bl_len, bl_len] at this; omega
  obtain ⟨_, h2, _⟩ := rc_small hl
  obtain ⟨_, h2', _⟩ := rc_small hs
  obtain ⟨p1, p2⟩ := parts_pre s s' t h
  obtain ⟨k1, k2⟩ := rcK_le s
  have k3 : rcK s ≤ rcK s' := recN_ge (by omega) (fun j hj => by
    rw [recOk_eq (qs := partsB 10 s) (fun i hi => p2 i (by omega))]; exact k2 j hj)
  have o1 : offB (partsB 10 s') (rcK s) = offB (partsB 10 s) (rcK s) := offB_eq _ (fun i hi => p2 i (by omega))
  have o2 := offB_mono (partsB 10 s') k3
  rw [h2, h2']
  omega

/-! ### the journal of lines, cut -/
theorem dec_mem : ∀ n : Nat, ∀ x ∈ Lib.decDigits n, 48 ≤ x.toNat := fun n => by
  induction n using Nat.strongRecOn with
  | _ n ih =>
    rw [dec_step]
    intro x hx
    rw [List.mem_append, List.mem_singleton] at hx
    rcases hx with hx | hx
    · split at hx
      · cases hx
      · rename_i e
        exact ih (n / 10) (by omega) x hx
    · subst hx
      have : ((48 + n % 10) % 256) = 48 + n % 10 := by omega
      simp [UInt8.ofNat, UInt8.toNat] 
      omega
theorem dec_no (n : Int) (h : 0 ≤ n) (c : UInt8) (hc : c.toNat < 48) : c ∉ bl (decS n) := fun e => by
  obtain ⟨m, rfl⟩ := Int.eq_ofNat_of_zero_le h
  unfold decS at e
  rw [Lib.itoa_nonneg] at e
  have := dec_mem m c (by simpa [bl] using e)
  omega
/-- a line of the journal, without its end -/
def preL (l : List ByteArray) (j : Nat) : ByteArray := decS (ckK l (j + 1)) ++ ⟨#[32]⟩ ++ gs l j
theorem preL_sp (l : List ByteArray) (j : Nat) : 0 ≤ spI (preL l j) ∧ preOf (preL l j) = decS (ckK l (j + 1)) ∧ lineOf (preL l j) = gs l j := by
  have h0 := dec_no (ckK l (j + 1)) (ckK_bd l _).1 32 (by decide)
  have hb : bl (preL l j) = bl (decS (ckK l (j + 1))) ++ 32 :: bl (gs l j) := by
    unfold preL; rw [bl_app, bl_app, List.append_assoc]; rfl
  have h1 : spI (preL l j) = ((bl (decS (ckK l (j + 1)))).length : Int) := by unfold spI; rw [hb, index_at h0]
  have hp : 0 ≤ spI (preL l j) := by omega
  refine ⟨hp, ?_, ?_⟩
  · apply bl_ext
    unfold preOf
    rw [bl_extract, h1, hb]
    simp
  · unfold lineOf
    rw [if_pos hp]
    apply bl_ext
    rw [bl_full, h1, hb]
    simp
theorem jr_parts (l : List ByteArray) : ∀ k, (∀ j, j < k → hasB 10 (gs l j) = false) → splitB 10 (bl (jrK l k)) = (List.range k).map (fun j => bl (preL l j)) ++ [[]]
  | 0, _ => rfl
  | k + 1, h => by
    have ih := jr_parts l k (fun j hj => h j (by omega))
    have h1 : bl (jrK l (k + 1)) = bl (jrK l k) ++ bl (preL l k) ++ [10] := by
      rw [jrK, lineS, bl_app, bl_app, preL, List.append_assoc]; rfl
    have h2 : 10 ∉ bl (preL l k) := by
      unfold preL
      rw [bl_app, bl_app, List.mem_append, List.mem_append]
      rintro ((e | e) | e)
      · exact dec_no _ (ckK_bd l _).1 10 (by decide) e
      · exact absurd e (by decide)
      · have := h k (by omega)
        unfold hasB at this
        rw [decide_eq_false_iff_not] at this
        exact this e
    have h3 := splitB_snoc 10 10 _ _ _ (splitB_cat 10 (bl (preL l k)) (bl (jrK l k)) _ [] h2 ih)
    rw [if_pos rfl] at h3
    rw [h1, h3, List.range_succ, List.map_append]
    simp
/-- B: of a journal that is cut all complete lines are recovered -/
theorem rc_cut (l : List ByteArray) (hl : jrOk l = true) (s : ByteArray) (t : List UInt8) (h : bl (jrK l l.length) = bl s ++ t) :
    (rcL s).length = (bl s).count 10 ∧ (rcL s).length ≤ l.length ∧ (∀ j, j < (rcL s).length → gs (rcL s) j = gs l j) ∧ s.size ≤ 4000 := by
  unfold jrOk at hl
  rw [Bool.and_eq_true, List.all_eq_true, decide_eq_true_eq] at hl
  have hs : s.size ≤ 4000 := by have := congrArg List.length h; rw [List.length_append, bl_len, bl_len] at this; omega
  have hn : ∀ j, j < l.length → hasB 10 (gs l j) = false := fun j hj => by have := hl.1 _ (gs_mem hj); simpa using this
  have hp := jr_parts l l.length hn
  obtain ⟨p1, p2⟩ := parts_pre s (jrK l l.length) t h
  have e2 : partsB 10 (jrK l l.length) = (List.range l.length).map (preL l) ++ [mkB []] := by
    unfold partsB; rw [hp]; simp [mk_bl, Function.comp_def]
  have hlen : (partsB 10 (jrK l l.length)).length = l.length + 1 := by rw [e2]; simp
  have hg : ∀ j, j + 1 < (partsB 10 s).length → gs (partsB 10 s) j = preL l j := fun j hj => by
    rw [← p2 j hj, e2]
    have hj2 : j < l.length := by omega
    unfold gs
    rw [List.getD_eq_getElem?_getD, List.getElem?_append_left (by simpa using hj2)]
    simp [hj2]
  have hc : ∀ k, k + 1 ≤ (partsB 10 s).length → ckJ (partsB 10 s) k = ckK l k := fun k => by
    induction k with
    | zero => intro _; rfl
    | succ k ih =>
      intro hk
      rw [ckJ, ckK, ih (by omega), hg k (by omega), (preL_sp l k).2.2]
  have hk : rcK s = (partsB 10 s).length - 1 := by
    refine recN_at (Nat.le_refl _) (fun j hj => ?_) (.inl rfl)
    have h1 := preL_sp l j
    unfold recOk
    rw [hg j (by omega), hc (j + 1) (by omega), decide_eq_true h1.1, decide_eq_true h1.2.1]; rfl
  obtain ⟨r1, _, _⟩ := rc_small hs
  have hr : (rcL s).length = (partsB 10 s).length - 1 := by rw [r1, recLines_len, hk]
  have hq : (partsB 10 s).length = (bl s).count 10 + 1 := by unfold partsB; rw [List.length_map, splitB_count]
  refine ⟨by omega, by omega, fun j hj => ?_, hs⟩
  rw [r1, gs_rec (by omega), hg j (by omega), (preL_sp l j).2.2]
theorem count_one (x : UInt8) : [x].count 10 = if x = 10 then 1 else 0 := by
  by_cases e : x = 10
  · subst e; rfl
  · rw [if_neg e, List.count_eq_zero]; simpa using fun h => e h.symm
theorem count_take (s : ByteArray) (i : Nat) (h : i < s.size) : ((bl s).take (i + 1)).count 10 = ((bl s).take i).count 10 + (if s[i] = 10 then 1 else 0) := by
  have h1 : i < (bl s).length := by rw [bl_len]; exact h
  rw [List.take_succ_eq_append_getElem h1, List.count_append, bl_at s i h, count_one]
end Go.Proofs.YtefkefmhfoedcaaDoor

/- Walks: texts of a desk's draws. -/
namespace Go.Proofs.YtefkefmhfoedcaaDoor
set_option maxRecDepth 100000
open Go.RowKit Go.Sort

/-- a text of at most N letters in one line -/
structure LnOk (N : Nat) (s : ByteArray) : Prop where
  sz : s.size ≤ N
  nl : hasB 10 s = false
theorem LnOk.app {N M : Nat} {s t : ByteArray} (h : LnOk N s) (h2 : LnOk M t) : LnOk (N + M) (s ++ t) := by
  refine ⟨by rw [ByteArray.size_append]; have := h.sz; have := h2.sz; omega, ?_⟩
  have a := h.nl
  have b := h2.nl
  unfold hasB at a b ⊢
  rw [decide_eq_false_iff_not] at a b ⊢
  rw [bl_app, List.mem_append]
  rintro (e | e)
  · exact a e
  · exact b e
theorem LnOk.le {N M : Nat} {s : ByteArray} (h : LnOk N s) (hm : N ≤ M) : LnOk M s := ⟨Nat.le_trans h.sz hm, h.nl⟩
def lnB (N : Nat) (s : ByteArray) : Bool := decide (s.size ≤ N) && !hasB 10 s
theorem lnB_ok {N : Nat} {s : ByteArray} (h : lnB N s = true) : LnOk N s := by
  unfold lnB at h
  rw [Bool.and_eq_true, decide_eq_true_eq] at h
  exact ⟨h.1, by simpa using h.2⟩
theorem lnB_all {N : Nat} {l : List ByteArray} (h : (l.all (lnB N)) = true) : ∀ s ∈ l, LnOk N s := fun s hs => lnB_ok (List.all_eq_true.1 h s hs)
theorem dec_ln (n : Int) (h0 : 0 ≤ n) (h1 : n ≤ 9223372036854775807) : LnOk 21 (decS n) :=
  ⟨decS_le n h0 h1, by unfold hasB; rw [decide_eq_false_iff_not]; exact dec_no n h0 10 (by decide)⟩
/-- some text in one line -/
def RetLn (N : Nat) (w : World) (e : Ending) (w' : World) : Prop := ∃ s, e = .returned (.string s) ∧ LnOk N s ∧ Ext w w'
set_option maxHeartbeats 1000000 in
theorem spec_decM (w : World) : Calls Tryd.prog 30 #[.int .i64 (-1)] w (RetLn 21 w) := by
  go_enter Tryd.func30, Tryd.ntmps30
  go_wp2_with fail
  go_loopw [3, 4, 5] (fun v r _ wr => ∃ (p : Nat) (m : Int) (ad : Option Addr) (c : Nat) (L : List Int), r = .int .i64 m ∧ v = .slice ad p c ∧ L.length = p ∧ ((p = 0 ∧ m = -1 ∧ L = []) ∨ (p = 1 ∧ m = 0 ∧ L = [49])) ∧ Hid (Own wr w.heap.size 5 ad p c (U L)) ∧ Ext w wr) (fun v _ _ _ => 1 - lenOf v)
  case atStart => exact ⟨0, -1, _, _, [], rfl, rfl, rfl, .inl ⟨rfl, rfl, rfl⟩, Own.lit0 w _, (by repeat (first | (with_reducible exact Ext.refl _) | (with_reducible refine Ext.drewN ?_ _) | (with_reducible refine Ext.drew ?_) | (with_reducible refine Ext.alloc ?_ _) | ((with_reducible refine Ext.setCell ?_ ?_ _); rotate_left; focus (first | (simp; done) | (simp; omega) | omega)) | assumption | (with_reducible refine Ext.trans ?_ (by assumption))))⟩
  case round =>
    obtain ⟨p, m, ad, c, L, rfl, rfl, hl, hc, HO, hx⟩ := hrel
    have hrr : Ext wr wr := Ext.refl _
    rcases hc with ⟨rfl, rfl, rfl⟩ | ⟨rfl, rfl, rfl⟩
    · clear hl
      go_wp2_with (at_builtin; refine law_appendsO _ rfl _ _ 22 rfl 5 (.int .u8 0) 1 und_u8s info_u8 rfl wr.heap.size _ 1 1 [_] ad 0 c (U []) (oneU _) rfl rfl (Own.lit1 wr _ _) (Sl.ext HO.out.sl (by repeat (first | (with_reducible exact Ext.refl _) | (with_reducible assumption) | (with_reducible refine Ext.drewN ?_ _) | (with_reducible refine Ext.drew ?_) | (with_reducible refine Ext.alloc ?_ _) | ((with_reducible refine Ext.setCell ?_ ?_ _); rotate_left; focus (first | (simp; done) | (simp; omega) | omega)) | (with_reducible refine Ext.trans ?_ (by with_reducible assumption))))) (by simp) (by omega) (by omega) ?_; intro ad1 cc1 w1 ho1 hb1 hg1; have hx1 : Ext wr w1 := Ext.below (by repeat (first | (with_reducible exact Ext.refl _) | (with_reducible assumption) | (with_reducible refine Ext.drewN ?_ _) | (with_reducible refine Ext.drew ?_) | (with_reducible refine Ext.alloc ?_ _) | ((with_reducible refine Ext.setCell ?_ ?_ _); rotate_left; focus (first | (simp; done) | (simp; omega) | omega)) | (with_reducible refine Ext.trans ?_ (by with_reducible assumption)))) hb1; clear hg1)
      exact ⟨⟨1, 0, ad1, cc1, [49], by go_num, by go_num, rfl, .inr ⟨rfl, rfl, rfl⟩, Own.mono ho1 hx.le, hx.trans hx1⟩, by simp [lenOf]⟩
    · clear hl
      have hr := run_bytes_text wr _ ad 1 c _ HO.out
      go_wp2_with fail
      go_ret
      exact ⟨_, rfl, lnB_ok (by decide +kernel), hx.trans (by repeat (first | (with_reducible exact Ext.refl _) | (with_reducible refine Ext.drewN ?_ _) | (with_reducible refine Ext.drew ?_) | (with_reducible refine Ext.alloc ?_ _) | ((with_reducible refine Ext.setCell ?_ ?_ _); rotate_left; focus (first | (simp; done) | (simp; omega) | omega)) | assumption | (with_reducible refine Ext.trans ?_ (by assumption))))⟩
theorem text_ln (ds : List Int) (h : Dig36 ds) : LnOk ds.length (textOf ds) := by
  refine ⟨by rw [textOf_size]; exact Nat.le_refl _, ?_⟩
  unfold hasB
  rw [decide_eq_false_iff_not]
  intro e
  unfold bl textOf at e
  rw [strOfNums_data, List.map_map] at e
  obtain ⟨d, hd, he⟩ := List.mem_map.1 e
  obtain ⟨h0, h1⟩ := h d hd
  have := congrArg UInt8.toNat he
  simp only [Function.comp, sym] at this
  split at this <;> simp [UInt8.toNat_ofNat'] at this <;> omega
theorem strs_litD (w : World) (ts : List ByteArray) (n : Nat) (hl : ts.length = n) (hn : n ≤ 1000) : Strs (w.alloc (.cells (St ts).toArray 9)) (some ⟨w.heap.size, 0, none⟩) n n ts := by
  subst hl
  have h := World.ownsRow_lit (e := 9) (size := 1) (base := w.heap.size) w (St ts).toArray ts.length (Nat.le_refl _) (by unfold maxLen; omega) (by simp [St])
  have h2 : Own (w.alloc (.cells (St ts).toArray 9)) w.heap.size 9 (some ⟨w.heap.size, 0, none⟩) ts.length ts.length (St ts).toArray.toList := h
  exact h2.sl
/-- one of some texts, chosen -/
def RetTx (g : Nat) (a : Option Addr) (n c : Nat) (l : List UInt8) (k : Int) (ts : List ByteArray) (w : World) (e : Ending) (w' : World) : Prop :=
  ∃ s k', e = .returned (.string s) ∧ s ∈ ts ∧ SrcB w' g a n c l k' ∧ k ≤ k' ∧ k' ≤ k + 2 ∧ Touch g w w'
set_option maxHeartbeats 1000000 in
theorem src_textD (g : Nat) (a : Option Addr) (n c : Nat) (l : List UInt8) (k : Int) (ad : Option Addr) (m d : Nat) (ts : List ByteArray) (w : World) (h : SrcB w g a n c l k) (hk : 0 ≤ k) (hk2 : k ≤ 999000000) (ht : Strs w ad m d ts) (hm : 1 ≤ m) (hm2 : m ≤ 1000) (hne : ∀ x, ad = some x → x.block ≠ g) :
    Calls Tryd.prog 23 #[.pointer (some ⟨g, 0, none⟩), .slice ad m d] w (RetTx g a n c l k ts w) := by
  have HL := Lib.hid ht.len
  have HP := Lib.hid (pick_b g a n c l k (m : Int) w h hk (by omega) (by omega))
  have HC := Lib.hid (fun w' (htt : Touch g w w') => show Strs w' ad m d ts from by
    refine ⟨Sl.len ht, Sl.cap ht, fun h0 => ?_⟩
    obtain ⟨b1, off, ha, hc⟩ := Sl.cells ht h0
    exact ⟨b1, off, ha, fun k hk => (World.cell?_of_block (w := w) (htt.block b1 (World.block_lt_of_cell? w _ (hc k hk)) (hne _ ha))).trans (hc k hk)⟩)
  clear h ht hne
  go_enter Tryd.func23, Tryd.ntmps23
  go_wp2_with fail
  refine HP.out.mono ?_
  rintro e w1 ⟨x, k1, rfl, hx0, hx1, hs, hk1, hk2, htt⟩
  obtain ⟨i, rfl⟩ := Int.eq_ofNat_of_zero_le hx0
  have him : i < m := by omega
  obtain ⟨b, off, hix, hcell⟩ := (HC.out w1 htt).ix (P := Tryd.prog) 24 9 und_strs cell_str
  have hxx : Ext w1 w1 := Ext.refl _
  have HS := Lib.hid hs
  have HT := Lib.hid htt
  clear hs htt
  go_wp2
  go_ret
  exact ⟨_, k1, rfl, gs_mem (by rw [HL.out]; exact him), HS.out, hk1, hk2, HT.out⟩
/-- a kind of errors, chosen -/
def RetKd (g : Nat) (a : Option Addr) (n c : Nat) (l : List UInt8) (k : Int) (w : World) (e : Ending) (w' : World) : Prop :=
  ∃ x k' : Int, e = .returned (.int .i64 x) ∧ -1 ≤ x ∧ x ≤ 6 ∧ SrcB w' g a n c l k' ∧ k ≤ k' ∧ k' ≤ k + 4 ∧ Touch g w w'
set_option maxHeartbeats 1000000 in
theorem spec_drawKindD (g : Nat) (a : Option Addr) (n c : Nat) (l : List UInt8) (k : Int) (w : World) (h : SrcB w g a n c l k) (hk : 0 ≤ k) (hk2 : k ≤ 99999999) :
    Calls Tryd.prog 31 #[.pointer (some ⟨g, 0, none⟩)] w (RetKd g a n c l k w) := by
  have HO := Lib.hid (one_b g a n c l k 16 w h (by omega) (by omega) (by omega))
  clear h
  go_enter Tryd.func31, Tryd.ntmps31
  go_wp2_with ((go_at_call 24; (with_reducible refine HO.out.mono ?_); rintro e w1 ⟨yes, k1, rfl, hs1, hk1, hk1', ht1⟩; cases yes))
  · have HS1 := Lib.hid hs1
    clear hs1
    go_wp2_with ((go_at_call 11; (with_reducible refine (pick_b g a n c l k1 6 w1 HS1.out (by omega) (by omega) (by omega)).mono ?_); rintro e w2 ⟨x, k2, rfl, hx0, hx1, hs2, hk2, hk2', ht2⟩))
    go_ret
    exact ⟨x, k2, rfl, by omega, by omega, hs2, by omega, by omega, ht1.trans ht2⟩
  · have HS1 := Lib.hid hs1
    have hg1 := hs1.g
    clear hs1
    go_wp2_with fail
    obtain ⟨bM, hbM⟩ : ∃ b, b = w1.heap.size := ⟨_, rfl⟩
    obtain ⟨w5, hw5⟩ : ∃ W, W = w1.alloc (.cells #[.int .i64 (-1), .int .i64 6] 2) := ⟨_, rfl⟩
    have hx5 : Ext w1 w5 := by rw [hw5]; exact (by repeat (first | (with_reducible exact Ext.refl _) | (with_reducible refine Ext.drewN ?_ _) | (with_reducible refine Ext.drew ?_) | (with_reducible refine Ext.alloc ?_ _) | ((with_reducible refine Ext.setCell ?_ ?_ _); rotate_left; focus (first | (simp; done) | (simp; omega) | omega)) | assumption | (with_reducible refine Ext.trans ?_ (by assumption))))
    have HI5 := Lib.hid (show Ints w5 (some ⟨bM, 0, none⟩) 2 2 [-1, 6] by rw [hw5, hbM]; exact ints_lit w1 [-1, 6] 2 rfl (by omega))
    have hbg5 : bM ≠ g := by omega
    rw [← hw5, ← hbM]
    clear hw5 hbM
    refine (spec_among g a n c l k1 (some ⟨bM, 0, none⟩) 2 2 [-1, 6] w5 (HS1.out.ext hx5) (by omega) (by omega) HI5.out (fun x hx => by cases hx; exact hbg5) (by omega) (by omega)).mono ?_
    rintro e w6 ⟨x, k6, rfl, hx0, hs6, hk6, hk6', ht6⟩
    have hx2 : -1 ≤ x ∧ x ≤ 6 := by simp at hx0; omega
    clear hx0
    go_wp2_with fail
    go_ret
    exact ⟨x, k6, rfl, hx2.1, hx2.2, hs6, by omega, by omega, (ht1.ext hx5).trans ht6⟩
set_option maxHeartbeats 2000000 in
theorem spec_numsD (a : Option Addr) (n c : Nat) (l : List Int) (w : World) (hv : Ints w a n c l) (hn : n ≤ 20) (h1 : 1 ≤ n) (hb : ∀ x ∈ l, 0 ≤ x ∧ x ≤ 1000000) :
    Calls Tryd.prog 44 #[.slice a n c] w (RetLn 440 w) := by
  have HL := Lib.hid hv.len
  have HB := Lib.hid hb
  obtain ⟨b, off, hix, hcell⟩ := hv.ix (P := Tryd.prog) 65 2 und_int64s cell_int64
  clear hv hb
  go_enter Tryd.func44, Tryd.ntmps44
  go_wp2_with fail
  go_loopw [3, 4] (fun v i wr => ∃ (k : Nat) (s : ByteArray), k ≤ n ∧ i = .int .i64 k ∧ v = .string s ∧ LnOk (22 * k) s ∧ Ext w wr) (fun _ i _ => n - (intOf i).toNat)
  case atStart => exact ⟨0, _, Nat.zero_le _, rfl, rfl, lnB_ok (by decide +kernel), (by repeat (first | (with_reducible exact Ext.refl _) | (with_reducible refine Ext.drewN ?_ _) | (with_reducible refine Ext.drew ?_) | (with_reducible refine Ext.alloc ?_ _) | ((with_reducible refine Ext.setCell ?_ ?_ _); rotate_left; focus (first | (simp; done) | (simp; omega) | omega)) | assumption | (with_reducible refine Ext.trans ?_ (by assumption))))⟩
  case round =>
    obtain ⟨k, s, hk, rfl, rfl, hs, hx⟩ := hrel
    have Hhs := Lib.hid hs; clear hs
    have hsz := Hhs.out.sz
    by_cases hlt : k < n
    · obtain ⟨p, hp⟩ : ∃ p : Nat, gi l k = (p : Int) := Int.eq_ofNat_of_zero_le (HB.out (gi l k) (gi_mem (by rw [HL.out]; exact hlt))).1
      have hp2 : p ≤ 1000000 := by have := (HB.out (gi l k) (gi_mem (by rw [HL.out]; exact hlt))).2; omega
      have HD := Lib.hid (dec_ln (p : Int) (by omega) (by omega))
      have hds := HD.out.sz
      by_cases hk0 : 0 < k
      · go_wp2_with (go_at_call 30; (with_reducible refine (spec_dec p _ (by omega)).mono ?_); rintro e w2 ⟨rfl, hy2⟩)
        exact ⟨⟨k + 1, _, by omega, by go_num, rfl, ((Hhs.out.app (lnB_ok (N := 1) (s := ⟨#[32]⟩) (by decide +kernel))).app HD.out).le (by omega), hx.trans hy2⟩, by simp [intOf]; omega⟩
      · go_wp2_with (go_at_call 30; (with_reducible refine (spec_dec p _ (by omega)).mono ?_); rintro e w2 ⟨rfl, hy2⟩)
        exact ⟨⟨k + 1, _, by omega, by go_num, rfl, (Hhs.out.app HD.out).le (by omega), hx.trans hy2⟩, by simp [intOf]; omega⟩
    · go_wp2
      go_ret
      exact ⟨_, rfl, Hhs.out.le (by omega), hx⟩
set_option maxHeartbeats 2000000 in
/-- a weighting as a text, by its address -/
theorem spec_wtTextD (q : Nat) (X : Wt) (a : Option Addr) (n c : Nat) (w : World) (c0 : ∀ w', Ext w w' → w'.cell? ⟨q, 0, none⟩ = some (.int .i64 X.base)) (c1 : ∀ w', Ext w w' → w'.cell? ⟨q, 1, none⟩ = some (.int .i64 X.modulus)) (c2 : ∀ w', Ext w w' → w'.cell? ⟨q, 2, none⟩ = some (.int .i64 X.target)) (c3 : ∀ w', Ext w w' → w'.cell? ⟨q, 3, none⟩ = some (.slice a n c))
    (hw : Ints w a n c X.weights) (hn : n ≤ 20) (h1 : 1 ≤ n) (hb : 0 ≤ X.base ∧ X.base ≤ 100) (hm : 0 ≤ X.modulus ∧ X.modulus ≤ 100) (ht : 0 ≤ X.target ∧ X.target ≤ 100) (hx : ∀ x ∈ X.weights, 0 ≤ x ∧ x ≤ 1000000) :
    Calls Tryd.prog 29 #[.pointer (some ⟨q, 0, none⟩)] w (RetLn 520 w) := by
  obtain ⟨base, modulus, target, l⟩ := X
  simp only at c0 c1 c2 c3 hw hb hm ht hx
  obtain ⟨x, rfl⟩ := Int.eq_ofNat_of_zero_le hb.1
  obtain ⟨y, rfl⟩ := Int.eq_ofNat_of_zero_le hm.1
  obtain ⟨z, rfl⟩ := Int.eq_ofNat_of_zero_le ht.1
  have HT := Lib.hid (fun W (h : Ext w W) => spec_numsD a n c l W (hw.ext h) hn h1 hx)
  have HX := Lib.hid (dec_ln (x : Int) (by omega) (by omega))
  have HY := Lib.hid (dec_ln (y : Int) (by omega) (by omega))
  have HZ := Lib.hid (dec_ln (z : Int) (by omega) (by omega))
  have s1 := HX.out.sz
  have s2 := HY.out.sz
  have s3 := HZ.out.sz
  have HDx := Lib.hid (fun W => spec_dec x W (by omega))
  have HDy := Lib.hid (fun W => spec_dec y W (by omega))
  have HDz := Lib.hid (fun W => spec_dec z W (by omega))
  obtain ⟨dx, hdx⟩ : ∃ d, d = decS (x : Int) := ⟨_, rfl⟩
  obtain ⟨dy, hdy⟩ : ∃ d, d = decS (y : Int) := ⟨_, rfl⟩
  obtain ⟨dz, hdz⟩ : ∃ d, d = decS (z : Int) := ⟨_, rfl⟩
  rw [← hdx] at HX s1 HDx
  rw [← hdy] at HY s2 HDy
  rw [← hdz] at HZ s3 HDz
  clear hw hx hb hm ht hn h1 hdx hdy hdz
  go_enter Tryd.func29, Tryd.ntmps29
  have hww : Ext w w := Ext.refl _
  go_upto_region 1 with fail
  (refine wp_region_from w (by repeat (first | (with_reducible exact Ext.refl _) | (with_reducible refine Ext.drewN ?_ _) | (with_reducible refine Ext.drew ?_) | (with_reducible refine Ext.alloc ?_ _) | ((with_reducible refine Ext.setCell ?_ ?_ _); rotate_left; focus (first | (simp; done) | (simp; omega) | omega)) | assumption | (with_reducible refine Ext.trans ?_ (by assumption)))) (by kernel_rfl) (by kernel_rfl) (by kernel_rfl) ?_; (repeat (first | (refine mix_q rfl ?_; go_big_quiet_step (fail); refine wpQuiet_nil ?_; show wpMix _ _ _ _ _ _ _) | (refine mix_s rfl ?_; go_wp2_with (first | (go_at_call 30; first | ((with_reducible refine (HDx.out _).mono ?_); rintro e w1 ⟨rfl, hy1⟩; have hx1 : Ext w w1 := Ext.trans (by repeat (first | (with_reducible exact Ext.refl _) | (with_reducible refine Ext.drewN ?_ _) | (with_reducible refine Ext.drew ?_) | (with_reducible refine Ext.alloc ?_ _) | ((with_reducible refine Ext.setCell ?_ ?_ _); rotate_left; focus (first | (simp; done) | (simp; omega) | omega)) | assumption | (with_reducible refine Ext.trans ?_ (by assumption)))) hy1; clear hy1) | ((with_reducible refine (HDy.out _).mono ?_); rintro e w2 ⟨rfl, hy2⟩; have hx2 : Ext w w2 := Ext.trans (by repeat (first | (with_reducible exact Ext.refl _) | (with_reducible refine Ext.drewN ?_ _) | (with_reducible refine Ext.drew ?_) | (with_reducible refine Ext.alloc ?_ _) | ((with_reducible refine Ext.setCell ?_ ?_ _); rotate_left; focus (first | (simp; done) | (simp; omega) | omega)) | assumption | (with_reducible refine Ext.trans ?_ (by assumption)))) hy2; clear hy2) | ((with_reducible refine (HDz.out _).mono ?_); rintro e w3 ⟨rfl, hy3⟩; have hx3 : Ext w w3 := Ext.trans (by repeat (first | (with_reducible exact Ext.refl _) | (with_reducible refine Ext.drewN ?_ _) | (with_reducible refine Ext.drew ?_) | (with_reducible refine Ext.alloc ?_ _) | ((with_reducible refine Ext.setCell ?_ ?_ _); rotate_left; focus (first | (simp; done) | (simp; omega) | omega)) | assumption | (with_reducible refine Ext.trans ?_ (by assumption)))) hy3; clear hy3)) | (go_at_call 44; (with_reducible refine (HT.out _ (by repeat (first | (with_reducible exact Ext.refl _) | (with_reducible refine Ext.drewN ?_ _) | (with_reducible refine Ext.drew ?_) | (with_reducible refine Ext.alloc ?_ _) | ((with_reducible refine Ext.setCell ?_ ?_ _); rotate_left; focus (first | (simp; done) | (simp; omega) | omega)) | assumption | (with_reducible refine Ext.trans ?_ (by assumption))))).mono ?_); rintro e w4 ⟨s, rfl, hs, hy4⟩; have HSs := Lib.hid hs; have s4 := hs.sz; have hx4 : Ext w w4 := Ext.trans (by repeat (first | (with_reducible exact Ext.refl _) | (with_reducible refine Ext.drewN ?_ _) | (with_reducible refine Ext.drew ?_) | (with_reducible refine Ext.alloc ?_ _) | ((with_reducible refine Ext.setCell ?_ ?_ _); rotate_left; focus (first | (simp; done) | (simp; omega) | omega)) | assumption | (with_reducible refine Ext.trans ?_ (by assumption)))) hy4; clear hs hy4)); first | refine ⟨up_of (by repeat (first | (with_reducible exact Ext.refl _) | (with_reducible refine Ext.drewN ?_ _) | (with_reducible refine Ext.drew ?_) | (with_reducible refine Ext.alloc ?_ _) | ((with_reducible refine Ext.setCell ?_ ?_ _); rotate_left; focus (first | (simp; done) | (simp; omega) | omega)) | assumption | (with_reducible refine Ext.trans ?_ (by assumption)))), ?_⟩ | refine ⟨rfl, rfl, up_of (by repeat (first | (with_reducible exact Ext.refl _) | (with_reducible refine Ext.drewN ?_ _) | (with_reducible refine Ext.drew ?_) | (with_reducible refine Ext.alloc ?_ _) | ((with_reducible refine Ext.setCell ?_ ?_ _); rotate_left; focus (first | (simp; done) | (simp; omega) | omega)) | assumption | (with_reducible refine Ext.trans ?_ (by assumption)))), ?_⟩))); refine mix_nil ?_)
  go_wp2
  go_ret
  exact ⟨_, rfl, (((((((HX.out.app (lnB_ok (N := 1) (s := ⟨#[47]⟩) (by decide +kernel))).app HY.out).app (lnB_ok (N := 1) (s := ⟨#[47]⟩) (by decide +kernel))).app HZ.out).app (lnB_ok (N := 1) (s := ⟨#[47]⟩) (by decide +kernel))).app HSs.out).le (by omega)), (by repeat (first | (with_reducible exact Ext.refl _) | (with_reducible refine Ext.drewN ?_ _) | (with_reducible refine Ext.drew ?_) | (with_reducible refine Ext.alloc ?_ _) | ((with_reducible refine Ext.setCell ?_ ?_ _); rotate_left; focus (first | (simp; done) | (simp; omega) | omega)) | assumption | (with_reducible refine Ext.trans ?_ (by assumption))))⟩
end Go.Proofs.YtefkefmhfoedcaaDoor

/- Walks: a weighting that is drawn for a desk. -/
namespace Go.Proofs.YtefkefmhfoedcaaDoor
set_option maxRecDepth 100000
open Go.RowKit Go.Sort

/-- a weighting whose weights are the call's own -/
def RetW3 (g : Nat) (a : Option Addr) (n c : Nat) (l : List UInt8) (k : Int) (w : World) (e : Ending) (w' : World) : Prop :=
  ∃ (X : Wt) (ra : Option Addr) (rn rc : Nat) (k' : Int), e = .returned (.agg #[.int .i64 X.base, .int .i64 X.modulus, .int .i64 X.target, .slice ra rn rc]) ∧ Own w' w.heap.size 2 ra rn rc (I X.weights) ∧ X.weights.length = rn ∧
    2 ≤ X.base ∧ X.base ≤ 36 ∧ 2 ≤ X.modulus ∧ X.modulus ≤ 36 ∧ 0 ≤ X.target ∧ X.target < X.modulus ∧ 1 ≤ rn ∧ rn ≤ 15 ∧ (∀ x ∈ X.weights, 0 ≤ x ∧ x < X.modulus) ∧ SrcB w' g a n c l k' ∧ k ≤ k' ∧ k' ≤ k + 50 ∧ Touch g w w'
/-- where the ways meet: the modulus -/
def ModCut3 (q1 g : Nat) (a : Option Addr) (n c : Nat) (l : List UInt8) (k0 : Int) (w : World) (v : Value) (W : World) : Prop :=
  ∃ m k : Int, v = .int .i64 m ∧ 2 ≤ m ∧ m ≤ 36 ∧ SrcB W g a n c l k ∧ k0 ≤ k ∧ k ≤ k0 + 6 ∧ SAt W q1 67 #[.int .i64 0, .int .i64 0, .int .i64 0, .slice none 0 0] ∧ Touch g w W
/-- where the ways meet: how many weights -/
def LenCut3 (q1 q2 g : Nat) (bs m tg : Int) (a : Option Addr) (n c : Nat) (l : List UInt8) (k0 : Int) (w : World) (v : Value) (W : World) : Prop :=
  ∃ (N : Nat) (k : Int), v = .int .i64 (N : Int) ∧ 1 ≤ N ∧ N ≤ 15 ∧ SrcB W g a n c l k ∧ k0 ≤ k ∧ k ≤ k0 + 14 ∧ SAt W q1 67 #[.int .i64 0, .int .i64 0, .int .i64 0, .slice none 0 0] ∧ SAt W q2 67 #[.int .i64 bs, .int .i64 m, .int .i64 tg, .slice none 0 0] ∧ Touch g w W
set_option maxHeartbeats 4000000 in
theorem spec_draw03 (g : Nat) (a : Option Addr) (n c : Nat) (l : List UInt8) (k : Int) (w : World) (h : SrcB w g a n c l k) (hk : 0 ≤ k) (hk2 : k ≤ 99999999) :
    Calls Tryd.prog 28 #[.pointer (some ⟨g, 0, none⟩)] w (RetW3 g a n c l k w) := by
  have HS := Lib.hid h
  have hgw := h.g
  clear h
  go_enter Tryd.func28, Tryd.ntmps28
  go_wp2_with fail
  obtain ⟨q1, hq1⟩ : ∃ q1, q1 = w.heap.size := ⟨_, rfl⟩
  obtain ⟨wz, hwz⟩ : ∃ W, W = w.alloc (.cells #[.int .i64 0, .int .i64 0, .int .i64 0, .slice none 0 0] 67) := ⟨_, rfl⟩
  have hxz : Ext w wz := by rw [hwz]; exact (by repeat (first | (with_reducible exact Ext.refl _) | (with_reducible refine Ext.drewN ?_ _) | (with_reducible refine Ext.drew ?_) | (with_reducible refine Ext.alloc ?_ _) | ((with_reducible refine Ext.setCell ?_ ?_ _); rotate_left; focus (first | (simp; done) | (simp; omega) | omega)) | assumption | (with_reducible refine Ext.trans ?_ (by assumption))))
  have HZ := Lib.hid (show SAt wz q1 67 #[.int .i64 0, .int .i64 0, .int .i64 0, .slice none 0 0] by rw [hwz, hq1]; exact SAt.new' _ _ _ rfl)
  have hqz : w.heap.size ≤ q1 := by omega
  have hq1g : q1 ≠ g := by omega
  have hzs : wz.heap.size = q1 + 1 := by rw [hwz, hq1]; simp
  rw [← hwz, ← hq1]
  clear hwz hq1
  obtain ⟨bL, hbL⟩ : ∃ b, b = q1 + 1 := ⟨_, rfl⟩
  obtain ⟨w2, hw2⟩ : ∃ W, W = wz.alloc (.cells #[.int .i64 10, .int .i64 10, .int .i64 10, .int .i64 2, .int .i64 5, .int .i64 11, .int .i64 7, .int .i64 16, .int .i64 36] 2) := ⟨_, rfl⟩
  have hx2 : Ext wz w2 := by rw [hw2]; exact (by repeat (first | (with_reducible exact Ext.refl _) | (with_reducible refine Ext.drewN ?_ _) | (with_reducible refine Ext.drew ?_) | (with_reducible refine Ext.alloc ?_ _) | ((with_reducible refine Ext.setCell ?_ ?_ _); rotate_left; focus (first | (simp; done) | (simp; omega) | omega)) | assumption | (with_reducible refine Ext.trans ?_ (by assumption))))
  have HI2 := Lib.hid (show Ints w2 (some ⟨bL, 0, none⟩) 9 9 [10, 10, 10, 2, 5, 11, 7, 16, 36] by rw [hw2, hbL, ← hzs]; exact ints_lit wz [10, 10, 10, 2, 5, 11, 7, 16, 36] 9 rfl (by omega))
  have hbg : bL ≠ g := by omega
  rw [← hw2, ← hbL]
  clear hw2 hbL hzs
  refine (spec_among g a n c l k (some ⟨bL, 0, none⟩) 9 9 [10, 10, 10, 2, 5, 11, 7, 16, 36] w2 (HS.out.ext (hxz.trans hx2)) (by omega) (by omega) HI2.out (fun x hx => by cases hx; exact hbg) (by omega) (by omega)).mono ?_
  rintro e w3 ⟨bs, k3, rfl, hbs, hs3, hk3, hk3', ht3⟩
  have HS3 := Lib.hid hs3
  have HZ3 := Lib.hid ((HZ.out.ext hx2).touch ht3 hq1g)
  have htw3 : Touch g w w3 := ((Touch.refl g w).ext (hxz.trans hx2)).trans ht3
  have hbs2 : 2 ≤ bs ∧ bs ≤ 36 := by simp at hbs; omega
  clear hbs hs3 ht3 hx2 HI2 hbg HS hxz HZ
  go_upto_if 12 with ((go_at_call 24; (with_reducible refine (one_b g a n c l k3 3 w3 HS3.out (by omega) (by omega) (by omega)).mono ?_); rintro e w4 ⟨yes, k4, rfl, hs4, hk4, hk4', ht4⟩))
  have HS4 := Lib.hid hs4
  have HZ4 := Lib.hid (HZ3.out.touch ht4 hq1g)
  have htw4 : Touch g w w4 := htw3.trans ht4
  clear hs4 ht4 HS3 HZ3 htw3
  go_cut [4] from 13 to 16 (fun v5 wx => ModCut3 q1 g a n c l k w v5 wx)
  case first =>
    cases yes
    · go_wp2_with fail
      go_meet
      exact ⟨bs, k4, rfl, hbs2.1, hbs2.2, HS4.out, by omega, by omega, HZ4.out, htw4⟩
    · have hg4 := HS4.out.g
      go_wp2_with fail
      obtain ⟨bM, hbM⟩ : ∃ b, b = w4.heap.size := ⟨_, rfl⟩
      obtain ⟨w5, hw5⟩ : ∃ W, W = w4.alloc (.cells #[.int .i64 2, .int .i64 7, .int .i64 10, .int .i64 11, .int .i64 13, .int .i64 31, .int .i64 36] 2) := ⟨_, rfl⟩
      have hx5 : Ext w4 w5 := by rw [hw5]; exact (by repeat (first | (with_reducible exact Ext.refl _) | (with_reducible refine Ext.drewN ?_ _) | (with_reducible refine Ext.drew ?_) | (with_reducible refine Ext.alloc ?_ _) | ((with_reducible refine Ext.setCell ?_ ?_ _); rotate_left; focus (first | (simp; done) | (simp; omega) | omega)) | assumption | (with_reducible refine Ext.trans ?_ (by assumption))))
      have HI5 := Lib.hid (show Ints w5 (some ⟨bM, 0, none⟩) 7 7 [2, 7, 10, 11, 13, 31, 36] by rw [hw5, hbM]; exact ints_lit w4 [2, 7, 10, 11, 13, 31, 36] 7 rfl (by omega))
      have hbg5 : bM ≠ g := by omega
      rw [← hw5, ← hbM]
      clear hw5 hbM
      refine (spec_among g a n c l k4 (some ⟨bM, 0, none⟩) 7 7 [2, 7, 10, 11, 13, 31, 36] w5 (HS4.out.ext hx5) (by omega) (by omega) HI5.out (fun x hx => by cases hx; exact hbg5) (by omega) (by omega)).mono ?_
      rintro e w6 ⟨x, k6, rfl, hx0, hs6, hk6, hk6', ht6⟩
      have hx2 : 2 ≤ x ∧ x ≤ 36 := by simp at hx0; omega
      clear hx0
      go_wp2_with fail
      go_meet
      exact ⟨x, k6, rfl, hx2.1, hx2.2, hs6, by omega, by omega, (HZ4.out.ext hx5).touch ht6 hq1g, (htw4.ext hx5).trans ht6⟩
  case rest =>
    obtain ⟨m, k5, rfl, hm2, hm36, hs5, hk5, hk5', hz5, htw5⟩ := hcut
    have HS5 := Lib.hid hs5
    have HZ5 := Lib.hid hz5
    clear hs5 hz5 HS4 HZ4 htw4
    generalize wc = w5 at *
    go_wp2_with ((go_at_call 11; (with_reducible refine (pick_b g a n c l k5 m w5 HS5.out (by omega) (by omega) (by omega)).mono ?_); rintro e w6 ⟨tg, k6, rfl, ht0, ht1, hs6, hk6, hk6', ht6⟩; have HS6 := Lib.hid hs6; have HZ6 := Lib.hid (HZ5.out.touch ht6 hq1g); have htw6 : Touch g w w6 := htw5.trans ht6; clear hs6 ht6))
    have ht1' : tg < m := by omega
    clear ht1
    obtain ⟨q2, hq2⟩ : ∃ q, q = w6.heap.size := ⟨_, rfl⟩
    obtain ⟨w7, hw7⟩ : ∃ W, W = w6.alloc (.cells #[.int .i64 bs, .int .i64 m, .int .i64 tg, .slice none 0 0] 67) := ⟨_, rfl⟩
    have hx7 : Ext w6 w7 := by rw [hw7]; exact (by repeat (first | (with_reducible exact Ext.refl _) | (with_reducible refine Ext.drewN ?_ _) | (with_reducible refine Ext.drew ?_) | (with_reducible refine Ext.alloc ?_ _) | ((with_reducible refine Ext.setCell ?_ ?_ _); rotate_left; focus (first | (simp; done) | (simp; omega) | omega)) | assumption | (with_reducible refine Ext.trans ?_ (by assumption))))
    have HQ7 := Lib.hid (show SAt w7 q2 67 #[.int .i64 bs, .int .i64 m, .int .i64 tg, .slice none 0 0] by rw [hw7, hq2]; exact SAt.new' _ _ _ rfl)
    have HZ7 := Lib.hid (HZ6.out.ext hx7)
    have HS7 := Lib.hid (HS6.out.ext hx7)
    have htw7 : Touch g w w7 := htw6.ext hx7
    have hg2 : g < q2 := by have := HS6.out.g; omega
    have hw2 : w.heap.size ≤ q2 := by have := htw6.size; omega
    have h12 : q1 ≠ q2 := by have := HZ6.out.lt; omega
    rw [← hw7, ← hq2]
    clear hw7 hq2 hx7 HZ6 HS6 htw6 HZ5 HS5 htw5
    refine (pick_b g a n c l k6 6 w7 HS7.out (by omega) (by omega) (by omega)).mono ?_
    rintro e w8 ⟨N0, k8, rfl, hN0, hN1, hs8, hk8, hk8', ht8⟩
    obtain ⟨N, hN⟩ : ∃ N : Nat, 1 + N0 = (N : Int) := Int.eq_ofNat_of_zero_le (by omega)
    have hN4 : 1 ≤ N ∧ N ≤ 6 := by omega
    have HS8 := Lib.hid hs8
    have HQ8 := Lib.hid (HQ7.out.touch ht8 (by omega))
    have HZ8 := Lib.hid (HZ7.out.touch ht8 hq1g)
    have htw8 : Touch g w w8 := htw7.trans ht8
    have HBw := Lib.hid (show IntKind.i64.wrap (1 + N0) = (N : Int) by rw [hN]; simp [IntKind.wrap, IntKind.bits, IntKind.signed]; omega)
    have hsb := HBw.out
    clear hs8 ht8 HQ7 HZ7 HS7 htw7
    have hw9 : Ext w8 w8 := Ext.refl _
    have hg8 : Touch g w8 w8 := Touch.refl g w8
    go_upto_region 7 with fail
    go_cut [30] from 25 to 30 (fun v wx => ∃ (y : Bool) (kk : Int), v = .bool y ∧ SrcB wx g a n c l kk ∧ k8 ≤ kk ∧ kk ≤ k8 + 2 ∧ Touch g w8 wx)
    case first =>
      by_cases h10 : bs = 10
      · subst h10
        go_wp2_with ((go_at_call 24; (with_reducible refine (one_b g a n c l k8 16 w8 HS8.out (by omega) (by omega) (by omega)).mono ?_); rintro e w9 ⟨yes2, k9, rfl, hs9, hk9, hk9', ht9⟩; cases yes2))
        all_goals
          go_meet
          exact ⟨_, k9, rfl, hs9, by omega, by omega, ht9⟩
      · go_wp2_with ((go_at_call 24; (with_reducible refine (one_b g a n c l k8 16 w8 HS8.out (by omega) (by omega) (by omega)).mono ?_); rintro e w9 ⟨yes2, k9, rfl, hs9, hk9, hk9', ht9⟩; cases yes2))
        all_goals
          go_meet
          exact ⟨_, k9, rfl, hs9, by omega, by omega, ht9⟩
    case rest =>
      obtain ⟨y, k9, rfl, hs9, hk9, hk9', ht9⟩ := hcut
      have HS9 := Lib.hid hs9
      have HQ9 := Lib.hid (HQ8.out.touch ht9 (by omega))
      have HZ9 := Lib.hid (HZ8.out.touch ht9 hq1g)
      have htw9 : Touch g w wc := htw8.trans ht9
      clear hs9 ht9 HS8 HQ8 HZ8 htw8
      generalize wc = w9 at *
      clear hN hN0 hN1 hg8 hw9 HBw hsb
      go_upto_if 30 with fail
      go_cut [6] from 31 to 31 (fun v wx => ∃ (N : Nat), v = .int .i64 (N : Int) ∧ 1 ≤ N ∧ N ≤ 15 ∧ wx = w9)
      case first =>
        cases y
        · go_wp2_with fail
          go_meet
          exact ⟨N, rfl, by omega, by omega, rfl⟩
        · go_wp2_with fail
          go_meet
          exact ⟨15, rfl, by omega, by omega, rfl⟩
      case rest =>
        clear hN4
        obtain ⟨N, rfl, hN1, hN15, rfl⟩ := hcut
        have hn15 := hN15
        obtain ⟨B, hB⟩ : ∃ B, B = wc.heap.size := ⟨_, rfl⟩
        have hgB : g < B := by have := HS9.out.g; omega
        have hB0 : w.heap.size ≤ B := by have := htw9.size; omega
        have hB8 : B ≤ wc.heap.size := by omega
        clear hB
        go_wp2_with fail
        go_loopw [6] (fun v7 wr => ∃ (j : Nat) (ra : Option Addr) (rc : Nat) (ws : List Int) (kk : Int), j ≤ N ∧ v7 = .int .i64 ((N : Int) - j) ∧ Hid (ws.length = j) ∧ Hid (∀ x ∈ ws, 0 ≤ x ∧ x < m) ∧ Hid (Own wr B 2 ra j rc (I ws)) ∧ Hid (SAt wr q2 67 #[.int .i64 bs, .int .i64 m, .int .i64 tg, .slice ra j rc]) ∧ Hid (SAt wr q1 67 #[.int .i64 0, .int .i64 0, .int .i64 0, .slice none 0 0]) ∧ Hid (SrcB wr g a n c l kk) ∧ k ≤ kk ∧ kk ≤ k + 14 + 2 * j ∧ B ≤ wr.heap.size ∧ Touch g w wr) (fun v7 _ => (intOf v7).toNat)
        case atStart => exact ⟨0, none, 0, [], k9, Nat.zero_le _, by first | (simp; done) | (congr 1; omega), rfl, (fun x hx => by simp at hx), Own.nil _ _ _, HQ9.out, HZ9.out, HS9.out, by omega, by omega, hB8, htw9⟩
        case round =>
          obtain ⟨j, ra, rc, ws, kk, hj, rfl, HL, HR, HO, HQ, HZr, HSr, hkk, hkk', hBr, hxr⟩ := hrel
          by_cases hlt : j < N
          · go_wp2
            obtain ⟨C0, hC0⟩ : ∃ C : World → Prop, C = fun w' => SAt w' q2 67 #[.int .i64 bs, .int .i64 m, .int .i64 tg, .slice ra j rc] := ⟨_, rfl⟩
            have hin : C0 wr.drew := by rw [hC0]; exact HQ.out.drew
            have hpk : ∀ z, SAt (World.pk C0 wr.drew z) q2 67 #[.int .i64 bs, .int .i64 m, .int .i64 tg, .slice ra j rc] := fun z => by have := pk_in hin z; rw [hC0] at this; rw [hC0]; exact this
            have k3 : ∀ z, (World.pk C0 wr.drew z).cell? ⟨q2, 3, none⟩ = some (.slice ra j rc) := fun z => (hpk z).cell 3 (by simp)
            have HPk := Lib.hid (pick_b g a n c l kk m wr.drew (HSr.out.ext ((Ext.refl _).drew)) (by omega) (by omega) (by omega))
            have Hhpk := Lib.hid hpk; clear hpk; have Hhin := Lib.hid hin; clear hin; have HhC0 := Lib.hid hC0; clear hC0
            refine wp_region_pk C0 8 Hhin.out rfl (by kernel_rfl) (by kernel_rfl) (by kernel_rfl) (by kernel_rfl) ?_
            simp only [List.take_succ_cons, List.take_zero, List.drop_succ_cons, List.drop_zero]
            (repeat (first | (refine mix_q rfl ?_; go_big_quiet_step (fail); refine wpQuiet_nil ?_; show wpMix _ _ _ _ _ _ _) | (refine mix_s rfl ?_; go_wp2_with (first
              | (go_at_call 11; (with_reducible refine HPk.out.mono ?_); rintro e w9 ⟨u, k9, rfl, hu0, hu1, hs9, hk9, hk9', ht9⟩; have HQ9 := Lib.hid ((HQ.out.ext ((Ext.refl _).drew)).touch ht9 (by omega)); have HZ9 := Lib.hid ((HZr.out.ext ((Ext.refl _).drew)).touch ht9 hq1g); have HS9 := Lib.hid hs9; have HO9 := Lib.hid (own_touch (HO.out.ext ((Ext.refl _).drew)) ht9 hgB); have hx9 : Touch g w w9 := (hxr.ext ((Ext.refl _).drew)).trans ht9; have hB9 : B ≤ w9.heap.size := Nat.le_trans hBr (show wr.drew.heap.size ≤ w9.heap.size from ht9.size); clear hs9 ht9)
              | (at_builtin; refine law_append1 w9 rfl _ _ 65 rfl 2 (.int .i64 0) 8 und_int64s info_int64 rfl B ra j rc _ _ rfl rfl (by simp [Act.eval, go_sem]) HO9.out hB9 (by omega) (by omega) ?_; intro ra' rc' w10 ho10 hb10 hg10; have HO10 := Lib.hid ho10; have HQ10 := Lib.hid (HQ9.out.grown hg10 (row_ne_s (HO9.out.ne_s HQ9.out (by decide)))); have HZ10 := Lib.hid (HZ9.out.grown hg10 (row_ne_s (HO9.out.ne_s HZ9.out (by decide)))); have HS10 := Lib.hid (HS9.out.below hb10 hgB); have hx10 : Touch g w w10 := Touch.below hx9 hb10 hB0; have hB10 : B ≤ w10.heap.size := Nat.le_trans hB9 hg10.size; clear hb10 hg10 ho10)); first | refine ⟨pk_of (by rw [HhC0.out]; exact HQ10.out), ?_⟩ | refine ⟨rfl, rfl, pk_of (by rw [HhC0.out]; exact HQ10.out), ?_⟩ | refine ⟨pk_of (by rw [HhC0.out]; exact HQ9.out), ?_⟩ | refine ⟨rfl, rfl, pk_of (by rw [HhC0.out]; exact HQ9.out), ?_⟩ | refine ⟨pk_of (by rw [HhC0.out]; exact HQ9.out.alloc _), ?_⟩ | refine ⟨rfl, rfl, pk_of (by rw [HhC0.out]; exact HQ9.out.alloc _), ?_⟩)))
            refine mix_nil ?_
            have c3 := HQ10.out.cell 3 (by simp)
            have fr := HQ10.out.frozen 3
            have hlt10 := HQ10.out.lt
            try simp only [List.getElem_toArray, List.getElem_cons_succ, List.getElem_cons_zero] at c3
            go_wp2
            have hq20 : B ≤ w10.heap.size := hB10
            exact ⟨⟨j + 1, ra', rc', ws ++ [u], k9, by omega, by congr 1; omega, by rw [Hid, List.length_append, HL.out]; rfl, (fun y hy => by rw [List.mem_append] at hy; rcases hy with hy | hy; exact HR.out y hy; simp only [List.mem_singleton] at hy; subst hy; omega), by rw [Hid, I_append]; exact HO10.out.setS HQ10.out (by decide) _ _, HQ10.out.set 3 (.slice ra' (j + 1) rc'), HZ10.out.other _ h12, HS10.out.below (Below.setCell (Below.refl q2 w10) (p := ⟨q2, 3, none⟩) (Nat.le_refl q2) _) hg2, by omega, by omega, by simpa [World.setCell] using hq20, hx10.below (Below.setCell (Below.refl q2 w10) (p := ⟨q2, 3, none⟩) (Nat.le_refl q2) _) hw2⟩, by simp [intOf]; omega⟩
          · obtain rfl : j = N := by omega
            have c0 := HQ.out.cell 0 (by simp)
            have c1 := HQ.out.cell 1 (by simp)
            have c2 := HQ.out.cell 2 (by simp)
            have c3 := HQ.out.cell 3 (by simp)
            have z0 := HZr.out.cell 0 (by simp)
            have z1 := HZr.out.cell 1 (by simp)
            have z2 := HZr.out.cell 2 (by simp)
            have z3 := HZr.out.cell 3 (by simp)
            have fr := fun j => HZr.out.frozen j
            have hlt := HZr.out.lt
            try simp only [List.getElem_toArray, List.getElem_cons_succ, List.getElem_cons_zero] at c0 c1 c2 c3 z0 z1 z2 z3
            go_wp2_with fail
            refine bodyPost_ret (v := .agg #[.int .i64 bs, .int .i64 m, .int .i64 tg, .slice ra j rc]) ?_ rfl ?_
            · simp [results, Tryd.results28, go_sem, z0, z1, z2, z3]
            · have o1 := (HO.out.setS HZr.out (by decide) 0 (.int .i64 bs))
              have s1 := HZr.out.set 0 (.int .i64 bs)
              have o2 := o1.setS s1 (by decide) 1 (.int .i64 m)
              have s2 := s1.set 1 (.int .i64 m)
              have o3 := o2.setS s2 (by decide) 2 (.int .i64 tg)
              have s3 := s2.set 2 (.int .i64 tg)
              have o4 := o3.setS s3 (by decide) 3 (.slice ra j rc)
              have hgq : g < q1 := by omega
              have hfin : ∀ (v0 v1 v2 v3 : Value), Below q1 wr ((((wr.setCell ⟨q1, 0, none⟩ v0).setCell ⟨q1, 1, none⟩ v1).setCell ⟨q1, 2, none⟩ v2).setCell ⟨q1, 3, none⟩ v3) := fun v0 v1 v2 v3 =>
                Below.setCell (Below.setCell (Below.setCell (Below.setCell (Below.refl q1 wr) (p := ⟨q1, 0, none⟩) (Nat.le_refl q1) _) (p := ⟨q1, 1, none⟩) (Nat.le_refl q1) _) (p := ⟨q1, 2, none⟩) (Nat.le_refl q1) _) (p := ⟨q1, 3, none⟩) (Nat.le_refl q1) _
              exact ⟨⟨bs, m, tg, ws⟩, ra, j, rc, kk, rfl, o4.mono hB0, HL.out, hbs2.1, hbs2.2, hm2, hm36, ht0, ht1', hN1, hN15, HR.out, HSr.out.below (hfin _ _ _ _) hgq, hkk, by omega, hxr.below (hfin _ _ _ _) hqz⟩
end Go.Proofs.YtefkefmhfoedcaaDoor

/- Walks: a desk of the call's own: its rows. -/
namespace Go.Proofs.YtefkefmhfoedcaaDoor
set_option maxRecDepth 100000
open Go.RowKit Go.Sort

/-! ### rows of structs -/
/-- append to a row of one's own of structs -/
theorem law_appendsS {P : Program} (w : World) {ops : Array Oper} {rest : List Oper} {o : Oper} {a : Act} {Q : Exit → Act → World → Prop}
    (hg : o.guard = none) (s x : Operand) (t : TypeId) (hop : o.op = Op.call { callee := Callee.builtin Builtin.append, args := #[s, x], argTypes := #[t, t] })
    (e : TypeId) (z : Value) (size bytes : Nat) (h1 : P.underlying t = some (.slice e)) (h2 : (P.info? e).map (fun i => (i.zero, i.size, i.bytes)) = some (some z, size, bytes)) (hz : z.cells.size = size) (h0 : 0 < size)
    (B : Nat) (ad : Option Addr) (n c : Nat) (vs : List Value) (src : Option Addr) (m c' : Nat) (us : List Value) (hu : ∀ u ∈ us, u.oneCell' = true) (hs : a.eval s = .slice ad n c) (hx : a.eval x = .slice src m c')
    (hown : w.ownsRow B e size (.slice ad n c) n vs) (hl : us.length = m * size) (hcl : ∀ ad0, src = some ad0 → ∀ j u, us[j]? = some u → w.cell? (ad0.add j) = some u) (hno : src = none → m = 0 ∧ c' = 0) (hB : B ≤ w.heap.size) (hn : n + m < 1099511627776) (hb : bytes ≤ 64)
    (hK : ∀ ad' cc' w', w'.ownsRow B e size (.slice ad' (n + m) cc') (n + m) (vs ++ us) → Below B w w' → w.grownBy w' (Value.slice ad n c).ownBlock → wpList P ops Q rest (a.put o.dst (.slice ad' (n + m) cc')) w') :
    wpList P ops Q (o :: rest) a w := by
  obtain ⟨i, hi, hz0, hz1, rfl⟩ : ∃ i, P.info? e = some i ∧ i.zero = some z ∧ i.size = size ∧ i.bytes = bytes := by
    cases hi : P.info? e with
    | none => rw [hi] at h2; cases h2
    | some i =>
      rw [hi] at h2
      simp only [Option.map_some, Option.some.injEq, Prod.mk.injEq] at h2
      exact ⟨i, rfl, h2.1, h2.2.1, h2.2.2⟩
  cases src with
  | none =>
    obtain ⟨rfl, rfl⟩ := hno rfl
    have hul : us = [] := List.eq_nil_of_length_eq_zero (by omega)
    subst hul
    refine wpList_plain hg fun K hK' => ?_
    have hr := run_append_owned_none (P := P) (w := w) B t o.type e i size h1 hi _ n vs hown
    unfold Oper.wp execOp
    simp only [hop, resolve, invoke, builtin, Sem.run_bind, Sem.run_pure, Result.andThen_ok, List.map_toArray, List.map_cons, List.map_nil, hs, hx, hr]
    exact hK' _ _ (hK ad c w (by rw [List.append_nil]; exact hown) (Below.refl _ _) ⟨rfl, rfl, rfl, Nat.le_refl _, fun _ _ _ => rfl⟩)
  | some ad0 =>
    refine wpList_append_own (P := P) w hg s x t hop B e i z size i.bytes h1 hi hz0 hz1 rfl hz h0 (.slice ad n c) n vs hs hown ad0 m c' us hx hl
      (hcl ad0 rfl) hu (by unfold maxLen; omega) (by have := Nat.mul_le_mul (show n + m ≤ 1099511627776 by omega) hb; omega) hB ?_
    intro v' w' h3 h4 h5
    have hv : ∃ ad' c', v' = .slice ad' (n + m) c' := by
      rcases h3.2 with ⟨h, h'⟩ | ⟨g, cap, cur, hv, _⟩
      · exact ⟨none, 0, by rw [h, h']⟩
      · exact ⟨_, _, hv⟩
    obtain ⟨ad', c', rfl⟩ := hv
    exact hK ad' c' w' h3 (Below.grown (Below.refl B w) h4 hB (fun k hk => (World.ownsRow.lt hown k hk).1)) h4
/-- a row of structs, read from within -/
def OwnS (s : Nat) (w : World) (B : Nat) (E : TypeId) (a : Option Addr) (n c : Nat) (vs : List Value) : Prop := w.ownsRow B E s (.slice a n c) n vs
theorem OwnS.keepB {s : Nat} {w W : World} {B : Nat} {E : TypeId} {a : Option Addr} {n c : Nat} {vs : List Value} (h : OwnS s w B E a n c vs) (hk : ∀ b, B ≤ b → b < w.heap.size → W.heap[b]? = w.heap[b]?) : OwnS s W B E a n c vs := by
  refine ⟨h.1, ?_⟩
  rcases h.2 with h2 | ⟨g, cap, cur, hv, hb, hg, r⟩
  · exact .inl h2
  · exact .inr ⟨g, cap, cur, hv, hb, (hk g hb (by have := (Array.getElem?_eq_some_iff.1 hg).1; exact this)).trans hg, r⟩
theorem OwnS.ext {s : Nat} {w W : World} {B : Nat} {E : TypeId} {a : Option Addr} {n c : Nat} {vs : List Value} (h : OwnS s w B E a n c vs) (hx : Ext w W) : OwnS s W B E a n c vs := h.keepB fun b _ hb => Below.block hx b hb
theorem OwnS.mono {s : Nat} {w : World} {B B' : Nat} {E : TypeId} {a : Option Addr} {n c : Nat} {vs : List Value} (h : OwnS s w B E a n c vs) (hb : B' ≤ B) : OwnS s w B' E a n c vs := by
  refine ⟨h.1, ?_⟩
  rcases h.2 with h2 | ⟨g, cap, cur, hv, hb1, r⟩
  · exact .inl h2
  · exact .inr ⟨g, cap, cur, hv, by omega, r⟩
theorem OwnS.ne {s : Nat} {w : World} {B : Nat} {E T : TypeId} {a : Option Addr} {n c g : Nat} {vs : List Value} {cs : Array Value} (ho : OwnS s w B E a n c vs) (h : SAt w g T cs) (hT : E ≠ T) : ∀ x, a = Option.some x → x.block ≠ g := by
  rintro x rfl rfl
  rcases ho.2 with h2 | ⟨g', cap, cur, hv, _, hg, _⟩
  · obtain ⟨h2, _⟩ := h2; cases h2
  · simp only [Value.slice.injEq, Option.some.injEq, true_and] at hv
    obtain ⟨rfl, _⟩ := hv
    unfold SAt at h
    rw [hg] at h
    injection h with h
    injection h with h1 h2
    exact hT h2
/-- s[:k] and s[k:] of a row of structs -/
theorem OwnS.cut {P : Program} {s : Nat} {w : World} {B : Nat} {E T : TypeId} {a : Option Addr} {n c : Nat} {vs : List Value} (h : OwnS s w B E a n c vs) (ht : P.underlying T = some (.slice E)) (he : P.cellsOf E = s) (h0 : 0 < s) (hel : P.elem T = E) (k : Nat) (hk : k ≤ n) :
    ∃ a1 a2, (∀ w' (K : IntKind), (Instr.sliceAt T (.slice a n c) none (some (.int K k)) none).run P w' = .ok (.slice a1 k c) w') ∧ (∀ w' (K : IntKind), (Instr.sliceAt T (.slice a n c) (some (.int K k)) none none).run P w' = .ok (.slice a2 (n - k) (c - k)) w') ∧
      (∀ w', OwnS s w' B E a n c vs → ∀ ad0, a1 = some ad0 → ∀ j u, (vs.take (k * s))[j]? = some u → w'.cell? (ad0.add j) = some u) ∧ (∀ w', OwnS s w' B E a n c vs → ∀ ad0, a2 = some ad0 → ∀ j u, (vs.drop (k * s))[j]? = some u → w'.cell? (ad0.add j) = some u) ∧
      (a1 = none → k = 0 ∧ c = 0) ∧ (a2 = none → n - k = 0 ∧ c - k = 0) := by
  obtain ⟨i, hi', hs⟩ := cellsOf_sizeN he h0
  have ht' : P.underlying T = some (.slice (P.elem T)) := by rw [hel]; exact ht
  have hc : n ≤ c := by
    rcases h.2 with ⟨hv, _⟩ | ⟨g, cap, cur, hv, _, _, hnc, _⟩
    · simp at hv; omega
    · simp at hv; omega
  have hnone : a = none → n = 0 ∧ c = 0 := fun e => by
    rcases h.2 with ⟨hv, _⟩ | ⟨g, cap, cur, hv, _⟩
    · simp at hv; omega
    · simp [e] at hv
  have hlen := h.1
  have hadd : ∀ w', OwnS s w' B E a n c vs → ∀ g0, a = some g0 → ∀ j u, vs[j]? = some u → w'.cell? (g0.add j) = some u := fun w' h' g0 e j u hj => by
    subst e
    rcases h'.2 with ⟨hv, _⟩ | ⟨g, cap, cur, hv, _⟩
    · simp at hv
    · simp only [Value.slice.injEq, Option.some.injEq, true_and] at hv
      obtain ⟨rfl, rfl⟩ := hv
      exact World.ownsRow.cells (g := g) h' rfl j u hj
  refine ⟨if c = 0 then a else a.map (·.add 0), if c = k then a else a.map (·.add (k * s)), fun w' K => ?_, fun w' K => ?_, fun w' h' ad0 e j u hj => ?_, fun w' h' ad0 e j u hj => ?_, fun e => ?_, fun e => ?_⟩
  · rw [run_sliceAt_slice w' T _ _ _ _ ht', run_slice_h w' T a n c ht' K k (by omega) (by omega)]
    simp [sizeOf, typeInfo, hel, hi', hs, Result.andThen, sliced]
  · rw [run_sliceAt_slice w' T _ _ _ _ ht', run_slice_l w' T a n c ht' K k (by omega) (by omega)]
    simp [sizeOf, typeInfo, hel, hi', hs, Result.andThen, sliced]
  · have hj2 : vs[j]? = some u := by rw [List.getElem?_take] at hj; split at hj <;> simp_all
    by_cases h00 : c = 0
    · rw [if_pos h00] at e
      exact hadd w' h' ad0 e j u hj2
    · rw [if_neg h00] at e
      cases ha : a with
      | none => rw [ha] at e; cases e
      | some g0 =>
        rw [ha] at e
        simp only [Option.map_some, Option.some.injEq] at e
        subst e
        rw [Addr.add_zero']
        exact hadd w' h' g0 ha j u hj2
  · rw [List.getElem?_drop] at hj
    by_cases h00 : c = k
    · have : vs.length ≤ k * s := by rw [hlen]; exact Nat.mul_le_mul_right _ (by omega)
      rw [List.getElem?_eq_none (by omega)] at hj; cases hj
    · rw [if_neg h00] at e
      cases ha : a with
      | none => rw [ha] at e; cases e
      | some g0 =>
        rw [ha] at e
        simp only [Option.map_some, Option.some.injEq] at e
        subst e
        rw [show (g0.add (k * s)).add j = g0.add (k * s + j) by rw [Addr.add_add]]
        exact hadd w' h' g0 ha _ u hj
  · by_cases h00 : c = 0
    · omega
    · rw [if_neg h00] at e
      simp at e
      have := hnone e; omega
  · by_cases h00 : c = k
    · omega
    · rw [if_neg h00] at e
      simp at e
      have := hnone e; omega

/-! ### the rows of a desk -/
/-- the cells of a weighting whose weights are the call's own -/
def WV (w : World) (lo : Nat) (u : List Value) : Prop := ∃ (X : Wt) (a : Option Addr) (n c : Nat), u = [.int .i64 X.base, .int .i64 X.modulus, .int .i64 X.target, .slice a n c] ∧ Own w lo 2 a n c (I X.weights)
theorem WV.keep {w W : World} {lo : Nat} {u : List Value} (h : WV w lo u) (hk : KeepB lo w.heap.size w W) : WV W lo u := by
  obtain ⟨X, a, n, c, h1, h2⟩ := h
  exact ⟨X, a, n, c, h1, Own.keepB h2 hk⟩
theorem flat_len : ∀ (us : List (List Value)), (∀ u ∈ us, u.length = 4) → us.flatten.length = us.length * 4
  | [], _ => rfl
  | u :: us, h => by
    rw [List.flatten_cons, List.length_append, flat_len us (fun x hx => h x (List.mem_cons_of_mem _ hx)), h u (List.mem_cons_self ..), List.length_cons]; omega
theorem flat_take : ∀ (us : List (List Value)) (k : Nat), (∀ u ∈ us, u.length = 4) → us.flatten.take (k * 4) = (us.take k).flatten
  | [], k, _ => by simp
  | u :: us, 0, _ => by simp
  | u :: us, k + 1, h => by
    have h4 := h u (List.mem_cons_self ..)
    rw [List.flatten_cons, List.take_succ_cons, List.flatten_cons, List.take_append, List.take_of_length_le (by omega), h4, show (k + 1) * 4 - 4 = k * 4 by omega, flat_take us k (fun x hx => h x (List.mem_cons_of_mem _ hx))]
theorem flat_drop : ∀ (us : List (List Value)) (k : Nat), (∀ u ∈ us, u.length = 4) → us.flatten.drop (k * 4) = (us.drop k).flatten
  | [], k, _ => by simp
  | u :: us, 0, _ => by simp
  | u :: us, k + 1, h => by
    have h4 := h u (List.mem_cons_self ..)
    rw [List.flatten_cons, List.drop_succ_cons, List.drop_append, List.drop_of_length_le (by omega), h4, show (k + 1) * 4 - 4 = k * 4 by omega, flat_drop us k (fun x hx => h x (List.mem_cons_of_mem _ hx)), List.nil_append]
theorem flat_set : ∀ (us : List (List Value)) (k : Nat) (a b c d : Value), (∀ u ∈ us, u.length = 4) → k < us.length → ((((us.flatten.set (k * 4) a).set (k * 4 + 1) b).set (k * 4 + 2) c).set (k * 4 + 3) d) = (us.set k [a, b, c, d]).flatten
  | [], k, _, _, _, _, _, hk => by simp at hk
  | u :: us, 0, a, b, c, d, h, _ => by
    have h4 := h u (List.mem_cons_self ..)
    match u, h4 with
    | [x, y, z, t], _ => simp
  | u :: us, k + 1, a, b, c, d, h, hk => by
    have h4 := h u (List.mem_cons_self ..)
    have ih := flat_set us k a b c d (fun x hx => h x (List.mem_cons_of_mem _ hx)) (by simpa using hk)
    match u, h4 with
    | [x, y, z, t], _ =>
      rw [List.set_cons_succ, List.flatten_cons, List.flatten_cons, ← ih]
      rw [show (k + 1) * 4 = k * 4 + 1 + 1 + 1 + 1 by omega]
      simp [List.set_cons_succ]
end Go.Proofs.YtefkefmhfoedcaaDoor

/- Walks: a name is given a system in a desk. -/
namespace Go.Proofs.YtefkefmhfoedcaaDoor
set_option maxRecDepth 100000
open Go.RowKit Go.Sort

theorem OwnS.blk {s : Nat} {w W : World} {B : Nat} {E : TypeId} {a : Option Addr} {n c : Nat} {vs : List Value} (h : OwnS s w B E a n c vs) (hk : ∀ (g : Nat) (cur : Array Value), w.heap[g]? = some (Obj.cells cur E (0, 0)) → W.heap[g]? = w.heap[g]?) : OwnS s W B E a n c vs := by
  refine ⟨h.1, ?_⟩
  rcases h.2 with h2 | ⟨g, cap, cur, hv, hb, hg, r⟩
  · exact .inl h2
  · exact .inr ⟨g, cap, cur, hv, hb, (hk g cur hg).trans hg, r⟩
theorem OwnS.blk' {s : Nat} {w W : World} {B : Nat} {E : TypeId} {a : Option Addr} {n c : Nat} {vs : List Value} (h : OwnS s w B E a n c vs) (hk : ∀ (g : Nat) (cur : Array Value), a = some ⟨g, 0, none⟩ → w.heap[g]? = some (Obj.cells cur E (0, 0)) → W.heap[g]? = w.heap[g]?) : OwnS s W B E a n c vs := by
  refine ⟨h.1, ?_⟩
  rcases h.2 with h2 | ⟨g, cap, cur, hv, hb, hg, r⟩
  · exact .inl h2
  · simp only [Value.slice.injEq] at hv
    exact .inr ⟨g, cap, cur, by simp [hv], hb, (hk g cur hv.1 hg).trans hg, r⟩
theorem lt_heap {w : World} {g : Nat} {o : Obj} (h : w.heap[g]? = some o) : g < w.heap.size := (Array.getElem?_eq_some_iff.1 h).1
theorem cells_inj {w : World} {g : Nat} {c1 c2 : Array Value} {E T : TypeId} {f1 f2 : Nat × Nat} (h1 : w.heap[g]? = some (Obj.cells c1 E f1)) (h2 : w.heap[g]? = some (Obj.cells c2 T f2)) : E = T := by
  rw [h1] at h2
  injection h2 with h2
  injection h2
theorem OwnS.grownT {s1 s2 : Nat} {w W : World} {B B2 : Nat} {E E2 : TypeId} {a ad : Option Addr} {n c n2 c2 : Nat} {vs vs2 : List Value} (h : OwnS s1 w B E a n c vs) (hg : w.grownBy W (Value.slice ad n2 c2).ownBlock) (ho : OwnS s2 w B2 E2 ad n2 c2 vs2) (hT : E ≠ E2) : OwnS s1 W B E a n c vs := by
  refine h.blk fun g cur hgc => hg.block g (lt_heap hgc) ?_
  rcases ho.2 with ⟨hv, _⟩ | ⟨g', cap, cur', hv, _, hg', _⟩
  · simp only [Value.slice.injEq] at hv
    rw [hv.1]; simp [Value.ownBlock]
  · simp only [Value.slice.injEq] at hv
    rw [hv.1]
    simp only [Value.ownBlock, ne_eq, Option.some.injEq]
    rintro rfl
    exact hT (cells_inj hgc hg')
theorem OwnS.setS {s : Nat} {w : World} {B q : Nat} {E T : TypeId} {a : Option Addr} {n c : Nat} {vs : List Value} {cs : Array Value} (h : OwnS s w B E a n c vs) (hs : SAt w q T cs) (hT : E ≠ T) (i : Nat) (u : Value) : OwnS s (w.setCell ⟨q, i, none⟩ u) B E a n c vs :=
  h.blk fun g cur hgc => Below.heap_setCell w _ u g (fun e => hT (by subst e; exact cells_inj hgc hs))
theorem OwnS.touchT {s : Nat} {w W : World} {B q : Nat} {E T : TypeId} {a : Option Addr} {n c : Nat} {vs : List Value} {cs : Array Value} (h : OwnS s w B E a n c vs) (ht : Touch q w W) (hs : SAt w q T cs) (hT : E ≠ T) : OwnS s W B E a n c vs :=
  h.blk fun g cur hgc => ht.block g (lt_heap hgc) (fun e => hT (by subst e; exact cells_inj hgc hs))
theorem OwnS.exc {s s2 : Nat} {w W : World} {B B2 g : Nat} {E E2 : TypeId} {a : Option Addr} {n c n2 c2 : Nat} {vs vs2 : List Value} (h : OwnS s w B E a n c vs) (hW : ∀ x, x ≠ g → W.heap[x]? = w.heap[x]?) (ho : OwnS s2 w B2 E2 (some ⟨g, 0, none⟩) n2 c2 vs2) (hT : E ≠ E2) : OwnS s W B E a n c vs := by
  refine h.blk fun x cur hxc => hW x ?_
  rintro rfl
  rcases ho.2 with ⟨hv, _⟩ | ⟨g', cap, cur', hv, _, hg', _⟩
  · simp at hv
  · simp only [Value.slice.injEq, Option.some.injEq, Addr.mk.injEq, and_true, true_and] at hv
    obtain ⟨rfl, _⟩ := hv
    exact hT (cells_inj hxc hg')
theorem OwnS.ge {s : Nat} {w : World} {B g : Nat} {E : TypeId} {n c : Nat} {vs : List Value} (h : OwnS s w B E (some ⟨g, 0, none⟩) n c vs) : B ≤ g := (World.ownsRow.lt h g rfl).1
/-- append to a row of structs, as a step of a region in whatever order -/
theorem step_appendsS {P : Program} (w : World) {o : Oper} {a : Act} {K : Act → World → Prop} {Q : Exit → Act → World → Prop}
    (s x : Operand) (t : TypeId) (hop : o.op = Op.call { callee := Callee.builtin Builtin.append, args := #[s, x], argTypes := #[t, t] })
    (e : TypeId) (z : Value) (size bytes : Nat) (h1 : P.underlying t = some (.slice e)) (h2 : (P.info? e).map (fun i => (i.zero, i.size, i.bytes)) = some (some z, size, bytes)) (hz : z.cells.size = size) (h0 : 0 < size)
    (B : Nat) (ad : Option Addr) (n c : Nat) (vs : List Value) (src : Option Addr) (m c' : Nat) (us : List Value) (hu : ∀ u ∈ us, u.oneCell' = true) (hs : a.eval s = .slice ad n c) (hx : a.eval x = .slice src m c')
    (hown : OwnS size w B e ad n c vs) (hl : us.length = m * size) (hcl : ∀ ad0, src = some ad0 → ∀ j u, us[j]? = some u → w.cell? (ad0.add j) = some u) (hno : src = none → m = 0 ∧ c' = 0) (hB : B ≤ w.heap.size) (hn : n + m < 1099511627776) (hb : bytes ≤ 64)
    (hK : ∀ ad' cc' w', OwnS size w' B e ad' (n + m) cc' (vs ++ us) → Below B w w' → w.grownBy w' (Value.slice ad n c).ownBlock → K (a.put o.dst (.slice ad' (n + m) cc')) w') :
    Oper.wp P o a w K Q := by
  obtain ⟨i, hi, hz0, hz1, rfl⟩ : ∃ i, P.info? e = some i ∧ i.zero = some z ∧ i.size = size ∧ i.bytes = bytes := by
    cases hi : P.info? e with
    | none => rw [hi] at h2; cases h2
    | some i =>
      rw [hi] at h2
      simp only [Option.map_some, Option.some.injEq, Prod.mk.injEq] at h2
      exact ⟨i, rfl, h2.1, h2.2.1, h2.2.2⟩
  cases src with
  | none =>
    obtain ⟨rfl, rfl⟩ := hno rfl
    have hul : us = [] := List.eq_nil_of_length_eq_zero (by omega)
    subst hul
    have hr := run_append_owned_none (P := P) (w := w) B t o.type e i size h1 hi _ n vs hown
    have h3 := hK ad c w (by rw [List.append_nil]; exact hown) (Below.refl _ _) ⟨rfl, rfl, rfl, Nat.le_refl _, fun _ _ _ => rfl⟩
    unfold Oper.wp execOp
    simp only [hop, resolve, invoke, builtin, Sem.run_bind, Sem.run_pure, Result.andThen_ok, List.map_toArray, List.map_cons, List.map_nil, hs, hx, hr]
    exact h3
  | some ad0 =>
    refine wp_append_own (P := P) w s x t hop B e i z size i.bytes h1 hi hz0 hz1 rfl hz h0 (.slice ad n c) n vs hs hown ad0 m c' us hx hl
      (hcl ad0 rfl) hu (by unfold maxLen; omega) (by have := Nat.mul_le_mul (show n + m ≤ 1099511627776 by omega) hb; omega) hB ?_
    intro v' w' h3 h4 h5
    have hv : ∃ ad' c', v' = .slice ad' (n + m) c' := by
      rcases h3.2 with ⟨h, h'⟩ | ⟨g, cap, cur, hv, _⟩
      · exact ⟨none, 0, by rw [h, h']⟩
      · exact ⟨_, _, hv⟩
    obtain ⟨ad', c', rfl⟩ := hv
    exact hK ad' c' w' h3 (Below.grown (Below.refl B w) h4 hB (fun k hk => (World.ownsRow.lt hown k hk).1)) h4
theorem lit0S {s : Nat} (w : World) (E : TypeId) : OwnS s (w.alloc (.cells #[] E)) w.heap.size E (some ⟨w.heap.size, 0, none⟩) 0 0 [] := by
  have h := World.ownsRow_lit (e := E) (size := s) (base := w.heap.size) w #[] 0 (Nat.le_refl _) (by unfold maxLen; omega) (by simp)
  exact h
theorem litS' {s g B : Nat} (w : World) (E : TypeId) (hB : B ≤ g) (hg : g = w.heap.size) : OwnS s (w.alloc (.cells #[] E)) B E (some ⟨g, 0, none⟩) 0 0 [] := by subst hg; exact (lit0S w E).mono hB
theorem OwnS.drew {s : Nat} {w : World} {B : Nat} {E : TypeId} {a : Option Addr} {n c : Nat} {vs : List Value} (h : OwnS s w B E a n c vs) : OwnS s w.drew B E a n c vs := h.ext (Ext.refl _).drew
theorem OwnS.alloc' {s : Nat} {w : World} {B : Nat} {E : TypeId} {a : Option Addr} {n c : Nat} {vs : List Value} (h : OwnS s w B E a n c vs) (o : Obj) : OwnS s (w.alloc o) B E a n c vs := h.ext ((Ext.refl _).alloc _)
theorem lit4S (w : World) (E : TypeId) (v0 v1 v2 v3 : Value) : OwnS 4 (w.alloc (.cells #[v0, v1, v2, v3] E)) w.heap.size E (some ⟨w.heap.size, 0, none⟩) 1 1 [v0, v1, v2, v3] := by
  have h := World.ownsRow_lit (e := E) (size := 4) (base := w.heap.size) w #[v0, v1, v2, v3] 1 (Nat.le_refl _) (by unfold maxLen; omega) (by simp)
  exact h
theorem litF (w : World) (E : TypeId) (v0 v1 v2 v3 : Value) {g B : Nat} (hB : B ≤ g) (hg : g = w.heap.size) : OwnS 4 (w.alloc (.cells #[v0, v1, v2, v3] E)) B E (some ⟨g, 0, none⟩) 1 1 [v0, v1, v2, v3] := by subst hg; exact (lit4S w E v0 v1 v2 v3).mono hB
/-- another row of the call's own, of whatever type -/
theorem OwnS.grownN {s1 : Nat} {w W : World} {B : Nat} {E : TypeId} {g x n c n2 c2 : Nat} {vs : List Value} (h : OwnS s1 w B E (some ⟨x, 0, none⟩) n c vs) (hg : w.grownBy W (Value.slice (some ⟨g, 0, none⟩) n2 c2).ownBlock) (hne : x ≠ g) : OwnS s1 W B E (some ⟨x, 0, none⟩) n c vs := by
  refine h.blk' fun y cur hy hgc => hg.block y (lt_heap hgc) ?_
  simp only [Option.some.injEq, Addr.mk.injEq, and_true] at hy
  subst hy
  simp only [Value.ownBlock, ne_eq, Option.some.injEq]
  exact hne
theorem OwnS.cl {s : Nat} {w : World} {B : Nat} {E : TypeId} {a : Option Addr} {n c : Nat} {vs : List Value} (h : OwnS s w B E a n c vs) : ∀ ad0, a = some ad0 → ∀ j u, vs[j]? = some u → w.cell? (ad0.add j) = some u := fun g0 e j u hj => by
  subst e
  rcases h.2 with ⟨hv, _⟩ | ⟨g, cap, cur, hv, _⟩
  · simp at hv
  · simp only [Value.slice.injEq, Option.some.injEq, true_and] at hv
    obtain ⟨rfl, rfl⟩ := hv
    exact World.ownsRow.cells (g := g) h rfl j u hj
theorem WV.one {w : World} {lo : Nat} {u : List Value} (h : WV w lo u) : ∀ v ∈ u, v.oneCell' = true := by
  obtain ⟨X, a, n, c, rfl, _⟩ := h
  intro v hv
  simp only [List.mem_cons, List.mem_nil_iff, or_false] at hv
  rcases hv with rfl | rfl | rfl | rfl <;> rfl
/-- four cells of a row are stored anew -/
theorem four_set {w : World} {lo g k n d : Nat} {us : List (List Value)} (h : OwnS 4 w lo 67 (some ⟨g, 0, none⟩) n d us.flatten) (h4 : ∀ u ∈ us, u.length = 4) (hk : k < us.length) (v0 v1 v2 v3 : Value) :
    OwnS 4 ((((w.setCell ⟨g, k * 4, none⟩ v0).setCell ⟨g, k * 4 + 1, none⟩ v1).setCell ⟨g, k * 4 + 2, none⟩ v2).setCell ⟨g, k * 4 + 3, none⟩ v3) lo 67 (some ⟨g, 0, none⟩) n d (us.set k [v0, v1, v2, v3]).flatten ∧
      (∀ x, x ≠ g → ((((w.setCell ⟨g, k * 4, none⟩ v0).setCell ⟨g, k * 4 + 1, none⟩ v1).setCell ⟨g, k * 4 + 2, none⟩ v2).setCell ⟨g, k * 4 + 3, none⟩ v3).heap[x]? = w.heap[x]?) ∧
      Below g w ((((w.setCell ⟨g, k * 4, none⟩ v0).setCell ⟨g, k * 4 + 1, none⟩ v1).setCell ⟨g, k * 4 + 2, none⟩ v2).setCell ⟨g, k * 4 + 3, none⟩ v3) := by
  refine ⟨?_, fun x hx => ?_, ?_⟩
  · rw [← flat_set us k v0 v1 v2 v3 h4 hk]
    exact (World.ownsRow.stored (World.ownsRow.stored (World.ownsRow.stored (World.ownsRow.stored h _ v0).1 _ v1).1 _ v2).1 _ v3).1
  · rw [Below.heap_setCell _ _ _ _ hx, Below.heap_setCell _ _ _ _ hx, Below.heap_setCell _ _ _ _ hx, Below.heap_setCell _ _ _ _ hx]
  · exact Below.setCell (Below.setCell (Below.setCell (Below.setCell (Below.refl g w) (p := ⟨g, _, none⟩) (Nat.le_refl g) _) (p := ⟨g, _, none⟩) (Nat.le_refl g) _) (p := ⟨g, _, none⟩) (Nat.le_refl g) _) (p := ⟨g, _, none⟩) (Nat.le_refl g) _
/-- a desk of the call's own in block q -/
structure DkO (w : World) (lo q : Nat) (ts : List ByteArray) (us : List (List Value)) (a : Option Addr) (n c : Nat) (b : Option Addr) (d : Nat) : Prop where
  bx : SAt w q 28 #[.slice a n c, .slice b n d]
  ns : OwnS 1 w lo 9 a n c (St ts)
  ss : OwnS 4 w lo 67 b n d us.flatten
  tl : ts.length = n
  ul : us.length = n
  u4 : ∀ u ∈ us, u.length = 4
  wv : ∀ u ∈ us, WV w lo u
  nm : ∀ t ∈ ts, LnOk 8 t
set_option maxHeartbeats 1000000 in
theorem spec_findD (q : Nat) (ts : List ByteArray) (a : Option Addr) (n c : Nat) (s : ByteArray) (w : World) (c0 : w.cell? ⟨q, 0, none⟩ = some (.slice a n c)) (hv : Strs w a n c ts) (hn : n ≤ 1000) :
    Calls Tryd.prog 45 #[.pointer (some ⟨q, 0, none⟩), .string s] w (fun e w' => ∃ x : Int, e = .returned (.int .i64 x) ∧ -1 ≤ x ∧ x < n ∧ w' = w) := by
  obtain ⟨b, off, hix, hcell⟩ := hv.ix (P := Tryd.prog) 24 9 und_strs cell_str
  clear hv
  go_enter Tryd.func45, Tryd.ntmps45
  go_wp2
  go_loop [5] (fun i => ∃ k : Nat, k ≤ n ∧ i = .int .i64 k) (fun i => n - (intOf i).toNat)
  case atStart => exact ⟨0, Nat.zero_le _, rfl⟩
  case round =>
    obtain ⟨k, hk, rfl⟩ := hrel
    by_cases hlt : k < n
    · by_cases heq : gs ts k = s
      · have he : ((gs ts k).toList == s.toList) = true := by rw [heq]; simp
        clear heq
        go_wp2
        go_ret
        exact ⟨k, rfl, by omega, by omega, rfl⟩
      · have he : ((gs ts k).toList == s.toList) = false := by
          rw [Bool.eq_false_iff]; intro h; exact heq (bs_iff.1 h)
        clear heq
        go_wp2
        exact ⟨⟨k + 1, by omega, by go_num⟩, by simp [intOf]; omega⟩
    · go_wp2
      go_ret
      exact ⟨-1, rfl, by omega, by omega, rfl⟩
theorem und_sys : Tryd.prog.underlying 26 = some (.slice 67) := Tryd.underlying26
theorem elem_sys : Tryd.prog.elem 26 = 67 := by kernel_rfl
def RetSetD (lo q n : Nat) (w : World) (e : Ending) (w' : World) : Prop :=
  ∃ (yes : Bool) (ts : List ByteArray) (us : List (List Value)) (a : Option Addr) (n' c : Nat) (b : Option Addr) (d : Nat), e = .returned (.bool yes) ∧ DkO w' lo q ts us a n' c b d ∧ n' ≤ n + 1 ∧ Below lo w w'
set_option maxHeartbeats 4000000 in
theorem spec_setD (lo q : Nat) (ts : List ByteArray) (us : List (List Value)) (a : Option Addr) (n c : Nat) (b : Option Addr) (d : Nat) (s : ByteArray) (X : Wt) (xa : Option Addr) (xn xc : Nat) (w : World) (hD : DkO w lo q ts us a n c b d) (hlo : lo ≤ q) (hn : n ≤ 5)
    (hX : Own w lo 2 xa xn xc (I X.weights)) (hs : LnOk 8 s) (hnm : nameB s = true) :
    Calls Tryd.prog 32 #[.pointer (some ⟨q, 0, none⟩), .string s, .agg #[.int .i64 X.base, .int .i64 X.modulus, .int .i64 X.target, .slice xa xn xc]] w (RetSetD lo q n w) := by
  have HD := Lib.hid hD
  have HX := Lib.hid hX
  have HS := Lib.hid hs
  have hv : Strs w a n c ts := Own.sl (show Own w lo 9 a n c (St ts) from hD.ns)
  have hqlt := hD.bx.lt
  have HV := Lib.hid hv
  have HN := Lib.hid (fun W => spec_IsName s W (by have := hs.sz; omega))
  rw [hnm] at HN
  clear hD hX hs hnm hv
  go_enter Tryd.func32, Tryd.ntmps32
  go_wp2_with fail
  obtain ⟨qw, hqw⟩ : ∃ qw, qw = w.heap.size := ⟨_, rfl⟩
  obtain ⟨wz, hwz⟩ : ∃ W, W = w.alloc (.cells #[.int .i64 X.base, .int .i64 X.modulus, .int .i64 X.target, .slice xa xn xc] 67) := ⟨_, rfl⟩
  have hxz : Ext w wz := by rw [hwz]; exact (by repeat (first | (with_reducible exact Ext.refl _) | (with_reducible refine Ext.drewN ?_ _) | (with_reducible refine Ext.drew ?_) | (with_reducible refine Ext.alloc ?_ _) | ((with_reducible refine Ext.setCell ?_ ?_ _); rotate_left; focus (first | (simp; done) | (simp; omega) | omega)) | assumption | (with_reducible refine Ext.trans ?_ (by assumption))))
  have HZ := Lib.hid (show SAt wz qw 67 #[.int .i64 X.base, .int .i64 X.modulus, .int .i64 X.target, .slice xa xn xc] by rw [hwz, hqw]; exact SAt.new' _ _ _ rfl)
  have hqz : w.heap.size ≤ qw := by omega
  have hqq : q < qw := by omega
  have hsz : wz.heap.size = qw + 1 := by rw [hwz, hqw]; simp
  rw [← hwz, ← hqw]
  clear hwz hqw
  have HB := Lib.hid (HD.out.bx.ext hxz)
  refine (spec_findD q ts a n c s wz (HB.out.cell 0 (by simp)) (HV.out.ext hxz) (by omega)).mono ?_
  rintro e w1 ⟨x, rfl, hx0, hx1, rfl⟩
  by_cases hxp : 0 ≤ x
  · obtain ⟨k, rfl⟩ := Int.eq_ofNat_of_zero_le hxp
    have hkn : k < n := by omega
    have hge : decide ((k : Int) ≥ 0) = true := by simp
    have b0 := HB.out.cell 1 (by simp)
    have z0 := HZ.out.cell 0 (by simp)
    have z1 := HZ.out.cell 1 (by simp)
    have z2 := HZ.out.cell 2 (by simp)
    have z3 := HZ.out.cell 3 (by simp)
    try simp only [List.getElem_toArray, List.getElem_cons_succ, List.getElem_cons_zero] at b0 z0 z1 z2 z3
    have hb : ∃ g, b = some ⟨g, 0, none⟩ := by
      rcases HD.out.ss.2 with ⟨hv, _⟩ | ⟨g, cap, cur, hv, _⟩
      · simp at hv; omega
      · simp only [Value.slice.injEq] at hv; exact ⟨g, hv.1⟩
    obtain ⟨g, rfl⟩ := hb
    have hss : OwnS 4 w1 lo 67 (some ⟨g, 0, none⟩) n d us.flatten := HD.out.ss.ext hxz
    obtain ⟨i, hi, his⟩ := cellsOf_sizeN cell_wt (by omega)
    have hix : ∀ w', (Instr.indexAt 26 (.slice (some ⟨g, 0, none⟩) n d) (.int .i64 k)).run Tryd.prog w' = .ok (.pointer (some ⟨g, k * 4, none⟩)) w' := fun w' => by
      have : (⟨g, 0, none⟩ : Addr).add (k * 4) = ⟨g, k * 4, none⟩ := by unfold Addr.add; simp; exact fun h => h.symm
      simp [Instr.indexAt, asIntOf, run_underlying und_sys, sizeOf, typeInfo, hi, his, Addr.add_lit, hkn]
    have hce : ∀ j, j < 4 → ∃ x, w1.cell? ⟨g, k * 4 + j, none⟩ = some x := fun j hj => by
      have h1 : k * 4 + j < n * 4 := by omega
      have := World.ownsRow.cellAt hss (k * 4 + j) h1
      rw [this]
      exact ⟨_, List.getElem?_eq_getElem (by rw [hss.1]; exact h1)⟩
    obtain ⟨y0, e0⟩ := hce 0 (by omega)
    rw [Nat.add_zero] at e0
    obtain ⟨y1, e1⟩ := hce 1 (by omega)
    obtain ⟨y2, e2⟩ := hce 2 (by omega)
    obtain ⟨y3, e3⟩ := hce 3 (by omega)
    have fr := fun j => World.ownsRow.frozenAt hss j
    clear hce hi his
    have Hhss := Lib.hid hss; clear hss
    go_upto_region 3 with fail
    obtain ⟨C0, hC0⟩ : ∃ C : World → Prop, C = fun w' => Ext w1 w' := ⟨_, rfl⟩
    have hin : C0 w1.drew := by rw [hC0]; exact (Ext.refl _).drew
    have hpk : ∀ z, Ext w1 (World.pk C0 w1.drew z) := fun z => by have := pk_in hin z; rw [hC0] at this; rw [hC0]; exact this
    have p0 := fun z => (hpk z).cell b0
    have p1 := fun z => (hpk z).cell z0
    have p2 := fun z => (hpk z).cell z1
    have p3 := fun z => (hpk z).cell z2
    have p4 := fun z => (hpk z).cell z3
    have Hhpk := Lib.hid hpk; clear hpk; have Hhin := Lib.hid hin; clear hin; have HhC0 := Lib.hid hC0; clear hC0
    refine wp_region_pk C0 7 Hhin.out rfl (by kernel_rfl) (by kernel_rfl) (by kernel_rfl) (by kernel_rfl) ?_
    simp only [List.take_succ_cons, List.take_zero, List.drop_succ_cons, List.drop_zero]
    (repeat (refine mix_q rfl ?_; go_big_quiet_step (fail); refine wpQuiet_nil ?_; show wpMix _ _ _ _ _ _ _))
    refine mix_nil ?_
    clear Hhpk Hhin HhC0 p0 p1 p2 p3 p4
    go_wp2
    go_ret
    have hss1 : OwnS 4 w1.drew lo 67 (some ⟨g, 0, none⟩) n d us.flatten := OwnS.ext Hhss.out (Ext.refl _).drew
    obtain ⟨g1, g2, g3⟩ := four_set hss1 HD.out.u4 (k := k) (by rw [HD.out.ul]; exact hkn) (.int .i64 X.base) (.int .i64 X.modulus) (.int .i64 X.target) (.slice xa xn xc)
    have hxd : Ext w w1.drew := hxz.drew
    have hgq : q ≠ g := fun e => hss1.ne (HB.out.drew) (by decide) _ rfl e.symm
    refine ⟨true, ts, us.set k _, a, n, c, _, d, rfl, ⟨?_, ?_, g1, HD.out.tl, by rw [List.length_set]; exact HD.out.ul, fun u hu => ?_, fun u hu => ?_, HD.out.nm⟩, by omega, ?_⟩
    · exact (g2 q hgq).trans HB.out.drew
    · exact OwnS.exc (HD.out.ns.ext hxd) g2 hss1 (by decide)
    · rcases List.mem_or_eq_of_mem_set hu with hu | rfl
      · exact HD.out.u4 u hu
      · rfl
    · rcases List.mem_or_eq_of_mem_set hu with hu | rfl
      · obtain ⟨Y, ya, yn, yc, hy, ho⟩ := HD.out.wv u hu
        exact ⟨Y, ya, yn, yc, hy, OwnS.exc (show OwnS 1 w1.drew lo 2 ya yn yc (I Y.weights) from OwnS.ext (show OwnS 1 w lo 2 ya yn yc (I Y.weights) from ho) hxd) g2 hss1 (by decide)⟩
      · exact ⟨X, xa, xn, xc, rfl, OwnS.exc (show OwnS 1 w1.drew lo 2 xa xn xc (I X.weights) from OwnS.ext (show OwnS 1 w lo 2 xa xn xc (I X.weights) from HX.out) hxd) g2 hss1 (by decide)⟩
    · exact (Below.mono hxd (by omega)).trans (Below.mono g3 hss1.ge)
  · obtain rfl : x = -1 := by omega
    clear hxp hx0 hx1
    have b0 := HB.out.cell 0 (by simp)
    try simp only [List.getElem_toArray, List.getElem_cons_zero] at b0
    obtain ⟨gb, goff, hix, hcell⟩ := (HV.out.ext hxz).ix (P := Tryd.prog) 24 9 und_strs cell_str
    have hn6 : decide ((n : Int) ≥ 6) = false := by simp; omega
    go_upto_block 0 with (go_at_call 46; (with_reducible refine (HN.out _).mono ?_); rintro e w2 ⟨rfl, rfl⟩)
    go_cut [8] from 34 to 54 (fun v wx => ∃ k : Nat, k ≤ n ∧ v = .int .i64 k ∧ wx = w1)
    case first =>
      go_wp2_with fail
      go_loop [8] (fun i => ∃ k : Nat, k ≤ n ∧ i = .int .i64 k) (fun i => n - (intOf i).toNat)
      case atStart => exact ⟨0, Nat.zero_le _, rfl⟩
      case round =>
        obtain ⟨k, hk, rfl⟩ := hrel
        by_cases hlt : k < n
        · cases hls : Op.bytesLess (gs ts k).toList s.toList
          · go_wp2
            go_meet
            exact ⟨k, hk, rfl, rfl⟩
          · go_wp2
            exact ⟨⟨k + 1, by omega, by go_num⟩, by simp [intOf]; omega⟩
        · go_wp2
          go_meet
          exact ⟨k, hk, rfl, rfl⟩
    case rest =>
      obtain ⟨k, hk, rfl, rfl⟩ := hcut
      generalize wc = wb at *
      have hqc : qw < wb.heap.size := by omega
      obtain ⟨a1, hs1, hp1⟩ := (HV.out.ext hxz).pre (P := Tryd.prog) 24 9 und_strs cell_str elem_strs k hk
      obtain ⟨a2, hs2, hp2⟩ := (HV.out.ext hxz).suf (P := Tryd.prog) 24 9 und_strs cell_str elem_strs k hk
      obtain ⟨b1, b2, ht1, ht2, hc1, hc2, hn1, hn2⟩ := HD.out.ss.cut (P := Tryd.prog) und_sys cell_wt (by omega) elem_sys k hk
      have Hhp1 := Lib.hid hp1; clear hp1; have Hhp2 := Lib.hid hp2; clear hp2; have Hhc1 := Lib.hid hc1; clear hc1; have Hhc2 := Lib.hid hc2; clear hc2; have Hhn1 := Lib.hid hn1; clear hn1; have Hhn2 := Lib.hid hn2; clear hn2
      clear hsz hix hcell
      have hcc : Ext wb wb := Ext.refl _
      have q0 := fun W (h : Ext wb W) => (HB.out.ext h).cell 0 (by simp)
      try simp only [List.getElem_toArray, List.getElem_cons_zero] at q0
      go_upto_region 11 with (first
            | (at_builtin; refine law_appendsO _ rfl _ _ 24 rfl 9 (.string .empty) 16 und_strs info_str rfl wb.heap.size _ 0 0 [] a1 k c (St (ts.take k)) (oneTs _) rfl rfl (Own.lit0 wb _) (Strs.ext Hhp1.out (by repeat (first | (with_reducible exact Ext.refl _) | (with_reducible assumption) | (with_reducible refine Ext.drewN ?_ _) | (with_reducible refine Ext.drew ?_) | (with_reducible refine Ext.alloc ?_ _) | ((with_reducible refine Ext.setCell ?_ ?_ _); rotate_left; focus (first | (simp; done) | (simp; omega) | omega)) | (with_reducible refine Ext.trans ?_ (by with_reducible assumption))))) (by simp) (by omega) (by omega) ?_; intro ad1 cc1 w1 ho1 hb1 hg1; rw [List.nil_append, Nat.zero_add] at ho1; have hxw1 : Ext wb w1 := Ext.below (show Ext wb _ from (by repeat (first | (with_reducible exact Ext.refl _) | (with_reducible assumption) | (with_reducible refine Ext.drewN ?_ _) | (with_reducible refine Ext.drew ?_) | (with_reducible refine Ext.alloc ?_ _) | ((with_reducible refine Ext.setCell ?_ ?_ _); rotate_left; focus (first | (simp; done) | (simp; omega) | omega)) | (with_reducible refine Ext.trans ?_ (by with_reducible assumption))))) hb1; have HO1 := Lib.hid ho1; clear ho1 hg1; rw [Nat.zero_add])
            | (at_builtin; refine law_append1 _ rfl _ _ 24 rfl 9 (.string .empty) 16 und_strs info_str rfl wb.heap.size ad1 k cc1 (St (ts.take k)) (.string s) rfl rfl rfl HO1.out hxw1.le (by omega) (by omega) ?_; intro ad2 cc2 w2 ho2 hb2 hg2; have hxw2 : Ext wb w2 := Ext.below hxw1 hb2; have HO2 := Lib.hid ho2; clear ho2 hg2))

      clear b0 HO1 hxw1
      have h33 : Ext w2 w2 := Ext.refl _
      have b1' := fun W (h : Ext w2 W) => ((HB.out.ext hxw2).ext h).cell 1 (by simp)
      have z0 := fun W (h : Ext w2 W) => ((HZ.out.ext hxw2).ext h).cell 0 (by simp)
      have z1 := fun W (h : Ext w2 W) => ((HZ.out.ext hxw2).ext h).cell 1 (by simp)
      have z2 := fun W (h : Ext w2 W) => ((HZ.out.ext hxw2).ext h).cell 2 (by simp)
      have z3 := fun W (h : Ext w2 W) => ((HZ.out.ext hxw2).ext h).cell 3 (by simp)
      try simp only [List.getElem_toArray, List.getElem_cons_succ, List.getElem_cons_zero] at b1' z0 z1 z2 z3
      clear q0
      have h4 := HD.out.u4
      have HSs := Lib.hid (show OwnS 4 w2 lo 67 b n d us.flatten from HD.out.ss.ext (hxz.trans hxw2))
      have hon : ∀ v ∈ us.flatten, v.oneCell' = true := fun v hv => by
        obtain ⟨u, hu, hv⟩ := List.mem_flatten.1 hv
        exact (HD.out.wv u hu).one v hv
      have HU1 := Lib.hid (fun v (hv : v ∈ us.flatten.take (k * 4)) => hon v (List.mem_of_mem_take hv))
      have HU2 := Lib.hid (fun v (hv : v ∈ us.flatten.drop (k * 4)) => hon v (List.mem_of_mem_drop hv))
      have hfl : us.flatten.length = n * 4 := by rw [flat_len us h4, HD.out.ul]
      have HL1 := Lib.hid (show (us.flatten.take (k * 4)).length = k * 4 by rw [List.length_take]; omega)
      have HL2 := Lib.hid (show (us.flatten.drop (k * 4)).length = (n - k) * 4 by rw [List.length_drop, Nat.sub_mul]; omega)
      have HU3 := Lib.hid (show ∀ v ∈ ([.int .i64 X.base, .int .i64 X.modulus, .int .i64 X.target, .slice xa xn xc] : List Value), v.oneCell' = true from fun v hv => by
        simp only [List.mem_cons, List.mem_nil_iff, or_false] at hv
        rcases hv with rfl | rfl | rfl | rfl <;> rfl)
      clear hon hfl
      have Hh4 := Lib.hid h4; clear h4
      have HLit := Lib.hid (fun W (h : Ext (w2.alloc (.cells #[] 67)) W) => show W.ownsRow w2.heap.size 67 4 (.slice (some ⟨w2.heap.size, 0, none⟩) 0 0) 0 [] from OwnS.ext (lit0S w2 67) h)
      have HC1 := Lib.hid (fun W (h : Ext w2 W) => Hhc1.out W (OwnS.ext HSs.out h))
      have HLe := Lib.hid (fun W (h : Ext w2 W) => h.le)
      go_cut [10] from 65 to 76 (fun v wx => ∃ (b4 : Option Addr) (cc4 : Nat), v = .slice b4 (k + 1) cc4 ∧ OwnS 4 wx w2.heap.size 67 b4 (k + 1) cc4 (us.flatten.take (k * 4) ++ [.int .i64 X.base, .int .i64 X.modulus, .int .i64 X.target, .slice xa xn xc]) ∧ Ext w2 wx)
      case first =>
        have hs2 : (w2.alloc (Obj.cells #[] 67)).heap.size = w2.heap.size + 1 := by simp
        have hs3 : (w2.alloc (Obj.cells #[Value.int IntKind.i64 X.base, Value.int IntKind.i64 X.modulus, Value.int IntKind.i64 X.target, Value.slice xa xn xc] 67)).heap.size = w2.heap.size + 1 := by simp
        have f1 : OwnS 4 (w2.alloc (Obj.cells #[] 67)).drew w2.heap.size 67 (some ⟨w2.heap.size, 0, none⟩) 0 0 [] := (lit0S w2 67).drew
        have f2 : OwnS 4 ((w2.alloc (Obj.cells #[] 67)).alloc (Obj.cells #[Value.int IntKind.i64 X.base, Value.int IntKind.i64 X.modulus, Value.int IntKind.i64 X.target, Value.slice xa xn xc] 67)).drew w2.heap.size 67 (some ⟨w2.heap.size, 0, none⟩) 0 0 [] := ((lit0S w2 67).alloc' _).drew
        have f2b : OwnS 4 ((w2.alloc (Obj.cells #[] 67)).alloc (Obj.cells #[Value.int IntKind.i64 X.base, Value.int IntKind.i64 X.modulus, Value.int IntKind.i64 X.target, Value.slice xa xn xc] 67)).drew w2.heap.size 67 (some ⟨w2.heap.size + 1, 0, none⟩) 1 1 [Value.int IntKind.i64 X.base, Value.int IntKind.i64 X.modulus, Value.int IntKind.i64 X.target, Value.slice xa xn xc] := (litF _ _ _ _ _ _ (by omega) hs2.symm).drew
        have f3 : OwnS 4 ((w2.alloc (Obj.cells #[Value.int IntKind.i64 X.base, Value.int IntKind.i64 X.modulus, Value.int IntKind.i64 X.target, Value.slice xa xn xc] 67)).alloc (Obj.cells #[] 67)).drew w2.heap.size 67 (some ⟨w2.heap.size + 1, 0, none⟩) 0 0 [] := (litS' _ _ (by omega) hs3.symm).drew
        have f3b : OwnS 4 ((w2.alloc (Obj.cells #[Value.int IntKind.i64 X.base, Value.int IntKind.i64 X.modulus, Value.int IntKind.i64 X.target, Value.slice xa xn xc] 67)).alloc (Obj.cells #[] 67)).drew w2.heap.size 67 (some ⟨w2.heap.size, 0, none⟩) 1 1 [Value.int IntKind.i64 X.base, Value.int IntKind.i64 X.modulus, Value.int IntKind.i64 X.target, Value.slice xa xn xc] := ((lit4S w2 67 _ _ _ _).alloc' _).drew
        have hn12 : w2.heap.size + 1 ≠ w2.heap.size := by omega
        have hn21 : w2.heap.size ≠ w2.heap.size + 1 := by omega
        go_region_held3 (fun w' => Ext w2 w') ((exact (by repeat (first | (with_reducible exact Ext.refl _) | (with_reducible assumption) | (with_reducible refine Ext.drewN ?_ _) | (with_reducible refine Ext.drew ?_) | (with_reducible refine Ext.alloc ?_ _) | ((with_reducible refine Ext.setCell ?_ ?_ _); rotate_left; focus (first | (simp; done) | (simp; omega) | omega)) | (with_reducible refine Ext.trans ?_ (by with_reducible assumption)))))) ((first
          | (rw [if_pos (by rfl)]; refine step_appendsS (w2.alloc (Obj.cells #[] 67)).drew _ _ 26 rfl 67 (Value.agg #[Value.int IntKind.i64 0, Value.int IntKind.i64 0, Value.int IntKind.i64 0, Value.slice none 0 0]) 4 48 und_sys info_wt rfl (by omega) w2.heap.size (some ⟨w2.heap.size, 0, none⟩) 0 0 [] b1 k d (us.flatten.take (k * 4)) HU1.out (by rfl) (by rfl) f1 HL1.out (HC1.out _ (by repeat (first | (with_reducible exact Ext.refl _) | (with_reducible assumption) | (with_reducible refine Ext.drewN ?_ _) | (with_reducible refine Ext.drew ?_) | (with_reducible refine Ext.alloc ?_ _) | ((with_reducible refine Ext.setCell ?_ ?_ _); rotate_left; focus (first | (simp; done) | (simp; omega) | omega)) | (with_reducible refine Ext.trans ?_ (by with_reducible assumption))))) Hhn1.out (HLe.out _ (by repeat (first | (with_reducible exact Ext.refl _) | (with_reducible assumption) | (with_reducible refine Ext.drewN ?_ _) | (with_reducible refine Ext.drew ?_) | (with_reducible refine Ext.alloc ?_ _) | ((with_reducible refine Ext.setCell ?_ ?_ _); rotate_left; focus (first | (simp; done) | (simp; omega) | omega)) | (with_reducible refine Ext.trans ?_ (by with_reducible assumption))))) (by omega) (by omega) ?_; intro b3 cc3 w4 ho3 hb3 hg3; rw [List.nil_append, Nat.zero_add] at ho3; have hx4 : Ext w2 w4 := Ext.below (show Ext w2 (w2.alloc (Obj.cells #[] 67)).drew from (by repeat (first | (with_reducible exact Ext.refl _) | (with_reducible assumption) | (with_reducible refine Ext.drewN ?_ _) | (with_reducible refine Ext.drew ?_) | (with_reducible refine Ext.alloc ?_ _) | ((with_reducible refine Ext.setCell ?_ ?_ _); rotate_left; focus (first | (simp; done) | (simp; omega) | omega)) | (with_reducible refine Ext.trans ?_ (by with_reducible assumption))))) hb3; rw [Nat.zero_add])
          | (rw [if_pos (by rfl)]; refine step_appendsS ((w2.alloc (Obj.cells #[] 67)).alloc (Obj.cells #[Value.int IntKind.i64 X.base, Value.int IntKind.i64 X.modulus, Value.int IntKind.i64 X.target, Value.slice xa xn xc] 67)).drew _ _ 26 rfl 67 (Value.agg #[Value.int IntKind.i64 0, Value.int IntKind.i64 0, Value.int IntKind.i64 0, Value.slice none 0 0]) 4 48 und_sys info_wt rfl (by omega) w2.heap.size (some ⟨w2.heap.size, 0, none⟩) 0 0 [] b1 k d (us.flatten.take (k * 4)) HU1.out (by rfl) (by rfl) f2 HL1.out (HC1.out _ (by repeat (first | (with_reducible exact Ext.refl _) | (with_reducible assumption) | (with_reducible refine Ext.drewN ?_ _) | (with_reducible refine Ext.drew ?_) | (with_reducible refine Ext.alloc ?_ _) | ((with_reducible refine Ext.setCell ?_ ?_ _); rotate_left; focus (first | (simp; done) | (simp; omega) | omega)) | (with_reducible refine Ext.trans ?_ (by with_reducible assumption))))) Hhn1.out (HLe.out _ (by repeat (first | (with_reducible exact Ext.refl _) | (with_reducible assumption) | (with_reducible refine Ext.drewN ?_ _) | (with_reducible refine Ext.drew ?_) | (with_reducible refine Ext.alloc ?_ _) | ((with_reducible refine Ext.setCell ?_ ?_ _); rotate_left; focus (first | (simp; done) | (simp; omega) | omega)) | (with_reducible refine Ext.trans ?_ (by with_reducible assumption))))) (by omega) (by omega) ?_; intro b3 cc3 w4 ho3 hb3 hg3; rw [List.nil_append, Nat.zero_add] at ho3; have hx4 : Ext w2 w4 := Ext.below (show Ext w2 ((w2.alloc (Obj.cells #[] 67)).alloc (Obj.cells #[Value.int IntKind.i64 X.base, Value.int IntKind.i64 X.modulus, Value.int IntKind.i64 X.target, Value.slice xa xn xc] 67)).drew from (by repeat (first | (with_reducible exact Ext.refl _) | (with_reducible assumption) | (with_reducible refine Ext.drewN ?_ _) | (with_reducible refine Ext.drew ?_) | (with_reducible refine Ext.alloc ?_ _) | ((with_reducible refine Ext.setCell ?_ ?_ _); rotate_left; focus (first | (simp; done) | (simp; omega) | omega)) | (with_reducible refine Ext.trans ?_ (by with_reducible assumption))))) hb3; have HG4 := OwnS.grownN f2b hg3 hn12; rw [Nat.zero_add])
          | (rw [if_pos (by rfl)]; refine step_appendsS ((w2.alloc (Obj.cells #[Value.int IntKind.i64 X.base, Value.int IntKind.i64 X.modulus, Value.int IntKind.i64 X.target, Value.slice xa xn xc] 67)).alloc (Obj.cells #[] 67)).drew _ _ 26 rfl 67 (Value.agg #[Value.int IntKind.i64 0, Value.int IntKind.i64 0, Value.int IntKind.i64 0, Value.slice none 0 0]) 4 48 und_sys info_wt rfl (by omega) w2.heap.size (some ⟨w2.heap.size + 1, 0, none⟩) 0 0 [] b1 k d (us.flatten.take (k * 4)) HU1.out (by rfl) (by rfl) f3 HL1.out (HC1.out _ (by repeat (first | (with_reducible exact Ext.refl _) | (with_reducible assumption) | (with_reducible refine Ext.drewN ?_ _) | (with_reducible refine Ext.drew ?_) | (with_reducible refine Ext.alloc ?_ _) | ((with_reducible refine Ext.setCell ?_ ?_ _); rotate_left; focus (first | (simp; done) | (simp; omega) | omega)) | (with_reducible refine Ext.trans ?_ (by with_reducible assumption))))) Hhn1.out (HLe.out _ (by repeat (first | (with_reducible exact Ext.refl _) | (with_reducible assumption) | (with_reducible refine Ext.drewN ?_ _) | (with_reducible refine Ext.drew ?_) | (with_reducible refine Ext.alloc ?_ _) | ((with_reducible refine Ext.setCell ?_ ?_ _); rotate_left; focus (first | (simp; done) | (simp; omega) | omega)) | (with_reducible refine Ext.trans ?_ (by with_reducible assumption))))) (by omega) (by omega) ?_; intro b3 cc3 w4 ho3 hb3 hg3; rw [List.nil_append, Nat.zero_add] at ho3; have hx4 : Ext w2 w4 := Ext.below (show Ext w2 ((w2.alloc (Obj.cells #[Value.int IntKind.i64 X.base, Value.int IntKind.i64 X.modulus, Value.int IntKind.i64 X.target, Value.slice xa xn xc] 67)).alloc (Obj.cells #[] 67)).drew from (by repeat (first | (with_reducible exact Ext.refl _) | (with_reducible assumption) | (with_reducible refine Ext.drewN ?_ _) | (with_reducible refine Ext.drew ?_) | (with_reducible refine Ext.alloc ?_ _) | ((with_reducible refine Ext.setCell ?_ ?_ _); rotate_left; focus (first | (simp; done) | (simp; omega) | omega)) | (with_reducible refine Ext.trans ?_ (by with_reducible assumption))))) hb3; have HG4 := OwnS.grownN f3b hg3 hn21; rw [Nat.zero_add])
          | (rw [if_pos (by rfl)]; refine step_appendsS w4 _ _ 26 rfl 67 (Value.agg #[Value.int IntKind.i64 0, Value.int IntKind.i64 0, Value.int IntKind.i64 0, Value.slice none 0 0]) 4 48 und_sys info_wt rfl (by omega) w2.heap.size b3 k cc3 (us.flatten.take (k * 4)) _ 1 1 [Value.int IntKind.i64 X.base, Value.int IntKind.i64 X.modulus, Value.int IntKind.i64 X.target, Value.slice xa xn xc] HU3.out (by rfl) (by rfl) ho3 rfl (OwnS.cl HG4) (fun e => by cases e) (Ext.le hx4) (by omega) (by omega) ?_; intro b4 cc4 w5 ho4 hb4 hg4; have hx5 : Ext w2 w5 := Ext.below hx4 hb4)
          | (rw [if_pos (by rfl)]; refine step_appendsS (w4.alloc (Obj.cells #[Value.int IntKind.i64 X.base, Value.int IntKind.i64 X.modulus, Value.int IntKind.i64 X.target, Value.slice xa xn xc] 67)) _ _ 26 rfl 67 (Value.agg #[Value.int IntKind.i64 0, Value.int IntKind.i64 0, Value.int IntKind.i64 0, Value.slice none 0 0]) 4 48 und_sys info_wt rfl (by omega) w2.heap.size b3 k cc3 (us.flatten.take (k * 4)) _ 1 1 [Value.int IntKind.i64 X.base, Value.int IntKind.i64 X.modulus, Value.int IntKind.i64 X.target, Value.slice xa xn xc] HU3.out (by rfl) (by rfl) (OwnS.alloc' ho3 _) rfl (OwnS.cl (litF w4 67 (Value.int IntKind.i64 X.base) (Value.int IntKind.i64 X.modulus) (Value.int IntKind.i64 X.target) (Value.slice xa xn xc) hx4.le rfl)) (fun e => by cases e) (Ext.le (Ext.alloc hx4 _)) (by omega) (by omega) ?_; intro b4 cc4 w5 ho4 hb4 hg4; have hx5 : Ext w2 w5 := Ext.below (Ext.alloc hx4 _) hb4)))
        all_goals
          go_wp2
          go_meet
          exact ⟨b4, cc4, rfl, ho4, hx5⟩
      case rest =>
        obtain ⟨b4, cc4, rfl, ho4, hx5⟩ := hcut
        have HO4 := Lib.hid ho4
        clear ho4 HLit HC1 HLe HU1 HU3 HL1 z0 z1 z2 z3 b1' h33
        generalize wc = w5 at *
        have h55 : Ext w5 w5 := Ext.refl _
        have HO5 := Lib.hid (show OwnS 1 w5 wb.heap.size 9 ad2 (k + 1) cc2 (St (ts.take k) ++ [Value.string s]) from OwnS.ext (show OwnS 1 w2 wb.heap.size 9 ad2 (k + 1) cc2 (St (ts.take k) ++ [Value.string s]) from HO2.out) hx5)
        have HB5 := Lib.hid ((HB.out.ext hxw2).ext hx5)
        have HS5 := Lib.hid (HSs.out.ext hx5)
        have hle5 : wb.heap.size ≤ w5.heap.size := Nat.le_trans hxw2.le hx5.le
        have hp5 : Strs w5 a2 (n - k) (c - k) (ts.drop k) := (Strs.ext Hhp2.out hxw2).ext hx5
        have HP5 := Lib.hid hp5
        have b0 := HB5.out.cell 0 (by simp)
        try simp only [List.getElem_toArray, List.getElem_cons_zero] at b0
        have fr := fun j => HB5.out.frozen j
        clear hp5 HO2
        go_upto_region 13 with (at_builtin; go_loud (refine law_appendsO _ rfl _ _ 24 rfl 9 (.string .empty) 16 und_strs info_str rfl wb.heap.size ad2 (k + 1) cc2 (St (ts.take k) ++ [Value.string s]) a2 (n - k) (c - k) (St (ts.drop k)) (oneTs _) rfl rfl (show Own w5 wb.heap.size 9 ad2 (k + 1) cc2 (St (ts.take k) ++ [Value.string s]) from HO5.out) HP5.out hle5 (by omega) (by omega) ?_; intro ad6 cc6 w6 ho6 hb6 hg6; have HO6 := Lib.hid (show OwnS 1 w6 wb.heap.size 9 ad6 (k + 1 + (n - k)) cc6 (St (ts.take k) ++ [Value.string s] ++ St (ts.drop k)) from ho6); have HB6 := Lib.hid (HB5.out.grown hg6 (row_ne_s (HO5.out.ne HB5.out (by decide)))); have HS6 := Lib.hid (HS5.out.grownT hg6 HO5.out (by decide)); have HR6 := Lib.hid (OwnS.grownT HO4.out hg6 HO5.out (by decide)); have c6 := HB6.out.cell 0 (by simp); have fr6 := fun j => HB6.out.frozen j; clear ho6))
        obtain ⟨N, hN⟩ : ∃ N, N = k + 1 + (n - k) := ⟨_, rfl⟩
        have hN1 : N = n + 1 := by omega
        rw [← hN] at HO6 ⊢
        obtain ⟨w7, hw7⟩ : ∃ W, W = w6.setCell ⟨q, 0, none⟩ (.slice ad6 N cc6) := ⟨_, rfl⟩
        have HB7 := Lib.hid (show SAt w7 q 28 #[.slice ad6 N cc6, .slice b n d] by rw [hw7]; exact HB6.out.set 0 (.slice ad6 N cc6))
        have HN7 := Lib.hid (show OwnS 1 w7 wb.heap.size 9 ad6 N cc6 (St (ts.take k) ++ [Value.string s] ++ St (ts.drop k)) by rw [hw7]; exact HO6.out.setS HB6.out (by decide) 0 _)
        have HR7 := Lib.hid (show OwnS 4 w7 w2.heap.size 67 b4 (k + 1) cc4 (us.flatten.take (k * 4) ++ [.int .i64 X.base, .int .i64 X.modulus, .int .i64 X.target, .slice xa xn xc]) by rw [hw7]; exact HR6.out.setS HB6.out (by decide) 0 _)
        have HS7 : OwnS 4 w7 lo 67 b n d us.flatten := by rw [hw7]; exact HS6.out.setS HB6.out (by decide) 0 _
        have HC7 := Lib.hid (Hhc2.out w7 HS7)
        have ht7 : Touch q w w7 := by rw [hw7]; exact (((Touch.refl q w).ext (hxz.trans (hxw2.trans hx5))).below hb6 hxz.le).trans (Touch.set q w6 0 _)
        have hle7 : w2.heap.size ≤ w7.heap.size := by rw [hw7]; have := hx5.le; have := hb6.size; simp only [World.setCell, Array.size_modify]; omega
        have hw2 : w.heap.size ≤ w2.heap.size := (hxz.trans hxw2).le
        rw [← hw7]
        clear hw7 HB6 HO6 HR6 HS6 HS7 c6 fr6 b0 fr hg6 hb6 HB5 HO5 HS5 HP5 HO4 h55 hle5
        have c7 := HB7.out.cell 1 (by simp)
        have fr := fun j => HB7.out.frozen j
        try simp only [List.getElem_toArray, List.getElem_cons_succ, List.getElem_cons_zero] at c7
        go_upto_region 14 with (at_builtin; go_loud (refine law_appendsS _ rfl _ _ 26 rfl 67 (.agg #[.int .i64 0, .int .i64 0, .int .i64 0, .slice none 0 0]) 4 48 und_sys info_wt rfl (by omega) w2.heap.size b4 (k + 1) cc4 _ b2 (n - k) (d - k) (us.flatten.drop (k * 4)) HU2.out rfl rfl HR7.out HL2.out HC7.out Hhn2.out hle7 (by omega) (by omega) ?_; intro b8 cc8 w8 ho8 hb8 hg8; have HR8 := Lib.hid (show OwnS 4 w8 w2.heap.size 67 b8 (k + 1 + (n - k)) cc8 (us.flatten.take (k * 4) ++ [.int .i64 X.base, .int .i64 X.modulus, .int .i64 X.target, .slice xa xn xc] ++ us.flatten.drop (k * 4)) from ho8); have HB8 := Lib.hid (HB7.out.grown hg8 (row_ne_s (HR7.out.ne HB7.out (by decide)))); have HN8 := Lib.hid (HN7.out.grownT hg8 HR7.out (by decide)); have c8 := HB8.out.cell 1 (by simp); have fr8 := fun j => HB8.out.frozen j; clear ho8))
        rw [← hN] at HR8 ⊢
        go_wp2
        go_ret
        have hsq := HD.out.bx
        have ht9 : Touch q w (w8.setCell ⟨q, 1, none⟩ (.slice b8 N cc8)) := (ht7.below hb8 hw2).trans (Touch.set q w8 1 _)
        have hwv : ∀ u, WV w lo u → WV (w8.setCell ⟨q, 1, none⟩ (.slice b8 N cc8)) lo u := fun u ⟨Y, ya, yn, yc, hy, ho⟩ => ⟨Y, ya, yn, yc, hy, OwnS.touchT (show OwnS 1 w lo 2 ya yn yc (I Y.weights) from ho) ht9 hsq (by decide)⟩
        refine ⟨true, ts.take k ++ s :: ts.drop k, us.take k ++ [.int .i64 X.base, .int .i64 X.modulus, .int .i64 X.target, .slice xa xn xc] :: us.drop k, ad6, N, cc6, b8, cc8, rfl, ⟨HB8.out.set 1 (.slice b8 N cc8), ?_, ?_, ?_, ?_, fun u hu => ?_, fun u hu => ?_, fun t ht => ?_⟩, by omega, ⟨ht9.os, ht9.tape, ht9.output, ht9.size, fun i hi => ht9.block i (by omega) (by omega)⟩⟩
        · have h := OwnS.mono (HN8.out.setS HB8.out (by decide) 1 (.slice b8 N cc8)) (show lo ≤ wb.heap.size by have := hxz.le; omega)
          rw [show St (ts.take k ++ s :: ts.drop k) = St (ts.take k) ++ [Value.string s] ++ St (ts.drop k) by simp [St]]
          exact h
        · have h := OwnS.mono (HR8.out.setS HB8.out (by decide) 1 (.slice b8 N cc8)) (show lo ≤ w2.heap.size by omega)
          rw [List.flatten_append, List.flatten_cons, ← flat_take us k Hh4.out, ← flat_drop us k Hh4.out, ← List.append_assoc]
          exact h
        · rw [List.length_append, List.length_take, List.length_cons, List.length_drop, HD.out.tl]; omega
        · rw [List.length_append, List.length_take, List.length_cons, List.length_drop, HD.out.ul]; omega
        · rcases List.mem_append.1 hu with hu | hu
          · exact HD.out.u4 u (List.mem_of_mem_take hu)
          · rcases List.mem_cons.1 hu with rfl | hu
            · rfl
            · exact HD.out.u4 u (List.mem_of_mem_drop hu)
        · rcases List.mem_append.1 hu with hu | hu
          · exact hwv u (HD.out.wv u (List.mem_of_mem_take hu))
          · rcases List.mem_cons.1 hu with rfl | hu
            · exact hwv _ ⟨X, xa, xn, xc, rfl, HX.out⟩
            · exact hwv u (HD.out.wv u (List.mem_of_mem_drop hu))
        · rcases List.mem_append.1 ht with ht | ht
          · exact HD.out.nm t (List.mem_of_mem_take ht)
          · rcases List.mem_cons.1 ht with rfl | ht
            · exact HS.out
            · exact HD.out.nm t (List.mem_of_mem_drop ht)
end Go.Proofs.YtefkefmhfoedcaaDoor
