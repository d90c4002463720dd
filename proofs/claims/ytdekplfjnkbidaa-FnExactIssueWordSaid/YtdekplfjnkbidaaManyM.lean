/- Plain: words that are issued one after another. -/
import Derived.Test.YtdekplfjnkbidaaTrial
import Derived.Test.YtdekplfjnkbidaaNewR
namespace Go.Proofs.Ytdekplfjnkbidaa
set_option maxRecDepth 100000
open Go.RowKit

theorem cost_self : ∀ l : List UInt8, costS l l = 0
  | [] => by rw [cost_nil]; rfl
  | x :: xs => by rw [costS, cost_self xs]; simp
theorem dist_self (s : ByteArray) : distS s s = 0 := by
  unfold distS cst; exact cost_self _
/-- a registry with one word more -/
def issR (D : Rg) (s : ByteArray) : Rg := { D with issued := D.issued ++ [s] }
def addL (D : Rg) (L : List ByteArray) : Rg := { D with issued := D.issued ++ L }
theorem addL_nil (D : Rg) : addL D [] = D := by cases D; simp [addL]
theorem addL_snoc (D : Rg) (L : List ByteArray) (s : ByteArray) : issR (addL D L) s = addL D (L ++ [s]) := by simp [issR, addL]
theorem free_snoc {D : Rg} {L : List ByteArray} {s u : ByteArray} : freeB (addL D (L ++ [u])) s = (freeB (addL D L) s && !decide ((distS s u : Int) < D.apart)) := by
  rw [← addL_snoc]; unfold freeB issR addL; simp [List.all_append, Bool.and_assoc]
theorem NoFree.snoc {D : Rg} {L : List ByteArray} {k : Nat} {u : ByteArray} (h : NoFree (addL D L) k) : NoFree (addL D (L ++ [u])) k := fun j hj => by
  have h1 : freeB (addL D L) (wordR D.ch (j + 1)) = false := h j hj
  show freeB (addL D (L ++ [u])) (wordR D.ch (j + 1)) = false
  rw [free_snoc, h1]; rfl
theorem free_self {D : Rg} {L : List ByteArray} {u : ByteArray} (ha : 1 ≤ D.apart) : freeB (addL D (L ++ [u])) u = false := by
  rw [free_snoc, dist_self, show decide (((0 : Nat) : Int) < D.apart) = true from decide_eq_true (by omega)]; simp
/-- what is issued after k trials, if at most cnt words are wanted -/
def scanL (D : Rg) (cnt : Nat) : Nat → List ByteArray
  | 0 => []
  | k + 1 => if (decide ((scanL D cnt k).length < cnt) && freeB (addL D (scanL D cnt k)) (wordR D.ch (k + 1))) = true then scanL D cnt k ++ [wordR D.ch (k + 1)] else scanL D cnt k
/-- the first k words, if there are so many -/
def manyL (D : Rg) : Nat → Option (List ByteArray)
  | 0 => some []
  | k + 1 => match manyL D k with
    | none => none
    | some L => match trialO (addL D L) with
      | none => none
      | some s => some (L ++ [s])
theorem scan_inv {D : Rg} (ha : 1 ≤ D.apart) (cnt : Nat) : ∀ k, k ≤ triesN D.ch → manyL D (scanL D cnt k).length = some (scanL D cnt k) ∧ (scanL D cnt k).length ≤ cnt ∧ ((scanL D cnt k).length < cnt → NoFree (addL D (scanL D cnt k)) k)
  | 0, _ => ⟨rfl, Nat.zero_le _, fun _ j hj => by omega⟩
  | k + 1, hk => by
    obtain ⟨h1, h2, h3⟩ := scan_inv ha cnt k (by omega)
    rw [scanL]
    generalize scanL D cnt k = L at *
    split
    · rename_i h
      simp only [Bool.and_eq_true, decide_eq_true_eq] at h
      have ht : trialO (addL D L) = some (wordR D.ch (k + 1)) := trial_some (R := addL D L) (k := k) hk (h3 h.1) h.2
      refine ⟨?_, by rw [List.length_append]; simp; omega, fun _ j hj => ?_⟩
      · rw [List.length_append]
        show manyL D (L.length + 1) = _
        rw [manyL, h1]
        simp only [ht]
      · rcases Nat.lt_or_ge j k with e | e
        · exact (h3 h.1).snoc j e
        · obtain rfl : j = k := by omega
          exact free_self ha
    · rename_i h
      refine ⟨h1, h2, fun h4 => (h3 h4).step ?_⟩
      show freeB (addL D L) (wordR D.ch (k + 1)) = false
      simpa [h4] using h
theorem many_none {D : Rg} {k j : Nat} (h : manyL D k = none) (hj : k ≤ j) : manyL D j = none := by
  induction j with
  | zero => obtain rfl : k = 0 := by omega
            exact h
  | succ j ih =>
    by_cases e : k = j + 1
    · subst e; exact h
    · rw [manyL, ih (by omega)]
theorem scan_yes {D : Rg} (ha : 1 ≤ D.apart) {cnt k : Nat} (hk : k ≤ triesN D.ch) (h : ¬ (scanL D cnt k).length < cnt) : manyL D cnt = some (scanL D cnt k) := by
  obtain ⟨h1, h2, _⟩ := scan_inv ha cnt k hk
  rwa [show (scanL D cnt k).length = cnt by omega] at h1
theorem scan_no {D : Rg} (ha : 1 ≤ D.apart) {cnt : Nat} (h : (scanL D cnt (triesN D.ch)).length < cnt) : manyL D cnt = none := by
  obtain ⟨h1, _, h3⟩ := scan_inv ha cnt _ (Nat.le_refl _)
  refine many_none (k := (scanL D cnt (triesN D.ch)).length + 1) ?_ h
  rw [manyL, h1]
  have ht : trialO (addL D (scanL D cnt (triesN D.ch))) = none := trial_none (h3 h)
  simp only [ht]
theorem many_len {D : Rg} : ∀ {k : Nat} {L : List ByteArray}, manyL D k = some L → L.length = k
  | 0, L, h => by cases h; rfl
  | k + 1, L, h => by
    rw [manyL] at h
    cases h1 : manyL D k with
    | none => rw [h1] at h; cases h
    | some L' =>
      rw [h1] at h
      simp only at h
      cases h2 : trialO (addL D L') with
      | none => rw [h2] at h; cases h
      | some s => rw [h2] at h; cases h; rw [List.length_append, many_len h1]; rfl

theorem gs_app_l {l : List ByteArray} {s : ByteArray} {i : Nat} (h : i < l.length) : gs (l ++ [s]) i = gs l i := by
  simp [gs, List.getD_eq_getElem?_getD, List.getElem?_append_left h]
theorem gs_app_r (l : List ByteArray) (s : ByteArray) : gs (l ++ [s]) l.length = s := by simp [gs, List.getD_eq_getElem?_getD]
theorem wordR_chk {D : Ch} (hok : OkCh D) (hv : validCh D = true) {k : Nat} (h : k < (wordsA D).length) : chkB D (wordR D (k + 1)) = true := by
  obtain ⟨h1, h2, h3⟩ := (mem_words (by have := hok.b2; omega) _ _ _ _).1 (getD_mem' (l := wordsA D) (d := []) (k := k) h)
  have h36 := dig36_of hok.b36 h2
  have hc : digC (wordR D (k + 1)) = (wordsA D).getD k [] := digC_text h36
  have hs := wordR_len hok h
  have hp := hok.p20
  unfold chkB runOk wordCh wordB
  simp only [Bool.and_eq_true, List.all_eq_true, decide_eq_true_eq]
  refine ⟨⟨hv, ⟨fun x hx => ?_, ?_, ?_⟩, hs⟩, ?_⟩
  · have : dig x ∈ digC (wordR D (k + 1)) := List.mem_map.2 ⟨x, hx, rfl⟩
    rw [hc] at this
    have := h2 _ this
    exact inB_t.2 ⟨this.1, by omega⟩
  · exact inB_t.2 ⟨hok.b2, hok.b36⟩
  · have h9 := ba_len (wordR D (k + 1)); omega
  · unfold runEnd; rw [hc]; exact h3
theorem trial_ok {R : Rg} (hok : OkCh R.ch) (hv : validCh R.ch = true) {s : ByteArray} (h : trialO R = some s) : chkB R.ch s = true ∧ freeB R s = true := by
  unfold trialO at h
  refine ⟨?_, List.find?_some h⟩
  obtain ⟨k, hk, rfl⟩ := List.mem_map.1 (List.mem_of_find?_eq_some h)
  exact wordR_chk hok hv (Nat.lt_of_lt_of_le (List.mem_range.1 hk) (tries_le _))
theorem OkRg.issue {D : Rg} {s : ByteArray} (h : OkRg D) (hc : chkB D.ch s = true) (hf : freeB D s = true) (hn : D.issued.length < 40) : OkRg (issR D s) := by
  have hl : (issR D s).issued.length = D.issued.length + 1 := by simp [issR]
  have hg : ∀ i, i < D.issued.length → gs (issR D s).issued i = gs D.issued i := fun i hi => gs_app_l hi
  have hg2 : gs (issR D s).issued D.issued.length = s := gs_app_r _ _
  have hz := chk_size hc
  have hcase : ∀ i, i < (issR D s).issued.length → i < D.issued.length ∨ i = D.issued.length := fun i hi => by omega
  refine ⟨h.ch, h.vc, h.a1, h.a6, by omega, fun i hi => ?_, fun i hi => ?_, fun i hi => ?_, fun i k hk hi => ?_, fun k hk => ?_, h.up⟩
  · rcases hcase i hi with e | rfl
    · rw [hg i e]; exact h.chk i e
    · rw [hg2]; exact hc
  · rcases hcase i hi with e | rfl
    · rw [hg i e]; exact h.size i e
    · rw [hg2]; exact hz.1
  · rcases hcase i hi with e | rfl
    · rw [hg i e]; exact h.s20 i e
    · rw [hg2]; exact hz.2
  · rcases hcase i hi with e | rfl
    · have := h.far i k hk e
      unfold farR at this ⊢
      rw [hg i e, hg k (by omega)]; exact this
    · unfold farR
      rw [hg2, hg k hk]
      exact List.all_eq_true.1 hf _ (gs_mem hk)
  · have := h.rev k hk
    exact ⟨this.1, by rw [hl]; have : gi (issR D s).revoked k < D.issued.length := this.2; omega⟩
theorem many_ok {D : Rg} (h : OkRg D) : ∀ {k : Nat} {L : List ByteArray}, D.issued.length + k ≤ 40 → manyL D k = some L → OkRg (addL D L)
  | 0, L, _, e => by cases e; rw [addL_nil]; exact h
  | k + 1, L, hk, e => by
    rw [manyL] at e
    cases h1 : manyL D k with
    | none => rw [h1] at e; cases e
    | some L' =>
      rw [h1] at e
      simp only at e
      have ho := many_ok h (by omega) h1
      cases h2 : trialO (addL D L') with
      | none => rw [h2] at e; cases e
      | some s =>
        rw [h2] at e; cases e
        have ht := trial_ok ho.ch ho.vc h2
        rw [← addL_snoc]
        refine ho.issue ht.1 ht.2 ?_
        have := many_len h1
        simp [addL]; omega
/-- what may be asked for -/
def manyIn (D : Rg) (x : Int) : Bool := validRg D && (inB x 0 40 && decide ((D.issued.length : Int) + x ≤ 40))
def manyOk (D : Rg) (x : Int) : Bool := manyIn D x && (manyL D x.toNat).isSome
def manyT (D : Rg) (x : Int) : List ByteArray := if manyOk D x then (manyL D x.toNat).getD [] else []
def manyRg (D : Rg) (x : Int) : Rg := if manyOk D x then addL D ((manyL D x.toNat).getD []) else zeroR
theorem many_r0 {D : Rg} {x : Int} (h : manyOk D x = false) : manyRg D x = zeroR := by rw [manyRg, h]; rfl
theorem many_t0 {D : Rg} {x : Int} (h : manyOk D x = false) : manyT D x = [] := by rw [manyT, h]; rfl
theorem many_r1 {D : Rg} {x : Int} {L : List ByteArray} (h : manyOk D x = true) (hl : manyL D x.toNat = some L) : manyRg D x = addL D L := by rw [manyRg, h, hl]; rfl
theorem many_t1 {D : Rg} {x : Int} {L : List ByteArray} (h : manyOk D x = true) (hl : manyL D x.toNat = some L) : manyT D x = L := by rw [manyT, h, hl]; rfl
theorem many_in0 {D : Rg} {x : Int} (h : manyIn D x = false) : manyOk D x = false := by rw [manyOk, h]; rfl
theorem many_no {D : Rg} {x : Int} (h : manyL D x.toNat = none) : manyOk D x = false := by rw [manyOk, h]; simp
theorem many_yes {D : Rg} {x : Int} {L : List ByteArray} (h : manyIn D x = true) (hl : manyL D x.toNat = some L) : manyOk D x = true := by rw [manyOk, h, hl]; rfl
end Go.Proofs.Ytdekplfjnkbidaa
