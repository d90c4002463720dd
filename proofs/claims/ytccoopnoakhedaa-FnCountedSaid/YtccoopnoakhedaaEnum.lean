/- Plain: how many ways lead from a state at a place to the end. -/
import Derived.Test.YtccoopnoakhedaaCh
namespace Go.Proofs.Ytccoopnoakhedaa
set_option maxRecDepth 100000
open Go.RowKit

/-- the ways over f places from place p on -/
def endsS (D : Ch) : Nat → Int → Int → Int
  | 0, _, x => if x = D.fin then 1 else 0
  | f + 1, p, x => ((List.range D.base.toNat).map fun (d : Nat) => endsS D f (p + 1) (nextS D p x (d : Int))).sum
def partS (D : Ch) (f : Nat) (p x : Int) (d : Nat) : Int := ((List.range d).map fun (e : Nat) => endsS D f (p + 1) (nextS D p x (e : Int))).sum
theorem ends_succ (D : Ch) (f : Nat) (p x : Int) : endsS D (f + 1) p x = partS D f p x D.base.toNat := rfl
theorem part_zero (D : Ch) (f : Nat) (p x : Int) : partS D f p x 0 = 0 := rfl
theorem part_succ (D : Ch) (f : Nat) (p x : Int) (d : Nat) : partS D f p x (d + 1) = partS D f p x d + endsS D f (p + 1) (nextS D p x (d : Int)) := by
  unfold partS; rw [List.range_succ, List.map_append, List.sum_append]; simp
theorem sum_le_mul {f : Nat → Int} {b : Int} : ∀ n : Nat, (∀ i, i < n → 0 ≤ f i ∧ f i ≤ b) → 0 ≤ ((List.range n).map f).sum ∧ ((List.range n).map f).sum ≤ n * b
  | 0, _ => by simp
  | n + 1, h => by
    have h1 := sum_le_mul n fun i hi => h i (by omega)
    have h2 := h n (by omega)
    rw [List.range_succ, List.map_append, List.sum_append]
    simp only [List.map_cons, List.map_nil, List.sum_cons, List.sum_nil]
    rw [show ((n + 1 : Nat) : Int) * b = n * b + b by rw [Int.natCast_add, Int.add_mul]; simp]
    omega
theorem ends_bd {D : Ch} (hb : 2 ≤ D.base) : ∀ (f : Nat) (p x : Int), 0 ≤ endsS D f p x ∧ endsS D f p x ≤ D.base ^ f
  | 0, p, x => by unfold endsS; split <;> simp
  | f + 1, p, x => by
    have h := sum_le_mul (f := fun (d : Nat) => endsS D f (p + 1) (nextS D p x (d : Int))) (b := D.base ^ f) D.base.toNat (fun i _ => ends_bd hb f _ _)
    rw [Int.toNat_of_nonneg (by omega)] at h
    refine ⟨h.1, ?_⟩
    rw [Int.pow_succ, Int.mul_comm]
    exact h.2
theorem part_bd {D : Ch} (hb : 2 ≤ D.base) (f : Nat) (p x : Int) (d : Nat) (hd : (d : Int) ≤ D.base) : 0 ≤ partS D f p x d ∧ partS D f p x d ≤ D.base ^ (f + 1) := by
  have h := sum_le_mul (f := fun (e : Nat) => endsS D f (p + 1) (nextS D p x (e : Int))) (b := D.base ^ f) d (fun i _ => ends_bd hb f _ _)
  refine ⟨h.1, ?_⟩
  have h2 : (d : Int) * D.base ^ f ≤ D.base * D.base ^ f := Int.mul_le_mul_of_nonneg_right hd (Int.le_of_lt (Int.pow_pos (by omega)))
  rw [Int.pow_succ, Int.mul_comm]
  exact Int.le_trans h.2 h2
theorem pow_le_pow' {b : Int} (hb : 2 ≤ b) {f n : Nat} (h : f ≤ n) : b ^ f ≤ b ^ n := by
  obtain ⟨j, rfl⟩ := Nat.exists_eq_add_of_le h
  rw [Int.pow_add]
  have h1 : 0 < b ^ f := Int.pow_pos (by omega)
  have h2 : 0 < b ^ j := Int.pow_pos (by omega)
  have : b ^ f * 1 ≤ b ^ f * b ^ j := Int.mul_le_mul_of_nonneg_left (by omega) (by omega)
  omega
theorem OkCh.ends {D : Ch} (h : OkCh D) {f : Nat} (hf : f ≤ D.places.length) (p x : Int) : 0 ≤ endsS D f p x ∧ endsS D f p x ≤ 1000000000000000 := by
  have h1 := ends_bd h.b2 f p x
  have h2 := pow_le_pow' h.b2 hf
  have := h.pw
  omega
theorem OkCh.part {D : Ch} (h : OkCh D) {f : Nat} (hf : f + 1 ≤ D.places.length) (p x : Int) (d : Nat) (hd : (d : Int) ≤ D.base) : 0 ≤ partS D f p x d ∧ partS D f p x d ≤ 1000000000000000 := by
  have h1 := part_bd h.b2 f p x d hd
  have h2 := pow_le_pow' h.b2 hf
  have := h.pw
  omega
end Go.Proofs.Ytccoopnoakhedaa

/- Plain: the checked words of a chain in their order: how many, which has a rank, which comes next. -/
namespace Go.Proofs.Ytccoopnoakhedaa
set_option maxRecDepth 100000
open Go.RowKit

/-- all words over f places from place p on that lead from x to the end, in order -/
def wordsS (D : Ch) : Nat → Int → Int → List (List Int)
  | 0, _, x => if x = D.fin then [[]] else []
  | f + 1, p, x => (List.range D.base.toNat).flatMap fun (d : Nat) => (wordsS D f (p + 1) (nextS D p x (d : Int))).map ((d : Int) :: ·)
/-- those that begin with d -/
def headS (D : Ch) (f : Nat) (p x : Int) (d : Nat) : List (List Int) := (wordsS D f (p + 1) (nextS D p x (d : Int))).map ((d : Int) :: ·)
/-- those that begin with d or more -/
def tailS (D : Ch) (f : Nat) (p x : Int) (d : Nat) : List (List Int) := (List.range' d (D.base.toNat - d)).flatMap (headS D f p x)
/-- those that begin with less than d -/
def foreS (D : Ch) (f : Nat) (p x : Int) (d : Nat) : List (List Int) := (List.range d).flatMap (headS D f p x)
theorem words_succ (D : Ch) (f : Nat) (p x : Int) : wordsS D (f + 1) p x = tailS D f p x 0 := by
  rw [tailS, Nat.sub_zero, ← List.range_eq_range']; rfl
theorem tailS_step (D : Ch) (f : Nat) (p x : Int) (d : Nat) (h : d < D.base.toNat) : tailS D f p x d = headS D f p x d ++ tailS D f p x (d + 1) := by
  unfold tailS
  rw [show D.base.toNat - d = (D.base.toNat - (d + 1)) + 1 by omega, List.range'_succ, List.flatMap_cons]
theorem tailS_end (D : Ch) (f : Nat) (p x : Int) (d : Nat) (h : D.base.toNat ≤ d) : tailS D f p x d = [] := by
  unfold tailS; rw [show D.base.toNat - d = 0 by omega]; rfl
theorem foreS_succ (D : Ch) (f : Nat) (p x : Int) (d : Nat) : foreS D f p x (d + 1) = foreS D f p x d ++ headS D f p x d := by
  unfold foreS; rw [List.range_succ, List.flatMap_append]; simp
theorem words_split (D : Ch) (f : Nat) (p x : Int) : ∀ d : Nat, d ≤ D.base.toNat → wordsS D (f + 1) p x = foreS D f p x d ++ tailS D f p x d
  | 0, _ => by rw [words_succ]; rfl
  | d + 1, h => by rw [words_split D f p x d (by omega), foreS_succ, tailS_step D f p x d (by omega), List.append_assoc]
theorem headS_len (D : Ch) (f : Nat) (p x : Int) (d : Nat) : (headS D f p x d).length = (wordsS D f (p + 1) (nextS D p x (d : Int))).length := by simp [headS]
theorem words_len (D : Ch) : ∀ (f : Nat) (p x : Int), ((wordsS D f p x).length : Int) = endsS D f p x
  | 0, p, x => by unfold wordsS endsS; split <;> rfl
  | f + 1, p, x => by
    rw [ends_succ]
    have : ∀ k, k ≤ D.base.toNat → ((foreS D f p x k).length : Int) = partS D f p x k := by
      intro k
      induction k with
      | zero => intro _; rfl
      | succ k ih => intro h; rw [foreS_succ, part_succ, List.length_append, Int.natCast_add, ih (by omega), headS_len, words_len D f]
    rw [← this _ (Nat.le_refl _)]
    rfl
theorem fore_len (D : Ch) (f : Nat) (p x : Int) : ∀ d : Nat, ((foreS D f p x d).length : Int) = partS D f p x d
  | 0 => rfl
  | d + 1 => by rw [foreS_succ, part_succ, List.length_append, Int.natCast_add, fore_len D f p x d, headS_len, words_len D f]
/-- the words of the list -/
theorem mem_words {D : Ch} (hb : 0 ≤ D.base) : ∀ (f : Nat) (p x : Int) (ds : List Int), ds ∈ wordsS D f p x ↔ ds.length = f ∧ DigC D ds ∧ runS D p x ds = D.fin
  | 0, p, x, ds => by
    unfold wordsS
    cases ds with
    | nil => simp only [runS, List.length_nil, DigC, List.not_mem_nil, false_implies, implies_true, true_and]; split <;> simp_all
    | cons d ds => split <;> simp
  | f + 1, p, x, ds => by
    unfold wordsS
    simp only [List.mem_flatMap, List.mem_range, List.mem_map]
    constructor
    · rintro ⟨d, hd, es, hes, rfl⟩
      obtain ⟨h1, h2, h3⟩ := (mem_words hb f _ _ es).1 hes
      refine ⟨by simp [h1], fun e he => ?_, by rw [runS]; exact h3⟩
      rcases List.mem_cons.1 he with rfl | he
      · omega
      · exact h2 e he
    · rintro ⟨h1, h2, h3⟩
      cases ds with
      | nil => simp at h1
      | cons d ds =>
        have hd := h2 d (List.mem_cons_self ..)
        refine ⟨d.toNat, by omega, ds, ?_, by rw [Int.toNat_of_nonneg hd.1]⟩
        rw [Int.toNat_of_nonneg hd.1]
        exact (mem_words hb f _ _ ds).2 ⟨by simpa using h1, fun e he => h2 e (List.mem_cons_of_mem _ he), by rw [runS] at h3; exact h3⟩

/-- the words behind one -/
def afterS (D : Ch) : Nat → Int → Int → List Int → List (List Int)
  | f + 1, p, x, d :: ds => (afterS D f (p + 1) (nextS D p x d) ds).map (d :: ·) ++ tailS D f p x (d.toNat + 1)
  | _, _, _, _ => []
theorem words_after {D : Ch} : ∀ (f : Nat) (p x : Int) (ds : List Int), ds.length = f → DigC D ds → runS D p x ds = D.fin → ∃ l, wordsS D f p x = l ++ ds :: afterS D f p x ds
  | 0, p, x, ds, h1, _, h3 => by
    obtain rfl := List.eq_nil_of_length_eq_zero h1
    exact ⟨[], by rw [wordsS, if_pos (by simpa [runS] using h3)]; rfl⟩
  | f + 1, p, x, [], h1, _, _ => by simp at h1
  | f + 1, p, x, d :: ds, h1, h2, h3 => by
    have hd := h2 d (List.mem_cons_self ..)
    obtain ⟨l, hl⟩ := words_after f (p + 1) (nextS D p x d) ds (by simpa using h1) (fun e he => h2 e (List.mem_cons_of_mem _ he)) (by rw [runS] at h3; exact h3)
    refine ⟨foreS D f p x d.toNat ++ l.map (d :: ·), ?_⟩
    rw [words_split D f p x d.toNat (by omega), tailS_step D f p x d.toNat (by omega)]
    unfold headS
    rw [Int.toNat_of_nonneg hd.1, hl]
    simp only [List.map_append, List.map_cons, List.append_assoc, List.cons_append, afterS]
theorem after_len {D : Ch} : ∀ (f : Nat) (p x : Int) (ds : List Int) (k : Nat), ds.length = f → k ≤ f → (afterS D (f - k) (p + k) (runS D p x (ds.take k)) (ds.drop k) = [] ∨ ∃ u us, afterS D (f - k) (p + k) (runS D p x (ds.take k)) (ds.drop k) = u :: us) := fun f p x ds k _ _ => by
  cases afterS D (f - k) (p + k) (runS D p x (ds.take k)) (ds.drop k) with
  | nil => exact .inl rfl
  | cons u us => exact .inr ⟨u, us, rfl⟩
/-- the next word, if the words from place k on have one -/
theorem after_head {D : Ch} : ∀ (k f : Nat) (p x : Int) (ds : List Int) (u : List Int) (us : List (List Int)), ds.length = f → k ≤ f →
    afterS D (f - k) (p + k) (runS D p x (ds.take k)) (ds.drop k) = u :: us → ∃ vs, afterS D f p x ds = (ds.take k ++ u) :: vs
  | 0, f, p, x, ds, u, us, h1, h2, h => ⟨us, by simpa [runS] using h⟩
  | k + 1, 0, p, x, ds, u, us, h1, h2, h => by omega
  | k + 1, f + 1, p, x, [], u, us, h1, h2, h => by simp at h1
  | k + 1, f + 1, p, x, d :: ds, u, us, h1, h2, h => by
    obtain ⟨vs, hvs⟩ := after_head k f (p + 1) (nextS D p x d) ds u us (by simpa using h1) (by omega) (by
      rw [show f + 1 - (k + 1) = f - k by omega, List.take_succ_cons, List.drop_succ_cons, runS] at h
      rw [show p + 1 + (k : Int) = p + ((k + 1 : Nat) : Int) by omega]
      exact h)
    refine ⟨vs.map (d :: ·) ++ tailS D f p x (d.toNat + 1), ?_⟩
    rw [afterS, hvs]
    rfl
/-- one place up: nothing behind -/
theorem after_up {D : Ch} {f k : Nat} {p x : Int} {ds : List Int} (h1 : ds.length = f) (hk : k < f) (h : afterS D (f - (k + 1)) (p + (k + 1 : Nat)) (runS D p x (ds.take (k + 1))) (ds.drop (k + 1)) = []) :
    afterS D (f - k) (p + k) (runS D p x (ds.take k)) (ds.drop k) = tailS D (f - (k + 1)) (p + k) (runS D p x (ds.take k)) ((gi ds k).toNat + 1) := by
  rw [show f - k = (f - (k + 1)) + 1 by omega, List.drop_eq_getElem_cons (by omega), afterS, ← gi_get (by omega)]
  rw [runS_step D (by omega)] at h
  rw [show p + ((k + 1 : Nat) : Int) = p + k + 1 by omega] at h
  rw [h]
  rfl
/-- nothing leads to the end with these heads -/
theorem tailS_skip {D : Ch} {f : Nat} {p x : Int} {d : Nat} (hd : d < D.base.toNat) (h : endsS D f (p + 1) (nextS D p x (d : Int)) = 0) : tailS D f p x d = tailS D f p x (d + 1) := by
  rw [tailS_step D f p x d hd]
  have := headS_len D f p x d
  have h2 := words_len D f (p + 1) (nextS D p x (d : Int))
  rw [List.eq_nil_of_length_eq_zero (show (headS D f p x d).length = 0 by omega)]
  rfl
/-- the first word -/
theorem tailS_head {D : Ch} {f : Nat} {p x : Int} {d : Nat} {u : List Int} {us : List (List Int)} (hd : d < D.base.toNat) (h : wordsS D f (p + 1) (nextS D p x (d : Int)) = u :: us) : ∃ vs, tailS D f p x d = ((d : Int) :: u) :: vs := by
  rw [tailS_step D f p x d hd]
  unfold headS
  rw [h]
  exact ⟨_, rfl⟩
theorem words_some {D : Ch} {f : Nat} {p x : Int} (h : endsS D f p x ≠ 0) : ∃ u us, wordsS D f p x = u :: us := by
  have h2 := words_len D f p x
  cases hw : wordsS D f p x with
  | nil => rw [hw] at h2; simp at h2; omega
  | cons u us => exact ⟨u, us, rfl⟩
theorem words_none {D : Ch} {f : Nat} {p x : Int} (h : endsS D f p x = 0) : wordsS D f p x = [] := by
  have h2 := words_len D f p x
  exact List.eq_nil_of_length_eq_zero (by omega)
/-- the first word that begins with d or more: what is left of it once d symbols have been passed by -/
def hdS (l : List (List Int)) : List Int := l.headD []
theorem hd_tail {D : Ch} {f : Nat} {p x : Int} {d : Nat} (hd : d < D.base.toNat) (h : endsS D f (p + 1) (nextS D p x (d : Int)) ≠ 0) : hdS (tailS D f p x d) = (d : Int) :: hdS (wordsS D f (p + 1) (nextS D p x (d : Int))) := by
  obtain ⟨u, us, hu⟩ := words_some h
  obtain ⟨vs, hv⟩ := tailS_head hd hu
  rw [hv, hu]; rfl
/-- some symbol leads on -/
theorem tail_ends {D : Ch} {f : Nat} {p x : Int} {d : Nat} (h : tailS D f p x d ≠ []) : d < D.base.toNat := by
  rcases Nat.lt_or_ge d D.base.toNat with h1 | h1
  · exact h1
  · exact absurd (tailS_end D f p x d h1) h

/-- the word of a rank among those that begin with d or more -/
theorem tail_get_ge {D : Ch} {f : Nat} {p x : Int} {d r : Nat} (hd : d < D.base.toNat) (h : endsS D f (p + 1) (nextS D p x (d : Int)) ≤ r) :
    (tailS D f p x d).getD r [] = (tailS D f p x (d + 1)).getD (r - (endsS D f (p + 1) (nextS D p x (d : Int))).toNat) [] := by
  have h2 := words_len D f (p + 1) (nextS D p x (d : Int))
  rw [tailS_step D f p x d hd, List.getD_eq_getElem?_getD, List.getElem?_append_right (by rw [headS_len]; omega), headS_len, List.getD_eq_getElem?_getD]
  congr 3
  omega
theorem tail_get_lt {D : Ch} {f : Nat} {p x : Int} {d r : Nat} (hd : d < D.base.toNat) (h : (r : Int) < endsS D f (p + 1) (nextS D p x (d : Int))) :
    (tailS D f p x d).getD r [] = (d : Int) :: (wordsS D f (p + 1) (nextS D p x (d : Int))).getD r [] := by
  have h2 := words_len D f (p + 1) (nextS D p x (d : Int))
  rw [tailS_step D f p x d hd, List.getD_eq_getElem?_getD, List.getElem?_append_left (by rw [headS_len]; omega)]
  simp only [headS, List.getElem?_map, List.getD_eq_getElem?_getD]
  rw [List.getElem?_eq_getElem (by omega)]
  rfl
theorem tail_len {D : Ch} {f : Nat} {p x : Int} {d : Nat} (hd : d < D.base.toNat) : ((tailS D f p x d).length : Int) = endsS D f (p + 1) (nextS D p x (d : Int)) + (tailS D f p x (d + 1)).length := by
  have h2 := words_len D f (p + 1) (nextS D p x (d : Int))
  rw [tailS_step D f p x d hd, List.length_append, headS_len]
  omega
end Go.Proofs.Ytccoopnoakhedaa
