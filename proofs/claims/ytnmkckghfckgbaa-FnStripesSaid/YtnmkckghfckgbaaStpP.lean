/- Plain: stripes are read, and scaled ones are scanned, as the word that they were made of. -/
import Derived.Test.YtnmkckghfckgbaaSprL
import Derived.Test.YtnmkckghfckgbaaScan3
namespace Go.Proofs.Ytnmkckghfckgbaa
set_option maxRecDepth 100000
open Go.RowKit

theorem dig_sym_all2 : ∀ m : Fin 36, dig (UInt8.ofNat (sym (m.val : Int)).toNat) = (m.val : Int) := by decide +kernel
theorem digs_text {ds : List Int} (h : Dig36 ds) : digs (textOf ds).data.toList = ds := by
  unfold textOf digs
  rw [strOfNums_data, List.map_map, List.map_map]
  have : ∀ l : List Int, (∀ d ∈ l, 0 ≤ d ∧ d ≤ 35) → l.map (dig ∘ (fun n => UInt8.ofNat n.toNat) ∘ sym) = l := by
    intro l
    induction l with
    | nil => intro _; rfl
    | cons d l ih =>
      intro hl
      have hd := hl d (List.mem_cons_self ..)
      have h1 := dig_sym_all2 ⟨d.toNat, by omega⟩
      simp only [Int.toNat_of_nonneg hd.1] at h1
      rw [List.map_cons, ih fun e he => hl e (List.mem_cons_of_mem _ he)]
      simp only [Function.comp]
      rw [h1]
  exact this ds h
theorem digB_36 {D : Bc} (hok : OkBc D) {ds : List Int} (h : DigB D ds) : Dig36 ds := fun d hd => by have h1 := h d hd; have h2 := hok.n36; omega
theorem stripes_word {D : Bc} (hv : validBc D = true) {ds : List Int} (hd : DigB D ds) (hl : ds.length ≤ 20) : stripesOkB D (textOf ds) = true := by
  have hok := validBc_ok hv
  have h36 := digB_36 hok hd
  have hs := textOf_size ds
  have hg := digs_text h36
  rw [stripesOkB, hv, Bool.true_and, wordBcB, hg]
  simp only [Bool.and_eq_true, Bool.not_eq_true', List.any_eq_false, decide_eq_true_eq]
  refine ⟨?_, fun d hdd => by have := hd d hdd; omega⟩
  unfold wordB
  simp only [Bool.and_eq_true, List.all_eq_true, decide_eq_true_eq, inB_t]
  refine ⟨?_, by decide, by rw [size_eq]; omega⟩
  intro c hc
  have : dig c ∈ digs (textOf ds).data.toList := List.mem_map.2 ⟨c, hc, rfl⟩
  rw [hg] at this
  have := h36 _ this
  omega
section
variable {D : Bc} {ds : List Int}
theorem join_len (hok : OkBc D) (hd : DigB D ds) {i : Nat} (hi : i ≤ ds.length) : (joinL D (ds.take i)).length = atN D i := by
  have h1 := stripesL_len hok (ds := ds.take i) (fun x hx => hd x (List.mem_of_mem_take hx))
  have hg : (gapL D).length = gapN D := by unfold gapL gapN; split <;> simp
  unfold stripesL at h1
  simp only [List.length_append, elsL_len, size_eq, List.length_take, Nat.min_eq_left hi, hg] at h1
  unfold atN
  omega
theorem stripes_split (k : Nat) : ∃ rest, stripesL D ds = joinL D (ds.take k) ++ rest := by
  refine ⟨((ds.drop k).map (stepD D)).flatten ++ gapL D ++ elsL D.stop.data.toList, ?_⟩
  unfold stripesL joinL
  conv => lhs; rw [← List.take_append_drop k ds]
  simp only [List.map_append, List.flatten_append, List.append_assoc]
theorem part_eq (hok : OkBc D) (hd : DigB D ds) {i : Nat} (hi : i < ds.length) : partL D (stripesL D ds) i = elD D (gi ds i).toNat := by
  obtain ⟨rest, hr⟩ := stripes_split (D := D) (ds := ds) (i + 1)
  have hg : (gapL D).length = gapN D := by unfold gapL gapN; split <;> simp
  have hm := hd _ (gi_mem hi)
  have hE : (elD D (gi ds i).toNat).length = (gs D.pats 0).size := elD_len hok hm.2
  have h1 : (joinL D (ds.take i) ++ gapL D).length = atN D i + gapN D := by rw [List.length_append, join_len hok hd (by omega), hg]
  unfold partL
  rw [hr, joinL_step D ds i hi, List.append_assoc, ← h1, List.drop_left, ← hE]
  exact List.take_left
theorem cut_stripes (hok : OkBc D) (hd : DigB D ds) (hl : ds.length ≤ 20) : cutB D (stripesL D ds).length = true ∧ cutN D (stripesL D ds).length = ds.length := by
  have h1 := stripesL_len hok hd
  have h2 := hok.s1
  have he : 1 ≤ eachN D := by unfold eachN; omega
  have hI : cutI D (stripesL D ds).length = (ds.length : Int) * (eachN D : Int) := by
    unfold cutI
    rw [h1]
    have : ((ds.length * eachN D : Nat) : Int) = (ds.length : Int) * (eachN D : Int) := Int.natCast_mul _ _
    omega
  have hdiv : cutI D (stripesL D ds).length / (eachN D : Int) = ds.length := by rw [hI]; exact Int.mul_ediv_cancel _ (by omega)
  have hmod : cutI D (stripesL D ds).length % (eachN D : Int) = 0 := by rw [hI]; exact Int.mul_emod_left _ _
  have hnn : 0 ≤ cutI D (stripesL D ds).length := by rw [hI]; exact Int.mul_nonneg (by omega) (by omega)
  constructor
  · unfold cutB
    rw [hdiv, hmod]
    simp only [Bool.and_eq_true, decide_eq_true_eq]
    exact ⟨hnn, trivial, by omega⟩
  · unfold cutN
    rw [hdiv]; omega
theorem match_el (hok : OkBc D) {k : Nat} (hk : k < D.pats.length) : matchL D (elD D k) = [(k : Int)] := by
  rcases matchL_cases hok (elD D k) with ⟨j, hj, he, hm⟩ | ⟨hn, _⟩
  · have : j = k := by
      by_cases h : j = k
      · exact h
      · exact absurd he.symm (elD_ne hok hj hk h)
    rw [hm, this]
  · exact absurd rfl (hn k hk)
theorem digs_read (hok : OkBc D) (hd : DigB D ds) : ∀ i, i ≤ ds.length → digsTo D (stripesL D ds) i = ds.take i
  | 0, _ => by simp [digsTo]
  | i + 1, hi => by
    have hm := hd _ (gi_mem (l := ds) (k := i) (by omega))
    rw [digsTo_step, digs_read hok hd i (by omega), part_eq hok hd (by omega), match_el hok hm.2, take_gi (by omega), Int.toNat_of_nonneg hm.1]
theorem read_stripes (hv : validBc D = true) (hd : DigB D ds) (hl : ds.length ≤ 20) : readOkB D (stripesL D ds) = true ∧ readOk D (stripesL D ds) = textOf ds := by
  have hok := validBc_ok hv
  obtain ⟨h1, h2⟩ := cut_stripes hok hd hl
  have h3 : digsR D (stripesL D ds) = ds := by
    unfold digsR
    rw [h1, if_pos rfl, h2, digs_read hok hd _ (Nat.le_refl _), List.take_length]
  have h4 : readOkB D (stripesL D ds) = true := by
    rw [readOkB, hv, stripes_listB hok hd hl, readB, h1, h3]; simp
  exact ⟨h4, by rw [readOk, h4, if_pos rfl, h3]⟩
/-- scaled -/
def wideL (B : Int) (l : List Int) : List Int := l.map fun x => B * x
theorem wide_rem (B : Int) (l : List Int) : remL (scaleF B) l = wideL B l := by
  refine gi_ext (by rw [remL_len, wideL, List.length_map]) fun i hi => ?_
  rw [remL_len] at hi
  rw [remL_gi _ _ hi, wideL, gi_get (l := l.map fun x => B * x) (by rw [List.length_map]; exact hi), List.getElem_map, gi_get hi, scaleF, Int.mul_comm]
theorem wideL_len (B : Int) (l : List Int) : (wideL B l).length = l.length := by simp [wideL]
theorem wideL_sum (B : Int) : ∀ l : List Int, (wideL B l).sum = B * l.sum
  | [] => by simp [wideL]
  | x :: xs => by
    have := wideL_sum B xs
    unfold wideL at this ⊢
    rw [List.map_cons, List.sum_cons, this, List.sum_cons, Int.mul_add]
theorem wide_part (B : Int) (l : List Int) (i : Nat) : partL D (wideL B l) i = wideL B (partL D l i) := by
  unfold partL wideL; rw [List.map_take, List.map_drop]
theorem pos_sum {l : List Int} (h : ∀ x ∈ l, 1 ≤ x ∧ x ≤ 4) (hl : 1 ≤ l.length) : 1 ≤ l.sum := by
  cases l with
  | nil => simp at hl
  | cons y ys =>
    have h3 := h y (List.mem_cons_self ..)
    have h4 := (sum_up (l := ys) (B := 4) (fun x hx => by have := h x (List.mem_cons_of_mem _ hx); omega)).1
    rw [List.sum_cons]; omega
theorem near_wide {B : Int} (hB : 1 ≤ B) {l : List Int} (h : ∀ x ∈ l, 1 ≤ x ∧ x ≤ 4) (hl : 1 ≤ l.length) : nearB (wideL B l) l = true := by
  have h1 := pos_sum h hl
  refine nearB_yes fun k hk => ?_
  rw [wideL_len] at hk
  have h2 : gi (wideL B l) k = B * gi l k := by rw [wideL, gi_get (l := l.map fun x => B * x) (by rw [List.length_map]; exact hk), List.getElem_map, gi_get hk]
  have h3 : 1 * 1 ≤ B * l.sum := Int.mul_le_mul hB h1 (by omega) (by omega)
  unfold offI
  rw [wideL_sum, h2, show l.sum * (B * gi l k) - B * l.sum * gi l k = 0 by rw [← Int.mul_assoc, Int.mul_comm l.sum B, Int.sub_self]]
  omega
theorem scan_meas (hok : OkBc D) {k : Nat} (hk : k < D.pats.length) {B : Int} (hB : 1 ≤ B) : measS D (wideL B (elD D k)) idL = (k, farI D (wideL B (elD D k)) idL k, 1) := by
  have hs : (elD D k).sum = (elD D 0).sum := hok.sum k hk
  exact (mst_one (f := farI D (wideL B (elD D k)) idL) (k := k) (fun i => missL_nn _ _ _ _) D.pats.length (fun i hi hik => by
    unfold farI idL
    rw [wideL_sum, hs]
    exact exact_less (el_sum_pos hok) hB ((elD_len hok hk).trans (elD_len hok hi).symm) (elD_ne hok hk hi (Ne.symm hik)))).2 hk
theorem scan_stripes (hok : OkBc D) (hd : DigB D ds) (hl : ds.length ≤ 20) {B : Int} (hB : 1 ≤ B) : scanB D (wideL B (stripesL D ds)) = true ∧ scanT D (wideL B (stripesL D ds)) = textOf ds := by
  obtain ⟨h1, h2⟩ := cut_stripes hok hd hl
  have hlen := stripesL_len hok hd
  have hm : ∀ i, i < ds.length → measS D (partL D (wideL B (stripesL D ds)) i) idL = ((gi ds i).toNat, farI D (wideL B (elD D (gi ds i).toNat)) idL (gi ds i).toNat, 1) := fun i hi => by
    rw [wide_part, part_eq hok hd hi, scan_meas hok (hd _ (gi_mem hi)).2 hB]
  have hst := patB_t hok.start
  have hsp := patB_t hok.stop
  have hends : endsB D (wideL B (stripesL D ds)) = true := by
    unfold endsB
    have e1 : (wideL B (stripesL D ds)).take D.start.size = wideL B (elsL D.start.data.toList) := by
      obtain ⟨rest, hr⟩ := stripes_split (D := D) (ds := ds) 0
      rw [joinL_zero] at hr
      unfold wideL
      rw [← List.map_take, hr, show D.start.size = (elsL D.start.data.toList).length by rw [elsL_len, size_eq], List.take_left]
    have e2 : (wideL B (stripesL D ds)).drop ((wideL B (stripesL D ds)).length - D.stop.size) = wideL B (elsL D.stop.data.toList) := by
      rw [wideL_len]
      have h9 : (stripesL D ds).length - D.stop.size = (joinL D ds ++ gapL D).length := by
        unfold stripesL
        rw [List.length_append, elsL_len, size_eq]; omega
      unfold wideL
      rw [← List.map_drop, h9]
      unfold stripesL
      rw [List.drop_left]
    rw [e1, e2, near_wide hB (elsL_bd hst.1) (by rw [elsL_len, size_eq]; exact hst.2.1), near_wide hB (elsL_bd hsp.1) (by rw [elsL_len, size_eq]; exact hsp.2.1)]
    rfl
  have hlw : (wideL B (stripesL D ds)).length = (stripesL D ds).length := wideL_len _ _
  have hyes : scanB D (wideL B (stripesL D ds)) = true := scan_yes (by rw [hlw]; exact h1) hends fun i hi => by
    rw [hlw, h2] at hi
    unfold scanK
    rw [hm i hi]; rfl
  refine ⟨hyes, ?_⟩
  rw [scanT, hyes, if_pos rfl, hlw, h2]
  congr 1
  refine gi_ext (by rw [scanDs_len]) fun i hi => ?_
  rw [scanDs_len] at hi
  rw [gi_get (by rw [scanDs_len]; exact hi)]
  simp only [scanDs, List.getElem_map, List.getElem_range, scanD]
  rw [hm i hi]
  exact Int.toNat_of_nonneg (hd _ (gi_mem hi)).1
theorem dir_stripes (hv : validBc D = true) (hd : DigB D ds) (hl : ds.length ≤ 1) (h : dirB D = true) : readOkB D (stripesL D ds).reverse = false := by
  have hk : ∃ k, k < D.pats.length + 1 ∧ wordK k = ds := by
    match ds, hl with
    | [], _ => exact ⟨0, by omega, rfl⟩
    | [d], _ =>
      have := hd d (List.mem_cons_self ..)
      exact ⟨d.toNat + 1, by omega, by simp [wordK, Int.toNat_of_nonneg this.1]⟩
  obtain ⟨k, hk1, hk2⟩ := hk
  unfold dirB at h
  simp only [Bool.and_eq_true, Bool.not_eq_true', List.any_eq_false, List.mem_range] at h
  have h2 := h.2 k hk1
  unfold backB at h2
  rw [hk2] at h2
  rw [readOkB, Bool.eq_false_iff.2 h2]; simp
end
theorem listB_rev {l : List Int} (h : listB l = true) : listB l.reverse = true := by
  unfold listB at h ⊢
  simp only [Bool.and_eq_true, List.all_eq_true, List.length_reverse] at h ⊢
  exact ⟨fun x hx => h.1 x (List.mem_reverse.1 hx), h.2⟩
end Go.Proofs.Ytnmkckghfckgbaa
