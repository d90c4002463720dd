/- Plain: joined chains. -/
import Derived.Test.YtaiieodllhoelaaRankM
namespace Go.Proofs.Ytaiieodllhoelaa
set_option maxRecDepth 100000
open Go.RowKit

def joinRow (C D : Ch) (k s : Nat) : List Int := (List.range C.base.toNat).map fun (e : Nat) => nextS C (k : Int) ((s : Int) / D.states) (e : Int) * D.states + nextS D (k : Int) ((s : Int) % D.states) (e : Int)
def joinTab (C D : Ch) (k : Nat) : List (List Int) := (List.range (C.states * D.states).toNat).map (joinRow C D k)
/-- the chain of two chains -/
def joinCh (C D : Ch) : Ch := ⟨C.base, C.states * D.states, C.start * D.states + D.start, C.fin * D.states + D.fin, (List.range C.places.length).map (joinTab C D), (List.range C.places.length).map fun (k : Nat) => (k : Int)⟩
/-- what two chains must have in common -/
structure Fit (C D : Ch) : Prop where
  c : OkCh C
  d : OkCh D
  b : C.base = D.base
  l : C.places.length = D.places.length
  s : C.states * D.states ≤ 36
theorem two_div {a b S : Int} (hb : 0 ≤ b) (hS : b < S) : (a * S + b) / S = a ∧ (a * S + b) % S = b := by
  have h0 : S ≠ 0 := by omega
  refine ⟨?_, ?_⟩
  · rw [Int.add_comm, Int.add_mul_ediv_right _ _ h0, Int.ediv_eq_zero_of_lt hb hS]; omega
  · rw [Int.add_comm, Int.add_mul_emod_self_right, Int.emod_eq_of_lt hb hS]
theorem two_bd {a b S T : Int} (ha : 0 ≤ a) (ha2 : a < T) (hb : 0 ≤ b) (hS : b < S) : 0 ≤ a * S + b ∧ a * S + b < T * S := by
  have h1 : 0 ≤ a * S := Int.mul_nonneg ha (by omega)
  have h2 : (a + 1) * S ≤ T * S := Int.mul_le_mul_of_nonneg_right (by omega) (by omega)
  rw [Int.add_mul, Int.one_mul] at h2
  omega
theorem two_eq {a b c d S : Int} (hb : 0 ≤ b) (hS : b < S) (hd : 0 ≤ d) (hd2 : d < S) : a * S + b = c * S + d ↔ a = c ∧ b = d := by
  constructor
  · intro h
    have h1 := two_div (a := a) hb hS
    have h2 := two_div (a := c) hd hd2
    rw [h] at h1
    exact ⟨h1.1.symm.trans h2.1, h1.2.symm.trans h2.2⟩
  · rintro ⟨rfl, rfl⟩; rfl
theorem split_bd {x S T : Int} (hS : 1 ≤ S) (h0 : 0 ≤ x) (h1 : x < T * S) : 0 ≤ x / S ∧ x / S < T ∧ 0 ≤ x % S ∧ x % S < S :=
  ⟨Int.ediv_nonneg h0 (by omega), Int.ediv_lt_of_lt_mul (by omega) h1, Int.emod_nonneg _ (by omega), Int.emod_lt_of_pos _ (by omega)⟩
theorem joinRow_at {C D : Ch} {k s e : Nat} (h : (e : Int) < C.base) : gi (joinRow C D k s) e = nextS C (k : Int) ((s : Int) / D.states) (e : Int) * D.states + nextS D (k : Int) ((s : Int) % D.states) (e : Int) := by
  have : e < C.base.toNat := by omega
  simp [gi, joinRow, this]
section
variable {C D : Ch}
theorem Fit.next (_h : Fit C D) {p x d : Int} (hp : 0 ≤ p) (hp2 : p < C.places.length) (hx : 0 ≤ x) (hx2 : x < C.states * D.states) (hd : 0 ≤ d) (hd2 : d < C.base) :
    nextS (joinCh C D) p x d = nextS C p (x / D.states) d * D.states + nextS D p (x % D.states) d := by
  obtain ⟨k, rfl⟩ := Int.eq_ofNat_of_zero_le hp
  obtain ⟨s, rfl⟩ := Int.eq_ofNat_of_zero_le hx
  obtain ⟨e, rfl⟩ := Int.eq_ofNat_of_zero_le hd
  have h1 : k < C.places.length := by omega
  have h2 : s < (C.states * D.states).toNat := by omega
  have e1 : gi (joinCh C D).places k = (k : Int) := by simp [joinCh, gi, h1]
  have e2 : gm (joinCh C D).tabs k = joinTab C D k := by simp [joinCh, gm, h1]
  have e3 : gl (joinTab C D k) s = joinRow C D k s := by simp [joinTab, gl, h2]
  unfold nextS
  simp only [Int.toNat_natCast]
  rw [e1, Int.toNat_natCast, e2, e3, joinRow_at hd2]
  rfl
theorem Fit.bd (h : Fit C D) {p x d : Int} (hp : 0 ≤ p) (hp2 : p < C.places.length) (hx : 0 ≤ x) (hx2 : x < C.states * D.states) (hd : 0 ≤ d) (hd2 : d < C.base) :
    0 ≤ nextS C p (x / D.states) d ∧ nextS C p (x / D.states) d < C.states ∧ 0 ≤ nextS D p (x % D.states) d ∧ nextS D p (x % D.states) d < D.states := by
  have hs := split_bd h.d.s1 hx hx2
  have h1 := h.c.next hp hp2 hs.1 hs.2.1 hd hd2
  have h2 := h.d.next hp (by rw [← h.l]; exact hp2) hs.2.2.1 hs.2.2.2 hd (by rw [← h.b]; exact hd2)
  exact ⟨h1.1, h1.2, h2.1, h2.2⟩
theorem Fit.run (h : Fit C D) : ∀ (ds : List Int) (p x : Int), DigC C ds → 0 ≤ p → p + ds.length ≤ C.places.length → 0 ≤ x → x < C.states * D.states →
    runS (joinCh C D) p x ds = runS C p (x / D.states) ds * D.states + runS D p (x % D.states) ds
  | [], p, x, _, _, _, hx, hx2 => by
    rw [runS, runS, runS]
    have h1 := Int.mul_ediv_add_emod x D.states
    rw [Int.mul_comm] at h1
    exact h1.symm
  | d :: ds, p, x, hd, hp, hl, hx, hx2 => by
    simp only [List.length_cons] at hl
    have hd0 := hd d (List.mem_cons_self ..)
    have hb := h.bd hp (by omega) hx hx2 hd0.1 hd0.2
    have hn := h.next hp (by omega) hx hx2 hd0.1 hd0.2
    have h2 := two_bd hb.1 hb.2.1 hb.2.2.1 hb.2.2.2
    have h3 := two_div (a := nextS C p (x / D.states) d) hb.2.2.1 hb.2.2.2
    rw [runS, runS, runS, hn, Fit.run h ds (p + 1) _ (fun e he => hd e (List.mem_cons_of_mem _ he)) (by omega) (by omega) h2.1 h2.2, h3.1, h3.2]
theorem Fit.start (h : Fit C D) : 0 ≤ (joinCh C D).start ∧ (joinCh C D).start < C.states * D.states ∧ (joinCh C D).start / D.states = C.start ∧ (joinCh C D).start % D.states = D.start := by
  have h1 := two_bd h.c.st0 h.c.st1 h.d.st0 h.d.st1
  have h2 := two_div (a := C.start) h.d.st0 h.d.st1
  exact ⟨h1.1, h1.2, h2.1, h2.2⟩
theorem Fit.runAll (h : Fit C D) {ds : List Int} (hd : DigC C ds) (hl : ds.length = C.places.length) :
    runS (joinCh C D) 0 (joinCh C D).start ds = runS C 0 C.start ds * D.states + runS D 0 D.start ds := by
  have h1 := h.start
  rw [h.run ds 0 _ hd (by omega) (by omega) h1.1 h1.2.1, h1.2.2.1, h1.2.2.2]
theorem Fit.valid (h : Fit C D) : validCh (joinCh C D) = true := by
  have hc := h.c
  have hd := h.d
  have hst := two_bd hc.st0 hc.st1 hd.st0 hd.st1
  have hfi := two_bd hc.en0 hc.en1 hd.en0 hd.en1
  have h1 : 1 ≤ C.states * D.states := by have := Int.mul_pos (show 0 < C.states by have := hc.s1; omega) (show 0 < D.states by have := hd.s1; omega); omega
  have h36 := h.s
  have b2 := hc.b2; have b36 := hc.b36; have p1 := hc.p1; have p20 := hc.p20
  unfold validCh headCh powCh tabsCh placesCh
  simp only [Bool.and_eq_true, List.all_eq_true, decide_eq_true_eq, inB_t]
  refine ⟨?_, ?_, fun t ht => ?_, fun k hk => ?_⟩
  · simp only [joinCh, List.length_map, List.length_range]
    omega
  · show C.base ^ ((List.range C.places.length).map fun (k : Nat) => (k : Int)).length ≤ _
    rw [List.length_map, List.length_range]; exact hc.pw
  · obtain ⟨k, hk, rfl⟩ := List.mem_map.1 ht
    have hk' := List.mem_range.1 hk
    unfold tabCh
    simp only [Bool.and_eq_true, List.all_eq_true, decide_eq_true_eq]
    refine ⟨by simp only [joinTab, joinCh, List.length_map, List.length_range]; omega, fun r hr => ?_⟩
    obtain ⟨s, hs, rfl⟩ := List.mem_map.1 hr
    have hs' := List.mem_range.1 hs
    unfold rowCh
    simp only [Bool.and_eq_true, List.all_eq_true, decide_eq_true_eq, inB_t]
    refine ⟨by simp only [joinRow, joinCh, List.length_map, List.length_range]; omega, fun d hd' => ?_⟩
    obtain ⟨e, he, rfl⟩ := List.mem_map.1 hd'
    have he' := List.mem_range.1 he
    have hb := h.bd (p := (k : Int)) (x := (s : Int)) (d := (e : Int)) (by omega) (by omega) (by omega) (by omega) (by omega) (by omega)
    have := two_bd hb.1 hb.2.1 hb.2.2.1 hb.2.2.2
    simp only [joinCh]
    omega
  · obtain ⟨j, hj, rfl⟩ := List.mem_map.1 hk
    have hj' := List.mem_range.1 hj
    simp only [joinCh, List.length_map, List.length_range]
    omega
theorem Fit.small (h : Fit C D) : SmallCh (joinCh C D) := fun t ht => by
  obtain ⟨k, hk, rfl⟩ := List.mem_map.1 ht
  have h36 := h.s
  have b36 := h.c.b36
  refine ⟨by simp only [joinTab, List.length_map, List.length_range]; omega, fun r hr => ?_⟩
  obtain ⟨s, hs, rfl⟩ := List.mem_map.1 hr
  simp only [joinRow, List.length_map, List.length_range]
  omega
theorem Fit.fin (h : Fit C D) {ds : List Int} (hd : DigC C ds) (hl : ds.length = C.places.length) :
    runS (joinCh C D) 0 (joinCh C D).start ds = (joinCh C D).fin ↔ runS C 0 C.start ds = C.fin ∧ runS D 0 D.start ds = D.fin := by
  rw [h.runAll hd hl]
  have hr := runS_bd h.d ds 0 D.start (fun e he => by rw [← h.b]; exact hd e he) (by omega) (by rw [← h.l]; omega) h.d.st0 h.d.st1
  exact two_eq hr.1 hr.2 h.d.en0 h.d.en1
/-- a word that both check -/
def bothP (D : Ch) (p y : Int) (ds : List Int) : Bool := decide (runS D p y ds = D.fin)
theorem Fit.words (h : Fit C D) : ∀ (f : Nat) (p x : Int), 0 ≤ p → p + f ≤ C.places.length → 0 ≤ x → x < C.states * D.states →
    wordsS (joinCh C D) f p x = (wordsS C f p (x / D.states)).filter (bothP D p (x % D.states))
  | 0, p, x, _, _, hx, hx2 => by
    have hs := split_bd h.d.s1 hx hx2
    have hx3 : x = (x / D.states) * D.states + x % D.states := by have h1 := Int.mul_ediv_add_emod x D.states; rw [Int.mul_comm] at h1; exact h1.symm
    have he : x = (joinCh C D).fin ↔ x / D.states = C.fin ∧ x % D.states = D.fin := by
      conv => lhs; rw [hx3]
      exact two_eq hs.2.2.1 hs.2.2.2 h.d.en0 h.d.en1
    unfold wordsS
    by_cases h1 : x / D.states = C.fin
    · rw [if_pos h1]
      by_cases h2 : x % D.states = D.fin
      · rw [if_pos (he.2 ⟨h1, h2⟩)]; simp [bothP, runS, h2]
      · rw [if_neg (fun e => h2 (he.1 e).2)]; simp [bothP, runS, h2]
    · rw [if_neg h1, if_neg (fun e => h1 (he.1 e).1)]; rfl
  | f + 1, p, x, hp, hl, hx, hx2 => by
    unfold wordsS
    rw [List.filter_flatMap]
    show List.flatMap _ (List.range C.base.toNat) = _
    rw [List.flatMap_def, List.flatMap_def]
    congr 1
    apply List.map_congr_left
    intro d hd
    have hd2 : (d : Int) < C.base := by have := List.mem_range.1 hd; omega
    have hb := h.bd hp (by omega) hx hx2 (by omega : (0 : Int) ≤ (d : Int)) hd2
    have hn := h.next hp (by omega) hx hx2 (by omega : (0 : Int) ≤ (d : Int)) hd2
    have h2 := two_bd hb.1 hb.2.1 hb.2.2.1 hb.2.2.2
    have h3 := two_div (a := nextS C p (x / D.states) d) hb.2.2.1 hb.2.2.2
    rw [hn, Fit.words h f (p + 1) _ (by omega) (by omega) h2.1 h2.2, h3.1, h3.2, List.filter_map]
    rfl
/-- how many of the first k words of the one the other one checks -/
def cntJ (C D : Ch) (k : Nat) : Nat := (((wordsA C).take k).filter (bothP D 0 D.start)).length
theorem Fit.count (h : Fit C D) : (wordsA (joinCh C D)).length = cntJ C D (wordsA C).length := by
  have h1 := h.start
  unfold cntJ
  rw [List.take_length]
  show (wordsS (joinCh C D) (joinCh C D).places.length 0 (joinCh C D).start).length = _
  rw [show (joinCh C D).places.length = C.places.length by simp [joinCh], h.words _ 0 _ (by omega) (by omega) h1.1 h1.2.1, h1.2.2.1, h1.2.2.2]
  rfl
theorem cntJ_succ {k : Nat} (h : k < (wordsA C).length) : cntJ C D (k + 1) = cntJ C D k + if bothP D 0 D.start ((wordsA C).getD k []) then 1 else 0 := by
  unfold cntJ
  rw [take_snoc _ [] k h, List.filter_append, List.length_append]
  congr 1
  by_cases hb : bothP D 0 D.start ((wordsA C).getD k []) = true
  · rw [if_pos hb, List.filter_cons_of_pos hb]; rfl
  · rw [if_neg hb, List.filter_cons_of_neg hb]; rfl
theorem cntJ_le (k : Nat) : cntJ C D k ≤ k := Nat.le_trans (List.length_filter_le _ _) (by rw [List.length_take]; omega)
/-- a checked word of the one, checked by the other and by both -/
theorem Fit.chk (h : Fit C D) (_hvc : validCh C = true) (hvd : validCh D = true) {k : Nat} (hk : k < (wordsA C).length) :
    chkB (joinCh C D) (wordR C (k + 1)) = bothP D 0 D.start ((wordsA C).getD k []) ∧ chkB D (wordR C (k + 1)) = bothP D 0 D.start ((wordsA C).getD k []) := by
  have hm := getD_mem' (l := wordsA C) (d := []) hk
  obtain ⟨h1, h2, h3⟩ := wordsA_mem h.c hm
  have hr := ((mem_words (by have := h.c.b2; omega) _ _ _ _).1 hm).2.2
  have hj := validCh_ok h.valid
  constructor
  · show chkB (joinCh C D) (textOf _) = _
    rw [chkB_text hj h.valid h2 (by rw [h1]; simp [joinCh])]
    unfold bothP
    rw [Bool.eq_iff_iff, decide_eq_true_iff, decide_eq_true_iff, h.fin h2 h1]
    exact ⟨fun e => e.2, fun e => ⟨hr, e⟩⟩
  · show chkB D (textOf _) = _
    rw [chkB_text h.d hvd (fun d hd => by rw [← h.b]; exact h2 d hd) (by rw [h1, h.l])]
    rfl
end
end Go.Proofs.Ytaiieodllhoelaa
