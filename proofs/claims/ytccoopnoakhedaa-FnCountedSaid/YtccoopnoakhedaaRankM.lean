/- Walks: RankOfWord. -/
import Derived.Test.YtccoopnoakhedaaChW
import Derived.Test.YtccoopnoakhedaaEnds
import Derived.Test.YtccoopnoakhedaaDigA
namespace Go.Proofs.Ytccoopnoakhedaa
set_option maxRecDepth 100000
open Go.RowKit

def rankTo (D : Ch) (ds : List Int) (k : Nat) : Int := ((List.range k).map fun (i : Nat) => partS D (D.places.length - i - 1) (i : Int) (runS D 0 D.start (ds.take i)) (gi ds i).toNat).sum
theorem rankTo_succ (D : Ch) (ds : List Int) (k : Nat) : rankTo D ds (k + 1) = rankTo D ds k + partS D (D.places.length - k - 1) (k : Int) (runS D 0 D.start (ds.take k)) (gi ds k).toNat := by
  unfold rankTo; rw [List.range_succ, List.map_append, List.sum_append]; simp
theorem rankTo_bd {D : Ch} (hok : OkCh D) {ds : List Int} (hd : DigC D ds) : ∀ k, k ≤ ds.length → k ≤ D.places.length → 0 ≤ rankTo D ds k ∧ rankTo D ds k ≤ k * 1000000000000000
  | 0, _, _ => by simp [rankTo]
  | k + 1, h1, h2 => by
    have ih := rankTo_bd hok hd k (by omega) (by omega)
    have h3 := hd.at (k := k) (by omega)
    have h4 := hok.part (f := D.places.length - k - 1) (by omega) (k : Int) (runS D 0 D.start (ds.take k)) (gi ds k).toNat (by omega)
    rw [rankTo_succ]
    omega
def rkRes (D : Ch) (s : ByteArray) : Int := if chkB D s then rankTo D (digC s) s.size else 0
theorem chk_parts {D : Ch} {s : ByteArray} (h : chkB D s = true) : OkCh D ∧ wordCh D s = true := by
  unfold chkB runOk at h
  simp only [Bool.and_eq_true] at h
  exact ⟨validCh_ok h.1.1, h.1.2⟩
end Go.Proofs.Ytccoopnoakhedaa

/- Plain: the rank of a checked word; the words rise; a symbol more or another one in a text. -/
namespace Go.Proofs.Ytccoopnoakhedaa
set_option maxRecDepth 100000
open Go.RowKit

/-- the rank of a word among those that lead from x to the end -/
def rkS (D : Ch) : Nat → Int → Int → List Int → Int
  | f + 1, p, x, d :: ds => partS D f p x d.toNat + rkS D f (p + 1) (nextS D p x d) ds
  | _, _, _, _ => 0
theorem tail_rank {D : Ch} {f : Nat} {p x : Int} (ih : ∀ (p x : Int) (r : Nat), r < (wordsS D f p x).length → rkS D f p x ((wordsS D f p x).getD r []) = (r : Int)) :
    ∀ (k d r : Nat), D.base.toNat - d = k → r < (tailS D f p x d).length → rkS D (f + 1) p x ((tailS D f p x d).getD r []) = partS D f p x d + r
  | 0, d, r, hk, hr => by rw [tailS_end D f p x d (by omega)] at hr; simp at hr
  | k + 1, d, r, hk, hr => by
    have hd : d < D.base.toNat := by omega
    have h2 := words_len D f (p + 1) (nextS D p x (d : Int))
    by_cases hlt : (r : Int) < endsS D f (p + 1) (nextS D p x (d : Int))
    · rw [tail_get_lt hd hlt, rkS, ih _ _ r (by omega), Int.toNat_natCast]
    · have h3 := tail_len (D := D) (f := f) (p := p) (x := x) hd
      rw [tail_get_ge hd (by omega), tail_rank ih k (d + 1) _ (by omega) (by omega), part_succ]
      omega
theorem rank_at {D : Ch} : ∀ (f : Nat) (p x : Int) (r : Nat), r < (wordsS D f p x).length → rkS D f p x ((wordsS D f p x).getD r []) = (r : Int)
  | 0, p, x, r, h => by
    unfold wordsS at h
    split at h
    · simp at h; subst h; simp [rkS]
    · simp at h
  | f + 1, p, x, r, h => by
    rw [words_succ] at h ⊢
    rw [tail_rank (fun p x r h => rank_at f p x r h) _ 0 r rfl h, part_zero]
    omega
theorem rk_sum {D : Ch} : ∀ (f : Nat) (p x : Int) (ds : List Int), ds.length = f → rkS D f p x ds = ((List.range f).map fun (i : Nat) => partS D (f - i - 1) (p + i) (runS D p x (ds.take i)) (gi ds i).toNat).sum
  | 0, p, x, ds, h => by simp [rkS]
  | f + 1, p, x, [], h => by simp at h
  | f + 1, p, x, d :: ds, h => by
    rw [rkS, rk_sum f (p + 1) (nextS D p x d) ds (by simpa using h), List.range_succ_eq_map, List.map_cons, List.sum_cons, List.map_map]
    congr 1
    · simp [gi, runS]
    · congr 1
      apply List.map_congr_left
      intro i _
      show partS D (f - i - 1) (p + 1 + i) (runS D (p + 1) (nextS D p x d) (ds.take i)) (gi ds i).toNat = partS D (f + 1 - (i + 1) - 1) (p + ((i + 1 : Nat) : Int)) (runS D p x ((d :: ds).take (i + 1))) (gi (d :: ds) (i + 1)).toNat
      rw [show f + 1 - (i + 1) - 1 = f - i - 1 by omega, show p + ((i + 1 : Nat) : Int) = p + 1 + i by omega, List.take_succ_cons, runS]
      simp [gi]
theorem rankTo_words {D : Ch} (hok : OkCh D) {r : Nat} (h : r < (wordsA D).length) : rankTo D ((wordsA D).getD r []) D.places.length = (r : Int) := by
  obtain ⟨h1, _, _⟩ := wordsA_mem hok (getD_mem' (l := wordsA D) (d := []) h)
  have h2 : rkS D D.places.length 0 D.start ((wordsA D).getD r []) = (r : Int) := rank_at (D := D) D.places.length 0 D.start r h
  rw [rk_sum _ _ _ _ h1] at h2
  unfold rankTo
  rw [← h2]
  congr 1
  apply List.map_congr_left
  intro i _
  show partS D (D.places.length - i - 1) (i : Int) (runS D 0 D.start (((wordsA D).getD r []).take i)) _ = partS D (D.places.length - i - 1) (0 + (i : Int)) (runS D 0 D.start ((wordsS D D.places.length 0 D.start).getD r [] |>.take i)) _
  rw [Int.zero_add]
  rfl

/-! ### texts -/
theorem all_mapD (l : List UInt8) (p : Int → Bool) : (l.all fun c => p (dig c)) = (digs l).all p := by
  unfold digs; rw [List.all_map]; rfl
theorem wordB_text {ds : List Int} {b : Int} (hb : 2 ≤ b ∧ b ≤ 36) (hd : ∀ d ∈ ds, 0 ≤ d ∧ d < b) (hl : ds.length ≤ 20) : wordB (textOf ds).data.toList b 20 = true := by
  have hd36 : Dig36 ds := fun d h => by have := hd d h; omega
  refine wordB_yes ?_ (inB_t.2 hb) ?_
  · rw [all_mapD _ (fun x => inB x 0 (b - 1)), show digs (textOf ds).data.toList = ds from digC_text hd36, List.all_eq_true]
    intro d h
    have := hd d h
    exact inB_t.2 ⟨by omega, by omega⟩
  · have : (textOf ds).data.toList.length = ds.length := by rw [Array.length_toList]; exact textOf_size ds
    rw [this]; omega
theorem wordCh_text {D : Ch} (hok : OkCh D) {ds : List Int} (hd : DigC D ds) (hl : ds.length = D.places.length) : wordCh D (textOf ds) = true := by
  have h20 := hok.p20
  rw [wordCh, wordB_text ⟨hok.b2, hok.b36⟩ hd (by omega), textOf_size, hl]
  simp
theorem runOk_text {D : Ch} (hok : OkCh D) (hv : validCh D = true) {ds : List Int} (hd : DigC D ds) (hl : ds.length = D.places.length) : runOk D (textOf ds) = true := by
  rw [runOk, hv, wordCh_text hok hd hl]; rfl
theorem runEnd_text {D : Ch} {ds : List Int} (hd : Dig36 ds) : runEnd D (textOf ds) = runS D 0 D.start ds := by rw [runEnd, digC_text hd]
theorem chkB_text {D : Ch} (hok : OkCh D) (hv : validCh D = true) {ds : List Int} (hd : DigC D ds) (hl : ds.length = D.places.length) : chkB D (textOf ds) = decide (runS D 0 D.start ds = D.fin) := by
  rw [chkB, runOk_text hok hv hd hl, runEnd_text (dig36_of hok.b36 hd)]; rfl
theorem rk_wordR {D : Ch} (hok : OkCh D) (hv : validCh D = true) {r : Nat} (h : r < (wordsA D).length) : chkB D (wordR D (r + 1)) = true ∧ rkRes D (wordR D (r + 1)) = (r : Int) := by
  have hm := getD_mem' (l := wordsA D) (d := []) h
  obtain ⟨h1, h2, h3⟩ := wordsA_mem hok hm
  have hr := ((mem_words (by have := hok.b2; omega) _ _ _ _).1 hm).2.2
  have hc : chkB D (wordR D (r + 1)) = true := by
    show chkB D (textOf _) = true
    rw [chkB_text hok hv h2 h1, hr]; simp
  refine ⟨hc, ?_⟩
  rw [rkRes, if_pos hc, wordR_len hok h]
  show rankTo D (digC (textOf _)) _ = _
  rw [digC_text h3, rankTo_words hok h]

/-! ### the words rise -/
theorem words_rise (D : Ch) : ∀ (f : Nat) (p x : Int), (wordsS D f p x).Pairwise (· < ·)
  | 0, p, x => by unfold wordsS; split <;> simp
  | f + 1, p, x => by
    unfold wordsS
    rw [List.pairwise_flatMap]
    refine ⟨fun d _ => ?_, ?_⟩
    · rw [List.pairwise_map]
      exact (words_rise D f _ _).imp fun {a b} h => List.cons_lt_cons_iff.2 (.inr ⟨rfl, h⟩)
    · refine List.pairwise_lt_range.imp fun {a b} h u hu v hv => ?_
      obtain ⟨u', _, rfl⟩ := List.mem_map.1 hu
      obtain ⟨v', _, rfl⟩ := List.mem_map.1 hv
      exact List.cons_lt_cons_iff.2 (.inl (by omega))
def symU (d : Int) : UInt8 := UInt8.ofNat (sym d).toNat
theorem text_data (ds : List Int) : (textOf ds).data.toList = ds.map symU := by
  rw [textOf, strOfNums_data, List.map_map]; rfl
theorem symU_lt_all : ∀ a b : Fin 36, a.val < b.val → symU (a.val : Int) < symU (b.val : Int) := by decide +kernel
theorem symU_lt {a b : Int} (ha : 0 ≤ a) (hb : b ≤ 35) (h : a < b) : symU a < symU b := by
  have := symU_lt_all ⟨a.toNat, by omega⟩ ⟨b.toNat, by omega⟩ (by simp only; omega)
  simp only [Int.toNat_of_nonneg ha, Int.toNat_of_nonneg (show 0 ≤ b by omega)] at this
  exact this
theorem text_lt : ∀ {ds es : List Int}, Dig36 ds → Dig36 es → ds < es → ds.map symU < es.map symU
  | _, [], _, _, h => absurd h (List.not_lt_nil _)
  | [], e :: es, _, _, _ => List.nil_lt_cons _ _
  | d :: ds, e :: es, hd, he, h => by
    rw [List.map_cons, List.map_cons]
    have h1 := hd d (List.mem_cons_self ..)
    have h2 := he e (List.mem_cons_self ..)
    rcases List.cons_lt_cons_iff.1 h with h' | ⟨rfl, h'⟩
    · exact List.cons_lt_cons_iff.2 (.inl (symU_lt h1.1 h2.2 h'))
    · exact List.cons_lt_cons_iff.2 (.inr ⟨rfl, text_lt (fun x hx => hd x (List.mem_cons_of_mem _ hx)) (fun x hx => he x (List.mem_cons_of_mem _ hx)) h'⟩)
theorem wordR_lt {D : Ch} (hok : OkCh D) {i j : Nat} (hij : i < j) (h : j < (wordsA D).length) : (wordR D (i + 1)).data.toList < (wordR D (j + 1)).data.toList := by
  have hp := List.pairwise_iff_getElem.1 (words_rise D D.places.length 0 D.start) i j (by show i < (wordsA D).length; omega) h hij
  obtain ⟨_, _, h3⟩ := wordsA_mem hok (getD_mem' (l := wordsA D) (d := []) (k := i) (by omega))
  obtain ⟨_, _, h3'⟩ := wordsA_mem hok (getD_mem' (l := wordsA D) (d := []) (k := j) h)
  show (textOf _).data.toList < (textOf _).data.toList
  rw [text_data, text_data]
  refine text_lt h3 h3' ?_
  rw [List.getD_eq_getElem?_getD, List.getD_eq_getElem?_getD, List.getElem?_eq_getElem h, List.getElem?_eq_getElem (show i < (wordsA D).length by omega)]
  exact hp
/-! ### pieces of texts -/
theorem ba_ext' {a b : ByteArray} (h : a.data.toList = b.data.toList) : a = b := ByteArray.ext (Array.toList_inj.1 h)
theorem text_app (a b : List Int) : textOf (a ++ b) = textOf a ++ textOf b := by
  apply ba_ext'
  rw [text_data, ByteArray.data_append, Array.toList_append, text_data, text_data, List.map_append]
theorem text_cut (ds : List Int) (i j : Nat) : (textOf ds).extract i j = textOf ((ds.take j).drop i) := by
  apply ba_ext'
  rw [ByteArray.data_extract, Array.toList_extract, List.extract_eq_take_drop, text_data, text_data, List.map_drop, List.map_take, List.drop_take]
theorem text_inj {ds es : List Int} (hd : Dig36 ds) (he : Dig36 es) (h : textOf ds = textOf es) : ds = es := by
  rw [← digC_text hd, h, digC_text he]
end Go.Proofs.Ytccoopnoakhedaa
