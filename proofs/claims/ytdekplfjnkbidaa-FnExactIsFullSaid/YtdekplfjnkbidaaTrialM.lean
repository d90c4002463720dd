/- Plain: the trial words of a registry. -/
import Derived.Test.YtdekplfjnkbidaaNxt
import Derived.Test.YtdekplfjnkbidaaRgM
namespace Go.Proofs.Ytdekplfjnkbidaa
set_option maxRecDepth 100000
open Go.RowKit

theorem after_tail {D : Ch} {f : Nat} {p x : Int} (ih : ∀ (p x : Int) (r : Nat), r < (wordsS D f p x).length → afterS D f p x ((wordsS D f p x).getD r []) = (wordsS D f p x).drop (r + 1)) :
    ∀ (k d r : Nat), D.base.toNat - d = k → r < (tailS D f p x d).length → afterS D (f + 1) p x ((tailS D f p x d).getD r []) = (tailS D f p x d).drop (r + 1)
  | 0, d, r, hk, hr => by rw [tailS_end D f p x d (by omega)] at hr; simp at hr
  | k + 1, d, r, hk, hr => by
    have hd : d < D.base.toNat := by omega
    have hl := words_len D f (p + 1) (nextS D p x (d : Int))
    have hh := headS_len D f p x d
    by_cases h : (r : Int) < endsS D f (p + 1) (nextS D p x (d : Int))
    · rw [tail_get_lt hd h, afterS, Int.toNat_natCast, ih _ _ r (by omega), tailS_step D f p x d hd, List.drop_append_of_le_length (by omega)]
      unfold headS
      rw [List.map_drop]
    · have h' : endsS D f (p + 1) (nextS D p x (d : Int)) ≤ r := Int.not_lt.1 h
      have htl := tail_len (D := D) (f := f) (p := p) (x := x) hd
      rw [tail_get_ge hd h', after_tail ih k (d + 1) _ (by omega) (by omega), tailS_step D f p x d hd, List.drop_append, List.drop_of_length_le (show (headS D f p x d).length ≤ r + 1 by omega), List.nil_append]
      congr 1
      omega
theorem after_drop {D : Ch} : ∀ (f : Nat) (p x : Int) (r : Nat), r < (wordsS D f p x).length → afterS D f p x ((wordsS D f p x).getD r []) = (wordsS D f p x).drop (r + 1)
  | 0, p, x, r, hr => by
    unfold wordsS at hr ⊢
    by_cases e : x = D.fin
    · rw [if_pos e] at hr ⊢
      obtain rfl : r = 0 := by simpa using hr
      rfl
    · rw [if_neg e] at hr; simp at hr
  | f + 1, p, x, r, hr => by
    rw [words_succ] at hr ⊢
    exact after_tail (fun p x r h => after_drop f p x r h) _ 0 r rfl hr

theorem dig_sym_all : ∀ m : Fin 36, dig (UInt8.ofNat (sym (m.val : Int)).toNat) = (m.val : Int) := by decide +kernel
theorem dig_sym {d : Int} (h0 : 0 ≤ d) (h1 : d ≤ 35) : dig (UInt8.ofNat (sym d).toNat) = d := by
  have := dig_sym_all ⟨d.toNat, by omega⟩
  simp only [Int.toNat_of_nonneg h0] at this
  exact this
theorem digC_text {ds : List Int} (h : Dig36 ds) : digC (textOf ds) = ds := by
  unfold digC textOf digs
  rw [strOfNums_data, List.map_map, List.map_map]
  have : ∀ l : List Int, (∀ d ∈ l, 0 ≤ d ∧ d ≤ 35) → l.map (dig ∘ (fun n => UInt8.ofNat n.toNat) ∘ sym) = l := by
    intro l
    induction l with
    | nil => intro _; rfl
    | cons d l ih => intro hl; rw [List.map_cons, ih fun e he => hl e (List.mem_cons_of_mem _ he)]; simp only [Function.comp]; rw [dig_sym (hl d (List.mem_cons_self ..)).1 (hl d (List.mem_cons_self ..)).2]
  exact this ds h

/-- the checked words, in order -/
def wordsA (D : Ch) : List (List Int) := wordsS D D.places.length 0 D.start
theorem wordsA_mem {D : Ch} (hok : OkCh D) {ds : List Int} (h : ds ∈ wordsA D) : ds.length = D.places.length ∧ DigC D ds ∧ Dig36 ds := by
  obtain ⟨h1, h2, _⟩ := (mem_words (by have := hok.b2; omega) _ _ _ _).1 h
  exact ⟨h1, h2, dig36_of hok.b36 h2⟩
/-- the word of a rank; ahead of all of them the empty one -/
def wordR (D : Ch) (k : Nat) : ByteArray := match k with | 0 => .empty | k + 1 => textOf ((wordsA D).getD k [])
theorem getD_mem' {α : Type} {l : List α} {d : α} {k : Nat} (h : k < l.length) : l.getD k d ∈ l := by
  rw [List.getD_eq_getElem?_getD, List.getElem?_eq_getElem h]; exact List.getElem_mem h
theorem nextL_wordR {D : Ch} (hok : OkCh D) {k : Nat} (h : k ≤ (wordsA D).length) : nextL D (wordR D k) = (wordsA D).drop k := by
  cases k with
  | zero => rw [nextL, if_pos (by rfl)]; rfl
  | succ k =>
    obtain ⟨h1, h2, h3⟩ := wordsA_mem hok (getD_mem' (l := wordsA D) (d := []) (k := k) (by omega))
    have hp := hok.p1
    rw [nextL, if_neg (by show (textOf _).size ≠ 0; rw [textOf_size]; omega)]
    show afterS D _ 0 D.start (digC (textOf _)) = _
    rw [digC_text h3]
    exact after_drop _ _ _ k (by have : wordsS D D.places.length 0 D.start = wordsA D := rfl; rw [this]; omega)
theorem wordR_size {D : Ch} (hok : OkCh D) {k : Nat} (h : k ≤ (wordsA D).length) : (wordR D k).size ≠ 0 → (wordR D k).size = D.places.length ∧ DigC D (digC (wordR D k)) := by
  cases k with
  | zero => intro h; exact absurd rfl h
  | succ k =>
    intro _
    obtain ⟨h1, h2, h3⟩ := wordsA_mem hok (getD_mem' (l := wordsA D) (d := []) (k := k) (by omega))
    refine ⟨(textOf_size _).trans h1, ?_⟩
    show DigC D (digC (textOf _))
    rw [digC_text h3]; exact h2
theorem nextT_wordR {D : Ch} (hok : OkCh D) {k : Nat} (h : k < (wordsA D).length) : nextT D (wordR D k) = wordR D (k + 1) := by
  rw [nextT, nextL_wordR hok (by omega), List.drop_eq_getElem_cons h]
  show textOf _ = textOf _
  rw [List.getD_eq_getElem?_getD, List.getElem?_eq_getElem h]; rfl

/-- a word that is far enough from all issued ones -/
def freeB (R : Rg) (s : ByteArray) : Bool := R.issued.all fun v => !decide ((distS s v : Int) < R.apart)
/-- how many words are tried -/
def triesN (D : Ch) : Nat := min (wordsA D).length 2000
/-- the words that are tried -/
def trialL (D : Ch) : List ByteArray := (List.range (triesN D)).map fun k => wordR D (k + 1)
def trialO (R : Rg) : Option ByteArray := (trialL R.ch).find? (freeB R)
def trialT (R : Rg) : ByteArray := (trialO R).getD .empty
def trialB (R : Rg) : Bool := (trialO R).isSome
/-- none of the first k is free -/
def NoFree (R : Rg) (k : Nat) : Prop := ∀ j, j < k → freeB R (wordR R.ch (j + 1)) = false
theorem NoFree.step {R : Rg} {k : Nat} (h : NoFree R k) (hk : freeB R (wordR R.ch (k + 1)) = false) : NoFree R (k + 1) := fun j hj => by
  by_cases e : j < k
  · exact h j e
  · obtain rfl : j = k := by omega
    exact hk
theorem trial_none {R : Rg} (h : NoFree R (triesN R.ch)) : trialO R = none := by
  unfold trialO
  rw [List.find?_eq_none]
  intro s hs
  obtain ⟨k, hk, rfl⟩ := List.mem_map.1 hs
  rw [h k (List.mem_range.1 hk)]; simp
theorem trial_some {R : Rg} {k : Nat} (hk : k < triesN R.ch) (h : NoFree R k) (hf : freeB R (wordR R.ch (k + 1)) = true) : trialO R = some (wordR R.ch (k + 1)) := by
  unfold trialO
  rw [List.find?_eq_some_iff_getElem]
  refine ⟨hf, k, by simpa [trialL] using hk, by simp [trialL], fun j hj => ?_⟩
  simp only [trialL, List.getElem_map, List.getElem_range]
  rw [h j hj]; rfl
theorem wordR_len {D : Ch} (hok : OkCh D) {k : Nat} (h : k < (wordsA D).length) : (wordR D (k + 1)).size = D.places.length := by
  obtain ⟨h1, _, _⟩ := wordsA_mem hok (getD_mem' (l := wordsA D) (d := []) (k := k) h)
  exact (textOf_size _).trans h1
theorem wordsA_ends (D : Ch) : ((wordsA D).length : Int) = endsS D D.places.length 0 D.start := words_len D _ _ _
end Go.Proofs.Ytdekplfjnkbidaa
