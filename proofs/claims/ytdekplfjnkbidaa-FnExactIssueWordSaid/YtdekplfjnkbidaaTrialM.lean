/- Walks: the reference's next checked word. -/
import Derived.Test.YtdekplfjnkbidaaWordAt
import Derived.Test.YtdekplfjnkbidaaSAt
import Derived.Test.YtdekplfjnkbidaaText
import Derived.Test.YtdekplfjnkbidaaChW
import Derived.Test.YtdekplfjnkbidaaRgM
namespace Go.Proofs.Ytdekplfjnkbidaa
set_option maxRecDepth 100000
open Go.RowKit

set_option maxHeartbeats 400000 in
theorem spec_l10Least (x y : Nat) (w : World) : Calls Try.prog 135 #[.int .i64 x, .int .i64 y] w (Same (.int .i64 ((min x y : Nat) : Int)) w) := by
  by_cases h : x < y
  · go_enter Try.func135, Try.ntmps135
    go_wp2
    go_ret
    exact ⟨ri (by omega), rfl⟩
  · go_enter Try.func135, Try.ntmps135
    go_wp2
    go_ret
    exact ⟨ri (by omega), rfl⟩
/-- what comes behind a word; ahead of all stands the empty one -/
def nextL (D : Ch) (s : ByteArray) : List (List Int) := if s.size = 0 then wordsS D D.places.length 0 D.start else afterS D D.places.length 0 D.start (digC s)
def nextT (D : Ch) (s : ByteArray) : ByteArray := match nextL D s with | [] => .empty | u :: _ => textOf u
theorem dig36_of {D : Ch} (hb : D.base ≤ 36) {ds : List Int} (h : DigC D ds) : Dig36 ds := fun d hd => by have := h d hd; omega
/-- the rest of the first word -/
def restW (D : Ch) (n k : Nat) (x : Int) : List Int := hdS (wordsS D (n - k) (k : Int) x)
theorem hd_words {D : Ch} {f : Nat} {p x : Int} : wordsS D (f + 1) p x = tailS D f p x 0 := words_succ D f p x
theorem digC_empty : digC .empty = [] := rfl
theorem digs_emp {s : ByteArray} (h : s.size = 0) : digC s = [] := List.eq_nil_of_length_eq_zero (by rw [digC_len]; exact h)
/-- what is left to look at, from place i down -/
def BackS (D : Ch) (n : Nat) (s : ByteArray) (i : Nat) : Prop :=
  (s.size = 0 → i = 0 → nextL D s = []) ∧ (s.size ≠ 0 → afterS D (n - i) (i : Int) (runS D 0 D.start ((digC s).take i)) ((digC s).drop i) = [])
/-- the symbols with which the search starts at place i -/
def startD (s : ByteArray) (i : Nat) : Nat := if s.size = 0 then 0 else (gi (digC s) i).toNat + 1
theorem back_at {D : Ch} {n i : Nat} {s : ByteArray} (hn : D.places.length = n) (hi : i < n) (hs : s.size ≠ 0 → s.size = n) (h0 : s.size = 0 → i = 0) (h : BackS D n s (i + 1)) :
    tailS D (n - i - 1) (i : Int) (runS D 0 D.start ((digC s).take i)) (startD s i) = [] → BackS D n s i := by
  intro ht
  refine ⟨fun e _ => ?_, fun e => ?_⟩
  · obtain rfl := h0 e
    rw [nextL, if_pos e, hn, show n = (n - 0 - 1) + 1 by omega, words_succ]
    rw [startD, if_pos e, digs_emp e] at ht
    exact ht
  · have h2 := h.2 e
    have hl : (digC s).length = n := by rw [digC_len, hs e]
    have := after_up (D := D) (f := n) (k := i) (p := 0) (x := D.start) (ds := digC s) hl hi (by rw [show (0 : Int) + ((i + 1 : Nat) : Int) = ((i + 1 : Nat) : Int) by omega]; exact h2)
    rw [show (0 : Int) + (i : Int) = i by omega, show n - (i + 1) = n - i - 1 by omega] at this
    rw [this]
    rw [startD, if_neg e] at ht
    exact ht
theorem back_found {D : Ch} {n i : Nat} {s : ByteArray} {u : List Int} {us : List (List Int)} (hn : D.places.length = n) (hi : i < n) (hs : s.size ≠ 0 → s.size = n) (h0 : s.size = 0 → i = 0) (h : BackS D n s (i + 1))
    (ht : tailS D (n - i - 1) (i : Int) (runS D 0 D.start ((digC s).take i)) (startD s i) = u :: us) : ∃ vs, nextL D s = ((digC s).take i ++ u) :: vs := by
  by_cases e : s.size = 0
  · obtain rfl := h0 e
    rw [startD, if_pos e, digs_emp e] at ht
    refine ⟨us, ?_⟩
    rw [nextL, if_pos e, hn, show n = (n - 0 - 1) + 1 by omega, words_succ, digs_emp e]
    exact ht
  · have h2 := h.2 e
    have hl : (digC s).length = n := by rw [digC_len, hs e]
    have h3 := after_up (D := D) (f := n) (k := i) (p := 0) (x := D.start) (ds := digC s) hl hi (by rw [show (0 : Int) + ((i + 1 : Nat) : Int) = ((i + 1 : Nat) : Int) by omega]; exact h2)
    rw [show (0 : Int) + (i : Int) = i by omega, show n - (i + 1) = n - i - 1 by omega] at h3
    rw [startD, if_neg e] at ht
    obtain ⟨vs, hv⟩ := after_head (D := D) i n 0 D.start (digC s) u us hl (by omega) (by rw [show (0 : Int) + (i : Int) = i by omega, h3]; exact ht)
    exact ⟨vs, by rw [nextL, if_neg e, hn]; exact hv⟩
theorem back_end {D : Ch} {n : Nat} {s : ByteArray} (hn : D.places.length = n) (h : BackS D n s 0) : nextL D s = [] := by
  by_cases e : s.size = 0
  · exact h.1 e rfl
  · have := h.2 e
    rw [nextL, if_neg e, hn]
    simpa [runS] using this
theorem back_start {D : Ch} {n : Nat} {s : ByteArray} (hn : 1 ≤ n) : BackS D n s n := by
  refine ⟨fun _ h => by omega, fun _ => ?_⟩
  rw [Nat.sub_self]
  unfold afterS
  rfl
theorem tail_ne {D : Ch} {f : Nat} {p x : Int} {d : Nat} (hd : d < D.base.toNat) (h : endsS D f (p + 1) (nextS D p x (d : Int)) ≠ 0) : tailS D f p x d = hdS (tailS D f p x d) :: (tailS D f p x d).tail := by
  obtain ⟨u, us, hu⟩ := words_some h
  obtain ⟨vs, hv⟩ := tailS_head hd hu
  rw [hv]; rfl
theorem tail_pos {D : Ch} {f : Nat} {p x : Int} (h : endsS D (f + 1) p x ≠ 0) : tailS D f p x 0 ≠ [] := by
  rw [← words_succ]
  obtain ⟨u, us, hu⟩ := words_some h
  rw [hu]; simp
end Go.Proofs.Ytdekplfjnkbidaa

/- Plain: the trial words of a registry. -/
namespace Go.Proofs.Ytdekplfjnkbidaa
open Go.RowKit

theorem after_tail {D : Ch} {f : Nat} {p x : Int} (ih : ∀ (p x : Int) (r : Nat), r < (wordsS D f p x).length → afterS D f p x ((wordsS D f p x).getD r []) = (wordsS D f p x).drop (r + 1)) :
    ∀ (k d r : Nat), D.base.toNat - d = k → r < (tailS D f p x d).length → afterS D (f + 1) p x ((tailS D f p x d).getD r []) = (tailS D f p x d).drop (r + 1)
  | 0, d, r, hk, hr => by rw [tailS_end D f p x d (by omega)] at hr; simp at hr
  | k + 1, d, r, hk, hr => by
    have hd : d < D.base.toNat := by omega
    have hl := words_len D f (p + 1) (nextS D p x (d : Int))
    have hh := headS_len D f p x d
    by_cases h : (r : Int) < endsS D f (p + 1) (nextS D p x (d : Int))
    · rw [tail_get_lt hd h, afterS, Int.toNat_natCast, ih _ _ r (by omega), tailS_step D f p x d hd, List.drop_append_of_le_length (by omega)]
      unfold headS
      rw [List.map_drop]
    · have h' : endsS D f (p + 1) (nextS D p x (d : Int)) ≤ r := Int.not_lt.1 h
      have htl := tail_len (D := D) (f := f) (p := p) (x := x) hd
      rw [tail_get_ge hd h', after_tail ih k (d + 1) _ (by omega) (by omega), tailS_step D f p x d hd, List.drop_append, List.drop_of_length_le (show (headS D f p x d).length ≤ r + 1 by omega), List.nil_append]
      congr 1
      omega
theorem after_drop {D : Ch} : ∀ (f : Nat) (p x : Int) (r : Nat), r < (wordsS D f p x).length → afterS D f p x ((wordsS D f p x).getD r []) = (wordsS D f p x).drop (r + 1)
  | 0, p, x, r, hr => by
    unfold wordsS at hr ⊢
    by_cases e : x = D.fin
    · rw [if_pos e] at hr ⊢
      obtain rfl : r = 0 := by simpa using hr
      rfl
    · rw [if_neg e] at hr; simp at hr
  | f + 1, p, x, r, hr => by
    rw [words_succ] at hr ⊢
    exact after_tail (fun p x r h => after_drop f p x r h) _ 0 r rfl hr

theorem dig_sym_all : ∀ m : Fin 36, dig (UInt8.ofNat (sym (m.val : Int)).toNat) = (m.val : Int) := by decide +kernel
theorem dig_sym {d : Int} (h0 : 0 ≤ d) (h1 : d ≤ 35) : dig (UInt8.ofNat (sym d).toNat) = d := by
  have := dig_sym_all ⟨d.toNat, by omega⟩
  simp only [Int.toNat_of_nonneg h0] at this
  exact this
theorem digC_text {ds : List Int} (h : Dig36 ds) : digC (textOf ds) = ds := by
  unfold digC textOf digs
  rw [strOfNums_data, List.map_map, List.map_map]
  have : ∀ l : List Int, (∀ d ∈ l, 0 ≤ d ∧ d ≤ 35) → l.map (dig ∘ (fun n => UInt8.ofNat n.toNat) ∘ sym) = l := by
    intro l
    induction l with
    | nil => intro _; rfl
    | cons d l ih => intro hl; rw [List.map_cons, ih fun e he => hl e (List.mem_cons_of_mem _ he)]; simp only [Function.comp]; rw [dig_sym (hl d (List.mem_cons_self ..)).1 (hl d (List.mem_cons_self ..)).2]
  exact this ds h

/-- the checked words, in order -/
def wordsA (D : Ch) : List (List Int) := wordsS D D.places.length 0 D.start
theorem wordsA_mem {D : Ch} (hok : OkCh D) {ds : List Int} (h : ds ∈ wordsA D) : ds.length = D.places.length ∧ DigC D ds ∧ Dig36 ds := by
  obtain ⟨h1, h2, _⟩ := (mem_words (by have := hok.b2; omega) _ _ _ _).1 h
  exact ⟨h1, h2, dig36_of hok.b36 h2⟩
/-- the word of a rank; ahead of all of them the empty one -/
def wordR (D : Ch) (k : Nat) : ByteArray := match k with | 0 => .empty | k + 1 => textOf ((wordsA D).getD k [])
theorem getD_mem' {α : Type} {l : List α} {d : α} {k : Nat} (h : k < l.length) : l.getD k d ∈ l := by
  rw [List.getD_eq_getElem?_getD, List.getElem?_eq_getElem h]; exact List.getElem_mem h
theorem nextL_wordR {D : Ch} (hok : OkCh D) {k : Nat} (h : k ≤ (wordsA D).length) : nextL D (wordR D k) = (wordsA D).drop k := by
  cases k with
  | zero => rw [nextL, if_pos (by rfl)]; rfl
  | succ k =>
    obtain ⟨h1, h2, h3⟩ := wordsA_mem hok (getD_mem' (l := wordsA D) (d := []) (k := k) (by omega))
    have hp := hok.p1
    rw [nextL, if_neg (by show (textOf _).size ≠ 0; rw [textOf_size]; omega)]
    show afterS D _ 0 D.start (digC (textOf _)) = _
    rw [digC_text h3]
    exact after_drop _ _ _ k (by have : wordsS D D.places.length 0 D.start = wordsA D := rfl; rw [this]; omega)
theorem wordR_size {D : Ch} (hok : OkCh D) {k : Nat} (h : k ≤ (wordsA D).length) : (wordR D k).size ≠ 0 → (wordR D k).size = D.places.length ∧ DigC D (digC (wordR D k)) := by
  cases k with
  | zero => intro h; exact absurd rfl h
  | succ k =>
    intro _
    obtain ⟨h1, h2, h3⟩ := wordsA_mem hok (getD_mem' (l := wordsA D) (d := []) (k := k) (by omega))
    refine ⟨(textOf_size _).trans h1, ?_⟩
    show DigC D (digC (textOf _))
    rw [digC_text h3]; exact h2
theorem nextT_wordR {D : Ch} (hok : OkCh D) {k : Nat} (h : k < (wordsA D).length) : nextT D (wordR D k) = wordR D (k + 1) := by
  rw [nextT, nextL_wordR hok (by omega), List.drop_eq_getElem_cons h]
  show textOf _ = textOf _
  rw [List.getD_eq_getElem?_getD, List.getElem?_eq_getElem h]; rfl

/-- a word that is far enough from all issued ones -/
def freeB (R : Rg) (s : ByteArray) : Bool := R.issued.all fun v => !decide ((distS s v : Int) < R.apart)
/-- how many words are tried -/
def triesN (D : Ch) : Nat := min (wordsA D).length 2000
/-- the words that are tried -/
def trialL (D : Ch) : List ByteArray := (List.range (triesN D)).map fun k => wordR D (k + 1)
def trialO (R : Rg) : Option ByteArray := (trialL R.ch).find? (freeB R)
def trialT (R : Rg) : ByteArray := (trialO R).getD .empty
def trialB (R : Rg) : Bool := (trialO R).isSome
/-- none of the first k is free -/
def NoFree (R : Rg) (k : Nat) : Prop := ∀ j, j < k → freeB R (wordR R.ch (j + 1)) = false
theorem NoFree.step {R : Rg} {k : Nat} (h : NoFree R k) (hk : freeB R (wordR R.ch (k + 1)) = false) : NoFree R (k + 1) := fun j hj => by
  by_cases e : j < k
  · exact h j e
  · obtain rfl : j = k := by omega
    exact hk
theorem trial_none {R : Rg} (h : NoFree R (triesN R.ch)) : trialO R = none := by
  unfold trialO
  rw [List.find?_eq_none]
  intro s hs
  obtain ⟨k, hk, rfl⟩ := List.mem_map.1 hs
  rw [h k (List.mem_range.1 hk)]; simp
theorem trial_some {R : Rg} {k : Nat} (hk : k < triesN R.ch) (h : NoFree R k) (hf : freeB R (wordR R.ch (k + 1)) = true) : trialO R = some (wordR R.ch (k + 1)) := by
  unfold trialO
  rw [List.find?_eq_some_iff_getElem]
  refine ⟨hf, k, by simpa [trialL] using hk, by simp [trialL], fun j hj => ?_⟩
  simp only [trialL, List.getElem_map, List.getElem_range]
  rw [h j hj]; rfl
theorem wordR_len {D : Ch} (hok : OkCh D) {k : Nat} (h : k < (wordsA D).length) : (wordR D (k + 1)).size = D.places.length := by
  obtain ⟨h1, _, _⟩ := wordsA_mem hok (getD_mem' (l := wordsA D) (d := []) (k := k) h)
  exact (textOf_size _).trans h1
theorem wordsA_ends (D : Ch) : ((wordsA D).length : Int) = endsS D D.places.length 0 D.start := words_len D _ _ _
end Go.Proofs.Ytdekplfjnkbidaa
