/- Walks: the reference's next checked word. -/
import Derived.Test.YthbdnkokklahcaaGreatDigA
import Derived.Test.YthbdnkokklahcaaGreatSAt
import Derived.Test.YthbdnkokklahcaaGreatRgM
import Derived.Test.YthbdnkokklahcaaGreatStrs
import Derived.Test.YthbdnkokklahcaaGreatRgG
namespace Go.Proofs.YthbdnkokklahcaaGreat
set_option maxRecDepth 100000
open Go.RowKit

/-- what comes behind a word; ahead of all stands the empty one -/
def nextL (D : Ch) (s : ByteArray) : List (List Int) := if s.size = 0 then wordsS D D.places.length 0 D.start else afterS D D.places.length 0 D.start (digC s)
def nextT (D : Ch) (s : ByteArray) : ByteArray := match nextL D s with | [] => .empty | u :: _ => textOf u
/-- the rest of the first word -/
def restW (D : Ch) (n k : Nat) (x : Int) : List Int := hdS (wordsS D (n - k) (k : Int) x)
theorem hd_words {D : Ch} {f : Nat} {p x : Int} : wordsS D (f + 1) p x = tailS D f p x 0 := words_succ D f p x
theorem digC_empty : digC .empty = [] := rfl
theorem digs_emp {s : ByteArray} (h : s.size = 0) : digC s = [] := List.eq_nil_of_length_eq_zero (by rw [digC_len]; exact h)
/-- what is left to look at, from place i down -/
def BackS (D : Ch) (n : Nat) (s : ByteArray) (i : Nat) : Prop :=
  (s.size = 0 → i = 0 → nextL D s = []) ∧ (s.size ≠ 0 → afterS D (n - i) (i : Int) (runS D 0 D.start ((digC s).take i)) ((digC s).drop i) = [])
/-- the symbols with which the search starts at place i -/
def startD (s : ByteArray) (i : Nat) : Nat := if s.size = 0 then 0 else (gi (digC s) i).toNat + 1
theorem back_at {D : Ch} {n i : Nat} {s : ByteArray} (hn : D.places.length = n) (hi : i < n) (hs : s.size ≠ 0 → s.size = n) (h0 : s.size = 0 → i = 0) (h : BackS D n s (i + 1)) :
    tailS D (n - i - 1) (i : Int) (runS D 0 D.start ((digC s).take i)) (startD s i) = [] → BackS D n s i := by
  intro ht
  refine ⟨fun e _ => ?_, fun e => ?_⟩
  · obtain rfl := h0 e
    rw [nextL, if_pos e, hn, show n = (n - 0 - 1) + 1 by omega, words_succ]
    rw [startD, if_pos e, digs_emp e] at ht
    exact ht
  · have h2 := h.2 e
    have hl : (digC s).length = n := by rw [digC_len, hs e]
    have := after_up (D := D) (f := n) (k := i) (p := 0) (x := D.start) (ds := digC s) hl hi (by rw [show (0 : Int) + ((i + 1 : Nat) : Int) = ((i + 1 : Nat) : Int) by omega]; exact h2)
    rw [show (0 : Int) + (i : Int) = i by omega, show n - (i + 1) = n - i - 1 by omega] at this
    rw [this]
    rw [startD, if_neg e] at ht
    exact ht
theorem back_found {D : Ch} {n i : Nat} {s : ByteArray} {u : List Int} {us : List (List Int)} (hn : D.places.length = n) (hi : i < n) (hs : s.size ≠ 0 → s.size = n) (h0 : s.size = 0 → i = 0) (h : BackS D n s (i + 1))
    (ht : tailS D (n - i - 1) (i : Int) (runS D 0 D.start ((digC s).take i)) (startD s i) = u :: us) : ∃ vs, nextL D s = ((digC s).take i ++ u) :: vs := by
  by_cases e : s.size = 0
  · obtain rfl := h0 e
    rw [startD, if_pos e, digs_emp e] at ht
    refine ⟨us, ?_⟩
    rw [nextL, if_pos e, hn, show n = (n - 0 - 1) + 1 by omega, words_succ, digs_emp e]
    exact ht
  · have h2 := h.2 e
    have hl : (digC s).length = n := by rw [digC_len, hs e]
    have h3 := after_up (D := D) (f := n) (k := i) (p := 0) (x := D.start) (ds := digC s) hl hi (by rw [show (0 : Int) + ((i + 1 : Nat) : Int) = ((i + 1 : Nat) : Int) by omega]; exact h2)
    rw [show (0 : Int) + (i : Int) = i by omega, show n - (i + 1) = n - i - 1 by omega] at h3
    rw [startD, if_neg e] at ht
    obtain ⟨vs, hv⟩ := after_head (D := D) i n 0 D.start (digC s) u us hl (by omega) (by rw [show (0 : Int) + (i : Int) = i by omega, h3]; exact ht)
    exact ⟨vs, by rw [nextL, if_neg e, hn]; exact hv⟩
theorem back_end {D : Ch} {n : Nat} {s : ByteArray} (hn : D.places.length = n) (h : BackS D n s 0) : nextL D s = [] := by
  by_cases e : s.size = 0
  · exact h.1 e rfl
  · have := h.2 e
    rw [nextL, if_neg e, hn]
    simpa [runS] using this
theorem back_start {D : Ch} {n : Nat} {s : ByteArray} (hn : 1 ≤ n) : BackS D n s n := by
  refine ⟨fun _ h => by omega, fun _ => ?_⟩
  rw [Nat.sub_self]
  unfold afterS
  rfl
theorem tail_ne {D : Ch} {f : Nat} {p x : Int} {d : Nat} (hd : d < D.base.toNat) (h : endsS D f (p + 1) (nextS D p x (d : Int)) ≠ 0) : tailS D f p x d = hdS (tailS D f p x d) :: (tailS D f p x d).tail := by
  obtain ⟨u, us, hu⟩ := words_some h
  obtain ⟨vs, hv⟩ := tailS_head hd hu
  rw [hv]; rfl
theorem tail_pos {D : Ch} {f : Nat} {p x : Int} (h : endsS D (f + 1) p x ≠ 0) : tailS D f p x 0 ≠ [] := by
  rw [← words_succ]
  obtain ⟨u, us, hu⟩ := words_some h
  rw [hu]; simp
end Go.Proofs.YthbdnkokklahcaaGreat

/- Plain: the trial words of a registry. -/
namespace Go.Proofs.YthbdnkokklahcaaGreat
set_option maxRecDepth 100000
open Go.RowKit

theorem after_tail {D : Ch} {f : Nat} {p x : Int} (ih : ∀ (p x : Int) (r : Nat), r < (wordsS D f p x).length → afterS D f p x ((wordsS D f p x).getD r []) = (wordsS D f p x).drop (r + 1)) :
    ∀ (k d r : Nat), D.base.toNat - d = k → r < (tailS D f p x d).length → afterS D (f + 1) p x ((tailS D f p x d).getD r []) = (tailS D f p x d).drop (r + 1)
  | 0, d, r, hk, hr => by rw [tailS_end D f p x d (by omega)] at hr; simp at hr
  | k + 1, d, r, hk, hr => by
    have hd : d < D.base.toNat := by omega
    have hl := words_len D f (p + 1) (nextS D p x (d : Int))
    have hh := headS_len D f p x d
    by_cases h : (r : Int) < endsS D f (p + 1) (nextS D p x (d : Int))
    · rw [tail_get_lt hd h, afterS, Int.toNat_natCast, ih _ _ r (by omega), tailS_step D f p x d hd, List.drop_append_of_le_length (by omega)]
      unfold headS
      rw [List.map_drop]
    · have h' : endsS D f (p + 1) (nextS D p x (d : Int)) ≤ r := Int.not_lt.1 h
      have htl := tail_len (D := D) (f := f) (p := p) (x := x) hd
      rw [tail_get_ge hd h', after_tail ih k (d + 1) _ (by omega) (by omega), tailS_step D f p x d hd, List.drop_append, List.drop_of_length_le (show (headS D f p x d).length ≤ r + 1 by omega), List.nil_append]
      congr 1
      omega
theorem after_drop {D : Ch} : ∀ (f : Nat) (p x : Int) (r : Nat), r < (wordsS D f p x).length → afterS D f p x ((wordsS D f p x).getD r []) = (wordsS D f p x).drop (r + 1)
  | 0, p, x, r, hr => by
    unfold wordsS at hr ⊢
    by_cases e : x = D.fin
    · rw [if_pos e] at hr ⊢
      obtain rfl : r = 0 := by simpa using hr
      rfl
    · rw [if_neg e] at hr; simp at hr
  | f + 1, p, x, r, hr => by
    rw [words_succ] at hr ⊢
    exact after_tail (fun p x r h => after_drop f p x r h) _ 0 r rfl hr

theorem nextL_wordR {D : Ch} (hok : OkCh D) {k : Nat} (h : k ≤ (wordsA D).length) : nextL D (wordR D k) = (wordsA D).drop k := by
  cases k with
  | zero => rw [nextL, if_pos (by rfl)]; rfl
  | succ k =>
    obtain ⟨h1, h2, h3⟩ := wordsA_mem hok (getD_mem' (l := wordsA D) (d := []) (k := k) (by omega))
    have hp := hok.p1
    rw [nextL, if_neg (by show (textOf _).size ≠ 0; rw [textOf_size]; omega)]
    show afterS D _ 0 D.start (digC (textOf _)) = _
    rw [digC_text h3]
    exact after_drop _ _ _ k (by have : wordsS D D.places.length 0 D.start = wordsA D := rfl; rw [this]; omega)
theorem wordR_size {D : Ch} (hok : OkCh D) {k : Nat} (h : k ≤ (wordsA D).length) : (wordR D k).size ≠ 0 → (wordR D k).size = D.places.length ∧ DigC D (digC (wordR D k)) := by
  cases k with
  | zero => intro h; exact absurd rfl h
  | succ k =>
    intro _
    obtain ⟨h1, h2, h3⟩ := wordsA_mem hok (getD_mem' (l := wordsA D) (d := []) (k := k) (by omega))
    refine ⟨(textOf_size _).trans h1, ?_⟩
    show DigC D (digC (textOf _))
    rw [digC_text h3]; exact h2
theorem nextT_wordR {D : Ch} (hok : OkCh D) {k : Nat} (h : k < (wordsA D).length) : nextT D (wordR D k) = wordR D (k + 1) := by
  rw [nextT, nextL_wordR hok (by omega), List.drop_eq_getElem_cons h]
  show textOf _ = textOf _
  rw [List.getD_eq_getElem?_getD, List.getElem?_eq_getElem h]; rfl

/-- a word that is far enough from all issued ones -/
def freeB (R : Rg) (s : ByteArray) : Bool := R.issued.all fun v => !decide ((distS s v : Int) < R.apart)
/-- how many words are tried -/
def triesN (D : Ch) : Nat := min (wordsA D).length 2000
/-- the words that are tried -/
def trialL (D : Ch) : List ByteArray := (List.range (triesN D)).map fun k => wordR D (k + 1)
def trialO (R : Rg) : Option ByteArray := (trialL R.ch).find? (freeB R)
def trialT (R : Rg) : ByteArray := (trialO R).getD .empty
def trialB (R : Rg) : Bool := (trialO R).isSome
/-- none of the first k is free -/
def NoFree (R : Rg) (k : Nat) : Prop := ∀ j, j < k → freeB R (wordR R.ch (j + 1)) = false
theorem NoFree.step {R : Rg} {k : Nat} (h : NoFree R k) (hk : freeB R (wordR R.ch (k + 1)) = false) : NoFree R (k + 1) := fun j hj => by
  by_cases e : j < k
  · exact h j e
  · obtain rfl : j = k := by omega
    exact hk
theorem trial_none {R : Rg} (h : NoFree R (triesN R.ch)) : trialO R = none := by
  unfold trialO
  rw [List.find?_eq_none]
  intro s hs
  obtain ⟨k, hk, rfl⟩ := List.mem_map.1 hs
  rw [h k (List.mem_range.1 hk)]; simp
theorem trial_some {R : Rg} {k : Nat} (hk : k < triesN R.ch) (h : NoFree R k) (hf : freeB R (wordR R.ch (k + 1)) = true) : trialO R = some (wordR R.ch (k + 1)) := by
  unfold trialO
  rw [List.find?_eq_some_iff_getElem]
  refine ⟨hf, k, by simpa [trialL] using hk, by simp [trialL], fun j hj => ?_⟩
  simp only [trialL, List.getElem_map, List.getElem_range]
  rw [h j hj]; rfl
end Go.Proofs.YthbdnkokklahcaaGreat

/- Walks: the reference's next checked word: the walk. -/
namespace Go.Proofs.YthbdnkokklahcaaGreat
set_option maxRecDepth 100000
open Go.RowKit

end Go.Proofs.YthbdnkokklahcaaGreat

/- Walks: registries: free words, the first free one; IsFull of the reference. -/
namespace Go.Proofs.YthbdnkokklahcaaGreat
set_option maxRecDepth 100000
open Go.RowKit

theorem all_flip (l : List ByteArray) (s : ByteArray) (ap : Int) : (l.all fun v => !decide ((distS v s : Int) < ap)) = l.all fun v => !decide ((distS s v : Int) < ap) := by
  congr 1; funext v; rw [dist_comm]
theorem allS_no {l : List ByteArray} {p : ByteArray → Bool} {k : Nat} (hk : k < l.length) (h : p (gs l k) = false) : l.all p = false := List.all_eq_false.2 ⟨_, gs_mem hk, by rw [h]; simp⟩
theorem allS_step {l : List ByteArray} {p : ByteArray → Bool} {k : Nat} (hk : k < l.length) (h : p (gs l k) = true) (hp : (l.take k).all p = true) : (l.take (k + 1)).all p = true := by
  rw [take_gs hk, List.all_append, hp]; simp [h]
theorem tries_le (D : Ch) : triesN D ≤ (wordsA D).length := Nat.min_le_left _ _
theorem emp_false {α : Type} {l : List α} {k : Nat} (h : k < l.length) : (l.drop k).isEmpty = false := by
  rw [List.drop_eq_getElem_cons h]; rfl
theorem emp_true {α : Type} {l : List α} {k : Nat} (h : l.length ≤ k) : (l.drop k).isEmpty = true := by
  rw [List.drop_of_length_le h]; rfl
def fullR (D : Rg) : Bool := validRg D && !trialB D
end Go.Proofs.YthbdnkokklahcaaGreat

/- Walks: registries: the trials of the program; IsFull. -/
namespace Go.Proofs.YthbdnkokklahcaaGreat
set_option maxRecDepth 100000
open Go.RowKit

theorem RetEnds.matK {D : Ch} {w w' : World} {e : Ending} (h : RetEnds D w e w') : ∃ a c, e = .returned (.slice a (D.places.length + 1) c) ∧ (∀ W, KeepB w.heap.size w'.heap.size w' W → Mat W a (D.places.length + 1) c (endsL D)) ∧ Ext w w' := by
  obtain ⟨a, c, F, G, C, rfl, hg, hr, hx⟩ := h
  refine ⟨a, c, rfl, fun W hk => ?_, hx⟩
  have hg2 : Grid W w.heap.size 23 2 a (D.places.length + 1) c D.states.toNat F G C := ⟨hg.outer.keepB hk, fun k hk' => (hg.row k hk').keepB hk, hg.inj⟩
  obtain ⟨a2, c2, he, hm, _⟩ := RetEnds.matL (D := D) (w := w) (w' := w') (e := .returned (.slice a (D.places.length + 1) c)) ⟨a, c, F, G, C, rfl, hg, hr, hx⟩
  refine ⟨by simp [endsL], _, hg2.outer.sl, fun k hk2 => ⟨Option.some ⟨G k, 0, none⟩, D.states.toNat, C k, by simp [gv, hk2, slR], ?_⟩⟩
  rw [endsL_gl (by omega)]
  have h1 := (hg2.row k hk2).ints
  have h2 : rowF F D.states.toNat k = (List.range D.states.toNat).map fun (x : Nat) => endsS D (D.places.length - k) k x := by
    unfold rowF
    apply List.map_congr_left
    intro y hy
    exact hr.hi k (Nat.zero_le _) (by omega) y (List.mem_range.1 hy)
  rw [h2] at h1
  exact h1
theorem min_tries (D : Ch) (N : Nat) (h : (wordsA D).length = N) : (if (2000 : Int) < (N : Int) then (2000 : Int) else (N : Int)) = ((triesN D : Nat) : Int) := by
  unfold triesN; rw [h]; split <;> omega
theorem full_no {D : Rg} (h : validRg D = false) : fullR D = false := by rw [fullR, h]; rfl
end Go.Proofs.YthbdnkokklahcaaGreat
