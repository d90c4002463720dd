/- Walks: the reference's next checked word. -/
import Derived.Test.YtdekplfjnkbidaaWordAt
import Derived.Test.YtdekplfjnkbidaaOwnS
import Derived.Test.YtdekplfjnkbidaaText
import Derived.Test.YtdekplfjnkbidaaChW
namespace Go.Proofs.Ytdekplfjnkbidaa
set_option maxRecDepth 100000
open Go.RowKit

set_option maxHeartbeats 400000 in
theorem spec_l10Least (x y : Nat) (w : World) : Calls Try.prog 135 #[.int .i64 x, .int .i64 y] w (Same (.int .i64 ((min x y : Nat) : Int)) w) := by
  by_cases h : x < y
  · go_enter Try.func135, Try.ntmps135
    go_wp2
    go_ret
    exact ⟨ri (by omega), rfl⟩
  · go_enter Try.func135, Try.ntmps135
    go_wp2
    go_ret
    exact ⟨ri (by omega), rfl⟩
/-- what comes behind a word; ahead of all stands the empty one -/
def nextL (D : Ch) (s : ByteArray) : List (List Int) := if s.size = 0 then wordsS D D.places.length 0 D.start else afterS D D.places.length 0 D.start (digC s)
def nextT (D : Ch) (s : ByteArray) : ByteArray := match nextL D s with | [] => .empty | u :: _ => textOf u
theorem dig36_of {D : Ch} (hb : D.base ≤ 36) {ds : List Int} (h : DigC D ds) : Dig36 ds := fun d hd => by have := h d hd; omega
/-- the rest of the first word -/
def restW (D : Ch) (n k : Nat) (x : Int) : List Int := hdS (wordsS D (n - k) (k : Int) x)
theorem hd_words {D : Ch} {f : Nat} {p x : Int} : wordsS D (f + 1) p x = tailS D f p x 0 := words_succ D f p x
theorem digC_empty : digC .empty = [] := rfl
theorem digs_emp {s : ByteArray} (h : s.size = 0) : digC s = [] := List.eq_nil_of_length_eq_zero (by rw [digC_len]; exact h)
/-- what is left to look at, from place i down -/
def BackS (D : Ch) (n : Nat) (s : ByteArray) (i : Nat) : Prop :=
  (s.size = 0 → i = 0 → nextL D s = []) ∧ (s.size ≠ 0 → afterS D (n - i) (i : Int) (runS D 0 D.start ((digC s).take i)) ((digC s).drop i) = [])
/-- the symbols with which the search starts at place i -/
def startD (s : ByteArray) (i : Nat) : Nat := if s.size = 0 then 0 else (gi (digC s) i).toNat + 1
theorem back_at {D : Ch} {n i : Nat} {s : ByteArray} (hn : D.places.length = n) (hi : i < n) (hs : s.size ≠ 0 → s.size = n) (h0 : s.size = 0 → i = 0) (h : BackS D n s (i + 1)) :
    tailS D (n - i - 1) (i : Int) (runS D 0 D.start ((digC s).take i)) (startD s i) = [] → BackS D n s i := by
  intro ht
  refine ⟨fun e _ => ?_, fun e => ?_⟩
  · obtain rfl := h0 e
    rw [nextL, if_pos e, hn, show n = (n - 0 - 1) + 1 by omega, words_succ]
    rw [startD, if_pos e, digs_emp e] at ht
    exact ht
  · have h2 := h.2 e
    have hl : (digC s).length = n := by rw [digC_len, hs e]
    have := after_up (D := D) (f := n) (k := i) (p := 0) (x := D.start) (ds := digC s) hl hi (by rw [show (0 : Int) + ((i + 1 : Nat) : Int) = ((i + 1 : Nat) : Int) by omega]; exact h2)
    rw [show (0 : Int) + (i : Int) = i by omega, show n - (i + 1) = n - i - 1 by omega] at this
    rw [this]
    rw [startD, if_neg e] at ht
    exact ht
theorem back_found {D : Ch} {n i : Nat} {s : ByteArray} {u : List Int} {us : List (List Int)} (hn : D.places.length = n) (hi : i < n) (hs : s.size ≠ 0 → s.size = n) (h0 : s.size = 0 → i = 0) (h : BackS D n s (i + 1))
    (ht : tailS D (n - i - 1) (i : Int) (runS D 0 D.start ((digC s).take i)) (startD s i) = u :: us) : ∃ vs, nextL D s = ((digC s).take i ++ u) :: vs := by
  by_cases e : s.size = 0
  · obtain rfl := h0 e
    rw [startD, if_pos e, digs_emp e] at ht
    refine ⟨us, ?_⟩
    rw [nextL, if_pos e, hn, show n = (n - 0 - 1) + 1 by omega, words_succ, digs_emp e]
    exact ht
  · have h2 := h.2 e
    have hl : (digC s).length = n := by rw [digC_len, hs e]
    have h3 := after_up (D := D) (f := n) (k := i) (p := 0) (x := D.start) (ds := digC s) hl hi (by rw [show (0 : Int) + ((i + 1 : Nat) : Int) = ((i + 1 : Nat) : Int) by omega]; exact h2)
    rw [show (0 : Int) + (i : Int) = i by omega, show n - (i + 1) = n - i - 1 by omega] at h3
    rw [startD, if_neg e] at ht
    obtain ⟨vs, hv⟩ := after_head (D := D) i n 0 D.start (digC s) u us hl (by omega) (by rw [show (0 : Int) + (i : Int) = i by omega, h3]; exact ht)
    exact ⟨vs, by rw [nextL, if_neg e, hn]; exact hv⟩
theorem back_end {D : Ch} {n : Nat} {s : ByteArray} (hn : D.places.length = n) (h : BackS D n s 0) : nextL D s = [] := by
  by_cases e : s.size = 0
  · exact h.1 e rfl
  · have := h.2 e
    rw [nextL, if_neg e, hn]
    simpa [runS] using this
theorem back_start {D : Ch} {n : Nat} {s : ByteArray} (hn : 1 ≤ n) : BackS D n s n := by
  refine ⟨fun _ h => by omega, fun _ => ?_⟩
  rw [Nat.sub_self]
  unfold afterS
  rfl
theorem tail_ne {D : Ch} {f : Nat} {p x : Int} {d : Nat} (hd : d < D.base.toNat) (h : endsS D f (p + 1) (nextS D p x (d : Int)) ≠ 0) : tailS D f p x d = hdS (tailS D f p x d) :: (tailS D f p x d).tail := by
  obtain ⟨u, us, hu⟩ := words_some h
  obtain ⟨vs, hv⟩ := tailS_head hd hu
  rw [hv]; rfl
theorem tail_pos {D : Ch} {f : Nat} {p x : Int} (h : endsS D (f + 1) p x ≠ 0) : tailS D f p x 0 ≠ [] := by
  rw [← words_succ]
  obtain ⟨u, us, hu⟩ := words_some h
  rw [hu]; simp
end Go.Proofs.Ytdekplfjnkbidaa
