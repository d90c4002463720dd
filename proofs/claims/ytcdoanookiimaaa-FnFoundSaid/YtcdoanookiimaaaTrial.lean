/- Walks: the reference's next checked word. -/
import Derived.Test.YtcdoanookiimaaaDigA
import Derived.Test.YtcdoanookiimaaaSAt
import Derived.Test.YtcdoanookiimaaaRgM
import Derived.Test.YtcdoanookiimaaaStrs
import Derived.Test.YtcdoanookiimaaaRgG
namespace Go.Proofs.Ytcdoanookiimaaa
set_option maxRecDepth 100000
open Go.RowKit

set_option maxHeartbeats 400000 in
theorem spec_l10Least (x y : Nat) (w : World) : Calls Try.prog 208 #[.int .i64 x, .int .i64 y] w (Same (.int .i64 ((min x y : Nat) : Int)) w) := by
  by_cases h : x < y
  · go_enter Try.func208, Try.ntmps208
    go_wp2
    go_ret
    exact ⟨ri (by omega), rfl⟩
  · go_enter Try.func208, Try.ntmps208
    go_wp2
    go_ret
    exact ⟨ri (by omega), rfl⟩
/-- what comes behind a word; ahead of all stands the empty one -/
def nextL (D : Ch) (s : ByteArray) : List (List Int) := if s.size = 0 then wordsS D D.places.length 0 D.start else afterS D D.places.length 0 D.start (digC s)
def nextT (D : Ch) (s : ByteArray) : ByteArray := match nextL D s with | [] => .empty | u :: _ => textOf u
/-- the rest of the first word -/
def restW (D : Ch) (n k : Nat) (x : Int) : List Int := hdS (wordsS D (n - k) (k : Int) x)
theorem hd_words {D : Ch} {f : Nat} {p x : Int} : wordsS D (f + 1) p x = tailS D f p x 0 := words_succ D f p x
theorem digC_empty : digC .empty = [] := rfl
theorem digs_emp {s : ByteArray} (h : s.size = 0) : digC s = [] := List.eq_nil_of_length_eq_zero (by rw [digC_len]; exact h)
/-- what is left to look at, from place i down -/
def BackS (D : Ch) (n : Nat) (s : ByteArray) (i : Nat) : Prop :=
  (s.size = 0 → i = 0 → nextL D s = []) ∧ (s.size ≠ 0 → afterS D (n - i) (i : Int) (runS D 0 D.start ((digC s).take i)) ((digC s).drop i) = [])
/-- the symbols with which the search starts at place i -/
def startD (s : ByteArray) (i : Nat) : Nat := if s.size = 0 then 0 else (gi (digC s) i).toNat + 1
theorem back_at {D : Ch} {n i : Nat} {s : ByteArray} (hn : D.places.length = n) (hi : i < n) (hs : s.size ≠ 0 → s.size = n) (h0 : s.size = 0 → i = 0) (h : BackS D n s (i + 1)) :
    tailS D (n - i - 1) (i : Int) (runS D 0 D.start ((digC s).take i)) (startD s i) = [] → BackS D n s i := by
  intro ht
  refine ⟨fun e _ => ?_, fun e => ?_⟩
  · obtain rfl := h0 e
    rw [nextL, if_pos e, hn, show n = (n - 0 - 1) + 1 by omega, words_succ]
    rw [startD, if_pos e, digs_emp e] at ht
    exact ht
  · have h2 := h.2 e
    have hl : (digC s).length = n := by rw [digC_len, hs e]
    have := after_up (D := D) (f := n) (k := i) (p := 0) (x := D.start) (ds := digC s) hl hi (by rw [show (0 : Int) + ((i + 1 : Nat) : Int) = ((i + 1 : Nat) : Int) by omega]; exact h2)
    rw [show (0 : Int) + (i : Int) = i by omega, show n - (i + 1) = n - i - 1 by omega] at this
    rw [this]
    rw [startD, if_neg e] at ht
    exact ht
theorem back_found {D : Ch} {n i : Nat} {s : ByteArray} {u : List Int} {us : List (List Int)} (hn : D.places.length = n) (hi : i < n) (hs : s.size ≠ 0 → s.size = n) (h0 : s.size = 0 → i = 0) (h : BackS D n s (i + 1))
    (ht : tailS D (n - i - 1) (i : Int) (runS D 0 D.start ((digC s).take i)) (startD s i) = u :: us) : ∃ vs, nextL D s = ((digC s).take i ++ u) :: vs := by
  by_cases e : s.size = 0
  · obtain rfl := h0 e
    rw [startD, if_pos e, digs_emp e] at ht
    refine ⟨us, ?_⟩
    rw [nextL, if_pos e, hn, show n = (n - 0 - 1) + 1 by omega, words_succ, digs_emp e]
    exact ht
  · have h2 := h.2 e
    have hl : (digC s).length = n := by rw [digC_len, hs e]
    have h3 := after_up (D := D) (f := n) (k := i) (p := 0) (x := D.start) (ds := digC s) hl hi (by rw [show (0 : Int) + ((i + 1 : Nat) : Int) = ((i + 1 : Nat) : Int) by omega]; exact h2)
    rw [show (0 : Int) + (i : Int) = i by omega, show n - (i + 1) = n - i - 1 by omega] at h3
    rw [startD, if_neg e] at ht
    obtain ⟨vs, hv⟩ := after_head (D := D) i n 0 D.start (digC s) u us hl (by omega) (by rw [show (0 : Int) + (i : Int) = i by omega, h3]; exact ht)
    exact ⟨vs, by rw [nextL, if_neg e, hn]; exact hv⟩
theorem back_end {D : Ch} {n : Nat} {s : ByteArray} (hn : D.places.length = n) (h : BackS D n s 0) : nextL D s = [] := by
  by_cases e : s.size = 0
  · exact h.1 e rfl
  · have := h.2 e
    rw [nextL, if_neg e, hn]
    simpa [runS] using this
theorem back_start {D : Ch} {n : Nat} {s : ByteArray} (hn : 1 ≤ n) : BackS D n s n := by
  refine ⟨fun _ h => by omega, fun _ => ?_⟩
  rw [Nat.sub_self]
  unfold afterS
  rfl
theorem tail_ne {D : Ch} {f : Nat} {p x : Int} {d : Nat} (hd : d < D.base.toNat) (h : endsS D f (p + 1) (nextS D p x (d : Int)) ≠ 0) : tailS D f p x d = hdS (tailS D f p x d) :: (tailS D f p x d).tail := by
  obtain ⟨u, us, hu⟩ := words_some h
  obtain ⟨vs, hv⟩ := tailS_head hd hu
  rw [hv]; rfl
theorem tail_pos {D : Ch} {f : Nat} {p x : Int} (h : endsS D (f + 1) p x ≠ 0) : tailS D f p x 0 ≠ [] := by
  rw [← words_succ]
  obtain ⟨u, us, hu⟩ := words_some h
  rw [hu]; simp
end Go.Proofs.Ytcdoanookiimaaa

/- Plain: the trial words of a registry. -/
namespace Go.Proofs.Ytcdoanookiimaaa
set_option maxRecDepth 100000
open Go.RowKit

theorem after_tail {D : Ch} {f : Nat} {p x : Int} (ih : ∀ (p x : Int) (r : Nat), r < (wordsS D f p x).length → afterS D f p x ((wordsS D f p x).getD r []) = (wordsS D f p x).drop (r + 1)) :
    ∀ (k d r : Nat), D.base.toNat - d = k → r < (tailS D f p x d).length → afterS D (f + 1) p x ((tailS D f p x d).getD r []) = (tailS D f p x d).drop (r + 1)
  | 0, d, r, hk, hr => by rw [tailS_end D f p x d (by omega)] at hr; simp at hr
  | k + 1, d, r, hk, hr => by
    have hd : d < D.base.toNat := by omega
    have hl := words_len D f (p + 1) (nextS D p x (d : Int))
    have hh := headS_len D f p x d
    by_cases h : (r : Int) < endsS D f (p + 1) (nextS D p x (d : Int))
    · rw [tail_get_lt hd h, afterS, Int.toNat_natCast, ih _ _ r (by omega), tailS_step D f p x d hd, List.drop_append_of_le_length (by omega)]
      unfold headS
      rw [List.map_drop]
    · have h' : endsS D f (p + 1) (nextS D p x (d : Int)) ≤ r := Int.not_lt.1 h
      have htl := tail_len (D := D) (f := f) (p := p) (x := x) hd
      rw [tail_get_ge hd h', after_tail ih k (d + 1) _ (by omega) (by omega), tailS_step D f p x d hd, List.drop_append, List.drop_of_length_le (show (headS D f p x d).length ≤ r + 1 by omega), List.nil_append]
      congr 1
      omega
theorem after_drop {D : Ch} : ∀ (f : Nat) (p x : Int) (r : Nat), r < (wordsS D f p x).length → afterS D f p x ((wordsS D f p x).getD r []) = (wordsS D f p x).drop (r + 1)
  | 0, p, x, r, hr => by
    unfold wordsS at hr ⊢
    by_cases e : x = D.fin
    · rw [if_pos e] at hr ⊢
      obtain rfl : r = 0 := by simpa using hr
      rfl
    · rw [if_neg e] at hr; simp at hr
  | f + 1, p, x, r, hr => by
    rw [words_succ] at hr ⊢
    exact after_tail (fun p x r h => after_drop f p x r h) _ 0 r rfl hr

theorem nextL_wordR {D : Ch} (hok : OkCh D) {k : Nat} (h : k ≤ (wordsA D).length) : nextL D (wordR D k) = (wordsA D).drop k := by
  cases k with
  | zero => rw [nextL, if_pos (by rfl)]; rfl
  | succ k =>
    obtain ⟨h1, h2, h3⟩ := wordsA_mem hok (getD_mem' (l := wordsA D) (d := []) (k := k) (by omega))
    have hp := hok.p1
    rw [nextL, if_neg (by show (textOf _).size ≠ 0; rw [textOf_size]; omega)]
    show afterS D _ 0 D.start (digC (textOf _)) = _
    rw [digC_text h3]
    exact after_drop _ _ _ k (by have : wordsS D D.places.length 0 D.start = wordsA D := rfl; rw [this]; omega)
theorem wordR_size {D : Ch} (hok : OkCh D) {k : Nat} (h : k ≤ (wordsA D).length) : (wordR D k).size ≠ 0 → (wordR D k).size = D.places.length ∧ DigC D (digC (wordR D k)) := by
  cases k with
  | zero => intro h; exact absurd rfl h
  | succ k =>
    intro _
    obtain ⟨h1, h2, h3⟩ := wordsA_mem hok (getD_mem' (l := wordsA D) (d := []) (k := k) (by omega))
    refine ⟨(textOf_size _).trans h1, ?_⟩
    show DigC D (digC (textOf _))
    rw [digC_text h3]; exact h2
theorem nextT_wordR {D : Ch} (hok : OkCh D) {k : Nat} (h : k < (wordsA D).length) : nextT D (wordR D k) = wordR D (k + 1) := by
  rw [nextT, nextL_wordR hok (by omega), List.drop_eq_getElem_cons h]
  show textOf _ = textOf _
  rw [List.getD_eq_getElem?_getD, List.getElem?_eq_getElem h]; rfl

/-- a word that is far enough from all issued ones -/
def freeB (R : Rg) (s : ByteArray) : Bool := R.issued.all fun v => !decide ((distS s v : Int) < R.apart)
/-- how many words are tried -/
def triesN (D : Ch) : Nat := min (wordsA D).length 2000
/-- the words that are tried -/
def trialL (D : Ch) : List ByteArray := (List.range (triesN D)).map fun k => wordR D (k + 1)
def trialO (R : Rg) : Option ByteArray := (trialL R.ch).find? (freeB R)
def trialT (R : Rg) : ByteArray := (trialO R).getD .empty
def trialB (R : Rg) : Bool := (trialO R).isSome
/-- none of the first k is free -/
def NoFree (R : Rg) (k : Nat) : Prop := ∀ j, j < k → freeB R (wordR R.ch (j + 1)) = false
theorem NoFree.step {R : Rg} {k : Nat} (h : NoFree R k) (hk : freeB R (wordR R.ch (k + 1)) = false) : NoFree R (k + 1) := fun j hj => by
  by_cases e : j < k
  · exact h j e
  · obtain rfl : j = k := by omega
    exact hk
theorem trial_none {R : Rg} (h : NoFree R (triesN R.ch)) : trialO R = none := by
  unfold trialO
  rw [List.find?_eq_none]
  intro s hs
  obtain ⟨k, hk, rfl⟩ := List.mem_map.1 hs
  rw [h k (List.mem_range.1 hk)]; simp
theorem trial_some {R : Rg} {k : Nat} (hk : k < triesN R.ch) (h : NoFree R k) (hf : freeB R (wordR R.ch (k + 1)) = true) : trialO R = some (wordR R.ch (k + 1)) := by
  unfold trialO
  rw [List.find?_eq_some_iff_getElem]
  refine ⟨hf, k, by simpa [trialL] using hk, by simp [trialL], fun j hj => ?_⟩
  simp only [trialL, List.getElem_map, List.getElem_range]
  rw [h j hj]; rfl
end Go.Proofs.Ytcdoanookiimaaa

/- Walks: the reference's next checked word: the walk. -/
namespace Go.Proofs.Ytcdoanookiimaaa
set_option maxRecDepth 100000
open Go.RowKit

set_option maxHeartbeats 16000000 in
theorem spec_l10Next (D : Ch) (q : Nat) (a : Option Addr) (n c : Nat) (a' : Option Addr) (n' c' : Nat) (ge : Option Addr) (gc : Nat) (s : ByteArray) (w : World) (hv : ChAt w q D a n c a' n' c') (hok : OkCh D)
    (hg : Mat w ge (n' + 1) gc (endsL D)) (hs : s.size ≠ 0 → s.size = n' ∧ DigC D (digC s)) :
    Calls Try.prog 170 #[.pointer (some ⟨q, 0, none⟩), .slice ge (n' + 1) gc, .string s] w (Ret2 (.string (nextT D s)) (.bool (!(nextL D s).isEmpty)) w) := by
  have HP := Lib.hid hv.ps.len
  have HV := Lib.hid hv
  have HOK := Lib.hid hok
  have HG := Lib.hid hg
  have HSn := Lib.hid hs
  obtain ⟨k0, k1, k2, k3, k4, k5, _, _⟩ := hv
  have p20 := hok.p20
  have p1 := hok.p1
  rw [HP.out] at p20 p1
  have b36 := hok.b36
  have b2 := hok.b2
  have s36 := hok.s36
  have hsz : s.size ≤ 20 := by
    by_cases e : s.size = 0
    · omega
    · have := (hs e).1; omega
  have HDg := Lib.hid (show DigC D (digC s) from by
    by_cases e : s.size = 0
    · rw [digs_emp e]; intro d hd; cases hd
    · exact (hs e).2)
  have HDl := Lib.hid (digC_len s)
  have HBs := Lib.hid (back_start (D := D) (n := n') (s := s) p1)
  have hst := hok.st0
  have hst1 := hok.st1
  have HE := Lib.hid (show s.toList = [] ↔ s.size = 0 by
    rw [ByteArray.toList_eq]
    constructor
    · intro h; have := congrArg List.length h; simpa using this
    · intro h; exact List.eq_nil_of_length_eq_zero (by simpa using h))
  clear hg hok hs
  go_enter Try.func170, Try.ntmps170
  go_wp2_with fail
  refine (spec_digits s _ (by omega)).mono ?_
  rintro e w1 ⟨ad, cd, rfl, hod, hx1⟩
  rw [I_len] at hod ⊢
  have hdd : (digs s.data.toList) = digC s := rfl
  rw [hdd] at hod ⊢
  rw [HDl.out] at hod ⊢
  obtain ⟨m, hm⟩ : ∃ m, m = s.size := ⟨_, rfl⟩
  rw [← hm] at hod hsz ⊢
  have Hhm := Lib.hid hm; clear hm
  have HD1 := Lib.hid hod
  have hxw1 : Ext w w1 := hx1
  clear hod
  go_wp2
  go_loopw [10, 11, 12, 13, 14, 15] (fun iv _ _ _ _ _ wr => ∃ (i0 : Nat) (z : Int), i0 ≤ n' ∧ z + 1 = i0 ∧ iv = .int .i64 z ∧ BackS D n' s i0 ∧ Ext w1 wr) (fun iv _ _ _ _ _ _ => (intOf iv + 1).toNat)
  case atStart => exact ⟨n', (n' : Int) - 1, Nat.le_refl _, by omega, rfl, HBs.out, (by repeat (first | (with_reducible exact Ext.refl _) | (with_reducible refine Ext.drewN ?_ _) | (with_reducible refine Ext.drew ?_) | (with_reducible refine Ext.alloc ?_ _) | ((with_reducible refine Ext.setCell ?_ ?_ _); rotate_left; focus (first | (simp; done) | (simp; omega) | omega)) | assumption | (with_reducible refine Ext.trans ?_ (by assumption))))⟩
  case round =>
    obtain ⟨i0, z, hi0, hz, rfl, hbk, hx⟩ := hrel
    have hxr : Ext w1 wr := hx
    have Hhbk := Lib.hid hbk; clear hbk
    by_cases hz0 : 0 ≤ z
    · obtain ⟨i, rfl⟩ := Int.eq_ofNat_of_zero_le hz0
      obtain rfl : i0 = i + 1 := by omega
      have hin : i < n' := by omega
      have Hd1i := Lib.hid HD1.out
      clear hz hz0 hi0
      by_cases hs0 : s.toList = []
      · have Hs0 := Lib.hid (HE.out.1 hs0)
        have hem : s.toList.isEmpty = true := by rw [hs0]; rfl
        by_cases hi1 : 0 < i
        · have HBn := Lib.hid (show BackS D n' s i from ⟨fun _ h => by omega, fun h => absurd Hs0.out h⟩)
          go_wp2
          exact ⟨⟨i, (i : Int) - 1, by omega, by omega, rfl, HBn.out, hx⟩, by simp [intOf]⟩
        · have Hi0 := Lib.hid (show i = 0 by omega)
          have H0i := Lib.hid (show s.size = 0 → i = 0 from fun _ => Hi0.out)
          have hils : i ≤ m := by omega
          have hpre := Hd1i.out.ints.pre (P := Try.prog) 25 2 und_int64s cell_int64 elem_int64s i hils
          obtain ⟨a9, hsl, hpre⟩ := hpre
          have HPre := Lib.hid hpre
          have HRun := Lib.hid (fun W h => spec_run D q a n c a' n' c' 0 D.start a9 i cd ((digC s).take i) W (HV.out.ext (hxw1.trans h)) HOK.out (by omega) hst hst1 (Ints.ext hpre h) (HDg.out.take i) (by rw [HP.out]; omega))
          obtain ⟨x0, x1⟩ := runS_bd HOK.out ((digC s).take i) 0 D.start (HDg.out.take i) (by omega) (by rw [List.length_take, HP.out]; omega) hst hst1
          have HBf := Lib.hid (fun u us => back_found (D := D) (n := n') (i := i) (s := s) (u := u) (us := us) HP.out hin (fun e => (HSn.out e).1) H0i.out Hhbk.out)
          have HBa := Lib.hid (back_at (D := D) (n := n') (i := i) (s := s) HP.out hin (fun e => (HSn.out e).1) H0i.out Hhbk.out)
          have hsd : (startD s i : Int) ≤ D.base := by
            unfold startD
            split
            · omega
            · rename_i hne
              have := HDg.out.at (k := i) (by rw [HDl.out, (HSn.out hne).1]; exact hin)
              omega
          generalize runS D 0 D.start ((digC s).take i) = x at *
          have hmin : min i m = i := Nat.min_eq_left hils
          have HLe := Lib.hid (fun W => spec_l10Least i m W)
          rw [hmin] at HLe
          clear hpre
          go_wp2
          (refine wp_region_from w1 (by repeat (first | (with_reducible exact Ext.refl _) | (with_reducible refine Ext.drewN ?_ _) | (with_reducible refine Ext.drew ?_) | (with_reducible refine Ext.alloc ?_ _) | ((with_reducible refine Ext.setCell ?_ ?_ _); rotate_left; focus (first | (simp; done) | (simp; omega) | omega)) | assumption | (with_reducible refine Ext.trans ?_ (by assumption)))) (by kernel_rfl) (by kernel_rfl) (seqB_of (by kernel_rfl)) ?_; (repeat (first | (refine mix_q rfl ?_; go_big_quiet_step (fail); refine wpQuiet_nil ?_; show wpMix _ _ _ _ _ _ _) | (refine mix_s rfl ?_; go_wp2_with (first | (go_at_call 208; (with_reducible refine (HLe.out _).mono ?_); rintro e w2 ⟨rfl, rfl⟩) | (go_at_call 150; (with_reducible refine (HRun.out _ (by repeat (first | (with_reducible exact Ext.refl _) | (with_reducible refine Ext.drewN ?_ _) | (with_reducible refine Ext.drew ?_) | (with_reducible refine Ext.alloc ?_ _) | ((with_reducible refine Ext.setCell ?_ ?_ _); rotate_left; focus (first | (simp; done) | (simp; omega) | omega)) | assumption | (with_reducible refine Ext.trans ?_ (by assumption))))).mono ?_); rintro e w3 ⟨rfl, hy3⟩; have hxw3 : Ext w1 w3 := Ext.trans (by repeat (first | (with_reducible exact Ext.refl _) | (with_reducible refine Ext.drewN ?_ _) | (with_reducible refine Ext.drew ?_) | (with_reducible refine Ext.alloc ?_ _) | ((with_reducible refine Ext.setCell ?_ ?_ _); rotate_left; focus (first | (simp; done) | (simp; omega) | omega)) | assumption | (with_reducible refine Ext.trans ?_ (by assumption)))) hy3; have hz3 := hy3; clear hy3)); first | refine ⟨up_of (by repeat (first | (with_reducible exact Ext.refl _) | (with_reducible refine Ext.drewN ?_ _) | (with_reducible refine Ext.drew ?_) | (with_reducible refine Ext.alloc ?_ _) | ((with_reducible refine Ext.setCell ?_ ?_ _); rotate_left; focus (first | (simp; done) | (simp; omega) | omega)) | assumption | (with_reducible refine Ext.trans ?_ (by assumption)))), ?_⟩ | refine ⟨rfl, rfl, up_of (by repeat (first | (with_reducible exact Ext.refl _) | (with_reducible refine Ext.drewN ?_ _) | (with_reducible refine Ext.drew ?_) | (with_reducible refine Ext.alloc ?_ _) | ((with_reducible refine Ext.setCell ?_ ?_ _); rotate_left; focus (first | (simp; done) | (simp; omega) | omega)) | assumption | (with_reducible refine Ext.trans ?_ (by assumption)))), ?_⟩))); refine mix_nil ?_)
          skip
          go_wp2
          obtain ⟨T, hT⟩ : ∃ T, T = tailS D (n' - i - 1) (i : Int) x (startD s i) := ⟨_, rfl⟩
          rw [← hT] at HBf HBa
          go_loopw [12] (fun dv wr => ∃ d : Nat, (d : Int) ≤ D.base ∧ dv = .int .i64 d ∧ Hid (tailS D (n' - i - 1) (i : Int) x d = T) ∧ Ext w1 wr) (fun dv _ => (D.base - intOf dv).toNat)
          case atStart => exact ⟨startD s i, hsd, (by rw [show startD s i = 0 by rw [startD, if_pos Hs0.out]]; rfl), Lib.hid hT.symm, (by repeat (first | (with_reducible exact Ext.refl _) | (with_reducible refine Ext.drewN ?_ _) | (with_reducible refine Ext.drew ?_) | (with_reducible refine Ext.alloc ?_ _) | ((with_reducible refine Ext.setCell ?_ ?_ _); rotate_left; focus (first | (simp; done) | (simp; omega) | omega)) | assumption | (with_reducible refine Ext.trans ?_ (by assumption))))⟩
          case round =>
            obtain ⟨d, hd, rfl, HT, hx⟩ := hrel
            have hxr : Ext w1 wr := hx
            have hxq : Ext w wr := hxw1.trans hx
            by_cases hdb : (d : Int) < D.base
            · have hdec : decide ((d : Int) < D.base) = true := by simpa using hdb
              have hne : ((d : Int) == D.base) = false := by simp; omega
              obtain ⟨y0, y1⟩ := HOK.out.next (p := (i : Int)) (x := x) (d := (d : Int)) (by omega) (by have := HP.out; omega) x0 x1 (by omega) hdb
              have HNx := Lib.hid (fun U (h : Ext w U) => spec_next D q a n c a' n' c' (i : Int) x (d : Int) U (HV.out.ext h) HOK.out (by omega) (by have := HP.out; omega) x0 x1 (by omega) hdb)
              obtain ⟨bb, oo, a1, n1, c1, b2', o2, ⟨g1, g2⟩, ⟨g3, g4⟩⟩ := endsL_at (HG.out.ext hxw1) HP.out 88 und_rows ((i : Int) + 1) (nextS D (i : Int) x (d : Int)) (by omega) (by omega) y0 y1
              rw [show n' - ((i : Int) + 1).toNat = n' - i - 1 by omega] at g4
              by_cases hz : endsS D (n' - i - 1) ((i : Int) + 1) (nextS D (i : Int) x (d : Int)) = 0
              · have HT2 := Lib.hid ((tailS_skip (by omega) hz).symm.trans HT.out)
                rw [hz] at g4
                clear hz
                generalize nextS D (i : Int) x (d : Int) = y at *
                go_wp2
                (refine wp_region_from w1 (by repeat (first | (with_reducible exact Ext.refl _) | (with_reducible refine Ext.drewN ?_ _) | (with_reducible refine Ext.drew ?_) | (with_reducible refine Ext.alloc ?_ _) | ((with_reducible refine Ext.setCell ?_ ?_ _); rotate_left; focus (first | (simp; done) | (simp; omega) | omega)) | assumption | (with_reducible refine Ext.trans ?_ (by assumption)))) (by kernel_rfl) (by kernel_rfl) (seqB_of (by kernel_rfl)) ?_; (repeat (first | (refine mix_q rfl ?_; go_big_quiet_step (fail); refine wpQuiet_nil ?_; show wpMix _ _ _ _ _ _ _) | (refine mix_s rfl ?_; go_wp2_with (((with_reducible refine (HNx.out _ (hxw1.trans (by repeat (first | (with_reducible exact Ext.refl _) | (with_reducible refine Ext.drewN ?_ _) | (with_reducible refine Ext.drew ?_) | (with_reducible refine Ext.alloc ?_ _) | ((with_reducible refine Ext.setCell ?_ ?_ _); rotate_left; focus (first | (simp; done) | (simp; omega) | omega)) | assumption | (with_reducible refine Ext.trans ?_ (by assumption)))))).mono ?_); rintro e w4 ⟨rfl, hy4⟩; have hxw4 : Ext w1 w4 := Ext.trans (by repeat (first | (with_reducible exact Ext.refl _) | (with_reducible refine Ext.drewN ?_ _) | (with_reducible refine Ext.drew ?_) | (with_reducible refine Ext.alloc ?_ _) | ((with_reducible refine Ext.setCell ?_ ?_ _); rotate_left; focus (first | (simp; done) | (simp; omega) | omega)) | assumption | (with_reducible refine Ext.trans ?_ (by assumption)))) hy4; have hz4 := hy4; clear hy4)); first | refine ⟨up_of (by repeat (first | (with_reducible exact Ext.refl _) | (with_reducible refine Ext.drewN ?_ _) | (with_reducible refine Ext.drew ?_) | (with_reducible refine Ext.alloc ?_ _) | ((with_reducible refine Ext.setCell ?_ ?_ _); rotate_left; focus (first | (simp; done) | (simp; omega) | omega)) | assumption | (with_reducible refine Ext.trans ?_ (by assumption)))), ?_⟩ | refine ⟨rfl, rfl, up_of (by repeat (first | (with_reducible exact Ext.refl _) | (with_reducible refine Ext.drewN ?_ _) | (with_reducible refine Ext.drew ?_) | (with_reducible refine Ext.alloc ?_ _) | ((with_reducible refine Ext.setCell ?_ ?_ _); rotate_left; focus (first | (simp; done) | (simp; omega) | omega)) | assumption | (with_reducible refine Ext.trans ?_ (by assumption)))), ?_⟩))); refine mix_nil ?_)
                go_wp2
                exact ⟨⟨d + 1, by omega, by go_num, HT2, (by repeat (first | (with_reducible exact Ext.refl _) | (with_reducible refine Ext.drewN ?_ _) | (with_reducible refine Ext.drew ?_) | (with_reducible refine Ext.alloc ?_ _) | ((with_reducible refine Ext.setCell ?_ ?_ _); rotate_left; focus (first | (simp; done) | (simp; omega) | omega)) | assumption | (with_reducible refine Ext.trans ?_ (by assumption))))⟩, by simp [intOf]; omega⟩
              · have hz2 : (endsS D (n' - i - 1) ((i : Int) + 1) (nextS D (i : Int) x (d : Int)) == 0) = false := by simpa using hz
                have HTn := Lib.hid (show T = hdS T :: T.tail by rw [← HT.out]; exact tail_ne (by omega) hz)
                have HTh := Lib.hid (show hdS T = (d : Int) :: hdS (wordsS D (n' - (i + 1)) (((i + 1 : Nat) : Int)) (nextS D (i : Int) x (d : Int))) by rw [← HT.out, hd_tail (by omega) hz, show n' - (i + 1) = n' - i - 1 by omega]; rfl)
                have HEn := Lib.hid (show endsS D (n' - (i + 1)) (((i + 1 : Nat) : Int)) (nextS D (i : Int) x (d : Int)) ≠ 0 by rw [show n' - (i + 1) = n' - i - 1 by omega]; exact hz)
                obtain ⟨vs, hvs⟩ := HBf.out _ _ HTn.out
                have HRes := Lib.hid hvs
                generalize nextS D (i : Int) x (d : Int) = y at *
                generalize endsS D (n' - i - 1) ((i : Int) + 1) y = ev at *
                clear hvs hz
                go_wp2
                (refine wp_region_from w1 (by repeat (first | (with_reducible exact Ext.refl _) | (with_reducible refine Ext.drewN ?_ _) | (with_reducible refine Ext.drew ?_) | (with_reducible refine Ext.alloc ?_ _) | ((with_reducible refine Ext.setCell ?_ ?_ _); rotate_left; focus (first | (simp; done) | (simp; omega) | omega)) | assumption | (with_reducible refine Ext.trans ?_ (by assumption)))) (by kernel_rfl) (by kernel_rfl) (seqB_of (by kernel_rfl)) ?_; (repeat (first | (refine mix_q rfl ?_; go_big_quiet_step (fail); refine wpQuiet_nil ?_; show wpMix _ _ _ _ _ _ _) | (refine mix_s rfl ?_; go_wp2_with (((with_reducible refine (HNx.out _ (hxw1.trans (by repeat (first | (with_reducible exact Ext.refl _) | (with_reducible refine Ext.drewN ?_ _) | (with_reducible refine Ext.drew ?_) | (with_reducible refine Ext.alloc ?_ _) | ((with_reducible refine Ext.setCell ?_ ?_ _); rotate_left; focus (first | (simp; done) | (simp; omega) | omega)) | assumption | (with_reducible refine Ext.trans ?_ (by assumption)))))).mono ?_); rintro e w4 ⟨rfl, hy4⟩; have hxw4 : Ext w1 w4 := Ext.trans (by repeat (first | (with_reducible exact Ext.refl _) | (with_reducible refine Ext.drewN ?_ _) | (with_reducible refine Ext.drew ?_) | (with_reducible refine Ext.alloc ?_ _) | ((with_reducible refine Ext.setCell ?_ ?_ _); rotate_left; focus (first | (simp; done) | (simp; omega) | omega)) | assumption | (with_reducible refine Ext.trans ?_ (by assumption)))) hy4; have hz4 := hy4; clear hy4)); first | refine ⟨up_of (by repeat (first | (with_reducible exact Ext.refl _) | (with_reducible refine Ext.drewN ?_ _) | (with_reducible refine Ext.drew ?_) | (with_reducible refine Ext.alloc ?_ _) | ((with_reducible refine Ext.setCell ?_ ?_ _); rotate_left; focus (first | (simp; done) | (simp; omega) | omega)) | assumption | (with_reducible refine Ext.trans ?_ (by assumption)))), ?_⟩ | refine ⟨rfl, rfl, up_of (by repeat (first | (with_reducible exact Ext.refl _) | (with_reducible refine Ext.drewN ?_ _) | (with_reducible refine Ext.drew ?_) | (with_reducible refine Ext.alloc ?_ _) | ((with_reducible refine Ext.setCell ?_ ?_ _); rotate_left; focus (first | (simp; done) | (simp; omega) | omega)) | assumption | (with_reducible refine Ext.trans ?_ (by assumption)))), ?_⟩))); refine mix_nil ?_)
                have hxq4 : Ext w w4 := hxw1.trans hxw4
                go_wp2_with ((with_reducible refine (HLe.out _).mono ?_); rintro e w5 ⟨rfl, rfl⟩)
                refine (spec_own a9 i cd ((digC s).take i) w4 (HPre.out.ext hxw4) (by omega)).mono ?_
                rintro e w6 ⟨a7, c7, rfl, ho7, hx7⟩
                have hli : (I ((digC s).take i)).length = i := by rw [I_len, List.length_take, HDl.out, ← Hhm.out, hmin]
                rw [hli] at ho7 ⊢
                have hxw6 : Ext w1 w6 := hxw4.trans hx7
                have HO7 := Lib.hid (ho7.mono (B' := w1.heap.size) hxw4.le)
                clear ho7 hli
                go_wp2_with (first | (at_builtin; refine law_append1 _ rfl _ _ 25 rfl 2 (.int .i64 0) 8 und_int64s info_int64 rfl w1.heap.size a7 i c7 _ _ rfl rfl rfl HO7.out hxw6.le (by omega) (by omega) ?_; intro a8 c8 wz hoz hbz hgz; have hxwz : Ext w1 wz := Ext.below hxw6 hbz) | ((with_reducible refine (HNx.out _ (hxw1.trans hxwz)).mono ?_); rintro e w8 ⟨rfl, hy8⟩))
                have HDd := Lib.hid (show DigC D [(d : Int)] from fun e he => by obtain rfl := List.mem_singleton.1 he; exact ⟨by omega, hdb⟩)
                clear g1 g2 g3 g4
                go_loopw [11, 13, 14, 15] (fun xv ov kv _ wr => ∃ (k : Nat) (x2 : Int) (ao : Option Addr) (co : Nat) (us : List Int), i < k ∧ k ≤ n' ∧ kv = .int .i64 k ∧ xv = .int .i64 x2 ∧ ov = .slice ao k co ∧ Own wr w1.heap.size 2 ao k co (I ((digC s).take i ++ us)) ∧ Hid (hdS T = us ++ hdS (wordsS D (n' - k) (k : Int) x2)) ∧ Hid (endsS D (n' - k) (k : Int) x2 ≠ 0) ∧ Hid (DigC D us) ∧ 0 ≤ x2 ∧ x2 < D.states ∧ Ext w1 wr) (fun _ _ kv _ _ => n' - (intOf kv).toNat)
                case atStart => exact ⟨i + 1, y, a8, c8, [(d : Int)], by omega, by omega, by go_num, rfl, rfl, by rw [I_append]; exact hoz.ext hy8, HTh, HEn, HDd, y0, y1, hxwz.trans hy8⟩
                case round =>
                  obtain ⟨k, x2, ao, co, us, hik, hk, rfl, rfl, rfl, ho, HH, HE2, HU, x20, x21, hx⟩ := hrel
                  have hxr : Ext w1 wr := hx
                  have hxq : Ext w wr := hxw1.trans hx
                  have HO := Lib.hid ho
                  clear ho
                  by_cases hkn : k < n'
                  · obtain ⟨T4, hT4⟩ : ∃ T4, T4 = tailS D (n' - k - 1) (k : Int) x2 0 := ⟨_, rfl⟩
                    have HW4 := Lib.hid (show wordsS D (n' - k) (k : Int) x2 = T4 by rw [hT4, show n' - k = (n' - k - 1) + 1 by omega, words_succ]; rfl)
                    have HN4 := Lib.hid (show T4 ≠ [] by obtain ⟨u, us', hu⟩ := words_some HE2.out; rw [← HW4.out, hu]; simp)
                    have HT4 := Lib.hid hT4
                    clear hT4
                    go_wp2
                    go_loopw [15] (fun ev wr => ∃ e : Nat, (e : Int) < D.base ∧ ev = .int .i64 e ∧ Hid (tailS D (n' - k - 1) (k : Int) x2 e = T4) ∧ Own wr w1.heap.size 2 ao k co (I ((digC s).take i ++ us)) ∧ Ext w1 wr) (fun ev _ => (D.base - intOf ev).toNat)
                    case atStart => exact ⟨0, by omega, rfl, Lib.hid HT4.out.symm, HO.out, hx⟩
                    case round =>
                      obtain ⟨e, heb, rfl, HTe, ho, hx⟩ := hrel
                      have hxr : Ext w1 wr := hx
                      have hxq : Ext w wr := hxw1.trans hx
                      have HOe := Lib.hid ho
                      clear ho
                      obtain ⟨v0, v1⟩ := HOK.out.next (p := (k : Int)) (x := x2) (d := (e : Int)) (by omega) (by have := HP.out; omega) x20 x21 (by omega) heb
                      have HNx2 := Lib.hid (fun U (h : Ext w U) => spec_next D q a n c a' n' c' (k : Int) x2 (e : Int) U (HV.out.ext h) HOK.out (by omega) (by have := HP.out; omega) x20 x21 (by omega) heb)
                      obtain ⟨bc, oc, a4, n4, c4, bd2, od2, ⟨g5, g6⟩, ⟨g7, g8⟩⟩ := endsL_at (HG.out.ext hxw1) HP.out 88 und_rows ((k : Int) + 1) (nextS D (k : Int) x2 (e : Int)) (by omega) (by omega) v0 v1
                      rw [show n' - ((k : Int) + 1).toNat = n' - k - 1 by omega] at g8
                      by_cases hz : endsS D (n' - k - 1) ((k : Int) + 1) (nextS D (k : Int) x2 (e : Int)) = 0
                      · have HT5 := Lib.hid ((tailS_skip (by omega) hz).symm.trans HTe.out)
                        have he1 : ((e + 1 : Nat) : Int) < D.base := by
                          have h1 : tailS D (n' - k - 1) (k : Int) x2 (e + 1) ≠ [] := by rw [HT5.out]; exact HN4.out
                          have := tail_ends h1
                          omega
                        rw [hz] at g8
                        clear hz
                        generalize nextS D (k : Int) x2 (e : Int) = v at *
                        go_wp2
                        (refine wp_region_from w1 (by repeat (first | (with_reducible exact Ext.refl _) | (with_reducible refine Ext.drewN ?_ _) | (with_reducible refine Ext.drew ?_) | (with_reducible refine Ext.alloc ?_ _) | ((with_reducible refine Ext.setCell ?_ ?_ _); rotate_left; focus (first | (simp; done) | (simp; omega) | omega)) | assumption | (with_reducible refine Ext.trans ?_ (by assumption)))) (by kernel_rfl) (by kernel_rfl) (seqB_of (by kernel_rfl)) ?_; (repeat (first | (refine mix_q rfl ?_; go_big_quiet_step (fail); refine wpQuiet_nil ?_; show wpMix _ _ _ _ _ _ _) | (refine mix_s rfl ?_; go_wp2_with (((with_reducible refine (HNx2.out _ (hxw1.trans (by repeat (first | (with_reducible exact Ext.refl _) | (with_reducible refine Ext.drewN ?_ _) | (with_reducible refine Ext.drew ?_) | (with_reducible refine Ext.alloc ?_ _) | ((with_reducible refine Ext.setCell ?_ ?_ _); rotate_left; focus (first | (simp; done) | (simp; omega) | omega)) | assumption | (with_reducible refine Ext.trans ?_ (by assumption)))))).mono ?_); rintro e w4 ⟨rfl, hy4⟩; have hxw4 : Ext w1 w4 := Ext.trans (by repeat (first | (with_reducible exact Ext.refl _) | (with_reducible refine Ext.drewN ?_ _) | (with_reducible refine Ext.drew ?_) | (with_reducible refine Ext.alloc ?_ _) | ((with_reducible refine Ext.setCell ?_ ?_ _); rotate_left; focus (first | (simp; done) | (simp; omega) | omega)) | assumption | (with_reducible refine Ext.trans ?_ (by assumption)))) hy4; have hz4 := hy4; clear hy4)); first | refine ⟨up_of (by repeat (first | (with_reducible exact Ext.refl _) | (with_reducible refine Ext.drewN ?_ _) | (with_reducible refine Ext.drew ?_) | (with_reducible refine Ext.alloc ?_ _) | ((with_reducible refine Ext.setCell ?_ ?_ _); rotate_left; focus (first | (simp; done) | (simp; omega) | omega)) | assumption | (with_reducible refine Ext.trans ?_ (by assumption)))), ?_⟩ | refine ⟨rfl, rfl, up_of (by repeat (first | (with_reducible exact Ext.refl _) | (with_reducible refine Ext.drewN ?_ _) | (with_reducible refine Ext.drew ?_) | (with_reducible refine Ext.alloc ?_ _) | ((with_reducible refine Ext.setCell ?_ ?_ _); rotate_left; focus (first | (simp; done) | (simp; omega) | omega)) | assumption | (with_reducible refine Ext.trans ?_ (by assumption)))), ?_⟩))); refine mix_nil ?_)
                        go_wp2
                        exact ⟨⟨e + 1, he1, by go_num, HT5, HOe.out.ext (show Ext wr _ from (by repeat (first | (with_reducible exact Ext.refl _) | (with_reducible refine Ext.drewN ?_ _) | (with_reducible refine Ext.drew ?_) | (with_reducible refine Ext.alloc ?_ _) | ((with_reducible refine Ext.setCell ?_ ?_ _); rotate_left; focus (first | (simp; done) | (simp; omega) | omega)) | assumption | (with_reducible refine Ext.trans ?_ (by assumption))))), (by repeat (first | (with_reducible exact Ext.refl _) | (with_reducible refine Ext.drewN ?_ _) | (with_reducible refine Ext.drew ?_) | (with_reducible refine Ext.alloc ?_ _) | ((with_reducible refine Ext.setCell ?_ ?_ _); rotate_left; focus (first | (simp; done) | (simp; omega) | omega)) | assumption | (with_reducible refine Ext.trans ?_ (by assumption))))⟩, by simp [intOf]; omega⟩
                      · have hz2 : (endsS D (n' - k - 1) ((k : Int) + 1) (nextS D (k : Int) x2 (e : Int)) == 0) = false := by simpa using hz
                        have HTh2 := Lib.hid (show hdS T = (us ++ [(e : Int)]) ++ hdS (wordsS D (n' - (k + 1)) (((k + 1 : Nat) : Int)) (nextS D (k : Int) x2 (e : Int))) by
                          rw [HH.out, HW4.out, ← HTe.out, hd_tail (by omega) hz, show n' - (k + 1) = n' - k - 1 by omega, List.append_assoc]; rfl)
                        have HEn2 := Lib.hid (show endsS D (n' - (k + 1)) (((k + 1 : Nat) : Int)) (nextS D (k : Int) x2 (e : Int)) ≠ 0 by rw [show n' - (k + 1) = n' - k - 1 by omega]; exact hz)
                        have HU2 := Lib.hid (show DigC D (us ++ [(e : Int)]) from fun d hd => by
                          rcases List.mem_append.1 hd with h | h
                          · exact HU.out d h
                          · obtain rfl := List.mem_singleton.1 h; exact ⟨by omega, heb⟩)
                        generalize nextS D (k : Int) x2 (e : Int) = v at *
                        generalize endsS D (n' - k - 1) ((k : Int) + 1) v = ev at *
                        clear hz
                        go_wp2
                        (refine wp_region_from w1 (by repeat (first | (with_reducible exact Ext.refl _) | (with_reducible refine Ext.drewN ?_ _) | (with_reducible refine Ext.drew ?_) | (with_reducible refine Ext.alloc ?_ _) | ((with_reducible refine Ext.setCell ?_ ?_ _); rotate_left; focus (first | (simp; done) | (simp; omega) | omega)) | assumption | (with_reducible refine Ext.trans ?_ (by assumption)))) (by kernel_rfl) (by kernel_rfl) (seqB_of (by kernel_rfl)) ?_; (repeat (first | (refine mix_q rfl ?_; go_big_quiet_step (fail); refine wpQuiet_nil ?_; show wpMix _ _ _ _ _ _ _) | (refine mix_s rfl ?_; go_wp2_with (((with_reducible refine (HNx2.out _ (hxw1.trans (by repeat (first | (with_reducible exact Ext.refl _) | (with_reducible refine Ext.drewN ?_ _) | (with_reducible refine Ext.drew ?_) | (with_reducible refine Ext.alloc ?_ _) | ((with_reducible refine Ext.setCell ?_ ?_ _); rotate_left; focus (first | (simp; done) | (simp; omega) | omega)) | assumption | (with_reducible refine Ext.trans ?_ (by assumption)))))).mono ?_); rintro e w4 ⟨rfl, hy4⟩; have hxw4 : Ext w1 w4 := Ext.trans (by repeat (first | (with_reducible exact Ext.refl _) | (with_reducible refine Ext.drewN ?_ _) | (with_reducible refine Ext.drew ?_) | (with_reducible refine Ext.alloc ?_ _) | ((with_reducible refine Ext.setCell ?_ ?_ _); rotate_left; focus (first | (simp; done) | (simp; omega) | omega)) | assumption | (with_reducible refine Ext.trans ?_ (by assumption)))) hy4; have hz4 := hy4; clear hy4)); first | refine ⟨up_of (by repeat (first | (with_reducible exact Ext.refl _) | (with_reducible refine Ext.drewN ?_ _) | (with_reducible refine Ext.drew ?_) | (with_reducible refine Ext.alloc ?_ _) | ((with_reducible refine Ext.setCell ?_ ?_ _); rotate_left; focus (first | (simp; done) | (simp; omega) | omega)) | assumption | (with_reducible refine Ext.trans ?_ (by assumption)))), ?_⟩ | refine ⟨rfl, rfl, up_of (by repeat (first | (with_reducible exact Ext.refl _) | (with_reducible refine Ext.drewN ?_ _) | (with_reducible refine Ext.drew ?_) | (with_reducible refine Ext.alloc ?_ _) | ((with_reducible refine Ext.setCell ?_ ?_ _); rotate_left; focus (first | (simp; done) | (simp; omega) | omega)) | assumption | (with_reducible refine Ext.trans ?_ (by assumption)))), ?_⟩))); refine mix_nil ?_)
                        have HO4 := Lib.hid (HOe.out.ext (show Ext wr w4 from (by repeat (first | (with_reducible exact Ext.refl _) | (with_reducible refine Ext.drewN ?_ _) | (with_reducible refine Ext.drew ?_) | (with_reducible refine Ext.alloc ?_ _) | ((with_reducible refine Ext.setCell ?_ ?_ _); rotate_left; focus (first | (simp; done) | (simp; omega) | omega)) | assumption | (with_reducible refine Ext.trans ?_ (by assumption))))))
                        go_wp2_with (first | (at_builtin; refine law_append1 _ rfl _ _ 25 rfl 2 (.int .i64 0) 8 und_int64s info_int64 rfl w1.heap.size ao k co _ _ rfl rfl rfl HO4.out hxw4.le (by omega) (by omega) ?_; intro a8 c8 wz hoz hbz hgz; have hxwz : Ext w1 wz := Ext.below hxw4 hbz) | ((with_reducible refine (HNx2.out _ (hxw1.trans hxwz)).mono ?_); rintro e w8 ⟨rfl, hy8⟩))
                        exact ⟨⟨k + 1, v, a8, c8, us ++ [(e : Int)], by omega, by omega, by go_num, rfl, rfl, by rw [← List.append_assoc, I_append]; exact hoz.ext hy8, HTh2, HEn2, HU2, v0, v1, hxwz.trans hy8⟩, by simp [intOf]; omega⟩
                  · obtain rfl : k = n' := by omega
                    have HTu := Lib.hid (show hdS T = us by
                      have h1 := HH.out
                      have h2 := HE2.out
                      rw [Nat.sub_self] at h1 h2
                      unfold endsS at h2
                      unfold wordsS at h1
                      by_cases e : x2 = D.fin
                      · rw [if_pos e] at h1; simpa [hdS] using h1
                      · rw [if_neg e] at h2; exact absurd rfl h2)
                    have HRn := Lib.hid (show nextL D s = ((digC s).take i ++ us) :: vs by rw [HRes.out, HTu.out])
                    have HRt := Lib.hid (show nextT D s = textOf ((digC s).take i ++ us) by rw [nextT, HRn.out])
                    have HFr := Lib.hid (spec_from ao k co ((digC s).take i ++ us) wr HO.out.ints (dig36_of b36 (fun d hd => by
                      rcases List.mem_append.1 hd with h | h
                      · exact HDg.out.take i d h
                      · exact HU.out d h)) (by omega))
                    go_wp2_with ((with_reducible refine HFr.out.mono ?_); rintro e w9 ⟨rfl, hy9⟩)
                    go_ret2
                    exact ⟨by rw [HRt.out, HRn.out]; rfl, (hxw1.trans hx).trans hy9⟩
            · have hbd : (d : Int) = D.base := by omega
              have hdec : decide ((d : Int) < D.base) = false := by simpa using hdb
              have heq : ((d : Int) == D.base) = true := by simpa using hbd
              have HB2 := Lib.hid (HBa.out (by rw [← HT.out]; exact tailS_end _ _ _ _ _ (by omega)))
              clear hbd
              go_wp2
              (refine wp_region_from w1 (by repeat (first | (with_reducible exact Ext.refl _) | (with_reducible refine Ext.drewN ?_ _) | (with_reducible refine Ext.drew ?_) | (with_reducible refine Ext.alloc ?_ _) | ((with_reducible refine Ext.setCell ?_ ?_ _); rotate_left; focus (first | (simp; done) | (simp; omega) | omega)) | assumption | (with_reducible refine Ext.trans ?_ (by assumption)))) (by kernel_rfl) (by kernel_rfl) (seqB_of (by kernel_rfl)) ?_; (repeat (first | (refine mix_q rfl ?_; go_big_quiet_step (fail); refine wpQuiet_nil ?_; show wpMix _ _ _ _ _ _ _) | (refine mix_s rfl ?_; go_wp2_with (fail); first | refine ⟨up_of (by repeat (first | (with_reducible exact Ext.refl _) | (with_reducible refine Ext.drewN ?_ _) | (with_reducible refine Ext.drew ?_) | (with_reducible refine Ext.alloc ?_ _) | ((with_reducible refine Ext.setCell ?_ ?_ _); rotate_left; focus (first | (simp; done) | (simp; omega) | omega)) | assumption | (with_reducible refine Ext.trans ?_ (by assumption)))), ?_⟩ | refine ⟨rfl, rfl, up_of (by repeat (first | (with_reducible exact Ext.refl _) | (with_reducible refine Ext.drewN ?_ _) | (with_reducible refine Ext.drew ?_) | (with_reducible refine Ext.alloc ?_ _) | ((with_reducible refine Ext.setCell ?_ ?_ _); rotate_left; focus (first | (simp; done) | (simp; omega) | omega)) | assumption | (with_reducible refine Ext.trans ?_ (by assumption)))), ?_⟩))); refine mix_nil ?_)
              go_wp2
              exact ⟨⟨i, (i : Int) - 1, by omega, by omega, rfl, HB2.out, (by repeat (first | (with_reducible exact Ext.refl _) | (with_reducible refine Ext.drewN ?_ _) | (with_reducible refine Ext.drew ?_) | (with_reducible refine Ext.alloc ?_ _) | ((with_reducible refine Ext.setCell ?_ ?_ _); rotate_left; focus (first | (simp; done) | (simp; omega) | omega)) | assumption | (with_reducible refine Ext.trans ?_ (by assumption))))⟩, by simp [intOf]⟩
      · have Hs0 := Lib.hid (fun h => hs0 (HE.out.2 h))
        have hem : s.toList.isEmpty = false := by simpa using hs0
        have H0i := Lib.hid (show s.size = 0 → i = 0 from fun h => absurd h Hs0.out)
        have hmn : m = n' := by rw [Hhm.out]; exact (HSn.out Hs0.out).1
        have hils : i ≤ m := by omega
        have him : i < m := by omega
        clear hmn
        have hpre := Hd1i.out.ints.pre (P := Try.prog) 25 2 und_int64s cell_int64 elem_int64s i hils
        obtain ⟨a9, hsl, hpre⟩ := hpre
        have HPre := Lib.hid hpre
        have HRun := Lib.hid (fun W h => spec_run D q a n c a' n' c' 0 D.start a9 i cd ((digC s).take i) W (HV.out.ext (hxw1.trans h)) HOK.out (by omega) hst hst1 (Ints.ext hpre h) (HDg.out.take i) (by rw [HP.out]; omega))
        obtain ⟨x0, x1⟩ := runS_bd HOK.out ((digC s).take i) 0 D.start (HDg.out.take i) (by omega) (by rw [List.length_take, HP.out]; omega) hst hst1
        have HBf := Lib.hid (fun u us => back_found (D := D) (n := n') (i := i) (s := s) (u := u) (us := us) HP.out hin (fun e => (HSn.out e).1) H0i.out Hhbk.out)
        have HBa := Lib.hid (back_at (D := D) (n := n') (i := i) (s := s) HP.out hin (fun e => (HSn.out e).1) H0i.out Hhbk.out)
        have hsd : (startD s i : Int) ≤ D.base := by
          unfold startD
          split
          · omega
          · rename_i hne
            have := HDg.out.at (k := i) (by rw [HDl.out, (HSn.out hne).1]; exact hin)
            omega
        generalize runS D 0 D.start ((digC s).take i) = x at *
        have hmin : min i m = i := Nat.min_eq_left hils
        have HLe := Lib.hid (fun W => spec_l10Least i m W)
        rw [hmin] at HLe
        clear hpre
        go_wp2
        (refine wp_region_from w1 (by repeat (first | (with_reducible exact Ext.refl _) | (with_reducible refine Ext.drewN ?_ _) | (with_reducible refine Ext.drew ?_) | (with_reducible refine Ext.alloc ?_ _) | ((with_reducible refine Ext.setCell ?_ ?_ _); rotate_left; focus (first | (simp; done) | (simp; omega) | omega)) | assumption | (with_reducible refine Ext.trans ?_ (by assumption)))) (by kernel_rfl) (by kernel_rfl) (seqB_of (by kernel_rfl)) ?_; (repeat (first | (refine mix_q rfl ?_; go_big_quiet_step (fail); refine wpQuiet_nil ?_; show wpMix _ _ _ _ _ _ _) | (refine mix_s rfl ?_; go_wp2_with (first | (go_at_call 208; (with_reducible refine (HLe.out _).mono ?_); rintro e w2 ⟨rfl, rfl⟩) | (go_at_call 150; (with_reducible refine (HRun.out _ (by repeat (first | (with_reducible exact Ext.refl _) | (with_reducible refine Ext.drewN ?_ _) | (with_reducible refine Ext.drew ?_) | (with_reducible refine Ext.alloc ?_ _) | ((with_reducible refine Ext.setCell ?_ ?_ _); rotate_left; focus (first | (simp; done) | (simp; omega) | omega)) | assumption | (with_reducible refine Ext.trans ?_ (by assumption))))).mono ?_); rintro e w3 ⟨rfl, hy3⟩; have hxw3 : Ext w1 w3 := Ext.trans (by repeat (first | (with_reducible exact Ext.refl _) | (with_reducible refine Ext.drewN ?_ _) | (with_reducible refine Ext.drew ?_) | (with_reducible refine Ext.alloc ?_ _) | ((with_reducible refine Ext.setCell ?_ ?_ _); rotate_left; focus (first | (simp; done) | (simp; omega) | omega)) | assumption | (with_reducible refine Ext.trans ?_ (by assumption)))) hy3; have hz3 := hy3; clear hy3)); first | refine ⟨up_of (by repeat (first | (with_reducible exact Ext.refl _) | (with_reducible refine Ext.drewN ?_ _) | (with_reducible refine Ext.drew ?_) | (with_reducible refine Ext.alloc ?_ _) | ((with_reducible refine Ext.setCell ?_ ?_ _); rotate_left; focus (first | (simp; done) | (simp; omega) | omega)) | assumption | (with_reducible refine Ext.trans ?_ (by assumption)))), ?_⟩ | refine ⟨rfl, rfl, up_of (by repeat (first | (with_reducible exact Ext.refl _) | (with_reducible refine Ext.drewN ?_ _) | (with_reducible refine Ext.drew ?_) | (with_reducible refine Ext.alloc ?_ _) | ((with_reducible refine Ext.setCell ?_ ?_ _); rotate_left; focus (first | (simp; done) | (simp; omega) | omega)) | assumption | (with_reducible refine Ext.trans ?_ (by assumption)))), ?_⟩))); refine mix_nil ?_)
        obtain ⟨bd, od, dix, dcell⟩ := Hd1i.out.ints.ix (P := Try.prog) 25 2 und_int64s cell_int64
        obtain ⟨d0, d1⟩ := HDg.out.at (k := i) (by rw [HDl.out, ← Hhm.out]; exact him)
        go_wp2
        obtain ⟨T, hT⟩ : ∃ T, T = tailS D (n' - i - 1) (i : Int) x (startD s i) := ⟨_, rfl⟩
        rw [← hT] at HBf HBa
        go_loopw [12] (fun dv wr => ∃ d : Nat, (d : Int) ≤ D.base ∧ dv = .int .i64 d ∧ Hid (tailS D (n' - i - 1) (i : Int) x d = T) ∧ Ext w1 wr) (fun dv _ => (D.base - intOf dv).toNat)
        case atStart => exact ⟨startD s i, hsd, (by rw [show (startD s i : Int) = gi (digC s) i + 1 by rw [startD, if_neg Hs0.out]; omega]), Lib.hid hT.symm, (by repeat (first | (with_reducible exact Ext.refl _) | (with_reducible refine Ext.drewN ?_ _) | (with_reducible refine Ext.drew ?_) | (with_reducible refine Ext.alloc ?_ _) | ((with_reducible refine Ext.setCell ?_ ?_ _); rotate_left; focus (first | (simp; done) | (simp; omega) | omega)) | assumption | (with_reducible refine Ext.trans ?_ (by assumption))))⟩
        case round =>
          obtain ⟨d, hd, rfl, HT, hx⟩ := hrel
          have hxr : Ext w1 wr := hx
          have hxq : Ext w wr := hxw1.trans hx
          by_cases hdb : (d : Int) < D.base
          · have hdec : decide ((d : Int) < D.base) = true := by simpa using hdb
            have hne : ((d : Int) == D.base) = false := by simp; omega
            obtain ⟨y0, y1⟩ := HOK.out.next (p := (i : Int)) (x := x) (d := (d : Int)) (by omega) (by have := HP.out; omega) x0 x1 (by omega) hdb
            have HNx := Lib.hid (fun U (h : Ext w U) => spec_next D q a n c a' n' c' (i : Int) x (d : Int) U (HV.out.ext h) HOK.out (by omega) (by have := HP.out; omega) x0 x1 (by omega) hdb)
            obtain ⟨bb, oo, a1, n1, c1, b2', o2, ⟨g1, g2⟩, ⟨g3, g4⟩⟩ := endsL_at (HG.out.ext hxw1) HP.out 88 und_rows ((i : Int) + 1) (nextS D (i : Int) x (d : Int)) (by omega) (by omega) y0 y1
            rw [show n' - ((i : Int) + 1).toNat = n' - i - 1 by omega] at g4
            by_cases hz : endsS D (n' - i - 1) ((i : Int) + 1) (nextS D (i : Int) x (d : Int)) = 0
            · have HT2 := Lib.hid ((tailS_skip (by omega) hz).symm.trans HT.out)
              rw [hz] at g4
              clear hz
              generalize nextS D (i : Int) x (d : Int) = y at *
              go_wp2
              (refine wp_region_from w1 (by repeat (first | (with_reducible exact Ext.refl _) | (with_reducible refine Ext.drewN ?_ _) | (with_reducible refine Ext.drew ?_) | (with_reducible refine Ext.alloc ?_ _) | ((with_reducible refine Ext.setCell ?_ ?_ _); rotate_left; focus (first | (simp; done) | (simp; omega) | omega)) | assumption | (with_reducible refine Ext.trans ?_ (by assumption)))) (by kernel_rfl) (by kernel_rfl) (seqB_of (by kernel_rfl)) ?_; (repeat (first | (refine mix_q rfl ?_; go_big_quiet_step (fail); refine wpQuiet_nil ?_; show wpMix _ _ _ _ _ _ _) | (refine mix_s rfl ?_; go_wp2_with (((with_reducible refine (HNx.out _ (hxw1.trans (by repeat (first | (with_reducible exact Ext.refl _) | (with_reducible refine Ext.drewN ?_ _) | (with_reducible refine Ext.drew ?_) | (with_reducible refine Ext.alloc ?_ _) | ((with_reducible refine Ext.setCell ?_ ?_ _); rotate_left; focus (first | (simp; done) | (simp; omega) | omega)) | assumption | (with_reducible refine Ext.trans ?_ (by assumption)))))).mono ?_); rintro e w4 ⟨rfl, hy4⟩; have hxw4 : Ext w1 w4 := Ext.trans (by repeat (first | (with_reducible exact Ext.refl _) | (with_reducible refine Ext.drewN ?_ _) | (with_reducible refine Ext.drew ?_) | (with_reducible refine Ext.alloc ?_ _) | ((with_reducible refine Ext.setCell ?_ ?_ _); rotate_left; focus (first | (simp; done) | (simp; omega) | omega)) | assumption | (with_reducible refine Ext.trans ?_ (by assumption)))) hy4; have hz4 := hy4; clear hy4)); first | refine ⟨up_of (by repeat (first | (with_reducible exact Ext.refl _) | (with_reducible refine Ext.drewN ?_ _) | (with_reducible refine Ext.drew ?_) | (with_reducible refine Ext.alloc ?_ _) | ((with_reducible refine Ext.setCell ?_ ?_ _); rotate_left; focus (first | (simp; done) | (simp; omega) | omega)) | assumption | (with_reducible refine Ext.trans ?_ (by assumption)))), ?_⟩ | refine ⟨rfl, rfl, up_of (by repeat (first | (with_reducible exact Ext.refl _) | (with_reducible refine Ext.drewN ?_ _) | (with_reducible refine Ext.drew ?_) | (with_reducible refine Ext.alloc ?_ _) | ((with_reducible refine Ext.setCell ?_ ?_ _); rotate_left; focus (first | (simp; done) | (simp; omega) | omega)) | assumption | (with_reducible refine Ext.trans ?_ (by assumption)))), ?_⟩))); refine mix_nil ?_)
              go_wp2
              exact ⟨⟨d + 1, by omega, by go_num, HT2, (by repeat (first | (with_reducible exact Ext.refl _) | (with_reducible refine Ext.drewN ?_ _) | (with_reducible refine Ext.drew ?_) | (with_reducible refine Ext.alloc ?_ _) | ((with_reducible refine Ext.setCell ?_ ?_ _); rotate_left; focus (first | (simp; done) | (simp; omega) | omega)) | assumption | (with_reducible refine Ext.trans ?_ (by assumption))))⟩, by simp [intOf]; omega⟩
            · have hz2 : (endsS D (n' - i - 1) ((i : Int) + 1) (nextS D (i : Int) x (d : Int)) == 0) = false := by simpa using hz
              have HTn := Lib.hid (show T = hdS T :: T.tail by rw [← HT.out]; exact tail_ne (by omega) hz)
              have HTh := Lib.hid (show hdS T = (d : Int) :: hdS (wordsS D (n' - (i + 1)) (((i + 1 : Nat) : Int)) (nextS D (i : Int) x (d : Int))) by rw [← HT.out, hd_tail (by omega) hz, show n' - (i + 1) = n' - i - 1 by omega]; rfl)
              have HEn := Lib.hid (show endsS D (n' - (i + 1)) (((i + 1 : Nat) : Int)) (nextS D (i : Int) x (d : Int)) ≠ 0 by rw [show n' - (i + 1) = n' - i - 1 by omega]; exact hz)
              obtain ⟨vs, hvs⟩ := HBf.out _ _ HTn.out
              have HRes := Lib.hid hvs
              generalize nextS D (i : Int) x (d : Int) = y at *
              generalize endsS D (n' - i - 1) ((i : Int) + 1) y = ev at *
              clear hvs hz
              go_wp2
              (refine wp_region_from w1 (by repeat (first | (with_reducible exact Ext.refl _) | (with_reducible refine Ext.drewN ?_ _) | (with_reducible refine Ext.drew ?_) | (with_reducible refine Ext.alloc ?_ _) | ((with_reducible refine Ext.setCell ?_ ?_ _); rotate_left; focus (first | (simp; done) | (simp; omega) | omega)) | assumption | (with_reducible refine Ext.trans ?_ (by assumption)))) (by kernel_rfl) (by kernel_rfl) (seqB_of (by kernel_rfl)) ?_; (repeat (first | (refine mix_q rfl ?_; go_big_quiet_step (fail); refine wpQuiet_nil ?_; show wpMix _ _ _ _ _ _ _) | (refine mix_s rfl ?_; go_wp2_with (((with_reducible refine (HNx.out _ (hxw1.trans (by repeat (first | (with_reducible exact Ext.refl _) | (with_reducible refine Ext.drewN ?_ _) | (with_reducible refine Ext.drew ?_) | (with_reducible refine Ext.alloc ?_ _) | ((with_reducible refine Ext.setCell ?_ ?_ _); rotate_left; focus (first | (simp; done) | (simp; omega) | omega)) | assumption | (with_reducible refine Ext.trans ?_ (by assumption)))))).mono ?_); rintro e w4 ⟨rfl, hy4⟩; have hxw4 : Ext w1 w4 := Ext.trans (by repeat (first | (with_reducible exact Ext.refl _) | (with_reducible refine Ext.drewN ?_ _) | (with_reducible refine Ext.drew ?_) | (with_reducible refine Ext.alloc ?_ _) | ((with_reducible refine Ext.setCell ?_ ?_ _); rotate_left; focus (first | (simp; done) | (simp; omega) | omega)) | assumption | (with_reducible refine Ext.trans ?_ (by assumption)))) hy4; have hz4 := hy4; clear hy4)); first | refine ⟨up_of (by repeat (first | (with_reducible exact Ext.refl _) | (with_reducible refine Ext.drewN ?_ _) | (with_reducible refine Ext.drew ?_) | (with_reducible refine Ext.alloc ?_ _) | ((with_reducible refine Ext.setCell ?_ ?_ _); rotate_left; focus (first | (simp; done) | (simp; omega) | omega)) | assumption | (with_reducible refine Ext.trans ?_ (by assumption)))), ?_⟩ | refine ⟨rfl, rfl, up_of (by repeat (first | (with_reducible exact Ext.refl _) | (with_reducible refine Ext.drewN ?_ _) | (with_reducible refine Ext.drew ?_) | (with_reducible refine Ext.alloc ?_ _) | ((with_reducible refine Ext.setCell ?_ ?_ _); rotate_left; focus (first | (simp; done) | (simp; omega) | omega)) | assumption | (with_reducible refine Ext.trans ?_ (by assumption)))), ?_⟩))); refine mix_nil ?_)
              have hxq4 : Ext w w4 := hxw1.trans hxw4
              go_wp2_with ((with_reducible refine (HLe.out _).mono ?_); rintro e w5 ⟨rfl, rfl⟩)
              refine (spec_own a9 i cd ((digC s).take i) w4 (HPre.out.ext hxw4) (by omega)).mono ?_
              rintro e w6 ⟨a7, c7, rfl, ho7, hx7⟩
              have hli : (I ((digC s).take i)).length = i := by rw [I_len, List.length_take, HDl.out, ← Hhm.out, hmin]
              rw [hli] at ho7 ⊢
              have hxw6 : Ext w1 w6 := hxw4.trans hx7
              have HO7 := Lib.hid (ho7.mono (B' := w1.heap.size) hxw4.le)
              clear ho7 hli
              go_wp2_with (first | (at_builtin; refine law_append1 _ rfl _ _ 25 rfl 2 (.int .i64 0) 8 und_int64s info_int64 rfl w1.heap.size a7 i c7 _ _ rfl rfl rfl HO7.out hxw6.le (by omega) (by omega) ?_; intro a8 c8 wz hoz hbz hgz; have hxwz : Ext w1 wz := Ext.below hxw6 hbz) | ((with_reducible refine (HNx.out _ (hxw1.trans hxwz)).mono ?_); rintro e w8 ⟨rfl, hy8⟩))
              have HDd := Lib.hid (show DigC D [(d : Int)] from fun e he => by obtain rfl := List.mem_singleton.1 he; exact ⟨by omega, hdb⟩)
              clear g1 g2 g3 g4
              go_loopw [11, 13, 14, 15] (fun xv ov kv _ wr => ∃ (k : Nat) (x2 : Int) (ao : Option Addr) (co : Nat) (us : List Int), i < k ∧ k ≤ n' ∧ kv = .int .i64 k ∧ xv = .int .i64 x2 ∧ ov = .slice ao k co ∧ Own wr w1.heap.size 2 ao k co (I ((digC s).take i ++ us)) ∧ Hid (hdS T = us ++ hdS (wordsS D (n' - k) (k : Int) x2)) ∧ Hid (endsS D (n' - k) (k : Int) x2 ≠ 0) ∧ Hid (DigC D us) ∧ 0 ≤ x2 ∧ x2 < D.states ∧ Ext w1 wr) (fun _ _ kv _ _ => n' - (intOf kv).toNat)
              case atStart => exact ⟨i + 1, y, a8, c8, [(d : Int)], by omega, by omega, by go_num, rfl, rfl, by rw [I_append]; exact hoz.ext hy8, HTh, HEn, HDd, y0, y1, hxwz.trans hy8⟩
              case round =>
                obtain ⟨k, x2, ao, co, us, hik, hk, rfl, rfl, rfl, ho, HH, HE2, HU, x20, x21, hx⟩ := hrel
                have hxr : Ext w1 wr := hx
                have hxq : Ext w wr := hxw1.trans hx
                have HO := Lib.hid ho
                clear ho
                by_cases hkn : k < n'
                · obtain ⟨T4, hT4⟩ : ∃ T4, T4 = tailS D (n' - k - 1) (k : Int) x2 0 := ⟨_, rfl⟩
                  have HW4 := Lib.hid (show wordsS D (n' - k) (k : Int) x2 = T4 by rw [hT4, show n' - k = (n' - k - 1) + 1 by omega, words_succ]; rfl)
                  have HN4 := Lib.hid (show T4 ≠ [] by obtain ⟨u, us', hu⟩ := words_some HE2.out; rw [← HW4.out, hu]; simp)
                  have HT4 := Lib.hid hT4
                  clear hT4
                  go_wp2
                  go_loopw [15] (fun ev wr => ∃ e : Nat, (e : Int) < D.base ∧ ev = .int .i64 e ∧ Hid (tailS D (n' - k - 1) (k : Int) x2 e = T4) ∧ Own wr w1.heap.size 2 ao k co (I ((digC s).take i ++ us)) ∧ Ext w1 wr) (fun ev _ => (D.base - intOf ev).toNat)
                  case atStart => exact ⟨0, by omega, rfl, Lib.hid HT4.out.symm, HO.out, hx⟩
                  case round =>
                    obtain ⟨e, heb, rfl, HTe, ho, hx⟩ := hrel
                    have hxr : Ext w1 wr := hx
                    have hxq : Ext w wr := hxw1.trans hx
                    have HOe := Lib.hid ho
                    clear ho
                    obtain ⟨v0, v1⟩ := HOK.out.next (p := (k : Int)) (x := x2) (d := (e : Int)) (by omega) (by have := HP.out; omega) x20 x21 (by omega) heb
                    have HNx2 := Lib.hid (fun U (h : Ext w U) => spec_next D q a n c a' n' c' (k : Int) x2 (e : Int) U (HV.out.ext h) HOK.out (by omega) (by have := HP.out; omega) x20 x21 (by omega) heb)
                    obtain ⟨bc, oc, a4, n4, c4, bd2, od2, ⟨g5, g6⟩, ⟨g7, g8⟩⟩ := endsL_at (HG.out.ext hxw1) HP.out 88 und_rows ((k : Int) + 1) (nextS D (k : Int) x2 (e : Int)) (by omega) (by omega) v0 v1
                    rw [show n' - ((k : Int) + 1).toNat = n' - k - 1 by omega] at g8
                    by_cases hz : endsS D (n' - k - 1) ((k : Int) + 1) (nextS D (k : Int) x2 (e : Int)) = 0
                    · have HT5 := Lib.hid ((tailS_skip (by omega) hz).symm.trans HTe.out)
                      have he1 : ((e + 1 : Nat) : Int) < D.base := by
                        have h1 : tailS D (n' - k - 1) (k : Int) x2 (e + 1) ≠ [] := by rw [HT5.out]; exact HN4.out
                        have := tail_ends h1
                        omega
                      rw [hz] at g8
                      clear hz
                      generalize nextS D (k : Int) x2 (e : Int) = v at *
                      go_wp2
                      (refine wp_region_from w1 (by repeat (first | (with_reducible exact Ext.refl _) | (with_reducible refine Ext.drewN ?_ _) | (with_reducible refine Ext.drew ?_) | (with_reducible refine Ext.alloc ?_ _) | ((with_reducible refine Ext.setCell ?_ ?_ _); rotate_left; focus (first | (simp; done) | (simp; omega) | omega)) | assumption | (with_reducible refine Ext.trans ?_ (by assumption)))) (by kernel_rfl) (by kernel_rfl) (seqB_of (by kernel_rfl)) ?_; (repeat (first | (refine mix_q rfl ?_; go_big_quiet_step (fail); refine wpQuiet_nil ?_; show wpMix _ _ _ _ _ _ _) | (refine mix_s rfl ?_; go_wp2_with (((with_reducible refine (HNx2.out _ (hxw1.trans (by repeat (first | (with_reducible exact Ext.refl _) | (with_reducible refine Ext.drewN ?_ _) | (with_reducible refine Ext.drew ?_) | (with_reducible refine Ext.alloc ?_ _) | ((with_reducible refine Ext.setCell ?_ ?_ _); rotate_left; focus (first | (simp; done) | (simp; omega) | omega)) | assumption | (with_reducible refine Ext.trans ?_ (by assumption)))))).mono ?_); rintro e w4 ⟨rfl, hy4⟩; have hxw4 : Ext w1 w4 := Ext.trans (by repeat (first | (with_reducible exact Ext.refl _) | (with_reducible refine Ext.drewN ?_ _) | (with_reducible refine Ext.drew ?_) | (with_reducible refine Ext.alloc ?_ _) | ((with_reducible refine Ext.setCell ?_ ?_ _); rotate_left; focus (first | (simp; done) | (simp; omega) | omega)) | assumption | (with_reducible refine Ext.trans ?_ (by assumption)))) hy4; have hz4 := hy4; clear hy4)); first | refine ⟨up_of (by repeat (first | (with_reducible exact Ext.refl _) | (with_reducible refine Ext.drewN ?_ _) | (with_reducible refine Ext.drew ?_) | (with_reducible refine Ext.alloc ?_ _) | ((with_reducible refine Ext.setCell ?_ ?_ _); rotate_left; focus (first | (simp; done) | (simp; omega) | omega)) | assumption | (with_reducible refine Ext.trans ?_ (by assumption)))), ?_⟩ | refine ⟨rfl, rfl, up_of (by repeat (first | (with_reducible exact Ext.refl _) | (with_reducible refine Ext.drewN ?_ _) | (with_reducible refine Ext.drew ?_) | (with_reducible refine Ext.alloc ?_ _) | ((with_reducible refine Ext.setCell ?_ ?_ _); rotate_left; focus (first | (simp; done) | (simp; omega) | omega)) | assumption | (with_reducible refine Ext.trans ?_ (by assumption)))), ?_⟩))); refine mix_nil ?_)
                      go_wp2
                      exact ⟨⟨e + 1, he1, by go_num, HT5, HOe.out.ext (show Ext wr _ from (by repeat (first | (with_reducible exact Ext.refl _) | (with_reducible refine Ext.drewN ?_ _) | (with_reducible refine Ext.drew ?_) | (with_reducible refine Ext.alloc ?_ _) | ((with_reducible refine Ext.setCell ?_ ?_ _); rotate_left; focus (first | (simp; done) | (simp; omega) | omega)) | assumption | (with_reducible refine Ext.trans ?_ (by assumption))))), (by repeat (first | (with_reducible exact Ext.refl _) | (with_reducible refine Ext.drewN ?_ _) | (with_reducible refine Ext.drew ?_) | (with_reducible refine Ext.alloc ?_ _) | ((with_reducible refine Ext.setCell ?_ ?_ _); rotate_left; focus (first | (simp; done) | (simp; omega) | omega)) | assumption | (with_reducible refine Ext.trans ?_ (by assumption))))⟩, by simp [intOf]; omega⟩
                    · have hz2 : (endsS D (n' - k - 1) ((k : Int) + 1) (nextS D (k : Int) x2 (e : Int)) == 0) = false := by simpa using hz
                      have HTh2 := Lib.hid (show hdS T = (us ++ [(e : Int)]) ++ hdS (wordsS D (n' - (k + 1)) (((k + 1 : Nat) : Int)) (nextS D (k : Int) x2 (e : Int))) by
                        rw [HH.out, HW4.out, ← HTe.out, hd_tail (by omega) hz, show n' - (k + 1) = n' - k - 1 by omega, List.append_assoc]; rfl)
                      have HEn2 := Lib.hid (show endsS D (n' - (k + 1)) (((k + 1 : Nat) : Int)) (nextS D (k : Int) x2 (e : Int)) ≠ 0 by rw [show n' - (k + 1) = n' - k - 1 by omega]; exact hz)
                      have HU2 := Lib.hid (show DigC D (us ++ [(e : Int)]) from fun d hd => by
                        rcases List.mem_append.1 hd with h | h
                        · exact HU.out d h
                        · obtain rfl := List.mem_singleton.1 h; exact ⟨by omega, heb⟩)
                      generalize nextS D (k : Int) x2 (e : Int) = v at *
                      generalize endsS D (n' - k - 1) ((k : Int) + 1) v = ev at *
                      clear hz
                      go_wp2
                      (refine wp_region_from w1 (by repeat (first | (with_reducible exact Ext.refl _) | (with_reducible refine Ext.drewN ?_ _) | (with_reducible refine Ext.drew ?_) | (with_reducible refine Ext.alloc ?_ _) | ((with_reducible refine Ext.setCell ?_ ?_ _); rotate_left; focus (first | (simp; done) | (simp; omega) | omega)) | assumption | (with_reducible refine Ext.trans ?_ (by assumption)))) (by kernel_rfl) (by kernel_rfl) (seqB_of (by kernel_rfl)) ?_; (repeat (first | (refine mix_q rfl ?_; go_big_quiet_step (fail); refine wpQuiet_nil ?_; show wpMix _ _ _ _ _ _ _) | (refine mix_s rfl ?_; go_wp2_with (((with_reducible refine (HNx2.out _ (hxw1.trans (by repeat (first | (with_reducible exact Ext.refl _) | (with_reducible refine Ext.drewN ?_ _) | (with_reducible refine Ext.drew ?_) | (with_reducible refine Ext.alloc ?_ _) | ((with_reducible refine Ext.setCell ?_ ?_ _); rotate_left; focus (first | (simp; done) | (simp; omega) | omega)) | assumption | (with_reducible refine Ext.trans ?_ (by assumption)))))).mono ?_); rintro e w4 ⟨rfl, hy4⟩; have hxw4 : Ext w1 w4 := Ext.trans (by repeat (first | (with_reducible exact Ext.refl _) | (with_reducible refine Ext.drewN ?_ _) | (with_reducible refine Ext.drew ?_) | (with_reducible refine Ext.alloc ?_ _) | ((with_reducible refine Ext.setCell ?_ ?_ _); rotate_left; focus (first | (simp; done) | (simp; omega) | omega)) | assumption | (with_reducible refine Ext.trans ?_ (by assumption)))) hy4; have hz4 := hy4; clear hy4)); first | refine ⟨up_of (by repeat (first | (with_reducible exact Ext.refl _) | (with_reducible refine Ext.drewN ?_ _) | (with_reducible refine Ext.drew ?_) | (with_reducible refine Ext.alloc ?_ _) | ((with_reducible refine Ext.setCell ?_ ?_ _); rotate_left; focus (first | (simp; done) | (simp; omega) | omega)) | assumption | (with_reducible refine Ext.trans ?_ (by assumption)))), ?_⟩ | refine ⟨rfl, rfl, up_of (by repeat (first | (with_reducible exact Ext.refl _) | (with_reducible refine Ext.drewN ?_ _) | (with_reducible refine Ext.drew ?_) | (with_reducible refine Ext.alloc ?_ _) | ((with_reducible refine Ext.setCell ?_ ?_ _); rotate_left; focus (first | (simp; done) | (simp; omega) | omega)) | assumption | (with_reducible refine Ext.trans ?_ (by assumption)))), ?_⟩))); refine mix_nil ?_)
                      have HO4 := Lib.hid (HOe.out.ext (show Ext wr w4 from (by repeat (first | (with_reducible exact Ext.refl _) | (with_reducible refine Ext.drewN ?_ _) | (with_reducible refine Ext.drew ?_) | (with_reducible refine Ext.alloc ?_ _) | ((with_reducible refine Ext.setCell ?_ ?_ _); rotate_left; focus (first | (simp; done) | (simp; omega) | omega)) | assumption | (with_reducible refine Ext.trans ?_ (by assumption))))))
                      go_wp2_with (first | (at_builtin; refine law_append1 _ rfl _ _ 25 rfl 2 (.int .i64 0) 8 und_int64s info_int64 rfl w1.heap.size ao k co _ _ rfl rfl rfl HO4.out hxw4.le (by omega) (by omega) ?_; intro a8 c8 wz hoz hbz hgz; have hxwz : Ext w1 wz := Ext.below hxw4 hbz) | ((with_reducible refine (HNx2.out _ (hxw1.trans hxwz)).mono ?_); rintro e w8 ⟨rfl, hy8⟩))
                      exact ⟨⟨k + 1, v, a8, c8, us ++ [(e : Int)], by omega, by omega, by go_num, rfl, rfl, by rw [← List.append_assoc, I_append]; exact hoz.ext hy8, HTh2, HEn2, HU2, v0, v1, hxwz.trans hy8⟩, by simp [intOf]; omega⟩
                · obtain rfl : k = n' := by omega
                  have HTu := Lib.hid (show hdS T = us by
                    have h1 := HH.out
                    have h2 := HE2.out
                    rw [Nat.sub_self] at h1 h2
                    unfold endsS at h2
                    unfold wordsS at h1
                    by_cases e : x2 = D.fin
                    · rw [if_pos e] at h1; simpa [hdS] using h1
                    · rw [if_neg e] at h2; exact absurd rfl h2)
                  have HRn := Lib.hid (show nextL D s = ((digC s).take i ++ us) :: vs by rw [HRes.out, HTu.out])
                  have HRt := Lib.hid (show nextT D s = textOf ((digC s).take i ++ us) by rw [nextT, HRn.out])
                  have HFr := Lib.hid (spec_from ao k co ((digC s).take i ++ us) wr HO.out.ints (dig36_of b36 (fun d hd => by
                    rcases List.mem_append.1 hd with h | h
                    · exact HDg.out.take i d h
                    · exact HU.out d h)) (by omega))
                  go_wp2_with ((with_reducible refine HFr.out.mono ?_); rintro e w9 ⟨rfl, hy9⟩)
                  go_ret2
                  exact ⟨by rw [HRt.out, HRn.out]; rfl, (hxw1.trans hx).trans hy9⟩
          · have hbd : (d : Int) = D.base := by omega
            have hdec : decide ((d : Int) < D.base) = false := by simpa using hdb
            have heq : ((d : Int) == D.base) = true := by simpa using hbd
            have HB2 := Lib.hid (HBa.out (by rw [← HT.out]; exact tailS_end _ _ _ _ _ (by omega)))
            clear hbd
            go_wp2
            (refine wp_region_from w1 (by repeat (first | (with_reducible exact Ext.refl _) | (with_reducible refine Ext.drewN ?_ _) | (with_reducible refine Ext.drew ?_) | (with_reducible refine Ext.alloc ?_ _) | ((with_reducible refine Ext.setCell ?_ ?_ _); rotate_left; focus (first | (simp; done) | (simp; omega) | omega)) | assumption | (with_reducible refine Ext.trans ?_ (by assumption)))) (by kernel_rfl) (by kernel_rfl) (seqB_of (by kernel_rfl)) ?_; (repeat (first | (refine mix_q rfl ?_; go_big_quiet_step (fail); refine wpQuiet_nil ?_; show wpMix _ _ _ _ _ _ _) | (refine mix_s rfl ?_; go_wp2_with (fail); first | refine ⟨up_of (by repeat (first | (with_reducible exact Ext.refl _) | (with_reducible refine Ext.drewN ?_ _) | (with_reducible refine Ext.drew ?_) | (with_reducible refine Ext.alloc ?_ _) | ((with_reducible refine Ext.setCell ?_ ?_ _); rotate_left; focus (first | (simp; done) | (simp; omega) | omega)) | assumption | (with_reducible refine Ext.trans ?_ (by assumption)))), ?_⟩ | refine ⟨rfl, rfl, up_of (by repeat (first | (with_reducible exact Ext.refl _) | (with_reducible refine Ext.drewN ?_ _) | (with_reducible refine Ext.drew ?_) | (with_reducible refine Ext.alloc ?_ _) | ((with_reducible refine Ext.setCell ?_ ?_ _); rotate_left; focus (first | (simp; done) | (simp; omega) | omega)) | assumption | (with_reducible refine Ext.trans ?_ (by assumption)))), ?_⟩))); refine mix_nil ?_)
            go_wp2
            exact ⟨⟨i, (i : Int) - 1, by omega, by omega, rfl, HB2.out, (by repeat (first | (with_reducible exact Ext.refl _) | (with_reducible refine Ext.drewN ?_ _) | (with_reducible refine Ext.drew ?_) | (with_reducible refine Ext.alloc ?_ _) | ((with_reducible refine Ext.setCell ?_ ?_ _); rotate_left; focus (first | (simp; done) | (simp; omega) | omega)) | assumption | (with_reducible refine Ext.trans ?_ (by assumption))))⟩, by simp [intOf]⟩
    · obtain rfl : i0 = 0 := by omega
      have HRn := Lib.hid (back_end HP.out Hhbk.out)
      have HRt := Lib.hid (show nextT D s = .empty by rw [nextT, HRn.out])
      have hzn : z < 0 := by omega
      clear hz hz0
      go_wp2
      go_ret2
      exact ⟨by rw [HRt.out, HRn.out]; rfl, hxw1.trans hx⟩
end Go.Proofs.Ytcdoanookiimaaa

/- Walks: registries: free words, the first free one; IsFull of the reference. -/
namespace Go.Proofs.Ytcdoanookiimaaa
set_option maxRecDepth 100000
open Go.RowKit

theorem all_flip (l : List ByteArray) (s : ByteArray) (ap : Int) : (l.all fun v => !decide ((distS v s : Int) < ap)) = l.all fun v => !decide ((distS s v : Int) < ap) := by
  congr 1; funext v; rw [dist_comm]
theorem allS_no {l : List ByteArray} {p : ByteArray → Bool} {k : Nat} (hk : k < l.length) (h : p (gs l k) = false) : l.all p = false := List.all_eq_false.2 ⟨_, gs_mem hk, by rw [h]; simp⟩
theorem allS_step {l : List ByteArray} {p : ByteArray → Bool} {k : Nat} (hk : k < l.length) (h : p (gs l k) = true) (hp : (l.take k).all p = true) : (l.take (k + 1)).all p = true := by
  rw [take_gs hk, List.all_append, hp]; simp [h]
set_option maxHeartbeats 2000000 in
theorem spec_l10Free (D : Rg) (q : Nat) (a : Option Addr) (n c : Nat) (b : Option Addr) (m d : Nat) (ia : Option Addr) (im ic : Nat) (ra : Option Addr) (rm rc : Nat) (s : ByteArray) (w : World) (hv : RgAt w q D a n c b m d ia im ic ra rm rc) (hok : OkRg D) (hs : s.size ≤ 64) :
    Calls Try.prog 171 #[.pointer (some ⟨q, 0, none⟩), .string s] w (Ret (.bool (freeB D s)) w) := by
  have HL := Lib.hid hv.is.len
  have HOK := Lib.hid hok
  have HA := Lib.hid (show freeB D s = D.issued.all fun v => !decide ((distS v s : Int) < D.apart) from (all_flip _ _ _).symm)
  rw [HA.out]
  have h40 := hok.n40
  rw [HL.out] at h40
  obtain ⟨b1, o1, hix, hcell⟩ := hv.is.ix (P := Try.prog) 28 9 und_strs cell_str
  obtain ⟨_, k6, k7, k8, _, _⟩ := hv
  clear hok
  go_enter Try.func171, Try.ntmps171
  go_wp2
  go_loopw [5] (fun i wr => ∃ k : Nat, k ≤ im ∧ i = .int .i64 k ∧ Hid (((D.issued.take k).all fun v => !decide ((distS v s : Int) < D.apart)) = true) ∧ Ext w wr) (fun i _ => im - (intOf i).toNat)
  case atStart => exact ⟨0, Nat.zero_le _, rfl, by simp [Hid], Ext.refl _⟩
  case round =>
    obtain ⟨k, hk, rfl, HP, hx⟩ := hrel
    have hxr : Ext w wr := hx
    by_cases hlt : k < im
    · have hkl : k < D.issued.length := by rw [HL.out]; exact hlt
      have h20 := HOK.out.s20 k hkl
      have HF := Lib.hid (fun W => spec_l10Far (gs D.issued k) s W (by omega) hs)
      by_cases hf : (distS (gs D.issued k) s : Int) < D.apart
      · have HX := Lib.hid (allS_no (p := fun v => !decide ((distS v s : Int) < D.apart)) hkl (by simpa using hf))
        clear hkl
        generalize distS (gs D.issued k) s = z at *
        go_wp2
        (refine wp_region_from w (by repeat (first | (with_reducible exact Ext.refl _) | (with_reducible refine Ext.drewN ?_ _) | (with_reducible refine Ext.drew ?_) | (with_reducible refine Ext.alloc ?_ _) | ((with_reducible refine Ext.setCell ?_ ?_ _); rotate_left; focus (first | (simp; done) | (simp; omega) | omega)) | assumption | (with_reducible refine Ext.trans ?_ (by assumption)))) (by kernel_rfl) (by kernel_rfl) (seqB_of (by kernel_rfl)) ?_; (repeat (first | (refine mix_q rfl ?_; go_big_quiet_step (fail); refine wpQuiet_nil ?_; show wpMix _ _ _ _ _ _ _) | (refine mix_s rfl ?_; go_wp2_with (((with_reducible refine (HF.out _).mono ?_); rintro e w4 ⟨rfl, hy4⟩; have hxw4 : Ext w w4 := Ext.trans (by repeat (first | (with_reducible exact Ext.refl _) | (with_reducible refine Ext.drewN ?_ _) | (with_reducible refine Ext.drew ?_) | (with_reducible refine Ext.alloc ?_ _) | ((with_reducible refine Ext.setCell ?_ ?_ _); rotate_left; focus (first | (simp; done) | (simp; omega) | omega)) | assumption | (with_reducible refine Ext.trans ?_ (by assumption)))) hy4; have hz4 := hy4; clear hy4)); first | refine ⟨up_of (by repeat (first | (with_reducible exact Ext.refl _) | (with_reducible refine Ext.drewN ?_ _) | (with_reducible refine Ext.drew ?_) | (with_reducible refine Ext.alloc ?_ _) | ((with_reducible refine Ext.setCell ?_ ?_ _); rotate_left; focus (first | (simp; done) | (simp; omega) | omega)) | assumption | (with_reducible refine Ext.trans ?_ (by assumption)))), ?_⟩ | refine ⟨rfl, rfl, up_of (by repeat (first | (with_reducible exact Ext.refl _) | (with_reducible refine Ext.drewN ?_ _) | (with_reducible refine Ext.drew ?_) | (with_reducible refine Ext.alloc ?_ _) | ((with_reducible refine Ext.setCell ?_ ?_ _); rotate_left; focus (first | (simp; done) | (simp; omega) | omega)) | assumption | (with_reducible refine Ext.trans ?_ (by assumption)))), ?_⟩))); refine mix_nil ?_)
        go_wp2
        go_ret
        exact ⟨rb HX.out.symm, (by repeat (first | (with_reducible exact Ext.refl _) | (with_reducible refine Ext.drewN ?_ _) | (with_reducible refine Ext.drew ?_) | (with_reducible refine Ext.alloc ?_ _) | ((with_reducible refine Ext.setCell ?_ ?_ _); rotate_left; focus (first | (simp; done) | (simp; omega) | omega)) | assumption | (with_reducible refine Ext.trans ?_ (by assumption))))⟩
      · have HX := Lib.hid (allS_step (p := fun v => !decide ((distS v s : Int) < D.apart)) hkl (by simpa using hf) HP.out)
        clear hkl
        generalize distS (gs D.issued k) s = z at *
        go_wp2
        (refine wp_region_from w (by repeat (first | (with_reducible exact Ext.refl _) | (with_reducible refine Ext.drewN ?_ _) | (with_reducible refine Ext.drew ?_) | (with_reducible refine Ext.alloc ?_ _) | ((with_reducible refine Ext.setCell ?_ ?_ _); rotate_left; focus (first | (simp; done) | (simp; omega) | omega)) | assumption | (with_reducible refine Ext.trans ?_ (by assumption)))) (by kernel_rfl) (by kernel_rfl) (seqB_of (by kernel_rfl)) ?_; (repeat (first | (refine mix_q rfl ?_; go_big_quiet_step (fail); refine wpQuiet_nil ?_; show wpMix _ _ _ _ _ _ _) | (refine mix_s rfl ?_; go_wp2_with (((with_reducible refine (HF.out _).mono ?_); rintro e w4 ⟨rfl, hy4⟩; have hxw4 : Ext w w4 := Ext.trans (by repeat (first | (with_reducible exact Ext.refl _) | (with_reducible refine Ext.drewN ?_ _) | (with_reducible refine Ext.drew ?_) | (with_reducible refine Ext.alloc ?_ _) | ((with_reducible refine Ext.setCell ?_ ?_ _); rotate_left; focus (first | (simp; done) | (simp; omega) | omega)) | assumption | (with_reducible refine Ext.trans ?_ (by assumption)))) hy4; have hz4 := hy4; clear hy4)); first | refine ⟨up_of (by repeat (first | (with_reducible exact Ext.refl _) | (with_reducible refine Ext.drewN ?_ _) | (with_reducible refine Ext.drew ?_) | (with_reducible refine Ext.alloc ?_ _) | ((with_reducible refine Ext.setCell ?_ ?_ _); rotate_left; focus (first | (simp; done) | (simp; omega) | omega)) | assumption | (with_reducible refine Ext.trans ?_ (by assumption)))), ?_⟩ | refine ⟨rfl, rfl, up_of (by repeat (first | (with_reducible exact Ext.refl _) | (with_reducible refine Ext.drewN ?_ _) | (with_reducible refine Ext.drew ?_) | (with_reducible refine Ext.alloc ?_ _) | ((with_reducible refine Ext.setCell ?_ ?_ _); rotate_left; focus (first | (simp; done) | (simp; omega) | omega)) | assumption | (with_reducible refine Ext.trans ?_ (by assumption)))), ?_⟩))); refine mix_nil ?_)
        go_wp2
        exact ⟨⟨k + 1, by omega, by go_num, HX, (by repeat (first | (with_reducible exact Ext.refl _) | (with_reducible refine Ext.drewN ?_ _) | (with_reducible refine Ext.drew ?_) | (with_reducible refine Ext.alloc ?_ _) | ((with_reducible refine Ext.setCell ?_ ?_ _); rotate_left; focus (first | (simp; done) | (simp; omega) | omega)) | assumption | (with_reducible refine Ext.trans ?_ (by assumption))))⟩, by simp [intOf]; omega⟩
    · obtain rfl : k = im := by omega
      go_wp2
      go_ret
      exact ⟨rb (by have := HP.out; rw [take_full (by rw [HL.out]; exact Nat.le_refl _)] at this; exact this.symm), hx⟩
set_option maxHeartbeats 1000000 in
theorem impl_free (D : Rg) (q : Nat) (a : Option Addr) (n c : Nat) (b : Option Addr) (m d : Nat) (ia : Option Addr) (im ic : Nat) (ra : Option Addr) (rm rc : Nat) (s : ByteArray) (w : World) (hv : RgAt w q D a n c b m d ia im ic ra rm rc) (hn : im ≤ 1048576) (hl : ∀ v ∈ D.issued, v.size ≤ 64) (hs : s.size ≤ 64) :
    Calls Try.prog 57 #[.pointer (some ⟨q, 0, none⟩), .string s] w (Ret (.bool (freeB D s)) w) := by
  have HA := Lib.hid (fun W h => impl_apartFrom s ia im ic D.issued D.apart W (Strs.ext hv.is h) hn hs hl)
  have HB := Lib.hid (show freeB D s = D.issued.all fun v => !decide ((distS s v : Int) < D.apart) from rfl)
  rw [← HB.out] at HA
  obtain ⟨_, k6, k7, k8, _, _⟩ := hv
  clear hl
  go_enter Try.func57, Try.ntmps57
  go_wp2
  (refine wp_region_from w (by repeat (first | (with_reducible exact Ext.refl _) | (with_reducible refine Ext.drewN ?_ _) | (with_reducible refine Ext.drew ?_) | (with_reducible refine Ext.alloc ?_ _) | ((with_reducible refine Ext.setCell ?_ ?_ _); rotate_left; focus (first | (simp; done) | (simp; omega) | omega)) | assumption | (with_reducible refine Ext.trans ?_ (by assumption)))) (by kernel_rfl) (by kernel_rfl) (seqB_of (by kernel_rfl)) ?_; (repeat (first | (refine mix_q rfl ?_; go_big_quiet_step (fail); refine wpQuiet_nil ?_; show wpMix _ _ _ _ _ _ _) | (refine mix_s rfl ?_; go_wp2_with (((with_reducible refine (HA.out _ (by repeat (first | (with_reducible exact Ext.refl _) | (with_reducible refine Ext.drewN ?_ _) | (with_reducible refine Ext.drew ?_) | (with_reducible refine Ext.alloc ?_ _) | ((with_reducible refine Ext.setCell ?_ ?_ _); rotate_left; focus (first | (simp; done) | (simp; omega) | omega)) | assumption | (with_reducible refine Ext.trans ?_ (by assumption))))).mono ?_); rintro e w4 ⟨rfl, hy4⟩; have hxw4 : Ext w w4 := Ext.trans (by repeat (first | (with_reducible exact Ext.refl _) | (with_reducible refine Ext.drewN ?_ _) | (with_reducible refine Ext.drew ?_) | (with_reducible refine Ext.alloc ?_ _) | ((with_reducible refine Ext.setCell ?_ ?_ _); rotate_left; focus (first | (simp; done) | (simp; omega) | omega)) | assumption | (with_reducible refine Ext.trans ?_ (by assumption)))) hy4; have hz4 := hy4; clear hy4)); first | refine ⟨up_of (by repeat (first | (with_reducible exact Ext.refl _) | (with_reducible refine Ext.drewN ?_ _) | (with_reducible refine Ext.drew ?_) | (with_reducible refine Ext.alloc ?_ _) | ((with_reducible refine Ext.setCell ?_ ?_ _); rotate_left; focus (first | (simp; done) | (simp; omega) | omega)) | assumption | (with_reducible refine Ext.trans ?_ (by assumption)))), ?_⟩ | refine ⟨rfl, rfl, up_of (by repeat (first | (with_reducible exact Ext.refl _) | (with_reducible refine Ext.drewN ?_ _) | (with_reducible refine Ext.drew ?_) | (with_reducible refine Ext.alloc ?_ _) | ((with_reducible refine Ext.setCell ?_ ?_ _); rotate_left; focus (first | (simp; done) | (simp; omega) | omega)) | assumption | (with_reducible refine Ext.trans ?_ (by assumption)))), ?_⟩))); refine mix_nil ?_)
  go_wp2
  go_ret
  exact ⟨rfl, (by repeat (first | (with_reducible exact Ext.refl _) | (with_reducible refine Ext.drewN ?_ _) | (with_reducible refine Ext.drew ?_) | (with_reducible refine Ext.alloc ?_ _) | ((with_reducible refine Ext.setCell ?_ ?_ _); rotate_left; focus (first | (simp; done) | (simp; omega) | omega)) | assumption | (with_reducible refine Ext.trans ?_ (by assumption))))⟩
theorem tries_le (D : Ch) : triesN D ≤ (wordsA D).length := Nat.min_le_left _ _
theorem emp_false {α : Type} {l : List α} {k : Nat} (h : k < l.length) : (l.drop k).isEmpty = false := by
  rw [List.drop_eq_getElem_cons h]; rfl
theorem emp_true {α : Type} {l : List α} {k : Nat} (h : l.length ≤ k) : (l.drop k).isEmpty = true := by
  rw [List.drop_of_length_le h]; rfl
set_option maxHeartbeats 4000000 in
theorem spec_l10Trial (D : Rg) (q : Nat) (a : Option Addr) (n c : Nat) (b : Option Addr) (m d : Nat) (ia : Option Addr) (im ic : Nat) (ra : Option Addr) (rm rc : Nat) (w : World) (hv : RgAt w q D a n c b m d ia im ic ra rm rc) (hok : OkRg D) :
    Calls Try.prog 117 #[.pointer (some ⟨q, 0, none⟩)] w (Ret2 (.string (trialT D)) (.bool (trialB D)) w) := by
  have HV := Lib.hid hv
  have HOK := Lib.hid hok
  have HE := Lib.hid (fun W h => spec_l02Ends D.ch q a n c b m d W (ChAt.ext hv.ch h) hok.ch)
  have HP := Lib.hid hv.ch.ps.len
  have p20 := hok.ch.p20
  rw [HP.out] at p20
  clear hv hok
  go_enter Try.func117, Try.ntmps117
  go_wp2_with fail
  refine (HE.out _ (Ext.refl _)).mono ?_
  intro e w1 he
  obtain ⟨ge, gc, rfl, hm, hx1⟩ := he.matL
  rw [HP.out] at hm ⊢
  have HM := Lib.hid hm
  clear he hm
  have hxw1 : Ext w w1 := hx1
  go_wp2
  go_loopw [5, 6, 7, 8] (fun wv kv _ _ wr => ∃ k : Nat, k ≤ 2000 ∧ k ≤ (wordsA D.ch).length ∧ kv = .int .i64 k ∧ wv = .string (wordR D.ch k) ∧ Hid (NoFree D k) ∧ Ext w1 wr) (fun _ kv _ _ _ => 2000 - (intOf kv).toNat)
  case atStart => exact ⟨0, by omega, Nat.zero_le _, rfl, rfl, Lib.hid (fun j hj => by omega), Ext.refl _⟩
  case round =>
    obtain ⟨k, hk, hkl, rfl, rfl, HN, hx⟩ := hrel
    have hxr : Ext w1 wr := hx
    have hxq : Ext w wr := hxw1.trans hx
    by_cases h2 : k < 2000
    · have HNx := Lib.hid (spec_l10Next D.ch q a n c b m d ge gc (wordR D.ch k) wr (HV.out.ch.ext hxq) HOK.out.ch (HM.out.ext hx) (by rw [← HP.out]; exact wordR_size HOK.out.ch hkl))
      rw [nextL_wordR HOK.out.ch hkl] at HNx
      by_cases hk2 : k < (wordsA D.ch).length
      · rw [nextT_wordR HOK.out.ch hk2, emp_false hk2] at HNx
        have hsz := wordR_len HOK.out.ch hk2
        rw [HP.out] at hsz
        have HFr := Lib.hid (fun W h => spec_l10Free D q a n c b m d ia im ic ra rm rc (wordR D.ch (k + 1)) W (RgAt.ext HV.out (hxw1.trans h)) HOK.out (by omega))
        cases hfr : freeB D (wordR D.ch (k + 1))
        · rw [hfr] at HFr
          have HN2 := Lib.hid (HN.out.step hfr)
          clear hfr hsz
          go_wp2_with (first | (go_at_call 170; (with_reducible refine HNx.out.mono ?_); rintro e w2 ⟨rfl, hy2⟩; have hxw2 : Ext w1 w2 := hx.trans hy2) | (go_at_call 171; (with_reducible refine (HFr.out _ hxw2).mono ?_); rintro e w3 ⟨rfl, hy3⟩))
          exact ⟨⟨k + 1, by omega, by omega, by go_num, rfl, HN2, hxw2.trans hy3⟩, by simp [intOf]; omega⟩
        · rw [hfr] at HFr
          have HT := Lib.hid (trial_some (R := D) (k := k) (by unfold triesN; omega) HN.out hfr)
          have HT1 := Lib.hid (show trialT D = wordR D.ch (k + 1) by rw [trialT, HT.out]; rfl)
          have HT2 := Lib.hid (show trialB D = true by rw [trialB, HT.out]; rfl)
          clear hfr hsz
          go_wp2_with (first | (go_at_call 170; (with_reducible refine HNx.out.mono ?_); rintro e w2 ⟨rfl, hy2⟩; have hxw2 : Ext w1 w2 := hx.trans hy2) | (go_at_call 171; (with_reducible refine (HFr.out _ hxw2).mono ?_); rintro e w3 ⟨rfl, hy3⟩))
          go_ret2
          exact ⟨by rw [HT1.out, HT2.out]; rfl, (hxw1.trans hxw2).trans hy3⟩
      · rw [emp_true (by omega)] at HNx
        have HT := Lib.hid (trial_none (R := D) (by rw [show triesN D.ch = k by unfold triesN; omega]; exact HN.out))
        have HT1 := Lib.hid (show trialT D = .empty by rw [trialT, HT.out]; rfl)
        have HT2 := Lib.hid (show trialB D = false by rw [trialB, HT.out]; rfl)
        go_wp2_with (go_at_call 170; (with_reducible refine HNx.out.mono ?_); rintro e w2 ⟨rfl, hy2⟩; have hxw2 : Ext w1 w2 := hx.trans hy2)
        go_ret2
        exact ⟨by rw [HT1.out, HT2.out]; rfl, hxw1.trans hxw2⟩
    · have HT := Lib.hid (trial_none (R := D) (by rw [show triesN D.ch = k by unfold triesN; omega]; exact HN.out))
      have HT1 := Lib.hid (show trialT D = .empty by rw [trialT, HT.out]; rfl)
      have HT2 := Lib.hid (show trialB D = false by rw [trialB, HT.out]; rfl)
      go_wp2
      go_ret2
      exact ⟨by rw [HT1.out, HT2.out]; rfl, hxq⟩
def fullR (D : Rg) : Bool := validRg D && !trialB D
end Go.Proofs.Ytcdoanookiimaaa

/- Walks: registries: the trials of the program; IsFull. -/
namespace Go.Proofs.Ytcdoanookiimaaa
set_option maxRecDepth 100000
open Go.RowKit

theorem RetEnds.matK {D : Ch} {w w' : World} {e : Ending} (h : RetEnds D w e w') : ∃ a c, e = .returned (.slice a (D.places.length + 1) c) ∧ (∀ W, KeepB w.heap.size w'.heap.size w' W → Mat W a (D.places.length + 1) c (endsL D)) ∧ Ext w w' := by
  obtain ⟨a, c, F, G, C, rfl, hg, hr, hx⟩ := h
  refine ⟨a, c, rfl, fun W hk => ?_, hx⟩
  have hg2 : Grid W w.heap.size 25 2 a (D.places.length + 1) c D.states.toNat F G C := ⟨hg.outer.keepB hk, fun k hk' => (hg.row k hk').keepB hk, hg.inj⟩
  obtain ⟨a2, c2, he, hm, _⟩ := RetEnds.matL (D := D) (w := w) (w' := w') (e := .returned (.slice a (D.places.length + 1) c)) ⟨a, c, F, G, C, rfl, hg, hr, hx⟩
  refine ⟨by simp [endsL], _, hg2.outer.sl, fun k hk2 => ⟨Option.some ⟨G k, 0, none⟩, D.states.toNat, C k, by simp [gv, hk2, slR], ?_⟩⟩
  rw [endsL_gl (by omega)]
  have h1 := (hg2.row k hk2).ints
  have h2 : rowF F D.states.toNat k = (List.range D.states.toNat).map fun (x : Nat) => endsS D (D.places.length - k) k x := by
    unfold rowF
    apply List.map_congr_left
    intro y hy
    exact hr.hi k (Nat.zero_le _) (by omega) y (List.mem_range.1 hy)
  rw [h2] at h1
  exact h1
theorem min_tries (D : Ch) (N : Nat) (h : (wordsA D).length = N) : (if (2000 : Int) < (N : Int) then (2000 : Int) else (N : Int)) = ((triesN D : Nat) : Int) := by
  unfold triesN; rw [h]; split <;> omega
set_option maxHeartbeats 4000000 in
theorem impl_trials (D : Ch) (q : Nat) (a : Option Addr) (n c : Nat) (b : Option Addr) (m d : Nat) (f : Nat) (caps : Array Value) (Inv : Nat → Nat → Nat → World → Prop) (Fin : World → Prop) (w : World) (hv : ChAt w q D a n c b m d) (hok : OkCh D)
    (he : ∀ args w', (callFunc f args).run Try.prog w' = .ok (.enter f args) w')
    (h0 : ∀ w1, Ext w w1 → Inv w.heap.size w1.heap.size 0 w1) (hst : ∀ lo hi k W W', Inv lo hi k W → Ext W W' → Inv lo hi k W') (hch : ∀ lo hi k W, Inv lo hi k W → ChAt W q D a n c b m d)
    (hs : ∀ lo hi k W, k < triesN D → Inv lo hi k W → hi ≤ W.heap.size → Calls Try.prog f (#[.string (wordR D (k + 1))] ++ caps) W fun e W' => (e = .returned (.bool true) ∧ Inv lo hi (k + 1) W' ∧ KeepB lo hi W W' ∧ W.heap.size ≤ W'.heap.size) ∨ (e = .returned (.bool false) ∧ Fin W')) :
    Calls Try.prog 55 #[.pointer (some ⟨q, 0, none⟩), .func (.func f) #[] caps] w fun e w' => e = .returned (.tuple #[]) ∧ ((∃ lo hi, Inv lo hi (triesN D) w') ∨ Fin w') := by
  have HP := Lib.hid hv.ps.len
  have HV := Lib.hid hv
  have HOK := Lib.hid hok
  have HE := Lib.hid (impl_ends D q a n c b m d w hv hok)
  have H0 := Lib.hid h0
  have HST := Lib.hid hst
  have HCH := Lib.hid hch
  have HS := Lib.hid hs
  obtain ⟨k0, k1, k2, k3, k4, k5, _, _⟩ := hv
  have p20 := hok.p20
  rw [HP.out] at p20
  have hst0 := hok.st0
  have hst1 := hok.st1
  clear h0 hst hch hs hok
  go_enter Try.func55, Try.ntmps55
  go_wp2_with fail
  refine HE.out.mono ?_
  intro e w1 he1
  obtain ⟨ge, gc, rfl, hm, hx1⟩ := he1.matK
  rw [HP.out] at hm ⊢
  have HM := Lib.hid hm
  clear he1 hm HE
  have hxw1 : Ext w w1 := hx1
  obtain ⟨bb, oo, a1, n1, c1, b2', o2, ⟨g1, g2⟩, ⟨g3, g4⟩⟩ := endsL_at (HM.out w1 (KeepB.refl _ _ _)) HP.out 89 und_grid 0 D.start (by omega) (by omega) hst0 hst1
  have hen := wordsA_ends D
  rw [HP.out] at hen
  rw [show m - (0 : Int).toNat = m from rfl] at g4
  rw [← hen] at g4
  obtain ⟨N, hN⟩ : ∃ N, N = (wordsA D).length := ⟨_, rfl⟩
  rw [← hN] at g4
  have HMin := Lib.hid (min_tries D N hN.symm)
  have HT := Lib.hid (show (triesN D : Nat) ≤ (wordsA D).length from tries_le D)
  have HT2 := Lib.hid (show triesN D ≤ 2000 from Nat.min_le_right _ _)
  have Hen := Lib.hid hen
  have HI1 := Lib.hid (H0.out w1 hx1)
  clear hen hN
  go_wp2
  (refine wp_region_from w1 (by repeat (first | (with_reducible exact Ext.refl _) | (with_reducible refine Ext.drewN ?_ _) | (with_reducible refine Ext.drew ?_) | (with_reducible refine Ext.alloc ?_ _) | ((with_reducible refine Ext.setCell ?_ ?_ _); rotate_left; focus (first | (simp; done) | (simp; omega) | omega)) | assumption | (with_reducible refine Ext.trans ?_ (by assumption)))) (by kernel_rfl) (by kernel_rfl) (seqB_of (by kernel_rfl)) ?_; (repeat (first | (refine mix_q rfl ?_; go_big_quiet_step (fail); refine wpQuiet_nil ?_; show wpMix _ _ _ _ _ _ _) | (refine mix_s rfl ?_; go_wp2_with (fail); first | refine ⟨up_of (by repeat (first | (with_reducible exact Ext.refl _) | (with_reducible refine Ext.drewN ?_ _) | (with_reducible refine Ext.drew ?_) | (with_reducible refine Ext.alloc ?_ _) | ((with_reducible refine Ext.setCell ?_ ?_ _); rotate_left; focus (first | (simp; done) | (simp; omega) | omega)) | assumption | (with_reducible refine Ext.trans ?_ (by assumption)))), ?_⟩ | refine ⟨rfl, rfl, up_of (by repeat (first | (with_reducible exact Ext.refl _) | (with_reducible refine Ext.drewN ?_ _) | (with_reducible refine Ext.drew ?_) | (with_reducible refine Ext.alloc ?_ _) | ((with_reducible refine Ext.setCell ?_ ?_ _); rotate_left; focus (first | (simp; done) | (simp; omega) | omega)) | assumption | (with_reducible refine Ext.trans ?_ (by assumption)))), ?_⟩))); refine mix_nil ?_)
  rw [HMin.out]
  have htr : triesN D ≤ 2000 := HT2.out
  have HI2 := Lib.hid (HST.out _ _ _ _ w1.drew HI1.out ((Ext.refl w1).drew))
  obtain ⟨lo, hlo⟩ : ∃ lo, lo = w.heap.size := ⟨_, rfl⟩
  obtain ⟨hi, hhi⟩ : ∃ hi, hi = w1.heap.size := ⟨_, rfl⟩
  rw [← hlo, ← hhi] at HI2 HM
  have HHi := Lib.hid hhi
  clear g1 g2 g3 g4 hlo hhi HMin HI1 H0
  obtain ⟨tn, htn⟩ : ∃ tn, tn = triesN D := ⟨_, rfl⟩
  rw [← htn] at HT HT2 HS htr ⊢
  have HTn := Lib.hid htn
  clear htn
  go_wp2
  go_loopw [5, 21] (fun _ i wr => ∃ k : Nat, k ≤ tn ∧ i = .int .i64 k ∧ Inv lo hi k wr ∧ KeepB lo hi w1 wr ∧ hi ≤ wr.heap.size) (fun _ i _ => tn - (intOf i).toNat)
  case atStart => exact ⟨0, Nat.zero_le _, rfl, HI2.out, KeepB.ext ((Ext.refl w1).drew) (by rw [HHi.out]; exact Nat.le_refl _), by rw [HHi.out]; exact Nat.le_refl _⟩
  case round =>
    obtain ⟨k, hk, rfl, hi0, hkp, hsz⟩ := hrel
    have HIk := Lib.hid hi0
    have HKp := Lib.hid hkp
    clear hi0 hkp
    by_cases hlt : k < tn
    · have hc := HCH.out _ _ _ _ HIk.out
      have HWA := Lib.hid (impl_wordAt D q a n c b m d ge gc k wr hc HOK.out (HM.out wr HKp.out) (by have h1 := Hen.out; have h2 := HT.out; omega))
      have hW : (wordsS D m 0 D.start).getD k [] = (wordsA D).getD k [] := by rw [wordsA, HP.out]
      rw [hW] at HWA
      clear hW
      obtain ⟨hl1, hl2, hl3⟩ := wordsA_mem HOK.out (getD_mem' (l := wordsA D) (d := []) (k := k) (by have := HT.out; omega))
      have HL := Lib.hid hl1
      have HD := Lib.hid hl3
      obtain ⟨e0, e1, e2, e3, e4, e5, _, _⟩ := hc
      clear hl1 hl2 hl3
      have hxrr : Ext wr wr := Ext.refl _
      go_wp2_with fail
      refine HWA.out.mono ?_
      rintro e w2 ⟨ad, cd, rfl, ho, hx2⟩
      rw [I_len, HL.out, HP.out] at ho ⊢
      have hxr2 : Ext wr w2 := hx2
      have HWo := Lib.hid (impl_wordOf ad m cd ((wordsA D).getD k []) w2 ho.ints HD.out (by omega))
      have hWR : textOf ((wordsA D).getD k []) = wordR D (k + 1) := rfl
      rw [hWR] at HWo
      clear ho hWR
      go_wp2_with fail
      refine HWo.out.mono ?_
      rintro e w3 ⟨rfl, hx3⟩
      have hx13 : Ext wr w3 := hx2.trans hx3
      have HC := Lib.hid (HS.out lo hi k w3 hlt (HST.out _ _ _ _ _ HIk.out hx13) (Nat.le_trans hsz hx13.le))
      have HK3 := Lib.hid (HKp.out.trans (KeepB.ext hx13 hsz))
      have hsz3 := Nat.le_trans hsz hx13.le
      go_wp2_with (refine HC.out.mono ?_; rintro e w4 (⟨rfl, hi4, hk4, hs4⟩ | ⟨rfl, hf4⟩))
      · exact ⟨⟨k + 1, by omega, by go_num, hi4, HK3.out.trans hk4, by omega⟩, by simp [intOf]; omega⟩
      · exact bodyPost_ret (v := .tuple #[]) (by simp [results, Try.results55, go_sem]) rfl ⟨rfl, .inr hf4⟩
    · obtain rfl : k = tn := by omega
      go_wp2
      exact bodyPost_end (v := .tuple #[]) (by simp [results, Try.results55, go_sem]) rfl ⟨rfl, .inl ⟨lo, hi, by rw [← HTn.out]; exact HIk.out⟩⟩
/-- what the trial of IsFull leaves -/
def FullPost (bl : Bool) (p : Nat) (W : World) (e : Ending) (W' : World) : Prop := e = .returned (.bool bl) ∧ ∃ W2, Ext W W2 ∧ W' = W2.setCell ⟨p, 0, none⟩ (.bool bl)
set_option maxHeartbeats 1000000 in
theorem isFull1 (D : Rg) (q p : Nat) (a : Option Addr) (n c : Nat) (b : Option Addr) (m d : Nat) (ia : Option Addr) (im ic : Nat) (ra : Option Addr) (rm rc : Nat) (s : ByteArray) (v : Value) (W : World) (hv : RgAt W q D a n c b m d ia im ic ra rm rc) (hvar : VarAt W p 4 v) (hn : im ≤ 1048576) (hl : ∀ v ∈ D.issued, v.size ≤ 64) (hs : s.size ≤ 64) :
    Calls Try.prog 56 (#[.string s] ++ #[.pointer (some ⟨q, 0, none⟩), .pointer (some ⟨p, 0, none⟩)]) W (FullPost (!freeB D s) p W) := by
  have HF := Lib.hid (impl_free D q a n c b m d ia im ic ra rm rc s W hv hn hl hs)
  have HV := Lib.hid hvar
  have hplt := hvar.lt
  clear hv hl hvar
  go_enter Try.func56, Try.ntmps56
  go_wp2_with fail
  refine HF.out.mono ?_
  rintro e W2 ⟨rfl, hx2⟩
  have hx2' : Ext W W2 := hx2
  have hv2 := HV.out.ext hx2
  have hcell := hv2.cell
  have hfr := hv2.frozen
  have hplt2 := hv2.lt
  go_wp2
  go_ret
  exact ⟨rfl, W2, hx2, rfl⟩
theorem full_no {D : Rg} (h : validRg D = false) : fullR D = false := by rw [fullR, h]; rfl
set_option maxHeartbeats 2000000 in
theorem impl_IsFull (D : Rg) (a : Option Addr) (n c : Nat) (b : Option Addr) (m d : Nat) (ia : Option Addr) (im ic : Nat) (ra : Option Addr) (rm rc : Nat) (w : World) (hv : RgIn w D a n c b m d ia im ic ra rm rc) : Calls Try.prog 15 #[.agg #[.int .i64 D.ch.base, .int .i64 D.ch.states, .int .i64 D.ch.start, .int .i64 D.ch.fin, .slice a n c, .slice b m d, .int .i64 D.apart, .slice ia im ic, .slice ra rm rc]] w (Ret (.bool (fullR D)) w) := by
  have HB := Lib.hid (hv.box 30)
  have HVal := Lib.hid (fun W h => impl_ValidRegistry D a n c b m d ia im ic ra rm rc W (RgIn.ext hv h))
  have him := hv.hi
  clear hv
  cases hval : validRg D
  · rw [hval] at HVal
    have HO := Lib.hid (full_no hval)
    clear hval
    go_enter Try.func15, Try.ntmps15
    go_wp2_with ((with_reducible refine (HVal.out _ ((Ext.refl w).alloc _)).mono ?_); rintro e w1 ⟨rfl, hx1⟩)
    go_ret
    exact ⟨rb HO.out.symm, ((Ext.refl w).alloc _).trans hx1⟩
  rw [hval] at HVal
  have hok := validRg_ok hval
  have HO := Lib.hid (show fullR D = !trialB D by rw [fullR, hval]; rfl)
  have Hhok := Lib.hid hok; clear hok
  clear hval
  go_enter Try.func15, Try.ntmps15
  go_wp2_with fail
  obtain ⟨wb, hwb⟩ : ∃ wb, wb = w.alloc (.cells #[.int .i64 D.ch.base, .int .i64 D.ch.states, .int .i64 D.ch.start, .int .i64 D.ch.fin, .slice a n c, .slice b m d, .int .i64 D.apart, .slice ia im ic, .slice ra rm rc] 30) := ⟨_, rfl⟩
  have hxb : Ext w wb := by rw [hwb]; exact (by repeat (first | (with_reducible exact Ext.refl _) | (with_reducible refine Ext.drewN ?_ _) | (with_reducible refine Ext.drew ?_) | (with_reducible refine Ext.alloc ?_ _) | ((with_reducible refine Ext.setCell ?_ ?_ _); rotate_left; focus (first | (simp; done) | (simp; omega) | omega)) | assumption | (with_reducible refine Ext.trans ?_ (by assumption))))
  rw [← hwb] at HB ⊢
  generalize w.heap.size = q at *
  clear hwb
  refine (HVal.out _ hxb).mono ?_
  rintro e w1 ⟨rfl, hx1⟩
  have hxw1 : Ext wb w1 := hx1
  have HX1 := Lib.hid hx1
  go_wp2_with fail
  obtain ⟨p, hp⟩ : ∃ p, p = w1.heap.size := ⟨_, rfl⟩
  have HVar := Lib.hid (VarAt.new w1 4 (.bool true))
  rw [← hp] at HVar ⊢
  have hpb : wb.heap.size ≤ p := by rw [hp]; exact hx1.le
  have hsz : (w1.alloc (.cells #[.bool true] 4)).heap.size = p + 1 := by rw [hp]; unfold World.alloc; exact Array.size_push ..
  have HC := Lib.hid (impl_trials D.ch q a n c b m d 56 #[.pointer (some ⟨q, 0, none⟩), .pointer (some ⟨p, 0, none⟩)]
    (fun lo _ k W => Ext wb W ∧ VarAt W p 4 (.bool true) ∧ p < lo ∧ NoFree D k) (fun W => Ext wb W ∧ VarAt W p 4 (.bool false) ∧ trialB D = true)
    (w1.alloc (.cells #[.bool true] 4)) (HB.out.ch.ext (hx1.alloc _)) Hhok.out.ch (fun _ _ => rfl)
    (fun w2 hx2 => ⟨(hx1.alloc _).trans hx2, HVar.out.ext hx2, by rw [hsz]; omega, fun j hj => by omega⟩)
    (fun lo hi k W W' h hx => ⟨h.1.trans hx, h.2.1.ext hx, h.2.2⟩)
    (fun lo hi k W h => HB.out.ch.ext h.1)
    (fun lo hi k W hk h hh => by
      obtain ⟨h1, h2, h3, h4⟩ := h
      have hkl : k < (wordsA D.ch).length := Nat.lt_of_lt_of_le hk (tries_le _)
      have hws := wordR_len Hhok.out.ch hkl
      have hp20 := Hhok.out.ch.p20
      refine (isFull1 D q p a n c b m d ia im ic ra rm rc (wordR D.ch (k + 1)) _ W (HB.out.ext h1) h2 him (fun v hv => ?_) (by omega)).mono ?_
      · obtain ⟨i, hi', rfl⟩ := List.mem_iff_getElem.1 hv
        have := Hhok.out.s20 i hi'
        rw [gs_get hi'] at this
        omega
      · rintro e W' ⟨rfl, W2, hx2, rfl⟩
        have hv2 := h2.ext hx2
        have hxw : Ext wb (W2.setCell ⟨p, 0, none⟩ (.bool (!freeB D (wordR D.ch (k + 1))))) := (h1.trans hx2).setCell hpb _
        cases hfr : freeB D (wordR D.ch (k + 1))
        · left
          rw [hfr] at hxw
          refine ⟨rfl, ⟨hxw, hv2.set _, h3, h4.step hfr⟩, fun x hl hh' => ?_, by rw [size_setCell]; exact hx2.le⟩
          rw [Below.heap_setCell _ _ _ _ (by intro he; have : x = p := he; omega)]
          exact Below.block hx2 x (by omega)
        · right
          rw [hfr] at hxw
          exact ⟨rfl, hxw, hv2.set _, by rw [trialB, trial_some hk h4 hfr]; rfl⟩))
  refine HC.out.mono ?_
  rintro e w2 ⟨rfl, hres⟩
  have hfin : ∃ bl, Ext wb w2 ∧ VarAt w2 p 4 (.bool bl) ∧ fullR D = bl := by
    rcases hres with ⟨lo, hi, h1, h2, _, h4⟩ | ⟨h1, h2, h3⟩
    · exact ⟨true, h1, h2, by rw [HO.out, trialB, trial_none h4]; rfl⟩
    · exact ⟨false, h1, h2, by rw [HO.out, h3]; rfl⟩
  obtain ⟨bl, hx2, hvar, hbl⟩ := hfin
  have hcell := hvar.cell
  have Hhbl := Lib.hid hbl; clear hbl
  clear hres HC HVar
  subst hp
  go_wp2
  go_ret
  exact ⟨rb Hhbl.out.symm, hxb.trans hx2⟩
end Go.Proofs.Ytcdoanookiimaaa
