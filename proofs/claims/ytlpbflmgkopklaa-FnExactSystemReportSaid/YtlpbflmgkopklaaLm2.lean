/- Walks: the least modulus, in the program and in the reference. -/
import Derived.Test.YtlpbflmgkopklaaLm
import Derived.Test.YtlpbflmgkopklaaLInts
namespace Go.Proofs.Ytlpbflmgkopklaa
set_option maxRecDepth 100000
open Go.RowKit

theorem rangeAll_no {p : Nat → Bool} {n k : Nat} (hk : k < n) (h : p k = false) : (List.range n).all p = false := List.all_eq_false.2 ⟨k, List.mem_range.2 hk, by rw [h]; simp⟩
theorem rangeAll_yes {p : Nat → Bool} {n : Nat} (h : ∀ k, k < n → p k = true) : (List.range n).all p = true := List.all_eq_true.2 fun k hk => h k (List.mem_range.1 hk)
def riseB (l : List Int) (lo hi : Int) (k : Nat) : Bool := inB (gi l k) lo hi && (decide (k = 0) || decide (gi l (k - 1) < gi l k))
set_option maxHeartbeats 2000000 in
theorem spec_rises (a : Option Addr) (n c : Nat) (l : List Int) (lo hi : Int) (w : World) (hv : Ints w a n c l) (hn : n ≤ 1048576) :
    Calls Try.prog 57 #[.slice a n c, .int .i64 lo, .int .i64 hi] w (Ret (.bool ((List.range n).all (riseB l lo hi))) w) := by
  obtain ⟨b, off, hix, hcell⟩ := hv.ix (P := Try.prog) 22 2 und_int64s cell_int64
  have Hhv := Lib.hid hv; clear hv
  obtain ⟨y, hy⟩ : ∃ y, y = (List.range n).all (riseB l lo hi) := ⟨_, rfl⟩
  rw [← hy]
  have HNo := Lib.hid (fun k (hk : k < n) (h : riseB l lo hi k = false) => hy.trans (rangeAll_no hk h))
  have HYes := Lib.hid (fun (h : ∀ k, k < n → riseB l lo hi k = true) => hy.trans (rangeAll_yes h))
  clear hy
  go_enter Try.func57, Try.ntmps57
  go_wp2
  go_loopw [7] (fun i wr => ∃ k : Nat, k ≤ n ∧ i = .int .i64 k ∧ (∀ j, j < k → riseB l lo hi j = true) ∧ Ext w wr) (fun i _ => n - (intOf i).toNat)
  case atStart => exact ⟨0, Nat.zero_le _, rfl, (fun j hj => by omega), Ext.refl _⟩
  case round =>
    obtain ⟨k, hk, rfl, hp, hx⟩ := hrel
    have hxr : Ext w wr := hx
    have Hhp := Lib.hid hp; clear hp
    by_cases hlt : k < n
    · have HIn := Lib.hid (spec_in (gi l k) lo hi)
      have HB := Lib.hid (show riseB l lo hi k = (inB (gi l k) lo hi && (decide (k = 0) || decide (gi l (k - 1) < gi l k))) from rfl)
      have HSt := Lib.hid (fun (h : riseB l lo hi k = true) => show ∀ j, j < k + 1 → riseB l lo hi j = true from fun j hj => by
        by_cases e : j < k
        · exact Hhp.out j e
        · obtain rfl : j = k := by omega
          exact h)
      cases hin : inB (gi l k) lo hi
      · rw [hin] at HIn HB
        clear hin
        go_wp2
        (refine wp_region_from w (by repeat (first | (with_reducible exact Ext.refl _) | (with_reducible refine Ext.drewN ?_ _) | (with_reducible refine Ext.drew ?_) | (with_reducible refine Ext.alloc ?_ _) | ((with_reducible refine Ext.setCell ?_ ?_ _); rotate_left; focus (first | (simp; done) | (simp; omega) | omega)) | assumption | (with_reducible refine Ext.trans ?_ (by assumption)))) (by kernel_rfl) (by kernel_rfl) (seqB_of (by kernel_rfl)) ?_; (repeat (first | (refine mix_q rfl ?_; go_big_quiet_step (fail); refine wpQuiet_nil ?_; show wpMix _ _ _ _ _ _ _) | (refine mix_s rfl ?_; go_wp2_with (((with_reducible refine (HIn.out _).mono ?_); rintro e w9 ⟨rfl, rfl⟩)); first | refine ⟨up_of (by repeat (first | (with_reducible exact Ext.refl _) | (with_reducible refine Ext.drewN ?_ _) | (with_reducible refine Ext.drew ?_) | (with_reducible refine Ext.alloc ?_ _) | ((with_reducible refine Ext.setCell ?_ ?_ _); rotate_left; focus (first | (simp; done) | (simp; omega) | omega)) | assumption | (with_reducible refine Ext.trans ?_ (by assumption)))), ?_⟩ | refine ⟨rfl, rfl, up_of (by repeat (first | (with_reducible exact Ext.refl _) | (with_reducible refine Ext.drewN ?_ _) | (with_reducible refine Ext.drew ?_) | (with_reducible refine Ext.alloc ?_ _) | ((with_reducible refine Ext.setCell ?_ ?_ _); rotate_left; focus (first | (simp; done) | (simp; omega) | omega)) | assumption | (with_reducible refine Ext.trans ?_ (by assumption)))), ?_⟩))); refine mix_nil ?_)
        go_wp2
        go_ret
        exact ⟨rb (HNo.out k hlt HB.out).symm, (by repeat (first | (with_reducible exact Ext.refl _) | (with_reducible refine Ext.drewN ?_ _) | (with_reducible refine Ext.drew ?_) | (with_reducible refine Ext.alloc ?_ _) | ((with_reducible refine Ext.setCell ?_ ?_ _); rotate_left; focus (first | (simp; done) | (simp; omega) | omega)) | assumption | (with_reducible refine Ext.trans ?_ (by assumption))))⟩
      rw [hin, Bool.true_and] at HB
      rw [hin] at HIn
      clear hin
      rcases Nat.eq_zero_or_pos k with hk0 | hk0
      · have h0 : ¬ 0 < k := by omega
        have HX := Lib.hid (HSt.out (by rw [HB.out]; simp [hk0]))
        clear hk0
        go_wp2
        (refine wp_region_from w (by repeat (first | (with_reducible exact Ext.refl _) | (with_reducible refine Ext.drewN ?_ _) | (with_reducible refine Ext.drew ?_) | (with_reducible refine Ext.alloc ?_ _) | ((with_reducible refine Ext.setCell ?_ ?_ _); rotate_left; focus (first | (simp; done) | (simp; omega) | omega)) | assumption | (with_reducible refine Ext.trans ?_ (by assumption)))) (by kernel_rfl) (by kernel_rfl) (seqB_of (by kernel_rfl)) ?_; (repeat (first | (refine mix_q rfl ?_; go_big_quiet_step (fail); refine wpQuiet_nil ?_; show wpMix _ _ _ _ _ _ _) | (refine mix_s rfl ?_; go_wp2_with (((with_reducible refine (HIn.out _).mono ?_); rintro e w9 ⟨rfl, rfl⟩)); first | refine ⟨up_of (by repeat (first | (with_reducible exact Ext.refl _) | (with_reducible refine Ext.drewN ?_ _) | (with_reducible refine Ext.drew ?_) | (with_reducible refine Ext.alloc ?_ _) | ((with_reducible refine Ext.setCell ?_ ?_ _); rotate_left; focus (first | (simp; done) | (simp; omega) | omega)) | assumption | (with_reducible refine Ext.trans ?_ (by assumption)))), ?_⟩ | refine ⟨rfl, rfl, up_of (by repeat (first | (with_reducible exact Ext.refl _) | (with_reducible refine Ext.drewN ?_ _) | (with_reducible refine Ext.drew ?_) | (with_reducible refine Ext.alloc ?_ _) | ((with_reducible refine Ext.setCell ?_ ?_ _); rotate_left; focus (first | (simp; done) | (simp; omega) | omega)) | assumption | (with_reducible refine Ext.trans ?_ (by assumption)))), ?_⟩))); refine mix_nil ?_)
        go_wp2
        exact ⟨⟨k + 1, by omega, by go_num, HX.out, (by repeat (first | (with_reducible exact Ext.refl _) | (with_reducible refine Ext.drewN ?_ _) | (with_reducible refine Ext.drew ?_) | (with_reducible refine Ext.alloc ?_ _) | ((with_reducible refine Ext.setCell ?_ ?_ _); rotate_left; focus (first | (simp; done) | (simp; omega) | omega)) | assumption | (with_reducible refine Ext.trans ?_ (by assumption))))⟩, by simp [intOf]; omega⟩
      · have hz : (decide (k = 0)) = false := by simp; omega
        rw [hz, Bool.false_or] at HB
        obtain ⟨b1, o1, x1, x2⟩ := Hhv.out.one (P := Try.prog) 22 2 und_int64s cell_int64 ((k : Int) - 1) (by omega) (by omega)
        rw [show ((k : Int) - 1).toNat = k - 1 by omega] at x2
        clear hz
        by_cases hlt2 : gi l (k - 1) < gi l k
        · have HX := Lib.hid (HSt.out (by rw [HB.out]; simpa using hlt2))
          generalize gi l (k - 1) = z at *
          go_wp2
          (refine wp_region_from w (by repeat (first | (with_reducible exact Ext.refl _) | (with_reducible refine Ext.drewN ?_ _) | (with_reducible refine Ext.drew ?_) | (with_reducible refine Ext.alloc ?_ _) | ((with_reducible refine Ext.setCell ?_ ?_ _); rotate_left; focus (first | (simp; done) | (simp; omega) | omega)) | assumption | (with_reducible refine Ext.trans ?_ (by assumption)))) (by kernel_rfl) (by kernel_rfl) (seqB_of (by kernel_rfl)) ?_; (repeat (first | (refine mix_q rfl ?_; go_big_quiet_step (fail); refine wpQuiet_nil ?_; show wpMix _ _ _ _ _ _ _) | (refine mix_s rfl ?_; go_wp2_with (((with_reducible refine (HIn.out _).mono ?_); rintro e w9 ⟨rfl, rfl⟩)); first | refine ⟨up_of (by repeat (first | (with_reducible exact Ext.refl _) | (with_reducible refine Ext.drewN ?_ _) | (with_reducible refine Ext.drew ?_) | (with_reducible refine Ext.alloc ?_ _) | ((with_reducible refine Ext.setCell ?_ ?_ _); rotate_left; focus (first | (simp; done) | (simp; omega) | omega)) | assumption | (with_reducible refine Ext.trans ?_ (by assumption)))), ?_⟩ | refine ⟨rfl, rfl, up_of (by repeat (first | (with_reducible exact Ext.refl _) | (with_reducible refine Ext.drewN ?_ _) | (with_reducible refine Ext.drew ?_) | (with_reducible refine Ext.alloc ?_ _) | ((with_reducible refine Ext.setCell ?_ ?_ _); rotate_left; focus (first | (simp; done) | (simp; omega) | omega)) | assumption | (with_reducible refine Ext.trans ?_ (by assumption)))), ?_⟩))); refine mix_nil ?_)
          go_wp2
          exact ⟨⟨k + 1, by omega, by go_num, HX.out, (by repeat (first | (with_reducible exact Ext.refl _) | (with_reducible refine Ext.drewN ?_ _) | (with_reducible refine Ext.drew ?_) | (with_reducible refine Ext.alloc ?_ _) | ((with_reducible refine Ext.setCell ?_ ?_ _); rotate_left; focus (first | (simp; done) | (simp; omega) | omega)) | assumption | (with_reducible refine Ext.trans ?_ (by assumption))))⟩, by simp [intOf]; omega⟩
        · have HX := Lib.hid (HNo.out k hlt (by rw [HB.out]; simpa using hlt2))
          generalize gi l (k - 1) = z at *
          go_wp2
          (refine wp_region_from w (by repeat (first | (with_reducible exact Ext.refl _) | (with_reducible refine Ext.drewN ?_ _) | (with_reducible refine Ext.drew ?_) | (with_reducible refine Ext.alloc ?_ _) | ((with_reducible refine Ext.setCell ?_ ?_ _); rotate_left; focus (first | (simp; done) | (simp; omega) | omega)) | assumption | (with_reducible refine Ext.trans ?_ (by assumption)))) (by kernel_rfl) (by kernel_rfl) (seqB_of (by kernel_rfl)) ?_; (repeat (first | (refine mix_q rfl ?_; go_big_quiet_step (fail); refine wpQuiet_nil ?_; show wpMix _ _ _ _ _ _ _) | (refine mix_s rfl ?_; go_wp2_with (((with_reducible refine (HIn.out _).mono ?_); rintro e w9 ⟨rfl, rfl⟩)); first | refine ⟨up_of (by repeat (first | (with_reducible exact Ext.refl _) | (with_reducible refine Ext.drewN ?_ _) | (with_reducible refine Ext.drew ?_) | (with_reducible refine Ext.alloc ?_ _) | ((with_reducible refine Ext.setCell ?_ ?_ _); rotate_left; focus (first | (simp; done) | (simp; omega) | omega)) | assumption | (with_reducible refine Ext.trans ?_ (by assumption)))), ?_⟩ | refine ⟨rfl, rfl, up_of (by repeat (first | (with_reducible exact Ext.refl _) | (with_reducible refine Ext.drewN ?_ _) | (with_reducible refine Ext.drew ?_) | (with_reducible refine Ext.alloc ?_ _) | ((with_reducible refine Ext.setCell ?_ ?_ _); rotate_left; focus (first | (simp; done) | (simp; omega) | omega)) | assumption | (with_reducible refine Ext.trans ?_ (by assumption)))), ?_⟩))); refine mix_nil ?_)
          go_wp2
          go_ret
          exact ⟨rb HX.out.symm, (by repeat (first | (with_reducible exact Ext.refl _) | (with_reducible refine Ext.drewN ?_ _) | (with_reducible refine Ext.drew ?_) | (with_reducible refine Ext.alloc ?_ _) | ((with_reducible refine Ext.setCell ?_ ?_ _); rotate_left; focus (first | (simp; done) | (simp; omega) | omega)) | assumption | (with_reducible refine Ext.trans ?_ (by assumption))))⟩
    · obtain rfl : k = n := by omega
      go_wp2
      go_ret
      exact ⟨rb (HYes.out Hhp.out).symm, hx⟩

/-- a number, a fresh list of numbers, a bool -/
def RetNLB (z : Int) (R : List Int) (ok : Bool) (w : World) (e : Ending) (w' : World) : Prop :=
  ∃ a n c, e = .returned (.tuple #[.int .i64 z, .slice a n c, .bool ok]) ∧ Ext w w' ∧ Own w' w.heap.size 2 a n c (I R)
theorem lm_none {base places : Int} {kinds : List Int} (h : lmO base places kinds = none) : lmZ base places kinds = 0 ∧ lmL base places kinds = [] ∧ lmB base places kinds = false := by
  simp [lmZ, lmL, lmB, h]
theorem lm_some {base places : Int} {kinds : List Int} {m : Nat} {l : List Int} (h : lmO base places kinds = some (m, l)) : lmZ base places kinds = m ∧ lmL base places kinds = l ∧ lmB base places kinds = true := by
  simp [lmZ, lmL, lmB, h]
theorem lm_retN {base places : Int} {kinds : List Int} {w w' : World} (h : lmO base places kinds = none) (hx : Ext w w') :
    RetNLB (lmZ base places kinds) (lmL base places kinds) (lmB base places kinds) w (.returned (.tuple #[.int .i64 0, .slice none 0 0, .bool false])) w' := by
  rw [(lm_none h).1, (lm_none h).2.1, (lm_none h).2.2]
  exact ⟨none, 0, 0, rfl, hx, Own.nil _ _ _⟩
theorem lm_retS {base places : Int} {kinds : List Int} {w w' : World} {m : Nat} {l : List Int} {a : Option Addr} {n c : Nat} (h : lmO base places kinds = some (m, l)) (hx : Ext w w') (ho : Own w' w.heap.size 2 a n c (I l)) :
    RetNLB (lmZ base places kinds) (lmL base places kinds) (lmB base places kinds) w (.returned (.tuple #[.int .i64 m, .slice a n c, .bool true])) w' := by
  rw [(lm_some h).1, (lm_some h).2.1, (lm_some h).2.2]
  exact ⟨a, n, c, rfl, hx, ho⟩
theorem lm11 (p : Nat) (W : Wt) (a : Option Addr) (n c : Nat) (k : Int) (w : World) (h : IsWt w p W a n c) (hg : Good W) (hk : 0 ≤ k ∧ k ≤ 5) :
    Calls Try.prog 54 (#[.int .i64 k] ++ #[.pointer (some ⟨p, 0, none⟩)]) w (Ret (.bool (decide (0 < allF W k))) w) := by
  have HU := Lib.hid (impl_unseenAll p W a n c k w h hg hk)
  have hbd := allF_bd (k := k) hg.b36 hg.l20
  generalize allF W k = y at *
  clear h hg
  go_enter Try.func54, Try.ntmps54
  go_wp2_with ((with_reducible refine HU.out.mono ?_); rintro e w' ⟨rfl, q, rfl⟩)
  go_ret
  exact ⟨rfl, (by repeat (first | (with_reducible exact Ext.refl _) | (with_reducible refine Ext.drewN ?_ _) | (with_reducible refine Ext.drew ?_) | (with_reducible refine Ext.alloc ?_ _) | ((with_reducible refine Ext.setCell ?_ ?_ _); rotate_left; focus (first | (simp; done) | (simp; omega) | omega)) | assumption | (with_reducible refine Ext.trans ?_ (by assumption))))⟩
/-- the trial: what it leaves if the list leaves nothing unseen; if it does not -/
def LmPost (base : Int) (m : Nat) (kinds l : List Int) (p10 B : Nat) (W : World) (e : Ending) (W' : World) : Prop :=
  (fineB ⟨base, m, 0, l⟩ kinds = false ∧ e = .returned (.bool true) ∧ Ext W W') ∨
  (fineB ⟨base, m, 0, l⟩ kinds = true ∧ e = .returned (.bool false) ∧ ∃ W2 sa sc, Ext W W2 ∧ W' = W2.setCell ⟨p10, 0, none⟩ (.slice sa l.length sc) ∧ Own W2 B 2 sa l.length sc (I l) ∧ sa ≠ none)
set_option maxHeartbeats 2000000 in
theorem lm1 (p3 p9 p5 p10 g : Nat) (base : Int) (m : Nat) (ka : Option Addr) (kn kc : Nat) (kinds l : List Int) (n : Nat) (W : World) (h3 : VarAt W p3 2 (.int .i64 base)) (h9 : VarAt W p9 2 (.int .i64 m)) (h5 : VarAt W p5 22 (.slice ka kn kc)) (h10 : VarAt W p10 22 (.slice none 0 0))
    (hk : Ints W ka kn kc kinds) (hkn : kn ≤ 1048576) (hl : Ints W (some ⟨g, 0, none⟩) n n l) (hn : n ≤ 20) (hg : Good ⟨base, m, 0, l⟩) (hkb : ∀ k ∈ kinds, kindB k base = true) :
    Calls Try.prog 52 (#[.slice (some ⟨g, 0, none⟩) n n] ++ #[.pointer (some ⟨p3, 0, none⟩), .pointer (some ⟨p9, 0, none⟩), .pointer (some ⟨p5, 0, none⟩), .pointer (some ⟨p10, 0, none⟩)]) W (LmPost base m kinds l p10 W.heap.size W) := by
  have qT : ∀ (w : World) a n c, (binOp .eql 22 (.slice a n c) (.slice none 0 0)).run Try.prog w = .ok (.bool a.isNone) w := fun w a n c => Lib.run_eql_slice_nil w 22 2 a n c 0 0 und_int64s
  have c3 : ∀ w', Ext W w' → w'.cell? ⟨p3, 0, none⟩ = some (.int .i64 base) := fun w' h => (h3.ext h).cell
  have c9 : ∀ w', Ext W w' → w'.cell? ⟨p9, 0, none⟩ = some (.int .i64 m) := fun w' h => (h9.ext h).cell
  have c5 : ∀ w', Ext W w' → w'.cell? ⟨p5, 0, none⟩ = some (.slice ka kn kc) := fun w' h => (h5.ext h).cell
  have c10 : ∀ w', Ext W w' → w'.cell? ⟨p10, 0, none⟩ = some (.slice none 0 0) := fun w' h => (h10.ext h).cell
  have H10 := Lib.hid h10
  have hll : l.length = n := hl.len
  have HB := Lib.hid (isWt_box W base m 0 l (some ⟨g, 0, none⟩) n n 34 hl)
  have HCl := Lib.hid (fun W' (h : Ext W W') => clone_ints (some ⟨g, 0, none⟩) n n l W' (hl.ext h) (by omega))
  have HK := Lib.hid (containsFunc_ints ka kn kc kinds 54 #[.pointer (some ⟨W.heap.size, 0, none⟩)] (fun k => decide (0 < allF ⟨base, m, 0, l⟩ k)) (ofI fun k => decide (0 < allF ⟨base, m, 0, l⟩ k)) (W.alloc (.cells #[.int .i64 base, .int .i64 m, .int .i64 0, .slice (some ⟨g, 0, none⟩) n n] 34)) (hk.ext ((Ext.refl W).alloc _)) (by omega) (fun _ => rfl)
    ⟨fun _ _ => rfl, fun x hx w' hx' => by
      obtain ⟨k, hk', rfl⟩ := mem_I hx
      have hb := hkb k hk'
      unfold kindB at hb
      simp only [Bool.and_eq_true] at hb
      exact lm11 W.heap.size ⟨base, m, 0, l⟩ (some ⟨g, 0, none⟩) n n k w' (HB.out.ext hx') hg (inB_t.1 hb.1)⟩)
  have HF := Lib.hid (fine_any (W := ⟨base, m, 0, l⟩) hg.b36 hg.l20 kinds)
  clear h3 h9 h5 h10 hk hl hg hkb
  obtain ⟨y, hy⟩ : ∃ y, y = kinds.any fun k => decide (0 < allF ⟨base, m, 0, l⟩ k) := ⟨_, rfl⟩
  rw [← hy] at HK HF
  clear hy
  cases y
  · have HR := Lib.hid HF.out
    go_enter Try.func52, Try.ntmps52
    go_wp2_with (first | (go_at_call 53; (with_reducible refine HK.out.mono ?_); rintro e W1 ⟨rfl, hy⟩; have hx1 : Ext W W1 := Ext.trans (by repeat (first | (with_reducible exact Ext.refl _) | (with_reducible assumption) | (with_reducible refine Ext.drewN ?_ _) | (with_reducible refine Ext.drew ?_) | (with_reducible refine Ext.alloc ?_ _) | ((with_reducible refine Ext.setCell ?_ ?_ _); rotate_left; focus (first | (simp; done) | (simp; omega) | omega)) | (with_reducible refine Ext.trans ?_ (by with_reducible assumption)))) hy; clear hy) | (go_at_call 48; (with_reducible refine (HCl.out _ (by repeat (first | (with_reducible exact Ext.refl _) | (with_reducible assumption) | (with_reducible refine Ext.drewN ?_ _) | (with_reducible refine Ext.drew ?_) | (with_reducible refine Ext.alloc ?_ _) | ((with_reducible refine Ext.setCell ?_ ?_ _); rotate_left; focus (first | (simp; done) | (simp; omega) | omega)) | (with_reducible refine Ext.trans ?_ (by with_reducible assumption))))).mono ?_); rintro e W2 ⟨sa, sc, rfl, ho2, hy, hnn⟩; rw [I_len, hll] at ho2 ⊢; have hx2 : Ext W W2 := Ext.trans (by repeat (first | (with_reducible exact Ext.refl _) | (with_reducible assumption) | (with_reducible refine Ext.drewN ?_ _) | (with_reducible refine Ext.drew ?_) | (with_reducible refine Ext.alloc ?_ _) | ((with_reducible refine Ext.setCell ?_ ?_ _); rotate_left; focus (first | (simp; done) | (simp; omega) | omega)) | (with_reducible refine Ext.trans ?_ (by with_reducible assumption)))) hy; have HO2 := Lib.hid (ho2.mono hx1.le); have HNn := Lib.hid (show sa ≠ none from fun h => by have := hnn.1 h; cases this); have hv := H10.out.ext hx2; have d1 := hv.cell; have d2 := hv.frozen; have d3 := hv.lt; clear hy ho2 hnn hv))
    have hsn : sa.isNone = false := by have := HNn.out; cases sa <;> simp_all
    go_ret
    rw [hsn]
    exact .inr ⟨HR.out.symm, rfl, W2, sa, sc, hx2, by rw [hll], by rw [hll]; exact HO2.out, HNn.out⟩
  · have HR := Lib.hid HF.out
    go_enter Try.func52, Try.ntmps52
    go_wp2_with (go_at_call 53; (with_reducible refine HK.out.mono ?_); rintro e W1 ⟨rfl, hy⟩; have hx1 : Ext W W1 := Ext.trans (by repeat (first | (with_reducible exact Ext.refl _) | (with_reducible assumption) | (with_reducible refine Ext.drewN ?_ _) | (with_reducible refine Ext.drew ?_) | (with_reducible refine Ext.alloc ?_ _) | ((with_reducible refine Ext.setCell ?_ ?_ _); rotate_left; focus (first | (simp; done) | (simp; omega) | omega)) | (with_reducible refine Ext.trans ?_ (by with_reducible assumption)))) hy; clear hy)
    go_ret
    exact .inl ⟨HR.out.symm, rfl, hx1⟩
theorem lmF_stop {base : Int} {np : Nat} {kinds : List Int} {f m : Nat} (h : searchB base m np = false) : lmF base np kinds (f + 1) m = none := by rw [lmF, h]; rfl
theorem lmF_hit {base : Int} {np : Nat} {kinds : List Int} {f m : Nat} {l : List Int} (h : searchB base m np = true) (hl : leastT base m np kinds = some l) : lmF base np kinds (f + 1) m = some (m, l) := by rw [lmF, h]; simp only [hl]; rfl
theorem lmF_miss {base : Int} {np : Nat} {kinds : List Int} {f m : Nat} (h : searchB base m np = true) (hl : leastT base m np kinds = none) : lmF base np kinds (f + 1) m = lmF base np kinds f (m + 1) := by rw [lmF, h]; simp only [hl]; rfl
theorem search_m {base : Int} {m np : Nat} (h : searchB base m np = true) : 2 ≤ m ∧ m ≤ 36 ∧ m ^ np ≤ 20000 := by
  unfold searchB at h
  simp only [Bool.and_eq_true, decide_eq_true_eq] at h
  obtain ⟨⟨⟨⟨_, s2⟩, _⟩, _⟩, s5⟩ := h
  have := inB_t.1 s2
  have h2 : m ^ np ≤ 20000 := by rw [Int.toNat_natCast] at s5; exact Int.ofNat_le.1 (by rw [Int.natCast_pow]; exact s5)
  exact ⟨by omega, by omega, h2⟩
theorem touch_ext {w w' : World} (h : Touch w.heap.size w w') : Ext w w' := ⟨h.os, h.tape, h.output, h.size, fun k hk => h.block k hk (by omega)⟩
theorem ext_touch {w w1 w2 : World} (hx : Ext w w1) (h : Touch w.heap.size w1 w2) : Ext w w2 :=
  ⟨h.os.trans hx.os, h.tape.trans hx.tape, h.output.trans hx.output, Nat.le_trans hx.size h.size, fun k hk => (h.block k (Nat.lt_of_lt_of_le hk hx.size) (by omega)).trans (hx.block k hk)⟩
set_option maxHeartbeats 8000000 in
theorem impl_LM (base places : Int) (a : Option Addr) (n c : Nat) (kinds : List Int) (w : World) (hc : Ints w a n c kinds) (hn : n ≤ 1048576) :
    Calls Try.prog 17 #[.int .i64 base, .int .i64 places, .slice a n c] w (RetNLB (lmZ base places kinds) (lmL base places kinds) (lmB base places kinds) w) := by
  have qT : ∀ (w : World) a n c, (binOp .eql 22 (.slice a n c) (.slice none 0 0)).run Try.prog w = .ok (.bool a.isNone) w := fun w a n c => Lib.run_eql_slice_nil w 22 2 a n c 0 0 und_int64s
  obtain ⟨wb, hwb⟩ : ∃ wb, wb = (w.alloc (.cells #[.int .i64 base] 2)).alloc (.cells #[.slice a n c] 22) := ⟨_, rfl⟩
  have hxb : Ext w wb := by rw [hwb]; exact (by repeat (first | (with_reducible exact Ext.refl _) | (with_reducible refine Ext.drewN ?_ _) | (with_reducible refine Ext.drew ?_) | (with_reducible refine Ext.alloc ?_ _) | ((with_reducible refine Ext.setCell ?_ ?_ _); rotate_left; focus (first | (simp; done) | (simp; omega) | omega)) | assumption | (with_reducible refine Ext.trans ?_ (by assumption))))
  have hbs : wb.heap.size = w.heap.size + 2 := by rw [hwb]; simp
  have HP3 := Lib.hid (show VarAt wb w.heap.size 2 (.int .i64 base) by rw [hwb]; exact (VarAt.new w _ _).ext ((Ext.refl _).alloc _))
  have HP5 := Lib.hid (show VarAt wb (w.heap.size + 1) 22 (.slice a n c) by
    rw [hwb]
    have h := VarAt.new (w.alloc (.cells #[.int .i64 base] 2)) 22 (.slice a n c)
    rwa [show (w.alloc (.cells #[.int .i64 base] 2)).heap.size = w.heap.size + 1 by simp] at h)
  have HCb := Lib.hid (hc.ext hxb)
  have c3 : ∀ w', Ext wb w' → w'.cell? ⟨w.heap.size, 0, none⟩ = some (.int .i64 base) := fun w' h => (HP3.out.ext h).cell
  have c5 : ∀ w', Ext wb w' → w'.cell? ⟨w.heap.size + 1, 0, none⟩ = some (.slice a n c) := fun w' h => (HP5.out.ext h).cell
  have HBa := Lib.hid (fun W => impl_base base W)
  have HIn := Lib.hid (fun W => impl_in places 1 20 W)
  have HKi := Lib.hid (fun W (h : Ext wb W) => impl_kindsOk a n c kinds base W (HCb.out.ext h) hn)
  have HWb := Lib.hid hwb
  clear hc hwb
  cases hb : baseB base
  · rw [hb] at HBa
    have HO := Lib.hid (show lmO base places kinds = none by unfold lmO lmOk manyB; rw [hb]; rfl)
    go_enter Try.func17, Try.ntmps17
    go_wp2_with fail
    rw [← HWb.out]
    go_wp2_with ((with_reducible refine (HBa.out _).mono ?_); rintro e w' ⟨rfl, rfl⟩)
    go_ret3
    exact lm_retN HO.out (by repeat (first | (with_reducible exact Ext.refl _) | (with_reducible assumption) | (with_reducible refine Ext.drewN ?_ _) | (with_reducible refine Ext.drew ?_) | (with_reducible refine Ext.alloc ?_ _) | ((with_reducible refine Ext.setCell ?_ ?_ _); rotate_left; focus (first | (simp; done) | (simp; omega) | omega)) | (with_reducible refine Ext.trans ?_ (by with_reducible assumption))))
  rw [hb] at HBa
  cases hp : inB places 1 20
  · rw [hp] at HIn
    have HO := Lib.hid (show lmO base places kinds = none by unfold lmO lmOk manyB; rw [hp]; simp)
    go_enter Try.func17, Try.ntmps17
    go_wp2_with fail
    rw [← HWb.out]
    go_wp2_with (first | ((with_reducible refine (HBa.out _).mono ?_); rintro e w' ⟨rfl, rfl⟩) | ((with_reducible refine (HIn.out _).mono ?_); rintro e w' ⟨rfl, rfl⟩))
    go_ret3
    exact lm_retN HO.out (by repeat (first | (with_reducible exact Ext.refl _) | (with_reducible assumption) | (with_reducible refine Ext.drewN ?_ _) | (with_reducible refine Ext.drew ?_) | (with_reducible refine Ext.alloc ?_ _) | ((with_reducible refine Ext.setCell ?_ ?_ _); rotate_left; focus (first | (simp; done) | (simp; omega) | omega)) | (with_reducible refine Ext.trans ?_ (by with_reducible assumption))))
  rw [hp] at HIn
  obtain ⟨p1, p2⟩ := inB_t.1 hp
  obtain ⟨b1, b2⟩ := baseB_t hb
  obtain ⟨np, rfl⟩ := Int.eq_ofNat_of_zero_le (show 0 ≤ places by omega)
  have HPw := Lib.hid (fun W => impl_power base 1000000000000000 np W b1 (by omega) (by omega) (by omega) (by omega))
  cases hpw : decide (base ^ np ≤ 1000000000000000)
  · rw [hpw] at HPw
    have HO := Lib.hid (show lmO base np kinds = none by unfold lmO lmOk manyB; rw [Int.toNat_natCast, hpw]; simp)
    go_enter Try.func17, Try.ntmps17
    go_wp2_with fail
    rw [← HWb.out]
    go_wp2_with (first | ((with_reducible refine (HBa.out _).mono ?_); rintro e w' ⟨rfl, rfl⟩) | ((with_reducible refine (HIn.out _).mono ?_); rintro e w' ⟨rfl, rfl⟩) | ((with_reducible refine (HPw.out _).mono ?_); rintro e w' ⟨rfl, rfl⟩))
    go_ret3
    exact lm_retN HO.out (by repeat (first | (with_reducible exact Ext.refl _) | (with_reducible assumption) | (with_reducible refine Ext.drewN ?_ _) | (with_reducible refine Ext.drew ?_) | (with_reducible refine Ext.alloc ?_ _) | ((with_reducible refine Ext.setCell ?_ ?_ _); rotate_left; focus (first | (simp; done) | (simp; omega) | omega)) | (with_reducible refine Ext.trans ?_ (by with_reducible assumption))))
  rw [hpw] at HPw
  cases hki : kindsB kinds base
  · rw [hki] at HKi
    have HO := Lib.hid (show lmO base np kinds = none by unfold lmO lmOk; rw [hki]; simp)
    go_enter Try.func17, Try.ntmps17
    go_wp2_with fail
    rw [← HWb.out]
    go_wp2_with (first | ((with_reducible refine (HBa.out _).mono ?_); rintro e w' ⟨rfl, rfl⟩) | ((with_reducible refine (HIn.out _).mono ?_); rintro e w' ⟨rfl, rfl⟩) | ((with_reducible refine (HPw.out _).mono ?_); rintro e w' ⟨rfl, rfl⟩) | ((with_reducible refine (HKi.out _ (by repeat (first | (with_reducible exact Ext.refl _) | (with_reducible assumption) | (with_reducible refine Ext.drewN ?_ _) | (with_reducible refine Ext.drew ?_) | (with_reducible refine Ext.alloc ?_ _) | ((with_reducible refine Ext.setCell ?_ ?_ _); rotate_left; focus (first | (simp; done) | (simp; omega) | omega)) | (with_reducible refine Ext.trans ?_ (by with_reducible assumption))))).mono ?_); rintro e w' ⟨rfl, rfl⟩))
    go_ret3
    exact lm_retN HO.out (by repeat (first | (with_reducible exact Ext.refl _) | (with_reducible assumption) | (with_reducible refine Ext.drewN ?_ _) | (with_reducible refine Ext.drew ?_) | (with_reducible refine Ext.alloc ?_ _) | ((with_reducible refine Ext.setCell ?_ ?_ _); rotate_left; focus (first | (simp; done) | (simp; omega) | omega)) | (with_reducible refine Ext.trans ?_ (by with_reducible assumption))))
  rw [hki] at HKi
  have HO := Lib.hid (show lmO base np kinds = lmF base np kinds 40 2 by unfold lmO lmOk manyB; rw [Int.toNat_natCast, hb, hp, hpw, hki]; rfl)
  have HKa := Lib.hid (kindsB_all hki)
  clear hpw hki hp hb
  go_enter Try.func17, Try.ntmps17
  go_wp2_with fail
  rw [← HWb.out]
  go_wp2_with (first | ((with_reducible refine (HBa.out _).mono ?_); rintro e w' ⟨rfl, rfl⟩) | ((with_reducible refine (HIn.out _).mono ?_); rintro e w' ⟨rfl, rfl⟩) | ((with_reducible refine (HPw.out _).mono ?_); rintro e w' ⟨rfl, rfl⟩) | ((with_reducible refine (HKi.out _ (by repeat (first | (with_reducible exact Ext.refl _) | (with_reducible assumption) | (with_reducible refine Ext.drewN ?_ _) | (with_reducible refine Ext.drew ?_) | (with_reducible refine Ext.alloc ?_ _) | ((with_reducible refine Ext.setCell ?_ ?_ _); rotate_left; focus (first | (simp; done) | (simp; omega) | omega)) | (with_reducible refine Ext.trans ?_ (by with_reducible assumption))))).mono ?_); rintro e w' ⟨rfl, rfl⟩))
  have HV2 := Lib.hid (show VarAt (wb.alloc (.cells #[.int .i64 2] 2)) wb.heap.size 2 (.int .i64 ((2 : Nat) : Int)) from VarAt.new wb 2 (.int .i64 2))
  have hxb2 : Ext wb (wb.alloc (.cells #[.int .i64 2] 2)) := (by repeat (first | (with_reducible exact Ext.refl _) | (with_reducible assumption) | (with_reducible refine Ext.drewN ?_ _) | (with_reducible refine Ext.drew ?_) | (with_reducible refine Ext.alloc ?_ _) | ((with_reducible refine Ext.setCell ?_ ?_ _); rotate_left; focus (first | (simp; done) | (simp; omega) | omega)) | (with_reducible refine Ext.trans ?_ (by with_reducible assumption))))
  go_loopg [9, 10] 38 (fun gk s9 _ wr => ∃ (m q : Nat), 2 ≤ m ∧ m ≤ 37 ∧ gk = 40 - m ∧ s9 = .pointer (some ⟨q, 0, none⟩) ∧ Hid (VarAt wr q 2 (.int .i64 m)) ∧ Hid (lmO base np kinds = lmF base np kinds (42 - m) m) ∧ wb.heap.size ≤ q ∧ Ext wb wr)
  case atStart => exact ⟨2, wb.heap.size, by omega, by omega, by omega, by rw [hbs], HV2, HO, Nat.le_refl _, hxb2⟩
  case round =>
    obtain ⟨m, q, hm2, hm37, rfl, rfl, HQ, HM, hqb, hx⟩ := hrel
    have hxr : Ext wb wr := hx
    have cq : ∀ w', Ext wr w' → w'.cell? ⟨q, 0, none⟩ = some (.int .i64 m) := fun w' h => (HQ.out.ext h).cell
    have HSe := Lib.hid (fun W => impl_searchOk base m np W)
    have hf : 42 - m = (41 - m) + 1 := by omega
    rw [hf] at HM
    cases hs : searchB base m np
    · rw [hs] at HSe
      have HN := Lib.hid (HM.out.trans (lmF_stop hs))
      clear hs hf
      go_wp2_with ((with_reducible refine (HSe.out _).mono ?_); rintro e w' ⟨rfl, rfl⟩)
      go_ret3
      exact lm_retN HN.out (by repeat (first | (with_reducible exact Ext.refl _) | (with_reducible assumption) | (with_reducible refine Ext.drewN ?_ _) | (with_reducible refine Ext.drew ?_) | (with_reducible refine Ext.alloc ?_ _) | ((with_reducible refine Ext.setCell ?_ ?_ _); rotate_left; focus (first | (simp; done) | (simp; omega) | omega)) | (with_reducible refine Ext.trans ?_ (by with_reducible assumption))))
    · rw [hs] at HSe
      obtain ⟨s2, s36, sN⟩ := search_m hs
      have HGd := Lib.hid (fun t (ht : t < m ^ np) => good_tup (m := m) (n := np) (t := t) ⟨b1, b2⟩ ⟨s2, s36⟩ (by omega) ht)
      obtain ⟨wS, hwS⟩ : ∃ wS, wS = wr.alloc (.cells #[.slice none 0 0] 22) := ⟨_, rfl⟩
      have hxS : Ext wr wS := by rw [hwS]; exact (by repeat (first | (with_reducible exact Ext.refl _) | (with_reducible refine Ext.drewN ?_ _) | (with_reducible refine Ext.drew ?_) | (with_reducible refine Ext.alloc ?_ _) | ((with_reducible refine Ext.setCell ?_ ?_ _); rotate_left; focus (first | (simp; done) | (simp; omega) | omega)) | assumption | (with_reducible refine Ext.trans ?_ (by assumption))))
      have hSs : wS.heap.size = wr.heap.size + 1 := by rw [hwS]; simp
      have HPo := Lib.hid (show VarAt wS wr.heap.size 22 (.slice none 0 0) by rw [hwS]; exact VarAt.new wr _ _)
      have hbr := hx.le
      have HT := Lib.hid (impl_tuples m np 52 #[.pointer (some ⟨w.heap.size, 0, none⟩), .pointer (some ⟨q, 0, none⟩), .pointer (some ⟨w.heap.size + 1, 0, none⟩), .pointer (some ⟨wr.heap.size, 0, none⟩)]
        (fun t W => Ext wS W ∧ NoneT base m np kinds t)
        (fun W => ∃ t sa sc, t < m ^ np ∧ NoneT base m np kinds t ∧ fineB ⟨base, m, 0, tupAt m np t⟩ kinds = true ∧ Ext wr W ∧ VarAt W wr.heap.size 22 (.slice sa np sc) ∧ Own W wr.heap.size 2 sa np sc (I (tupAt m np t)) ∧ sa ≠ none)
        wS (by omega) (by omega) (by omega) (fun _ _ => rfl)
        (fun W ht => ⟨touch_ext ht, fun i hi => by omega⟩)
        (fun t W W' h ht => ⟨ext_touch h.1 ht, h.2⟩)
        (fun t W ht h ho => by
          have hxW := hxS.trans h.1
          refine (lm1 w.heap.size q (w.heap.size + 1) wr.heap.size wS.heap.size base m a n c kinds (tupAt m np t) np W (HP3.out.ext (hx.trans hxW)) (HQ.out.ext hxW) (HP5.out.ext (hx.trans hxW)) (HPo.out.ext h.1) (HCb.out.ext (hx.trans hxW)) hn ho.ints (by omega) (HGd.out t ht) HKa.out).mono ?_
          rintro e W' (⟨g1, rfl, hx'⟩ | ⟨g1, rfl, W2, sa, sc, g2, rfl, g3, g4⟩)
          · exact .inl ⟨rfl, ⟨h.1.trans hx', h.2.step g1⟩, Below.block hx' _ ho.lt.2⟩
          · rw [tupAt_len] at g3 ⊢
            have hle := h.1.le
            exact .inr ⟨rfl, t, sa, sc, ht, h.2, g1, (hxW.trans g2).setCell (Nat.le_refl _) _, (HPo.out.ext (h.1.trans g2)).set _, (g3.setBelow (by show wr.heap.size < W.heap.size; omega) _).mono (by omega), g4⟩))
      have HSr := Lib.hid hs
      clear hs hf HGd
      go_wp2_with ((with_reducible refine (HSe.out _).mono ?_); rintro e w' ⟨rfl, rfl⟩)
      rw [← hwS]
      refine HT.out.mono ?_
      rintro e w2 ⟨rfl, hres⟩
      clear HT
      rcases hres with ⟨hx2, hno⟩ | ⟨t, sa, sc, ht, hno, hfi, hx2, hv2, ho2, hnn⟩
      · have HMm := Lib.hid (HM.out.trans (lmF_miss HSr.out (least_none hno)))
        have hxr2 : Ext wr w2 := hxS.trans hx2
        have d1 := (HPo.out.ext hx2).cell
        have HVn := Lib.hid (show VarAt (w2.alloc (.cells #[.int .i64 ((m : Int) + 1)] 2)) w2.heap.size 2 (.int .i64 ((m + 1 : Nat) : Int)) from VarAt.new w2 2 (.int .i64 ((m : Int) + 1)))
        have hxf : Ext wb (w2.alloc (.cells #[.int .i64 ((m : Int) + 1)] 2)) := (hx.trans hxr2).alloc _
        have hle2 := hxr2.le
        clear hno
        go_wp2_with fail
        go_roundg (40 - (m + 1))
        case measure => omega
        case rel => exact ⟨m + 1, w2.heap.size, by omega, by omega, by omega, rfl, HVn, by rw [show 42 - (m + 1) = 41 - m by omega]; exact HMm, by omega, hxf⟩
      · have HMs := Lib.hid (HM.out.trans (lmF_hit HSr.out (least_some ht hno hfi)))
        have hsn : sa.isNone = false := by cases sa <;> simp_all
        have HO2 := Lib.hid ho2
        have d1 := hv2.cell
        have d2 := (HQ.out.ext hx2).cell
        clear hno hfi ho2 hv2 hnn
        go_wp2_with fail
        go_region
        go_wp2
        go_ret3
        have hxw2 : Ext w w2 := hxb.trans (hx.trans hx2)
        have hwr := hx.le
        exact lm_retS HMs.out hxw2.drew (Own.drew (HO2.out.mono (by omega)))
end Go.Proofs.Ytlpbflmgkopklaa
