/- Walks: how many errors of a kind stay undetected at a place, in the program. -/
import Derived.Test.YtccoopnoakhedaaUndA
import Derived.Test.YtccoopnoakhedaaTyA
import Derived.Test.YtccoopnoakhedaaChVS
import Derived.Test.YtccoopnoakhedaaChW
import Derived.Test.YtccoopnoakhedaaW1
namespace Go.Proofs.Ytccoopnoakhedaa
set_option maxRecDepth 100000
open Go.RowKit

/-! ### plain -/
def sumN (f : Nat → Int) : Nat → Int
  | 0 => 0
  | n + 1 => sumN f n + f n
theorem sumN_congr {f g : Nat → Int} : ∀ n, (∀ k, k < n → f k = g k) → sumN f n = sumN g n
  | 0, _ => rfl
  | n + 1, h => by rw [sumN, sumN, sumN_congr n (fun k hk => h k (by omega)), h n (by omega)]
theorem wrap_zero : wrap64 0 = 0 := by unfold wrap64; omega
theorem wrap_add (a b : Int) : wrap64 (wrap64 a + wrap64 b) = wrap64 (a + b) := by unfold wrap64; omega
/-- the errors from one list of symbols to another, by the states ahead -/
def tS (D : Ch) (S pl : Nat) (F : Nat → Nat → Int) (f t : List Int) (s : Nat) : Int := gi (begL D S pl) s * F (runS D pl s f).toNat (runS D pl s t).toNat
/-- by all that an error makes of a list -/
def tJ (D : Ch) (S pl : Nat) (F : Nat → Nat → Int) (k bs : Nat) (b : Bool) (f : List Int) (j : Nat) : Int := sumN (tS D S pl F f (if b then gl (chgL k bs f) j else f)) S
/-- by all lists -/
def tT (D : Ch) (S pl : Nat) (F : Nat → Nat → Int) (k bs : Nat) (b : Bool) (t : Nat) : Int := sumN (tJ D S pl F k bs b (tupAt bs (lenK k) t)) (chgL k bs (tupAt bs (lenK k) t)).length
set_option maxHeartbeats 8000000 in
theorem undet2G {D : Ch} {q S pl r : Nat} {a : Option Addr} {n c : Nat} {a' : Option Addr} {n' c' : Nat} {p1 p2 p3 p6 : Nat} {ba : Option Addr} {bc : Nat} {ga : Option Addr} {gc : Nat} {F : Nat → Nat → Int} {G C : Nat → Nat} {B : Nat} {B0 : World}
    (henv : Env D q S pl r a n c a' n' c' p1 p2 p3 p6 ba bc ga gc F G C B B0) (hok : OkCh D) (q5 q7 q8 : Nat) (fa : Option Addr) (fn fc : Nat) (from' : List Int) (ta : Option Addr) (tn tc : Nat) (to' : List Int) (W : World) (hx : Ext B0 W) (A5 A7 : Int)
    (h5 : VarAt W q5 2 (.int .i64 (wrap64 A5))) (h7 : VarAt W q7 2 (.int .i64 (wrap64 A7))) (h8 : VarAt W q8 25 (.slice fa fn fc)) (hf : Ints W fa fn fc from') (ht : Ints W ta tn tc to')
    (hfa : ∀ x, fa = some x → x.block ≠ q5 ∧ x.block ≠ q7) (hta : ∀ x, ta = some x → x.block ≠ q5 ∧ x.block ≠ q7) (hq5 : B0.heap.size ≤ q5) (hq7 : B0.heap.size ≤ q7) (h57 : q5 ≠ q7) (h85 : q8 ≠ q5) (h87 : q8 ≠ q7)
    (hfd : DigC D from') (htd : DigC D to') (hfl : pl + fn ≤ D.places.length) (htl : pl + tn ≤ D.places.length) :
    Calls Try.prog 47 (#[.slice ta tn tc] ++ #[.pointer (some ⟨p1, 0, none⟩), .pointer (some ⟨p2, 0, none⟩), .pointer (some ⟨p3, 0, none⟩), .pointer (some ⟨q8, 0, none⟩), .pointer (some ⟨q5, 0, none⟩), .pointer (some ⟨p6, 0, none⟩), .pointer (some ⟨q7, 0, none⟩)]) W
      (fun e w' => e = .returned (.tuple #[]) ∧ VarAt w' q5 2 (.int .i64 (wrap64 (A5 + sumN (tS D S pl F from' from') S))) ∧ VarAt w' q7 2 (.int .i64 (wrap64 (A7 + sumN (tS D S pl F from' to') S))) ∧ Two q5 q7 W w') := by
  have HEnv := Lib.hid henv
  have HOK := Lib.hid hok
  have H5 := Lib.hid h5
  have H7 := Lib.hid h7
  have H8 := Lib.hid h8
  have HF := Lib.hid hf
  have HT := Lib.hid ht
  have HFa := Lib.hid hfa
  have HTa := Lib.hid hta
  have HFd := Lib.hid hfd
  have HTd := Lib.hid htd
  have hfn := hf.len
  have htn := ht.len
  have HSs := Lib.hid henv.st
  have cb1 : ∀ w', Ext B0 w' → w'.cell? ⟨p1, 0, none⟩ = some (.slice ba S bc) := fun w' h => (HEnv.out.v1.ext h).cell
  have cb2 : ∀ w', Ext B0 w' → w'.cell? ⟨p2, 0, none⟩ = some (.pointer (some ⟨q, 0, none⟩)) := fun w' h => (HEnv.out.v2.ext h).cell
  have cb3 : ∀ w', Ext B0 w' → w'.cell? ⟨p3, 0, none⟩ = some (.int .i64 pl) := fun w' h => (HEnv.out.v3.ext h).cell
  have cb6 : ∀ w', Ext B0 w' → w'.cell? ⟨p6, 0, none⟩ = some (.slice ga S gc) := fun w' h => (HEnv.out.v6.ext h).cell
  obtain ⟨bo, off, hix, hcell⟩ := henv.bi.ix (P := Try.prog) 25 2 und_int64s cell_int64
  have hS36 : S ≤ 36 := by have h1 := henv.st; have h2 := hok.s36; omega
  have HFn := Lib.hid hfn
  have HTn := Lib.hid htn
  clear henv hok h5 h7 h8 hf ht hfa hta hfd htd hfn htn
  go_enter Try.func47, Try.ntmps47
  go_wp2
  go_loopw [15] (fun v15 wr => ∃ s : Nat, s ≤ S ∧ v15 = .int .i64 s ∧ Hid (VarAt wr q5 2 (.int .i64 (wrap64 (A5 + sumN (tS D S pl F from' from') s)))) ∧ Hid (VarAt wr q7 2 (.int .i64 (wrap64 (A7 + sumN (tS D S pl F from' to') s)))) ∧ Hid (Two q5 q7 W wr) ∧ Ext B0 wr) (fun v15 _ => S - (intOf v15).toNat)
  case atStart => exact ⟨0, Nat.zero_le _, rfl, by rw [sumN, Int.add_zero]; exact H5.out, by rw [sumN, Int.add_zero]; exact H7.out, Two.refl _ _ _, hx⟩
  case round =>
    obtain ⟨s, hs, rfl, HV5, HV7, HTw, hxr⟩ := hrel
    by_cases hlt : s < S
    · have HS5 := Lib.hid (show sumN (tS D S pl F from' from') (s + 1) = sumN (tS D S pl F from' from') s + tS D S pl F from' from' s from rfl)
      have HS7 := Lib.hid (show sumN (tS D S pl F from' to') (s + 1) = sumN (tS D S pl F from' to') s + tS D S pl F from' to' s from rfl)
      by_cases h0 : gi (begL D S pl) s = 0
      · have hq0 : (gi (begL D S pl) s == 0) = true := by simp [h0]
        have HZ5 := Lib.hid (show tS D S pl F from' from' s = 0 by unfold tS; rw [h0, Int.zero_mul])
        have HZ7 := Lib.hid (show tS D S pl F from' to' s = 0 by unfold tS; rw [h0, Int.zero_mul])
        clear h0
        go_wp2
        exact ⟨⟨s + 1, by omega, by go_num, by rw [HS5.out, HZ5.out, Int.add_zero]; exact HV5.out, by rw [HS7.out, HZ7.out, Int.add_zero]; exact HV7.out, HTw.out, hxr⟩, by simp [intOf]; omega⟩
      · have hq0 : (gi (begL D S pl) s == 0) = false := by simp [h0]
        have hr1 := runS_bd HOK.out from' (pl : Int) (s : Int) HFd.out (by omega) (by rw [HFn.out]; omega) (by omega) (by have := HSs.out; omega)
        have hr2 := runS_bd HOK.out to' (pl : Int) (s : Int) HTd.out (by omega) (by rw [HTn.out]; omega) (by omega) (by have := HSs.out; omega)
        obtain ⟨ya, hya⟩ := Int.eq_ofNat_of_zero_le hr1.1
        obtain ⟨yb, hyb⟩ := Int.eq_ofNat_of_zero_le hr2.1
        have hyaS : ya < S := by have := HSs.out; omega
        have hybS : yb < S := by have := HSs.out; omega
        have HT5 := Lib.hid (show tS D S pl F from' from' s = gi (begL D S pl) s * F ya ya by unfold tS; rw [hya, Int.toNat_natCast])
        have HT7 := Lib.hid (show tS D S pl F from' to' s = gi (begL D S pl) s * F ya yb by unfold tS; rw [hya, hyb, Int.toNat_natCast, Int.toNat_natCast])
        have HL1 := Lib.hid (fun w' (h : Ext wr w') => impl_leads D q a n c a' n' c' (pl : Int) (s : Int) fa fn fc from' w' ((HEnv.out.ch.ext hxr).ext h) HOK.out (by omega) (by omega) (by have := HSs.out; omega) ((HF.out.two HTw.out HFa.out).ext h) HFd.out (by omega))
        have HL2 := Lib.hid (fun w' (h : Ext wr w') => impl_leads D q a n c a' n' c' (pl : Int) (s : Int) ta tn tc to' w' ((HEnv.out.ch.ext hxr).ext h) HOK.out (by omega) (by omega) (by have := HSs.out; omega) ((HT.out.two HTw.out HTa.out).ext h) HTd.out (by omega))
        rw [hya] at HL1
        rw [hyb] at HL2
        obtain ⟨b1, o1, f1, f2, f3, f4, _⟩ := HEnv.out.gr.one (P := Try.prog) 54 25 und_grid cell_row1 und_int64s cell_int64 (i := ya) (x := ya) hyaS hyaS
        obtain ⟨_, _, _, _, g3, g4, _⟩ := HEnv.out.gr.one (P := Try.prog) 54 25 und_grid cell_row1 und_int64s cell_int64 (i := ya) (x := yb) hyaS hybS
        have c8 : ∀ w', Ext wr w' → w'.cell? ⟨q8, 0, none⟩ = some (.slice fa fn fc) := fun w' h => (((H8.out.two HTw.out h85 h87)).ext h).cell
        obtain ⟨v5, hv5⟩ : ∃ v, v = wrap64 (A5 + sumN (tS D S pl F from' from') s) := ⟨_, rfl⟩
        obtain ⟨v7, hv7⟩ : ∃ v, v = wrap64 (A7 + sumN (tS D S pl F from' to') s) := ⟨_, rfl⟩
        rw [← hv5] at HV5
        rw [← hv7] at HV7
        have HE5 := Lib.hid hv5
        have HE7 := Lib.hid hv7
        clear hr1 hr2 hya hyb hv5 hv7 h0
        go_wp2
        (refine wp_region_from wr (by repeat (first | (with_reducible exact Ext.refl _) | (with_reducible refine Ext.drewN ?_ _) | (with_reducible refine Ext.drew ?_) | (with_reducible refine Ext.alloc ?_ _) | ((with_reducible refine Ext.setCell ?_ ?_ _); rotate_left; focus (first | (simp; done) | (simp; omega) | omega)) | assumption | (with_reducible refine Ext.trans ?_ (by assumption)))) (by kernel_rfl) (by kernel_rfl) (by kernel_rfl) ?_; (repeat (first | (refine mix_q rfl ?_; go_big_quiet_step (fail); refine wpQuiet_nil ?_; show wpMix _ _ _ _ _ _ _) | (refine mix_s rfl ?_; go_wp2_with (first | ((with_reducible refine (HL1.out _ (by repeat (first | (with_reducible exact Ext.refl _) | (with_reducible assumption) | (with_reducible refine Ext.drewN ?_ _) | (with_reducible refine Ext.drew ?_) | (with_reducible refine Ext.alloc ?_ _) | ((with_reducible refine Ext.setCell ?_ ?_ _); rotate_left; focus (first | (simp; done) | (simp; omega) | omega)) | (with_reducible refine Ext.trans ?_ (by with_reducible assumption))))).mono ?_); rintro e w6 ⟨rfl, hy6⟩; have hxr6 : Ext wr w6 := Ext.trans (by repeat (first | (with_reducible exact Ext.refl _) | (with_reducible assumption) | (with_reducible refine Ext.drewN ?_ _) | (with_reducible refine Ext.drew ?_) | (with_reducible refine Ext.alloc ?_ _) | ((with_reducible refine Ext.setCell ?_ ?_ _); rotate_left; focus (first | (simp; done) | (simp; omega) | omega)) | (with_reducible refine Ext.trans ?_ (by with_reducible assumption)))) hy6; clear hy6) | ((with_reducible refine (HL2.out _ (by repeat (first | (with_reducible exact Ext.refl _) | (with_reducible assumption) | (with_reducible refine Ext.drewN ?_ _) | (with_reducible refine Ext.drew ?_) | (with_reducible refine Ext.alloc ?_ _) | ((with_reducible refine Ext.setCell ?_ ?_ _); rotate_left; focus (first | (simp; done) | (simp; omega) | omega)) | (with_reducible refine Ext.trans ?_ (by with_reducible assumption))))).mono ?_); rintro e w7 ⟨rfl, hy7⟩; have hxr7 : Ext wr w7 := Ext.trans (by repeat (first | (with_reducible exact Ext.refl _) | (with_reducible assumption) | (with_reducible refine Ext.drewN ?_ _) | (with_reducible refine Ext.drew ?_) | (with_reducible refine Ext.alloc ?_ _) | ((with_reducible refine Ext.setCell ?_ ?_ _); rotate_left; focus (first | (simp; done) | (simp; omega) | omega)) | (with_reducible refine Ext.trans ?_ (by with_reducible assumption)))) hy7; have hxb7 : Ext B0 w7 := hxr.trans hxr7; clear hy7)); first | refine ⟨up_of (by repeat (first | (with_reducible exact Ext.refl _) | (with_reducible refine Ext.drewN ?_ _) | (with_reducible refine Ext.drew ?_) | (with_reducible refine Ext.alloc ?_ _) | ((with_reducible refine Ext.setCell ?_ ?_ _); rotate_left; focus (first | (simp; done) | (simp; omega) | omega)) | assumption | (with_reducible refine Ext.trans ?_ (by assumption)))), ?_⟩ | refine ⟨rfl, rfl, up_of (by repeat (first | (with_reducible exact Ext.refl _) | (with_reducible refine Ext.drewN ?_ _) | (with_reducible refine Ext.drew ?_) | (with_reducible refine Ext.alloc ?_ _) | ((with_reducible refine Ext.setCell ?_ ?_ _); rotate_left; focus (first | (simp; done) | (simp; omega) | omega)) | assumption | (with_reducible refine Ext.trans ?_ (by assumption)))), ?_⟩))); refine mix_nil ?_)
        have HV57 := Lib.hid (HV5.out.ext hxr7)
        have HV77 := Lib.hid (HV7.out.ext hxr7)
        have HTw7 := Lib.hid (HTw.out.ext hxr7)
        have c5 := HV57.out.cell
        have fr5 := HV57.out.frozen
        have lt5 := HV57.out.lt
        go_wp2
        (refine wp_region_upl 11 w7 (by repeat (first | (with_reducible exact Ext.refl _) | (with_reducible refine Ext.drewN ?_ _) | (with_reducible refine Ext.drew ?_) | (with_reducible refine Ext.alloc ?_ _) | ((with_reducible refine Ext.setCell ?_ ?_ _); rotate_left; focus (first | (simp; done) | (simp; omega) | omega)) | assumption | (with_reducible refine Ext.trans ?_ (by assumption)))) rfl (by kernel_rfl) (by kernel_rfl) (seqB_of (by kernel_rfl)) (lastB_of (by kernel_rfl)) ?_; simp only [List.take_succ_cons, List.take_zero, List.drop_succ_cons, List.drop_zero]; (repeat (first | (refine mix_q rfl ?_; go_big_quiet_step (fail); refine wpQuiet_nil ?_; show wpMix _ _ _ _ _ _ _) | (refine mix_s rfl ?_; go_wp2_with (fail); first | refine ⟨up_of (by repeat (first | (with_reducible exact Ext.refl _) | (with_reducible refine Ext.drewN ?_ _) | (with_reducible refine Ext.drew ?_) | (with_reducible refine Ext.alloc ?_ _) | ((with_reducible refine Ext.setCell ?_ ?_ _); rotate_left; focus (first | (simp; done) | (simp; omega) | omega)) | assumption | (with_reducible refine Ext.trans ?_ (by assumption)))), ?_⟩ | refine ⟨rfl, rfl, up_of (by repeat (first | (with_reducible exact Ext.refl _) | (with_reducible refine Ext.drewN ?_ _) | (with_reducible refine Ext.drew ?_) | (with_reducible refine Ext.alloc ?_ _) | ((with_reducible refine Ext.setCell ?_ ?_ _); rotate_left; focus (first | (simp; done) | (simp; omega) | omega)) | assumption | (with_reducible refine Ext.trans ?_ (by assumption)))), ?_⟩))); refine mix_nil ?_)
        go_wp2
        obtain ⟨u5, hu5⟩ : ∃ u : Int, u = wrap64 (v5 + wrap64 (gi (begL D S pl) s * F ya ya)) := ⟨_, rfl⟩
        rw [← hu5]
        obtain ⟨w8, hw8⟩ : ∃ W, W = (w7.setCell ⟨q5, 0, none⟩ (.int .i64 u5)).drew := ⟨_, rfl⟩
        have HV58 := Lib.hid (show VarAt w8 q5 2 (.int .i64 u5) from by rw [hw8]; exact HV57.out.set _)
        have HV78 := Lib.hid (show VarAt w8 q7 2 (.int .i64 v7) from by rw [hw8]; exact HV77.out.other _ (by simp only; exact Ne.symm h57))
        have ht78 : Two q5 q7 w7 w8 := by rw [hw8]; exact (Two.set1 q5 q7 w7 _).drew
        have HTw8 := Lib.hid (HTw7.out.trans ht78)
        have hxb8 : Ext B0 w8 := hxb7.two ht78 hq5 hq7
        rw [← hw8]
        have c7 := HV78.out.cell
        have fr7 := HV78.out.frozen
        have lt7 := HV78.out.lt
        have HU5 := Lib.hid (show u5 = wrap64 (A5 + sumN (tS D S pl F from' from') (s + 1)) by rw [hu5, HE5.out, wrap_add, HS5.out, HT5.out, Int.add_assoc])
        clear hu5 hw8 ht78 c5 fr5 lt5 c8 hxr6 hxr7 hxb7
        (refine wp_region_upl 11 w8 (by repeat (first | (with_reducible exact Ext.refl _) | (with_reducible refine Ext.drewN ?_ _) | (with_reducible refine Ext.drew ?_) | (with_reducible refine Ext.alloc ?_ _) | ((with_reducible refine Ext.setCell ?_ ?_ _); rotate_left; focus (first | (simp; done) | (simp; omega) | omega)) | assumption | (with_reducible refine Ext.trans ?_ (by assumption)))) rfl (by kernel_rfl) (by kernel_rfl) (seqB_of (by kernel_rfl)) (lastB_of (by kernel_rfl)) ?_; simp only [List.take_succ_cons, List.take_zero, List.drop_succ_cons, List.drop_zero]; (repeat (first | (refine mix_q rfl ?_; go_big_quiet_step (fail); refine wpQuiet_nil ?_; show wpMix _ _ _ _ _ _ _) | (refine mix_s rfl ?_; go_wp2_with (fail); first | refine ⟨up_of (by repeat (first | (with_reducible exact Ext.refl _) | (with_reducible refine Ext.drewN ?_ _) | (with_reducible refine Ext.drew ?_) | (with_reducible refine Ext.alloc ?_ _) | ((with_reducible refine Ext.setCell ?_ ?_ _); rotate_left; focus (first | (simp; done) | (simp; omega) | omega)) | assumption | (with_reducible refine Ext.trans ?_ (by assumption)))), ?_⟩ | refine ⟨rfl, rfl, up_of (by repeat (first | (with_reducible exact Ext.refl _) | (with_reducible refine Ext.drewN ?_ _) | (with_reducible refine Ext.drew ?_) | (with_reducible refine Ext.alloc ?_ _) | ((with_reducible refine Ext.setCell ?_ ?_ _); rotate_left; focus (first | (simp; done) | (simp; omega) | omega)) | assumption | (with_reducible refine Ext.trans ?_ (by assumption)))), ?_⟩))); refine mix_nil ?_)
        go_wp2
        obtain ⟨u7, hu7⟩ : ∃ u : Int, u = wrap64 (v7 + wrap64 (gi (begL D S pl) s * F ya yb)) := ⟨_, rfl⟩
        rw [← hu7]
        have HU7 := Lib.hid (show u7 = wrap64 (A7 + sumN (tS D S pl F from' to') (s + 1)) by rw [hu7, HE7.out, wrap_add, HS7.out, HT7.out, Int.add_assoc])
        have ht89 : Two q5 q7 w8 (w8.setCell ⟨q7, 0, none⟩ (.int .i64 u7)).drew := (Two.set2 q5 q7 w8 _).drew
        exact ⟨⟨s + 1, by omega, by go_num, by rw [← HU5.out]; exact HV58.out.other _ (by simp only; exact h57), by rw [← HU7.out]; exact HV78.out.set _, HTw8.out.trans ht89, hxb8.two ht89 hq5 hq7⟩, by simp [intOf]; omega⟩
    · obtain rfl : s = S := by omega
      go_wp2
      exact bodyPost_end (v := .tuple #[]) (by simp [results, Try.results47, go_sem]) rfl ⟨rfl, HV5.out, HV7.out, HTw.out⟩
set_option maxHeartbeats 8000000 in
theorem undet1G {D : Ch} {q S pl r : Nat} {a : Option Addr} {n c : Nat} {a' : Option Addr} {n' c' : Nat} {p1 p2 p3 p6 : Nat} {ba : Option Addr} {bc : Nat} {ga : Option Addr} {gc : Nat} {F : Nat → Nat → Int} {G C : Nat → Nat} {B : Nat} {B0 : World}
    (henv : Env D q S pl r a n c a' n' c' p1 p2 p3 p6 ba bc ga gc F G C B B0) (hok : OkCh D) (k : Nat) (hk : k ≤ 5) (hk5 : k ≤ 4 ∨ 10 ≤ D.base) (p4 : Nat) (v4 : VarAt B0 p4 2 (.int .i64 k)) (q5 q7 g : Nat) (bs : Nat) (hbs : D.base = (bs : Int)) (fr : List Int) (hfr : DigC D fr) (W : World) (hx : Ext B0 W) (A5 A7 : Int) (fn : Nat) (hfn : fn = lenK k)
    (h5 : VarAt W q5 2 (.int .i64 (wrap64 A5))) (h7 : VarAt W q7 2 (.int .i64 (wrap64 A7))) (hf : Ints W (some ⟨g, 0, none⟩) fn fn fr)
    (hg5 : g ≠ q5) (hg7 : g ≠ q7) (hq5 : B0.heap.size ≤ q5) (hq7 : B0.heap.size ≤ q7) (h57 : q5 ≠ q7) (hpl : pl + lenK k ≤ D.places.length) :
    Calls Try.prog 45 (#[.slice (some ⟨g, 0, none⟩) fn fn] ++ #[.pointer (some ⟨p4, 0, none⟩), .pointer (some ⟨p2, 0, none⟩), .pointer (some ⟨p1, 0, none⟩), .pointer (some ⟨p3, 0, none⟩), .pointer (some ⟨q5, 0, none⟩), .pointer (some ⟨p6, 0, none⟩), .pointer (some ⟨q7, 0, none⟩)]) W
      (fun e w' => e = .returned (.bool true) ∧ VarAt w' q5 2 (.int .i64 (wrap64 (A5 + sumN (tJ D S pl F k bs false fr) (chgL k bs fr).length))) ∧ VarAt w' q7 2 (.int .i64 (wrap64 (A7 + sumN (tJ D S pl F k bs true fr) (chgL k bs fr).length))) ∧ Two q5 q7 W w') := by
  have HEnv := Lib.hid henv
  have HOK := Lib.hid hok
  have H5 := Lib.hid h5
  have H7 := Lib.hid h7
  have HF := Lib.hid hf
  have HV4 := Lib.hid v4
  have hb36 := hok.b36
  have hfl := hf.len
  have cb2 : ∀ w', Ext B0 w' → w'.cell? ⟨p2, 0, none⟩ = some (.pointer (some ⟨q, 0, none⟩)) := fun w' h => (HEnv.out.v2.ext h).cell
  have cb4 : ∀ w', Ext B0 w' → w'.cell? ⟨p4, 0, none⟩ = some (.int .i64 k) := fun w' h => (HV4.out.ext h).cell
  have k0 := henv.ch.c0
  simp only [hbs] at k0
  have HBs := Lib.hid hbs
  have h7lt : q7 < W.heap.size := H7.out.lt
  have h5lt : q5 < W.heap.size := H5.out.lt
  have HK5 := Lib.hid hk5
  have HFr := Lib.hid hfr
  have HFl := Lib.hid hfl
  have HFn := Lib.hid hfn
  clear henv hok h5 h7 hf v4 hbs hk5 hfr hfl hfn
  go_enter Try.func45, Try.ntmps45
  go_wp2
  obtain ⟨wb, hwb⟩ : ∃ wb, wb = W.alloc (.cells #[.slice (some ⟨g, 0, none⟩) fn fn] 25) := ⟨_, rfl⟩
  have hxb : Ext W wb := by rw [hwb]; exact (by repeat (first | (with_reducible exact Ext.refl _) | (with_reducible refine Ext.drewN ?_ _) | (with_reducible refine Ext.drew ?_) | (with_reducible refine Ext.alloc ?_ _) | ((with_reducible refine Ext.setCell ?_ ?_ _); rotate_left; focus (first | (simp; done) | (simp; omega) | omega)) | assumption | (with_reducible refine Ext.trans ?_ (by assumption))))
  obtain ⟨q8, hq8⟩ : ∃ q8, q8 = W.heap.size := ⟨_, rfl⟩
  have HV8 := Lib.hid (show VarAt wb q8 25 (.slice (some ⟨g, 0, none⟩) fn fn) from by rw [hwb, hq8]; exact VarAt.new _ _ _)
  rw [← hwb, ← hq8]
  have h85 : q8 ≠ q5 := by omega
  have h87 : q8 ≠ q7 := by omega
  have hx0b : Ext B0 wb := hx.trans hxb
  have c8 := HV8.out.cell
  have hlt8 := HV8.out.lt
  have hsb := hxb.le
  clear hwb hq8
  have HChg := Lib.hid (fun w' (h : Ext wb w') => changes_all k hk bs 47 #[.pointer (some ⟨p1, 0, none⟩), .pointer (some ⟨p2, 0, none⟩), .pointer (some ⟨p3, 0, none⟩), .pointer (some ⟨q8, 0, none⟩), .pointer (some ⟨q5, 0, none⟩), .pointer (some ⟨p6, 0, none⟩), .pointer (some ⟨q7, 0, none⟩)] (some ⟨g, 0, none⟩) fn fn fr
    (fun j W' => VarAt W' q5 2 (.int .i64 (wrap64 (A5 + sumN (tJ D S pl F k bs false fr) j))) ∧ VarAt W' q7 2 (.int .i64 (wrap64 (A7 + sumN (tJ D S pl F k bs true fr) j))) ∧ Two q5 q7 wb W') w' (by have := HBs.out; omega) HFn.out
    (fun _ W' hi => (HF.out.ext hxb).two hi.2.2 (fun y hy => by cases hy; exact ⟨hg5, hg7⟩))
    (fun _ W' W'' hi hxx => ⟨hi.1.ext hxx, hi.2.1.ext hxx, hi.2.2.ext hxx⟩)
    (fun _ _ => rfl)
    (fun j W' ta tn tc hj hi hti hta hhi => by
      have hm := gl_mem hj
      have hl1 : tn = lenK k := by have h1 := hti.len; rw [chgL_len (by rw [HFl.out]; exact HFn.out) hm] at h1; exact h1.symm
      have hle := h.le
      have hbb := HBs.out
      have hfd : ∀ x ∈ fr, 0 ≤ x ∧ x < (bs : Int) := fun x hx => by have := HFr.out x hx; omega
      have htd := chg_dig hfd (by rw [HFl.out]; exact HFn.out) (by have := HK5.out; omega) hm
      have h := undet2G HEnv.out HOK.out q5 q7 q8 (some ⟨g, 0, none⟩) fn fn fr ta tn tc (gl (chgL k bs fr) j) W' (hx0b.two hi.2.2 hq5 hq7) _ _ hi.1 hi.2.1 (HV8.out.two hi.2.2 h85 h87) ((HF.out.ext hxb).two hi.2.2 (fun y hy => by cases hy; exact ⟨hg5, hg7⟩)) hti
        (fun y hy => by cases hy; exact ⟨hg5, hg7⟩) (fun z hz => by have := hta z hz; omega) hq5 hq7 h57 h85 h87
        HFr.out (fun d hd => by have := htd d hd; omega) (by have := HFn.out; omega) (by omega)
      refine h.mono fun e w'' ⟨h1, h2, h3, h4⟩ => ⟨h1, ⟨?_, ?_, hi.2.2.trans h4⟩, h4.keepB (by omega) (by omega) hhi⟩
      · rw [Int.add_assoc] at h2; exact h2
      · rw [Int.add_assoc] at h3; exact h3)
    ⟨by rw [sumN, Int.add_zero]; exact (H5.out.ext hxb).ext h, by rw [sumN, Int.add_zero]; exact (H7.out.ext hxb).ext h, Two.of_ext h⟩)
  go_wp2
  (refine wp_region_upl 7 wb (by repeat (first | (with_reducible exact Ext.refl _) | (with_reducible refine Ext.drewN ?_ _) | (with_reducible refine Ext.drew ?_) | (with_reducible refine Ext.alloc ?_ _) | ((with_reducible refine Ext.setCell ?_ ?_ _); rotate_left; focus (first | (simp; done) | (simp; omega) | omega)) | assumption | (with_reducible refine Ext.trans ?_ (by assumption)))) rfl (by kernel_rfl) (by kernel_rfl) (seqB_of (by kernel_rfl)) (lastB_of (by kernel_rfl)) ?_; simp only [List.take_succ_cons, List.take_zero, List.drop_succ_cons, List.drop_zero]; (repeat (first | (refine mix_q rfl ?_; go_big_quiet_step (fail); refine wpQuiet_nil ?_; show wpMix _ _ _ _ _ _ _) | (refine mix_s rfl ?_; go_wp2_with (fail); first | refine ⟨up_of (by repeat (first | (with_reducible exact Ext.refl _) | (with_reducible refine Ext.drewN ?_ _) | (with_reducible refine Ext.drew ?_) | (with_reducible refine Ext.alloc ?_ _) | ((with_reducible refine Ext.setCell ?_ ?_ _); rotate_left; focus (first | (simp; done) | (simp; omega) | omega)) | assumption | (with_reducible refine Ext.trans ?_ (by assumption)))), ?_⟩ | refine ⟨rfl, rfl, up_of (by repeat (first | (with_reducible exact Ext.refl _) | (with_reducible refine Ext.drewN ?_ _) | (with_reducible refine Ext.drew ?_) | (with_reducible refine Ext.alloc ?_ _) | ((with_reducible refine Ext.setCell ?_ ?_ _); rotate_left; focus (first | (simp; done) | (simp; omega) | omega)) | assumption | (with_reducible refine Ext.trans ?_ (by assumption)))), ?_⟩))); refine mix_nil ?_)
  go_wp2_with ((with_reducible refine (HChg.out _ (by repeat (first | (with_reducible exact Ext.refl _) | (with_reducible assumption) | (with_reducible refine Ext.drewN ?_ _) | (with_reducible refine Ext.drew ?_) | (with_reducible refine Ext.alloc ?_ _) | ((with_reducible refine Ext.setCell ?_ ?_ _); rotate_left; focus (first | (simp; done) | (simp; omega) | omega)) | (with_reducible refine Ext.trans ?_ (by with_reducible assumption))))).mono ?_); rintro e w6 ⟨rfl, h56, h76, ht6⟩)
  go_ret
  exact ⟨rfl, h56, h76, (Two.of_ext hxb).trans ht6⟩
/-- so many errors undetected, so many in all -/
def RetU2 (x y : Int) (w : World) (e : Ending) (w' : World) : Prop := e = .returned (.tuple #[.int .i64 (wrap64 x), .int .i64 (wrap64 y)]) ∧ Ext w w'
def CutG (D : Ch) (S pl r n' : Nat) (wb : World) (s9 s10 : Value) (wx : World) : Prop :=
  ∃ (g9 g10 : Nat) (ba : Option Addr) (bc : Nat) (ga : Option Addr) (gc : Nat) (F : Nat → Nat → Int) (G C : Nat → Nat), s9 = .pointer (some ⟨g9, 0, none⟩) ∧ s10 = .pointer (some ⟨g10, 0, none⟩) ∧ VarAt wx g9 25 (.slice ba S bc) ∧ VarAt wx g10 54 (.slice ga S gc) ∧
    Ints wx ba S bc (begL D S pl) ∧ Grid wx wb.heap.size 25 2 ga S gc S F G C ∧ (∀ s, s < S → ∀ t, t < S → F s t = bothS D n' (n' - (pl + r)) s t) ∧ Ext wb wx
theorem cutG_of {D : Ch} {S pl r n' : Nat} {wb w6 w7 wx : World} {g9 g10 : Nat} {ba : Option Addr} {bc : Nat} {ga : Option Addr} {gc : Nat} {F : Nat → Nat → Int} {G C : Nat → Nat} {B6 B7 : Nat} (hO : Own w6 B6 2 ba S bc (I (begL D S pl))) (h67 : Ext w6 w7)
    (hG : Grid w7 B7 25 2 ga S gc S F G C) (hF : ∀ s, s < S → ∀ t, t < S → F s t = bothS D n' (n' - (pl + r)) s t) (_h6 : wb.heap.size ≤ B6) (h7 : wb.heap.size ≤ B7) (k6 : KeepB B6 w6.heap.size w7 wx) (k7 : KeepB B7 w7.heap.size w7 wx)
    (v9 : VarAt wx g9 25 (.slice ba S bc)) (v10 : VarAt wx g10 54 (.slice ga S gc)) (hE : Ext wb wx) : CutG D S pl r n' wb (.pointer (some ⟨g9, 0, none⟩)) (.pointer (some ⟨g10, 0, none⟩)) wx :=
  ⟨g9, g10, ba, bc, ga, gc, F, G, C, rfl, rfl, v9, v10, (Own.keepB hO ((KeepB.ext h67 (Nat.le_refl _)).trans k6)).ints, Grid.mono ⟨Own.keepB hG.outer k7, fun k hk => Own.keepB (hG.row k hk) k7, hG.inj⟩ h7, hF, hE⟩
/-- the numbers of words behind a place that lead two states to the end -/
def bothF (D : Ch) (n' r pl : Nat) (s t : Nat) : Int := bothS D n' (n' - (pl + r)) s t
/-- the errors of a kind at a place: those that stay undetected (true), or all (false) -/
def badP (D : Ch) (S n' k bs pl : Nat) (b : Bool) : Int := sumN (tT D S pl (bothF D n' (lenK k) pl) k bs b) (bs ^ lenK k)
theorem tT_congr {D : Ch} {S pl k bs : Nat} {F F' : Nat → Nat → Int} (hok : OkCh D) (hS : D.states = (S : Int)) (hbs : D.base = (bs : Int)) (hk : k ≤ 4 ∨ 10 ≤ bs) (hp : pl + lenK k ≤ D.places.length) (h : ∀ s, s < S → ∀ t, t < S → F s t = F' s t) (b : Bool) {t : Nat} (ht : t < bs ^ lenK k) :
    tT D S pl F k bs b t = tT D S pl F' k bs b t := by
  have hb := hok.b2
  have hd := tupAt_bd (m := bs) (by omega) ht
  have hl := tupAt_len bs (lenK k) t
  unfold tT
  refine sumN_congr _ fun j hj => ?_
  unfold tJ
  refine sumN_congr _ fun s hs => ?_
  have hm := gl_mem hj
  have htd := chg_dig hd hl hk hm
  have htl := chgL_len hl hm
  have hD : DigC D (tupAt bs (lenK k) t) := fun x hx => by have := hd x hx; omega
  have hT : DigC D (gl (chgL k bs (tupAt bs (lenK k) t)) j) := fun x hx => by have := htd x hx; omega
  have r1 := runS_bd hok (tupAt bs (lenK k) t) pl s hD (by omega) (by rw [hl]; omega) (by omega) (by omega)
  have r2 := runS_bd hok (gl (chgL k bs (tupAt bs (lenK k) t)) j) pl s hT (by omega) (by rw [htl]; omega) (by omega) (by omega)
  unfold tS
  cases b
  · rw [if_neg (by decide), h _ (by omega) _ (by omega)]
  · rw [if_pos rfl, h _ (by omega) _ (by omega)]
set_option maxHeartbeats 8000000 in
theorem impl_undetG {D : Ch} {q S pl : Nat} {a : Option Addr} {n c : Nat} {a' : Option Addr} {n' c' : Nat} (k : Nat) (hk : k ≤ 5) (bs : Nat) (hbs : D.base = (bs : Int)) (hk5 : k ≤ 4 ∨ 10 ≤ bs) (w : World) (hv : ChAt w q D a n c a' n' c') (hok : OkCh D) (hS : D.states = (S : Int)) (hpl : pl + lenK k ≤ n') :
    Calls Try.prog 21 #[.pointer (some ⟨q, 0, none⟩), .int .i64 k, .int .i64 pl] w (RetU2 (badP D S n' k bs pl true) (badP D S n' k bs pl false) w) := by
  have HV := Lib.hid hv
  have HOK := Lib.hid hok
  have HS := Lib.hid hS
  have HP := Lib.hid hv.ps.len
  have hb36 := hok.b36
  have hb2 := hok.b2
  have p20 := hok.p20
  rw [HP.out] at p20
  have HBs := Lib.hid hbs
  have HK5 := Lib.hid hk5
  have k0 := hv.c0
  simp only [hbs] at k0
  have HSt := Lib.hid (show D.states.toNat = S by omega)
  have hqw : q < w.heap.size := World.block_lt_of_cell? w ⟨q, 0, none⟩ (hv.c0 w (Ext.refl _))
  have hbs36 : 2 ≤ bs ∧ bs ≤ 36 := by omega
  have HEr := Lib.hid (fun W => impl_errLen k hk W)
  have HC := Lib.hid (fun (F : Nat → Nat → Int) (h : ∀ s, s < S → ∀ t, t < S → F s t = bothS D n' (n' - (pl + lenK k)) s t) (b : Bool) => sumN_congr (bs ^ lenK k) fun t ht => tT_congr (F' := bothF D n' (lenK k) pl) hok hS hbs hk5 (by rw [HP.out]; exact hpl) h b ht)
  have HPl := Lib.hid (show pl + lenK k ≤ D.places.length by rw [HP.out]; exact hpl)
  have hr3 : 1 ≤ lenK k ∧ lenK k ≤ 3 := by unfold lenK; split <;> (try split) <;> omega
  obtain ⟨r, hr⟩ : ∃ r, r = lenK k := ⟨_, rfl⟩
  have HR := Lib.hid hr
  rw [← hr] at hr3 HEr hpl HC HPl
  clear hv hok hS hbs hk5 hr
  go_enter Try.func21, Try.ntmps21
  go_wp2_with (go_at_call 41; (with_reducible refine (HEr.out _).mono ?_); rintro e w1 ⟨rfl, rfl⟩)
  obtain ⟨p2, hp2⟩ : ∃ p, p = w.heap.size := ⟨_, rfl⟩
  obtain ⟨p4, hp4⟩ : ∃ p, p = w.heap.size + 1 := ⟨_, rfl⟩
  obtain ⟨p3, hp3⟩ : ∃ p, p = w.heap.size + 1 + 1 := ⟨_, rfl⟩
  obtain ⟨wb, hwb⟩ : ∃ W, W = ((w.alloc (.cells #[.pointer (some ⟨q, 0, none⟩)] 76)).alloc (.cells #[.int .i64 k] 2)).alloc (.cells #[.int .i64 pl] 3) := ⟨_, rfl⟩
  have hxb : Ext w wb := by rw [hwb]; exact (by repeat (first | (with_reducible exact Ext.refl _) | (with_reducible refine Ext.drewN ?_ _) | (with_reducible refine Ext.drew ?_) | (with_reducible refine Ext.alloc ?_ _) | ((with_reducible refine Ext.setCell ?_ ?_ _); rotate_left; focus (first | (simp; done) | (simp; omega) | omega)) | assumption | (with_reducible refine Ext.trans ?_ (by assumption))))
  have HV2 := Lib.hid (show VarAt wb p2 76 (.pointer (some ⟨q, 0, none⟩)) from by rw [hwb, hp2]; exact ((VarAt.new w _ _).ext ((Ext.refl _).alloc _)).ext ((Ext.refl _).alloc _))
  have HV4 := Lib.hid (show VarAt wb p4 2 (.int .i64 k) from by
    rw [hwb, hp4]
    have h := VarAt.new (w.alloc (.cells #[.pointer (some ⟨q, 0, none⟩)] 76)) 2 (.int .i64 k)
    rw [show (w.alloc (.cells #[.pointer (some ⟨q, 0, none⟩)] 76)).heap.size = w.heap.size + 1 by simp] at h
    exact h.ext ((Ext.refl _).alloc _))
  have HV3 := Lib.hid (show VarAt wb p3 3 (.int .i64 pl) from by
    rw [hwb, hp3]
    have h := VarAt.new ((w.alloc (.cells #[.pointer (some ⟨q, 0, none⟩)] 76)).alloc (.cells #[.int .i64 k] 2)) 3 (.int .i64 pl)
    rw [show ((w.alloc (.cells #[.pointer (some ⟨q, 0, none⟩)] 76)).alloc (.cells #[.int .i64 k] 2)).heap.size = w.heap.size + 1 + 1 by simp] at h
    exact h)
  rw [← hwb, ← hp3, ← hp4, ← hp2]
  clear hwb hp2 hp3 hp4
  have cb2 : ∀ w', Ext wb w' → w'.cell? ⟨p2, 0, none⟩ = some (.pointer (some ⟨q, 0, none⟩)) := fun w' h => (HV2.out.ext h).cell
  have cb3 : ∀ w', Ext wb w' → w'.cell? ⟨p3, 0, none⟩ = some (.int .i64 pl) := fun w' h => (HV3.out.ext h).cell
  have cb4 : ∀ w', Ext wb w' → w'.cell? ⟨p4, 0, none⟩ = some (.int .i64 k) := fun w' h => (HV4.out.ext h).cell
  have HBe := Lib.hid (fun w' (h : Ext wb w') => impl_begins D q a n c a' n' c' pl w' (HV.out.ext (hxb.trans h)) HOK.out (by omega))
  have HBo := Lib.hid (fun w' (h : Ext wb w') => show Calls Try.prog 43 #[.pointer (some ⟨q, 0, none⟩), .int .i64 ((pl : Int) + (r : Int))] w' (RetBoth D (n' - (pl + r)) w') from impl_both D q a n c a' n' c' (pl + r) w' (HV.out.ext (hxb.trans h)) HOK.out (by omega))
  rw [HSt.out] at HBe
  have hpl21 : pl ≤ 20 := by omega
  go_upto_region 2 with fail
  go_cut [9, 10] from 13 to 32 (fun s9 s10 wx => CutG D S pl r n' wb s9 s10 wx)
  case first =>
    have hwp : IntKind.i64.wrap ((pl : Int) + (r : Int)) = (pl : Int) + (r : Int) := by unfold IntKind.wrap; simp [IntKind.bits, IntKind.signed]; omega
    go_region_held3 (fun w' => Ext wb w') ((exact (by repeat (first | (with_reducible exact Ext.refl _) | (with_reducible assumption) | (with_reducible refine Ext.drewN ?_ _) | (with_reducible refine Ext.drew ?_) | (with_reducible refine Ext.alloc ?_ _) | ((with_reducible refine Ext.setCell ?_ ?_ _); rotate_left; focus (first | (simp; done) | (simp; omega) | omega)) | (with_reducible refine Ext.trans ?_ (by with_reducible assumption)))))) ((first | (go_at_call 42; (with_reducible refine (HBe.out _ (by repeat (first | (with_reducible exact Ext.refl _) | (with_reducible assumption) | (with_reducible refine Ext.drewN ?_ _) | (with_reducible refine Ext.drew ?_) | (with_reducible refine Ext.alloc ?_ _) | ((with_reducible refine Ext.setCell ?_ ?_ _); rotate_left; focus (first | (simp; done) | (simp; omega) | omega)) | (with_reducible refine Ext.trans ?_ (by with_reducible assumption))))).mono ?_); rintro e w6 ⟨ba, bc, rfl, ho6, hy6⟩; rw [I_len, begL_len] at ho6 ⊢; have hx6 : Ext wb w6 := Ext.trans (by repeat (first | (with_reducible exact Ext.refl _) | (with_reducible assumption) | (with_reducible refine Ext.drewN ?_ _) | (with_reducible refine Ext.drew ?_) | (with_reducible refine Ext.alloc ?_ _) | ((with_reducible refine Ext.setCell ?_ ?_ _); rotate_left; focus (first | (simp; done) | (simp; omega) | omega)) | (with_reducible refine Ext.trans ?_ (by with_reducible assumption)))) hy6; have HO6 := Lib.hid ho6; obtain ⟨hc6, hf6⟩ := bcell hy6; have hsz6 := hy6.le; (try simp at hsz6); (try (have hlt61 : wb.heap.size < w6.heap.size := by omega)); (try (have hlt62 : wb.heap.size + 1 < w6.heap.size := by omega)); clear ho6) | (go_at_call 43; (with_reducible refine (HBo.out _ (by repeat (first | (with_reducible exact Ext.refl _) | (with_reducible assumption) | (with_reducible refine Ext.drewN ?_ _) | (with_reducible refine Ext.drew ?_) | (with_reducible refine Ext.alloc ?_ _) | ((with_reducible refine Ext.setCell ?_ ?_ _); rotate_left; focus (first | (simp; done) | (simp; omega) | omega)) | (with_reducible refine Ext.trans ?_ (by with_reducible assumption))))).mono ?_); rintro e w7 ⟨ga, gc, F, G, C, rfl, hg7, hf7, hy7⟩; have hx7 : Ext wb w7 := Ext.trans (by repeat (first | (with_reducible exact Ext.refl _) | (with_reducible assumption) | (with_reducible refine Ext.drewN ?_ _) | (with_reducible refine Ext.drew ?_) | (with_reducible refine Ext.alloc ?_ _) | ((with_reducible refine Ext.setCell ?_ ?_ _); rotate_left; focus (first | (simp; done) | (simp; omega) | omega)) | (with_reducible refine Ext.trans ?_ (by with_reducible assumption)))) hy7; rw [HSt.out] at hg7 hf7 ⊢; rw [HP.out] at hf7; have HG7 := Lib.hid hg7; have HF7 := Lib.hid hf7; obtain ⟨hc7, hf7'⟩ := bcell hy7; have hsz7 := hy7.le; (try simp at hsz7); (try (have hlt71 : wb.heap.size < w7.heap.size := by omega)); (try (have hlt72 : wb.heap.size + 1 < w7.heap.size := by omega)); (try (have hlt73 : w6.heap.size < w7.heap.size := by omega)); (try (have hlt74 : w6.heap.size + 1 < w7.heap.size := by omega)); clear hg7 hf7)))
    all_goals (go_wp2_with fail; go_meet)
    all_goals (with_reducible refine cutG_of HO6.out (Ext.trans ?_ hy7) HG7.out HF7.out ?_ ?_ ?_ ?_ ?_ ?_ ?_)
    any_goals assumption
    any_goals (first | with_reducible exact Nat.le_refl _ | omega | (simp <;> omega))
    all_goals repeat' (first | with_reducible exact Ext.refl _ | with_reducible refine Ext.alloc ?_ _ | with_reducible refine Ext.drew ?_ | with_reducible exact KeepB.refl _ _ _ | (with_reducible refine KeepB.setB ?_ _ _ ?_; rotate_left; (focus (simp <;> omega))) | (with_reducible refine KeepB.allB ?_ _ ?_; rotate_left; (focus (first | with_reducible exact Nat.le_refl _ | omega | (simp <;> omega)))) | (with_reducible refine VarAt.newN ?_; first | with_reducible rfl | (simp; done)) | with_reducible refine VarAt.set (v := .slice none 0 0) ?_ _ | (with_reducible refine VarAt.other ?_ _ ?_; rotate_left; (focus (simp <;> omega))) | with_reducible refine VarAt.ext ?_ hy7 | with_reducible refine VarAt.ext ?_ hy6 | with_reducible refine VarAt.ext ?_ ((Ext.refl _).alloc _) | with_reducible refine VarAt.ext ?_ (Ext.drew (Ext.refl _)))
  case rest =>
    rename World => wo
    obtain ⟨g9, g10, ba, bc, ga, gc, F, G, C, rfl, rfl, v9, v10, hbi, hgr, hF, hxc⟩ := hcut
    have HV9 := Lib.hid v9
    have HV10 := Lib.hid v10
    have HBi := Lib.hid hbi
    have HGr := Lib.hid hgr
    have HCb := Lib.hid (HC.out F hF true)
    have HCa := Lib.hid (HC.out F hF false)
    clear v9 v10 hbi hgr hF
    go_upto_region 3 with fail
    go_cut [11, 12] from 13 to 32 (fun s11 s12 wx => CutV wo s11 s12 wx)
    case first =>
      go_wp2_with fail
      all_goals go_meet
      refine ⟨_, _, rfl, rfl, Nat.le_refl _, Nat.le_succ _, by omega, (VarAt.new wo _ _).ext ((Ext.refl _).alloc _), VarAt.newN (by simp), (by repeat (first | (with_reducible exact Ext.refl _) | (with_reducible refine Ext.drewN ?_ _) | (with_reducible refine Ext.drew ?_) | (with_reducible refine Ext.alloc ?_ _) | ((with_reducible refine Ext.setCell ?_ ?_ _); rotate_left; focus (first | (simp; done) | (simp; omega) | omega)) | assumption | (with_reducible refine Ext.trans ?_ (by assumption))))⟩
    case rest =>
      obtain ⟨q7, q5, rfl, rfl, h7, h5, h57, v7, v5, hxd⟩ := hcut
      rename World => wd
      have hq7 := v7.lt
      have hq5 := v5.lt
      have HEnv : Hid (Env D q S pl 0 a n c a' n' c' g9 p2 p3 g10 ba bc ga gc F G C wb.heap.size wo) := Lib.hid ⟨HV.out.ext (hxb.trans hxc), HV9.out, HV2.out.ext hxc, HV3.out.ext hxc, HV10.out, HBi.out, HGr.out, HS.out⟩
      have z0 : wrap64 0 = 0 := wrap_zero
      have HT := Lib.hid (impl_tuples bs r 45 #[.pointer (some ⟨p4, 0, none⟩), .pointer (some ⟨p2, 0, none⟩), .pointer (some ⟨g9, 0, none⟩), .pointer (some ⟨p3, 0, none⟩), .pointer (some ⟨q5, 0, none⟩), .pointer (some ⟨g10, 0, none⟩), .pointer (some ⟨q7, 0, none⟩)]
        (fun t W => Ext wo W ∧ VarAt W q5 2 (.int .i64 (wrap64 (0 + sumN (tT D S pl F k bs false) t))) ∧ VarAt W q7 2 (.int .i64 (wrap64 (0 + sumN (tT D S pl F k bs true) t)))) (fun _ => False) wd (by omega) (by omega) (by omega) (fun _ _ => rfl)
        (fun W ht => ⟨hxd.trans (touch_extU ht), by rw [sumN, Int.add_zero, z0]; exact v5.ext (touch_extU ht), by rw [sumN, Int.add_zero, z0]; exact v7.ext (touch_extU ht)⟩)
        (fun t W W' h ht => ⟨⟨ht.os.trans h.1.os, ht.tape.trans h.1.tape, ht.output.trans h.1.output, Nat.le_trans h.1.size ht.size, fun k hk => (ht.block k (Nat.lt_of_lt_of_le hk h.1.size) (by omega)).trans (h.1.block k hk)⟩,
          (ht.block _ h.2.1.lt (by omega)).trans h.2.1, (ht.block _ h.2.2.lt (by omega)).trans h.2.2⟩)
        (fun t W ht h ho => by
          have hlt := ho.lt.2
          have hb := HBs.out
          have hrr := HR.out
          have hfd := tupAt_bd (m := bs) (by omega) ht
          have h1 := undet1G HEnv.out HOK.out k hk (by have := HK5.out; omega) p4 (HV4.out.ext hxc) q5 q7 wd.heap.size bs HBs.out (tupAt bs r t) (fun x hx => by have := hfd x hx; omega) W h.1 _ _ r hrr h.2.1 h.2.2 ho.ints (by omega) (by omega) h5 h7 h57 (by rw [← hrr]; exact HPl.out)
          refine h1.mono ?_
          rintro e W' ⟨rfl, k5, k7, hk⟩
          refine .inl ⟨rfl, ⟨Ext.two h.1 hk h5 h7, ?_, ?_⟩, hk.block _ hlt (by omega) (by omega)⟩
          · have e : tT D S pl F k bs false t = sumN (tJ D S pl F k bs false (tupAt bs r t)) (chgL k bs (tupAt bs r t)).length := by unfold tT; rw [hrr]
            rw [sumN, ← Int.add_assoc, e]; exact k5
          · have e : tT D S pl F k bs true t = sumN (tJ D S pl F k bs true (tupAt bs r t)) (chgL k bs (tupAt bs r t)).length := by unfold tT; rw [hrr]
            rw [sumN, ← Int.add_assoc, e]; exact k7))
      have HX := Lib.hid (hxb.trans hxc)
      have kp : wd.cell? ⟨p2, 0, none⟩ = some (.pointer (some ⟨q, 0, none⟩)) := cb2 _ (hxc.trans hxd)
      have kq : wd.cell? ⟨q, 0, none⟩ = some (.int .i64 bs) := k0 _ ((hxb.trans hxc).trans hxd)
      have HBd : Hid (badP D S n' k bs pl true = 0 + sumN (tT D S pl F k bs true) (bs ^ r) ∧ badP D S n' k bs pl false = 0 + sumN (tT D S pl F k bs false) (bs ^ r)) := Lib.hid ⟨by rw [HCb.out, Int.zero_add]; unfold badP; rw [← HR.out], by rw [HCa.out, Int.zero_add]; unfold badP; rw [← HR.out]⟩
      clear v5 v7 cb2 cb3 cb4 k0 hxb hxc hxd HCb HCa
      go_wp2_with (refine HT.out.mono ?_; rintro e w8 ⟨rfl, ⟨hx8, hv8, hw8⟩ | hf⟩)
      rw [← HBd.out.2] at hv8
      rw [← HBd.out.1] at hw8
      obtain ⟨y5, hy5⟩ : ∃ y, y = wrap64 (badP D S n' k bs pl false) := ⟨_, rfl⟩
      obtain ⟨y7, hy7⟩ : ∃ y, y = wrap64 (badP D S n' k bs pl true) := ⟨_, rfl⟩
      rw [← hy5] at hv8
      rw [← hy7] at hw8
      have e5 := hv8.cell
      have e7 := hw8.cell
      have HE := Lib.hid hy5
      have HE' := Lib.hid hy7
      clear hy5 hy7
      go_quiet (fail)
      go_wp2_with fail
      refine bodyPost_ret (v := .tuple #[.int .i64 y7, .int .i64 y5]) (by simp [results, Try.results21, go_sem]) rfl ⟨by rw [HE.out, HE'.out], (HX.out.trans hx8).drewN _⟩
def RetU3 (x y : Int) (b : Bool) (w : World) (e : Ending) (w' : World) : Prop := e = .returned (.tuple #[.int .i64 x, .int .i64 y, .bool b]) ∧ Ext w w'
/-- the errors of a kind at the first places -/
def badN (D : Ch) (S n' k bs : Nat) (b : Bool) (m : Nat) : Int := sumN (fun pl => badP D S n' k bs pl b) m
set_option maxHeartbeats 400000 in
theorem impl_lastG (n k : Nat) (hk : k ≤ 5) (w : World) (h1 : n ≤ 1048576) : Calls Try.prog 20 #[.int .i64 n, .int .i64 k] w (Same (.int .i64 ((n : Int) - (lenK k : Int))) w) := by
  have HE := Lib.hid (fun W => impl_errLen k hk W)
  have hr3 : 1 ≤ lenK k ∧ lenK k ≤ 3 := by unfold lenK; split <;> (try split) <;> omega
  generalize lenK k = r at *
  go_enter Try.func20, Try.ntmps20
  go_wp2_with (go_at_call 41; refine (HE.out _).mono ?_; rintro e w' ⟨rfl, rfl⟩)
  go_ret
  exact ⟨rfl, rfl⟩
set_option maxHeartbeats 4000000 in
theorem impl_UndetG (D : Ch) (a : Option Addr) (n c : Nat) (b : Option Addr) (m d S : Nat) (k : Nat) (hk : k ≤ 5) (bs : Nat) (hbs : D.base = (bs : Int)) (hk5 : k ≤ 4 ∨ 10 ≤ bs) (w : World) (hv : ChIn w D a n c b m d) (hval : validCh D = true) (hS : D.states = (S : Int)) :
    Calls Try.prog 7 #[.agg #[.int .i64 D.base, .int .i64 D.states, .int .i64 D.start, .int .i64 D.fin, .slice a n c, .slice b m d], .int .i64 k] w (RetU3 (wrap64 (badN D S m k bs true (m + 1 - lenK k))) (wrap64 (badN D S m k bs false (m + 1 - lenK k))) true w) := by
  have HB := Lib.hid (hv.box 27)
  have HVal := Lib.hid (fun W h => impl_ValidChain D a n c b m d W (Cube.ext hv.ts h) (hv.ps.ext h) hv.hn hv.hn' hv.sm)
  have HP := Lib.hid hv.ps.len
  clear hv
  rw [hval] at HVal
  have hok := validCh_ok hval
  have p20 := hok.p20
  rw [HP.out] at p20
  have HBs := Lib.hid hbs
  have HK5 := Lib.hid hk5
  have Hhok := Lib.hid hok; clear hok; have HhS := Lib.hid hS; clear hS
  have HK := Lib.hid (fun W => impl_kindOk k hk D.base W)
  rw [show kindB k D.base = true by unfold kindB; simp; omega] at HK
  clear hval hbs hk5
  have HLa := Lib.hid (fun W => impl_lastG m k hk W (by omega))
  have hr3 : 1 ≤ lenK k ∧ lenK k ≤ 3 := by unfold lenK; split <;> (try split) <;> omega
  have HUn0 := fun (q : Nat) (wb : World) (HB : ChAt wb q D a n c b m d) (pl : Nat) (hp : pl + lenK k ≤ m) W (h : Ext wb W) => impl_undetG (pl := pl) k hk bs HBs.out HK5.out W (HB.ext h) Hhok.out HhS.out hp
  obtain ⟨r, hr⟩ : ∃ r, r = lenK k := ⟨_, rfl⟩
  rw [← hr] at HLa hr3 HUn0 ⊢
  have HUn1 := Lib.hid HUn0
  clear hr HUn0
  go_enter Try.func7, Try.ntmps7
  go_wp2_with fail
  obtain ⟨wb, hwb⟩ : ∃ wb, wb = w.alloc (.cells #[.int .i64 D.base, .int .i64 D.states, .int .i64 D.start, .int .i64 D.fin, .slice a n c, .slice b m d] 27) := ⟨_, rfl⟩
  have hxb : Ext w wb := by rw [hwb]; exact (by repeat (first | (with_reducible exact Ext.refl _) | (with_reducible refine Ext.drewN ?_ _) | (with_reducible refine Ext.drew ?_) | (with_reducible refine Ext.alloc ?_ _) | ((with_reducible refine Ext.setCell ?_ ?_ _); rotate_left; focus (first | (simp; done) | (simp; omega) | omega)) | assumption | (with_reducible refine Ext.trans ?_ (by assumption))))
  rw [← hwb] at HB ⊢
  generalize w.heap.size = q at *
  clear hwb
  have HUn := Lib.hid (HUn1.out q wb HB.out)
  refine (HVal.out _ hxb).mono ?_
  rintro e w1 ⟨rfl, hx1⟩
  obtain ⟨k0, k1, k2, k3, k4, k5, _, _⟩ := HB.out
  go_wp2_with ((with_reducible refine (HK.out _).mono ?_); rintro e w2 ⟨rfl, rfl⟩)
  go_loopw [7, 8, 9] (fun v7 v8 v9 wr => ∃ (p : Nat) (x y : Int), p ≤ m + 1 - r ∧ v7 = .int .i64 x ∧ v8 = .int .i64 y ∧ v9 = .int .i64 p ∧ Hid (x = wrap64 (badN D S m k bs true p)) ∧ Hid (y = wrap64 (badN D S m k bs false p)) ∧ Ext wb wr) (fun _ _ v9 _ => m + 1 - (intOf v9).toNat)
  case atStart => exact ⟨0, 0, 0, Nat.zero_le _, rfl, rfl, rfl, wrap_zero.symm, wrap_zero.symm, hx1⟩
  case round =>
    obtain ⟨p, x, y, hp, rfl, rfl, rfl, HX, HY, hx⟩ := hrel
    by_cases hlt : p + r ≤ m
    · have HSx := Lib.hid (show badN D S m k bs true (p + 1) = badN D S m k bs true p + badP D S m k bs p true from rfl)
      have HSy := Lib.hid (show badN D S m k bs false (p + 1) = badN D S m k bs false p + badP D S m k bs p false from rfl)
      obtain ⟨x1, hx1'⟩ : ∃ v, v = wrap64 (badP D S m k bs p true) := ⟨_, rfl⟩
      obtain ⟨y1, hy1'⟩ : ∃ v, v = wrap64 (badP D S m k bs p false) := ⟨_, rfl⟩
      have HU := Lib.hid (fun W (h : Ext wb W) => HUn.out p hlt W h)
      unfold RetU2 at HU
      rw [← hx1', ← hy1'] at HU
      have HX1 := Lib.hid hx1'
      have HY1 := Lib.hid hy1'
      clear hx1' hy1'
      go_wp2_with (first | ((with_reducible refine (HLa.out _).mono ?_); rintro e w2 ⟨rfl, rfl⟩) | ((with_reducible refine (HU.out _ (by repeat (first | (with_reducible exact Ext.refl _) | (with_reducible refine Ext.drewN ?_ _) | (with_reducible refine Ext.drew ?_) | (with_reducible refine Ext.alloc ?_ _) | ((with_reducible refine Ext.setCell ?_ ?_ _); rotate_left; focus (first | (simp; done) | (simp; omega) | omega)) | assumption | (with_reducible refine Ext.trans ?_ (by assumption))))).mono ?_); rintro e w3 ⟨rfl, hy3⟩; have hx3 : Ext wb w3 := Ext.trans (by repeat (first | (with_reducible exact Ext.refl _) | (with_reducible refine Ext.drewN ?_ _) | (with_reducible refine Ext.drew ?_) | (with_reducible refine Ext.alloc ?_ _) | ((with_reducible refine Ext.setCell ?_ ?_ _); rotate_left; focus (first | (simp; done) | (simp; omega) | omega)) | assumption | (with_reducible refine Ext.trans ?_ (by assumption)))) hy3; clear hy3))
      exact ⟨⟨p + 1, _, _, by omega, rfl, rfl, by go_num, (by rw [HX.out, HX1.out, wrap_add, HSx.out] : _ = _), (by rw [HY.out, HY1.out, wrap_add, HSy.out] : _ = _), hx3⟩, by simp [intOf]; omega⟩
    · have hpe : p = m + 1 - r := by omega
      go_wp2_with (first | ((with_reducible refine (HLa.out _).mono ?_); rintro e w2 ⟨rfl, rfl⟩))
      refine bodyPost_ret (v := .tuple #[.int .i64 x, .int .i64 y, .bool true]) (by simp [results, Try.results7, go_sem]) rfl ⟨by rw [HX.out, HY.out, ← hpe], hxb.trans hx⟩
/-- is it a kind of error over a base -/
def kindI (k b : Int) : Bool := inB k 0 5 && (decide (k ≠ 5) || decide (10 ≤ b))
set_option maxHeartbeats 1000000 in
theorem impl_kindNo (k b : Int) (hk : kindI k b = false) (w : World) : Calls Try.prog 19 #[.int .i64 k, .int .i64 b] w (Same (.bool false) w) := by
  have HI := Lib.hid (impl_in k 0 5 w)
  by_cases h : inB k 0 5 = true
  · rw [h] at HI
    unfold kindI at hk
    rw [h] at hk
    simp at hk
    obtain ⟨rfl, hb⟩ := hk
    have HB2 := Lib.hid (show decide (10 ≤ b) = false by rw [decide_eq_false_iff_not]; omega)
    clear h hb
    go_enter Try.func19, Try.ntmps19
    go_wp2_with (refine HI.out.mono ?_; rintro e w1 ⟨rfl, rfl⟩)
    go_ret
    exact ⟨rb HB2.out, rfl⟩
  · rw [show inB k 0 5 = false by simpa using h] at HI
    clear h hk
    go_enter Try.func19, Try.ntmps19
    go_wp2_with (refine HI.out.mono ?_; rintro e w1 ⟨rfl, rfl⟩)
    go_ret
    exact ⟨rfl, rfl⟩
set_option maxHeartbeats 4000000 in
theorem impl_UndetNo (D : Ch) (a : Option Addr) (n c : Nat) (b : Option Addr) (m d : Nat) (k : Int) (hkb : kindI k D.base = false) (w : World) (hv : ChIn w D a n c b m d) (hval : validCh D = true) :
    Calls Try.prog 7 #[.agg #[.int .i64 D.base, .int .i64 D.states, .int .i64 D.start, .int .i64 D.fin, .slice a n c, .slice b m d], .int .i64 k] w (RetU3 0 0 false w) := by
  have HB := Lib.hid (hv.box 27)
  have HVal := Lib.hid (fun W h => impl_ValidChain D a n c b m d W (Cube.ext hv.ts h) (hv.ps.ext h) hv.hn hv.hn' hv.sm)
  clear hv
  rw [hval] at HVal
  have HK := Lib.hid (fun W => impl_kindNo k D.base hkb W)
  clear hval hkb
  go_enter Try.func7, Try.ntmps7
  go_wp2_with fail
  obtain ⟨wb, hwb⟩ : ∃ wb, wb = w.alloc (.cells #[.int .i64 D.base, .int .i64 D.states, .int .i64 D.start, .int .i64 D.fin, .slice a n c, .slice b m d] 27) := ⟨_, rfl⟩
  have hxb : Ext w wb := by rw [hwb]; exact (by repeat (first | (with_reducible exact Ext.refl _) | (with_reducible refine Ext.drewN ?_ _) | (with_reducible refine Ext.drew ?_) | (with_reducible refine Ext.alloc ?_ _) | ((with_reducible refine Ext.setCell ?_ ?_ _); rotate_left; focus (first | (simp; done) | (simp; omega) | omega)) | assumption | (with_reducible refine Ext.trans ?_ (by assumption))))
  rw [← hwb] at HB ⊢
  generalize w.heap.size = q at *
  clear hwb
  refine (HVal.out _ hxb).mono ?_
  rintro e w1 ⟨rfl, hx1⟩
  obtain ⟨k0, k1, k2, k3, k4, k5, _, _⟩ := HB.out
  go_wp2_with ((with_reducible refine (HK.out _).mono ?_); rintro e w2 ⟨rfl, rfl⟩)
  refine bodyPost_ret (v := .tuple #[.int .i64 0, .int .i64 0, .bool false]) (by simp [results, Try.results7, go_sem]) rfl ⟨rfl, hxb.trans hx1⟩
set_option maxHeartbeats 2000000 in
theorem impl_Caught (D : Ch) (a : Option Addr) (n c : Nat) (b : Option Addr) (m d : Nat) (k x y : Int) (ok : Bool) (w : World) (hv : ChIn w D a n c b m d)
    (HU : Hid (∀ W, Ext w W → Calls Try.prog 7 #[.agg #[.int .i64 D.base, .int .i64 D.states, .int .i64 D.start, .int .i64 D.fin, .slice a n c, .slice b m d], .int .i64 k] W (RetU3 x y ok W))) :
    Calls Try.prog 9 #[.agg #[.int .i64 D.base, .int .i64 D.states, .int .i64 D.start, .int .i64 D.fin, .slice a n c, .slice b m d], .int .i64 k] w (Ret (.bool (ok && decide (x = 0))) w) := by
  have HB := Lib.hid (hv.box 27)
  clear hv
  obtain ⟨z, hz⟩ : ∃ z, z = decide (x = 0) := ⟨_, rfl⟩
  have hq : (x == 0) = z := by rw [hz]; by_cases h : x = 0 <;> simp [h]
  rw [← hz]
  clear hz
  cases ok <;> cases z
  all_goals
    go_enter Try.func9, Try.ntmps9
    go_wp2_with fail
    obtain ⟨wb, hwb⟩ : ∃ wb, wb = w.alloc (.cells #[.int .i64 D.base, .int .i64 D.states, .int .i64 D.start, .int .i64 D.fin, .slice a n c, .slice b m d] 27) := ⟨_, rfl⟩
    have hxb : Ext w wb := by rw [hwb]; exact (by repeat (first | (with_reducible exact Ext.refl _) | (with_reducible refine Ext.drewN ?_ _) | (with_reducible refine Ext.drew ?_) | (with_reducible refine Ext.alloc ?_ _) | ((with_reducible refine Ext.setCell ?_ ?_ _); rotate_left; focus (first | (simp; done) | (simp; omega) | omega)) | assumption | (with_reducible refine Ext.trans ?_ (by assumption))))
    rw [← hwb] at HB ⊢
    generalize w.heap.size = q at *
    clear hwb
    obtain ⟨k0, k1, k2, k3, k4, k5, _, _⟩ := HB.out
    go_wp2_with ((with_reducible refine (HU.out _ hxb).mono ?_); rintro e w2 ⟨rfl, hx2⟩)
    go_ret
    exact ⟨rfl, hxb.trans hx2⟩
end Go.Proofs.Ytccoopnoakhedaa
