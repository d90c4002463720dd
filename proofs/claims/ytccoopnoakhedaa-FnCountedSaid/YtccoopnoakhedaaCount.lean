/- Walks: how many words a chain checks; the word of a rank, in the program, of a valid chain. -/
import Derived.Test.YtccoopnoakhedaaMix2
import Derived.Test.YtccoopnoakhedaaDigA
namespace Go.Proofs.Ytccoopnoakhedaa
set_option maxRecDepth 100000
open Go.RowKit

set_option maxHeartbeats 2000000 in
theorem impl_CountWords (D : Ch) (a : Option Addr) (n c : Nat) (b : Option Addr) (m d : Nat) (w : World) (hv : ChIn w D a n c b m d) (hval : validCh D = true) :
    Calls Try.prog 8 #[.agg #[.int .i64 D.base, .int .i64 D.states, .int .i64 D.start, .int .i64 D.fin, .slice a n c, .slice b m d]] w (Ret2 (.int .i64 ((wordsA D).length : Nat)) (.bool true) w) := by
  have HB := Lib.hid (hv.box 27)
  have HVal := Lib.hid (fun W h => impl_ValidChain D a n c b m d W (Cube.ext hv.ts h) (hv.ps.ext h) hv.hn hv.hn' hv.sm)
  have HP := Lib.hid hv.ps.len
  clear hv
  rw [hval] at HVal
  have hok := validCh_ok hval
  have hst0 := hok.st0
  have hst1 := hok.st1
  have Hhok := Lib.hid hok; clear hok
  clear hval
  have HW := Lib.hid (wordsA_ends D)
  go_enter Try.func8, Try.ntmps8
  go_wp2_with fail
  obtain ⟨wb, hwb⟩ : ∃ wb, wb = w.alloc (.cells #[.int .i64 D.base, .int .i64 D.states, .int .i64 D.start, .int .i64 D.fin, .slice a n c, .slice b m d] 27) := ⟨_, rfl⟩
  have hxb : Ext w wb := by rw [hwb]; exact (by repeat (first | (with_reducible exact Ext.refl _) | (with_reducible refine Ext.drewN ?_ _) | (with_reducible refine Ext.drew ?_) | (with_reducible refine Ext.alloc ?_ _) | ((with_reducible refine Ext.setCell ?_ ?_ _); rotate_left; focus (first | (simp; done) | (simp; omega) | omega)) | assumption | (with_reducible refine Ext.trans ?_ (by assumption))))
  rw [← hwb] at HB ⊢
  generalize w.heap.size = q at *
  clear hwb
  refine (HVal.out _ hxb).mono ?_
  rintro e w1 ⟨rfl, hx1⟩
  have HEn := Lib.hid (fun W (h : Ext w1 W) => impl_ends D q a n c b m d W (HB.out.ext (hx1.trans h)) Hhok.out)
  have hx1' : Ext wb w1 := hx1
  obtain ⟨k0, k1, k2, k3, k4, k5, _, _⟩ := HB.out
  go_wp2
  (refine wp_region_fromC (D := [8, 9, 12, 13]) w1 (by repeat (first | (with_reducible exact Ext.refl _) | (with_reducible refine Ext.drewN ?_ _) | (with_reducible refine Ext.drew ?_) | (with_reducible refine Ext.alloc ?_ _) | ((with_reducible refine Ext.setCell ?_ ?_ _); rotate_left; focus (first | (simp; done) | (simp; omega) | omega)) | assumption | (with_reducible refine Ext.trans ?_ (by assumption)))) (by kernel_rfl) (by kernel_rfl) (by kernel_rfl) ?_; (repeat (first | (refine mixc_q rfl ?_; go_big_quiet_step (fail); refine wpQuiet_nil ?_; show wpMixC _ _ _ _ _ _ _ _) | (refine mixc_s rfl ?_; go_wp2_with (((with_reducible refine (HEn.out _ (by repeat (first | (with_reducible exact Ext.refl _) | (with_reducible assumption) | (with_reducible refine Ext.drewN ?_ _) | (with_reducible refine Ext.drew ?_) | (with_reducible refine Ext.alloc ?_ _) | ((with_reducible refine Ext.setCell ?_ ?_ _); rotate_left; focus (first | (simp; done) | (simp; omega) | omega)) | (with_reducible refine Ext.trans ?_ (by with_reducible assumption))))).mono ?_); intro e w2 he2; obtain ⟨ge, gc, rfl, hm, hy2⟩ := he2.matL; have hxw2 : Ext w1 w2 := Ext.trans (by repeat (first | (with_reducible exact Ext.refl _) | (with_reducible assumption) | (with_reducible refine Ext.drewN ?_ _) | (with_reducible refine Ext.drew ?_) | (with_reducible refine Ext.alloc ?_ _) | ((with_reducible refine Ext.setCell ?_ ?_ _); rotate_left; focus (first | (simp; done) | (simp; omega) | omega)) | (with_reducible refine Ext.trans ?_ (by with_reducible assumption)))) hy2; obtain ⟨bb, oo, a1, n1, c1, b2', o2, ⟨g1, g2⟩, ⟨g3, g4⟩⟩ := endsL_at hm rfl 54 und_grid 0 D.start (by omega) (by omega) hst0 hst1; rw [show D.places.length - (0 : Int).toNat = D.places.length from rfl, ← HW.out] at g4; clear he2 hm hy2; have hrr2 : Ext w2 w2 := Ext.refl _)); first | refine ⟨up_of (by repeat (first | (with_reducible exact Ext.refl _) | (with_reducible refine Ext.drewN ?_ _) | (with_reducible refine Ext.drew ?_) | (with_reducible refine Ext.alloc ?_ _) | ((with_reducible refine Ext.setCell ?_ ?_ _); rotate_left; focus (first | (simp; done) | (simp; omega) | omega)) | assumption | (with_reducible refine Ext.trans ?_ (by assumption)))), ?_⟩ | refine ⟨rfl, rfl, up_of (by repeat (first | (with_reducible exact Ext.refl _) | (with_reducible refine Ext.drewN ?_ _) | (with_reducible refine Ext.drew ?_) | (with_reducible refine Ext.alloc ?_ _) | ((with_reducible refine Ext.setCell ?_ ?_ _); rotate_left; focus (first | (simp; done) | (simp; omega) | omega)) | assumption | (with_reducible refine Ext.trans ?_ (by assumption)))), ?_⟩))); refine mixc_nil ?_)
  all_goals go_wp2
  all_goals go_ret2
  all_goals exact ⟨rfl, hxb.trans (hx1'.trans (by repeat (first | (with_reducible exact Ext.refl _) | (with_reducible assumption) | (with_reducible refine Ext.drewN ?_ _) | (with_reducible refine Ext.drew ?_) | (with_reducible refine Ext.alloc ?_ _) | ((with_reducible refine Ext.setCell ?_ ?_ _); rotate_left; focus (first | (simp; done) | (simp; omega) | omega)) | (with_reducible refine Ext.trans ?_ (by with_reducible assumption)))))⟩
/-- the word of a rank, none behind the last -/
def watB (D : Ch) (r : Int) : Bool := decide (0 ≤ r ∧ r < (wordsA D).length)
def watT (D : Ch) (r : Int) : ByteArray := if watB D r then wordR D (r.toNat + 1) else .empty
set_option maxHeartbeats 2000000 in
theorem impl_WordAt (D : Ch) (a : Option Addr) (n c : Nat) (b : Option Addr) (m d : Nat) (r : Int) (w : World) (hv : ChIn w D a n c b m d) (hval : validCh D = true) :
    Calls Try.prog 10 #[.agg #[.int .i64 D.base, .int .i64 D.states, .int .i64 D.start, .int .i64 D.fin, .slice a n c, .slice b m d], .int .i64 r] w (Ret2 (.string (watT D r)) (.bool (watB D r)) w) := by
  have HB := Lib.hid (hv.box 27)
  have HVal := Lib.hid (fun W h => impl_ValidChain D a n c b m d W (Cube.ext hv.ts h) (hv.ps.ext h) hv.hn hv.hn' hv.sm)
  have hPm := hv.ps.len
  subst hPm
  clear hv
  rw [hval] at HVal
  have hok := validCh_ok hval
  have hst0 := hok.st0
  have hst1 := hok.st1
  have Hhok := Lib.hid hok; clear hok
  clear hval
  have HW := Lib.hid (wordsA_ends D)
  have hw15 : ((wordsA D).length : Int) ≤ 1000000000000000 := by rw [HW.out]; exact (Hhok.out.ends (Nat.le_refl _) 0 D.start).2
  go_enter Try.func10, Try.ntmps10
  go_wp2_with fail
  obtain ⟨wb, hwb⟩ : ∃ wb, wb = w.alloc (.cells #[.int .i64 D.base, .int .i64 D.states, .int .i64 D.start, .int .i64 D.fin, .slice a n c, .slice b D.places.length d] 27) := ⟨_, rfl⟩
  have hxb : Ext w wb := by rw [hwb]; exact (by repeat (first | (with_reducible exact Ext.refl _) | (with_reducible refine Ext.drewN ?_ _) | (with_reducible refine Ext.drew ?_) | (with_reducible refine Ext.alloc ?_ _) | ((with_reducible refine Ext.setCell ?_ ?_ _); rotate_left; focus (first | (simp; done) | (simp; omega) | omega)) | assumption | (with_reducible refine Ext.trans ?_ (by assumption))))
  rw [← hwb] at HB ⊢
  generalize w.heap.size = q at *
  clear hwb
  refine (HVal.out _ hxb).mono ?_
  rintro e w1 ⟨rfl, hx1⟩
  have HEn := Lib.hid (impl_ends D q a n c b D.places.length d w1 (HB.out.ext hx1) Hhok.out)
  obtain ⟨k0, k1, k2, k3, k4, k5, _, _⟩ := HB.out
  go_wp2_with fail
  refine HEn.out.mono ?_
  intro e w2 he2
  obtain ⟨ge, gc, rfl, hm, hx2⟩ := he2.matL
  have hxb2 : Ext wb w2 := hx1.trans hx2
  obtain ⟨bb, oo, a1, n1, c1, b2', o2, ⟨g1, g2⟩, ⟨g3, g4⟩⟩ := endsL_at hm rfl 54 und_grid 0 D.start (by omega) (by omega) hst0 hst1
  rw [show D.places.length - (0 : Int).toNat = D.places.length from rfl, ← HW.out] at g4
  have HM := Lib.hid hm
  clear he2 hm
  have HIn := Lib.hid (fun W => impl_in r 0 (((wordsA D).length : Int) - 1) W)
  have hrr2 : Ext w2 w2 := Ext.refl _
  cases hb : inB r 0 (((wordsA D).length : Int) - 1)
  · rw [hb] at HIn
    have HF := Lib.hid (show watB D r = false by
      unfold watB
      rw [decide_eq_false_iff_not]
      intro h
      have := inB_t.2 (show 0 ≤ r ∧ r ≤ ((wordsA D).length : Int) - 1 by omega)
      rw [hb] at this
      cases this)
    clear hb
    go_wp2
    (refine wp_region_from w2 (by repeat (first | (with_reducible exact Ext.refl _) | (with_reducible refine Ext.drewN ?_ _) | (with_reducible refine Ext.drew ?_) | (with_reducible refine Ext.alloc ?_ _) | ((with_reducible refine Ext.setCell ?_ ?_ _); rotate_left; focus (first | (simp; done) | (simp; omega) | omega)) | assumption | (with_reducible refine Ext.trans ?_ (by assumption)))) (by kernel_rfl) (by kernel_rfl) (by kernel_rfl) ?_; (repeat (first | (refine mix_q rfl ?_; go_big_quiet_step (fail); refine wpQuiet_nil ?_; show wpMix _ _ _ _ _ _ _) | (refine mix_s rfl ?_; go_wp2_with ((go_at_call 23; (with_reducible refine (HIn.out _).mono ?_); rintro e w3 ⟨rfl, rfl⟩)); first | refine ⟨up_of (by repeat (first | (with_reducible exact Ext.refl _) | (with_reducible refine Ext.drewN ?_ _) | (with_reducible refine Ext.drew ?_) | (with_reducible refine Ext.alloc ?_ _) | ((with_reducible refine Ext.setCell ?_ ?_ _); rotate_left; focus (first | (simp; done) | (simp; omega) | omega)) | assumption | (with_reducible refine Ext.trans ?_ (by assumption)))), ?_⟩ | refine ⟨rfl, rfl, up_of (by repeat (first | (with_reducible exact Ext.refl _) | (with_reducible refine Ext.drewN ?_ _) | (with_reducible refine Ext.drew ?_) | (with_reducible refine Ext.alloc ?_ _) | ((with_reducible refine Ext.setCell ?_ ?_ _); rotate_left; focus (first | (simp; done) | (simp; omega) | omega)) | assumption | (with_reducible refine Ext.trans ?_ (by assumption)))), ?_⟩))); refine mix_nil ?_)
    go_wp2
    go_ret2
    refine ⟨by rw [watT, HF.out]; rfl, ?_⟩
    exact hxb.trans (hxb2.trans (by repeat (first | (with_reducible exact Ext.refl _) | (with_reducible assumption) | (with_reducible refine Ext.drewN ?_ _) | (with_reducible refine Ext.drew ?_) | (with_reducible refine Ext.alloc ?_ _) | ((with_reducible refine Ext.setCell ?_ ?_ _); rotate_left; focus (first | (simp; done) | (simp; omega) | omega)) | (with_reducible refine Ext.trans ?_ (by with_reducible assumption)))))
  · rw [hb] at HIn
    obtain ⟨r0, r1⟩ := inB_t.1 hb
    clear hb
    obtain ⟨k, rfl⟩ := Int.eq_ofNat_of_zero_le r0
    have HF := Lib.hid (show watB D (k : Int) = true by unfold watB; rw [decide_eq_true_iff]; omega)
    have HR := Lib.hid (show watT D (k : Int) = textOf ((wordsA D).getD k []) by rw [watT, HF.out]; rfl)
    obtain ⟨hl1, hl2, hl3⟩ := wordsA_mem Hhok.out (getD_mem' (l := wordsA D) (d := []) (k := k) (by omega))
    have HWA := Lib.hid (fun W (h : Ext w2 W) => impl_wordAt D q a n c b D.places.length d ge gc k W (HB.out.ext (hxb2.trans h)) Hhok.out (HM.out.ext h) (by have h1 := HW.out; omega))
    rw [show (wordsS D D.places.length 0 D.start).getD k [] = (wordsA D).getD k [] from rfl] at HWA
    have hp20 := Hhok.out.p20
    have Hhl1 := Lib.hid hl1; clear hl1; have Hhl2 := Lib.hid hl2; clear hl2; have Hhl3 := Lib.hid hl3; clear hl3
    generalize (wordsA D).getD k [] = ds at *
    go_wp2
    (refine wp_region_from w2 (by repeat (first | (with_reducible exact Ext.refl _) | (with_reducible refine Ext.drewN ?_ _) | (with_reducible refine Ext.drew ?_) | (with_reducible refine Ext.alloc ?_ _) | ((with_reducible refine Ext.setCell ?_ ?_ _); rotate_left; focus (first | (simp; done) | (simp; omega) | omega)) | assumption | (with_reducible refine Ext.trans ?_ (by assumption)))) (by kernel_rfl) (by kernel_rfl) (by kernel_rfl) ?_; (repeat (first | (refine mix_q rfl ?_; go_big_quiet_step (fail); refine wpQuiet_nil ?_; show wpMix _ _ _ _ _ _ _) | (refine mix_s rfl ?_; go_wp2_with ((go_at_call 23; (with_reducible refine (HIn.out _).mono ?_); rintro e w3 ⟨rfl, rfl⟩)); first | refine ⟨up_of (by repeat (first | (with_reducible exact Ext.refl _) | (with_reducible refine Ext.drewN ?_ _) | (with_reducible refine Ext.drew ?_) | (with_reducible refine Ext.alloc ?_ _) | ((with_reducible refine Ext.setCell ?_ ?_ _); rotate_left; focus (first | (simp; done) | (simp; omega) | omega)) | assumption | (with_reducible refine Ext.trans ?_ (by assumption)))), ?_⟩ | refine ⟨rfl, rfl, up_of (by repeat (first | (with_reducible exact Ext.refl _) | (with_reducible refine Ext.drewN ?_ _) | (with_reducible refine Ext.drew ?_) | (with_reducible refine Ext.alloc ?_ _) | ((with_reducible refine Ext.setCell ?_ ?_ _); rotate_left; focus (first | (simp; done) | (simp; omega) | omega)) | assumption | (with_reducible refine Ext.trans ?_ (by assumption)))), ?_⟩))); refine mix_nil ?_)
    go_wp2_with (first | (go_at_call 25; (with_reducible refine (HWA.out _ (by repeat (first | (with_reducible exact Ext.refl _) | (with_reducible assumption) | (with_reducible refine Ext.drewN ?_ _) | (with_reducible refine Ext.drew ?_) | (with_reducible refine Ext.alloc ?_ _) | ((with_reducible refine Ext.setCell ?_ ?_ _); rotate_left; focus (first | (simp; done) | (simp; omega) | omega)) | (with_reducible refine Ext.trans ?_ (by with_reducible assumption))))).mono ?_); rintro e w4 ⟨ad, cd, rfl, ho, hx4⟩; rw [I_len] at ho ⊢; have hxb4 : Ext w2 w4 := Ext.trans (by repeat (first | (with_reducible exact Ext.refl _) | (with_reducible assumption) | (with_reducible refine Ext.drewN ?_ _) | (with_reducible refine Ext.drew ?_) | (with_reducible refine Ext.alloc ?_ _) | ((with_reducible refine Ext.setCell ?_ ?_ _); rotate_left; focus (first | (simp; done) | (simp; omega) | omega)) | (with_reducible refine Ext.trans ?_ (by with_reducible assumption)))) hx4; have HO4 := Lib.hid ho; clear ho) | (go_at_call 24; (with_reducible refine (impl_wordOf ad ds.length cd ds _ (HO4.out.ints.ext (by repeat (first | (with_reducible exact Ext.refl _) | (with_reducible assumption) | (with_reducible refine Ext.drewN ?_ _) | (with_reducible refine Ext.drew ?_) | (with_reducible refine Ext.alloc ?_ _) | ((with_reducible refine Ext.setCell ?_ ?_ _); rotate_left; focus (first | (simp; done) | (simp; omega) | omega)) | (with_reducible refine Ext.trans ?_ (by with_reducible assumption))))) Hhl3.out (by have := Hhl1.out; omega)).mono ?_); rintro e w5 ⟨rfl, hx5⟩; have hxb5 : Ext w2 w5 := Ext.trans (by repeat (first | (with_reducible exact Ext.refl _) | (with_reducible assumption) | (with_reducible refine Ext.drewN ?_ _) | (with_reducible refine Ext.drew ?_) | (with_reducible refine Ext.alloc ?_ _) | ((with_reducible refine Ext.setCell ?_ ?_ _); rotate_left; focus (first | (simp; done) | (simp; omega) | omega)) | (with_reducible refine Ext.trans ?_ (by with_reducible assumption)))) hx5))

    go_ret2
    refine ⟨by rw [HR.out, HF.out]; rfl, ?_⟩
    exact hxb.trans (hxb2.trans (by repeat (first | (with_reducible exact Ext.refl _) | (with_reducible assumption) | (with_reducible refine Ext.drewN ?_ _) | (with_reducible refine Ext.drew ?_) | (with_reducible refine Ext.alloc ?_ _) | ((with_reducible refine Ext.setCell ?_ ?_ _); rotate_left; focus (first | (simp; done) | (simp; omega) | omega)) | (with_reducible refine Ext.trans ?_ (by with_reducible assumption)))))
end Go.Proofs.Ytccoopnoakhedaa
