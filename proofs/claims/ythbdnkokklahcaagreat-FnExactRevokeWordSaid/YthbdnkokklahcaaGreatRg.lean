/- Walks: registries: words that are far apart. -/
import Derived.Test.YthbdnkokklahcaaGreatRgM
import Derived.Test.YthbdnkokklahcaaGreatEdit
import Derived.Test.YthbdnkokklahcaaGreatEditS
import Derived.Test.YthbdnkokklahcaaGreatStrFn
namespace Go.Proofs.YthbdnkokklahcaaGreat
set_option maxRecDepth 100000
open Go.RowKit

theorem any_not_allS (l : List ByteArray) (p : ByteArray → Bool) : (!(l.any fun x => p x)) = l.all fun x => !p x := by
  simp [List.all_eq_not_any_not]
set_option maxHeartbeats 1000000 in
theorem apartFrom1 (s v : ByteArray) (ap : Int) (q1 q2 : Nat) (w : World) (h1 : VarAt w q1 9 (.string s)) (h2 : VarAt w q2 2 (.int .i64 ap)) (hs : s.size ≤ 64) (hv : v.size ≤ 64) :
    Calls Tryz.prog 77 (#[.string v] ++ #[.pointer (some ⟨q1, 0, none⟩), .pointer (some ⟨q2, 0, none⟩)]) w (Ret (.bool (decide ((distS s v : Int) < ap))) w) := by
  have c1 : ∀ w', Ext w w' → w'.cell? ⟨q1, 0, none⟩ = some (.string s) := fun w' h => (h1.ext h).cell
  have c2 : ∀ w', Ext w w' → w'.cell? ⟨q2, 0, none⟩ = some (.int .i64 ap) := fun w' h => (h2.ext h).cell
  have HD := Lib.hid (fun W => impl_distance s v W hs hv)
  clear h1 h2
  go_enter Tryz.func77, Tryz.ntmps77
  go_wp2
  (refine wp_region_from w (by repeat (first | (with_reducible exact Ext.refl _) | (with_reducible refine Ext.drewN ?_ _) | (with_reducible refine Ext.drew ?_) | (with_reducible refine Ext.alloc ?_ _) | ((with_reducible refine Ext.setCell ?_ ?_ _); rotate_left; focus (first | (simp; done) | (simp; omega) | omega)) | assumption | (with_reducible refine Ext.trans ?_ (by assumption)))) (by kernel_rfl) (by kernel_rfl) (by kernel_rfl) ?_; (repeat (first | (refine mix_q rfl ?_; go_big_quiet_step (fail); refine wpQuiet_nil ?_; show wpMix _ _ _ _ _ _ _) | (refine mix_s rfl ?_; go_wp2_with (((with_reducible refine (HD.out _).mono ?_); rintro e w1 ⟨rfl, hy1⟩; have hxw1 : Ext w w1 := Ext.trans (by repeat (first | (with_reducible exact Ext.refl _) | (with_reducible refine Ext.drewN ?_ _) | (with_reducible refine Ext.drew ?_) | (with_reducible refine Ext.alloc ?_ _) | ((with_reducible refine Ext.setCell ?_ ?_ _); rotate_left; focus (first | (simp; done) | (simp; omega) | omega)) | assumption | (with_reducible refine Ext.trans ?_ (by assumption)))) hy1; have hz1 := hy1; clear hy1)); first | refine ⟨up_of (by repeat (first | (with_reducible exact Ext.refl _) | (with_reducible refine Ext.drewN ?_ _) | (with_reducible refine Ext.drew ?_) | (with_reducible refine Ext.alloc ?_ _) | ((with_reducible refine Ext.setCell ?_ ?_ _); rotate_left; focus (first | (simp; done) | (simp; omega) | omega)) | assumption | (with_reducible refine Ext.trans ?_ (by assumption)))), ?_⟩ | refine ⟨rfl, rfl, up_of (by repeat (first | (with_reducible exact Ext.refl _) | (with_reducible refine Ext.drewN ?_ _) | (with_reducible refine Ext.drew ?_) | (with_reducible refine Ext.alloc ?_ _) | ((with_reducible refine Ext.setCell ?_ ?_ _); rotate_left; focus (first | (simp; done) | (simp; omega) | omega)) | assumption | (with_reducible refine Ext.trans ?_ (by assumption)))), ?_⟩))); refine mix_nil ?_)
  go_wp2
  go_ret
  exact ⟨rfl, (by repeat (first | (with_reducible exact Ext.refl _) | (with_reducible refine Ext.drewN ?_ _) | (with_reducible refine Ext.drew ?_) | (with_reducible refine Ext.alloc ?_ _) | ((with_reducible refine Ext.setCell ?_ ?_ _); rotate_left; focus (first | (simp; done) | (simp; omega) | omega)) | assumption | (with_reducible refine Ext.trans ?_ (by assumption))))⟩
set_option maxHeartbeats 1000000 in
theorem impl_apartFrom (s : ByteArray) (a : Option Addr) (n c : Nat) (l : List ByteArray) (ap : Int) (w : World) (hv : Strs w a n c l) (hn : n ≤ 1048576) (hs : s.size ≤ 64) (hl : ∀ v ∈ l, v.size ≤ 64) :
    Calls Tryz.prog 49 #[.string s, .slice a n c, .int .i64 ap] w (Ret (.bool (l.all fun v => !decide ((distS s v : Int) < ap))) w) := by
  have HL := Lib.hid hv.len
  have HA := Lib.hid (any_not_allS l fun v => decide ((distS s v : Int) < ap))
  have HV1 := Lib.hid (((VarAt.new w 9 (.string s)).ext ((Ext.refl _).alloc (.cells #[.int .i64 ap] 2))))
  have HV2 := Lib.hid (VarAt.new (w.alloc (.cells #[.string s] 9)) 2 (.int .i64 ap))
  have hz : (w.alloc (.cells #[.string s] 9)).heap.size = w.heap.size + 1 := by unfold World.alloc; exact Array.size_push ..
  rw [hz] at HV2
  have HC := Lib.hid (containsFuncT a n c l 77 #[.pointer (some ⟨w.heap.size, 0, none⟩), .pointer (some ⟨w.heap.size + 1, 0, none⟩)] (fun v => decide ((distS s v : Int) < ap)) ((w.alloc (.cells #[.string s] 9)).alloc (.cells #[.int .i64 ap] 2)) (hv.ext (((Ext.refl _).alloc _).alloc _)) (by omega) (fun _ _ => rfl)
    (fun k hk w' hx => apartFrom1 s (gs l k) ap w.heap.size (w.heap.size + 1) w' (HV1.out.ext hx) (HV2.out.ext hx) hs (hl _ (gs_mem (by rw [HL.out]; exact hk)))))
  clear hv hl hz
  obtain ⟨y, hy⟩ : ∃ y, y = l.any fun v => decide ((distS s v : Int) < ap) := ⟨_, rfl⟩
  rw [← hy] at HC HA
  clear hy
  go_enter Tryz.func49, Tryz.ntmps49
  go_wp2_with (refine HC.out.mono ?_; rintro e w1 ⟨rfl, hx1⟩)
  go_ret
  exact ⟨rb HA.out, (((Ext.refl w).alloc _).alloc _).trans hx1⟩
def riseB (l : List Int) (lo hi : Int) (k : Nat) : Bool := inB (gi l k) lo hi && (decide (k = 0) || decide (gi l (k - 1) < gi l k))
set_option maxHeartbeats 2000000 in
theorem spec_rises (a : Option Addr) (n c : Nat) (l : List Int) (lo hi : Int) (w : World) (hv : Ints w a n c l) (hn : n ≤ 1048576) :
    Calls Tryz.prog 40 #[.slice a n c, .int .i64 lo, .int .i64 hi] w (Ret (.bool ((List.range n).all (riseB l lo hi))) w) := by
  obtain ⟨b, off, hix, hcell⟩ := hv.ix (P := Tryz.prog) 23 2 und_int64s cell_int64
  have Hhv := Lib.hid hv; clear hv
  obtain ⟨y, hy⟩ : ∃ y, y = (List.range n).all (riseB l lo hi) := ⟨_, rfl⟩
  rw [← hy]
  have HNo := Lib.hid (fun k (hk : k < n) (h : riseB l lo hi k = false) => hy.trans (rangeAll_no hk h))
  have HYes := Lib.hid (fun (h : ∀ k, k < n → riseB l lo hi k = true) => hy.trans (rangeAll_yes h))
  clear hy
  go_enter Tryz.func40, Tryz.ntmps40
  go_wp2
  go_loopw [7] (fun i wr => ∃ k : Nat, k ≤ n ∧ i = .int .i64 k ∧ (∀ j, j < k → riseB l lo hi j = true) ∧ Ext w wr) (fun i _ => n - (intOf i).toNat)
  case atStart => exact ⟨0, Nat.zero_le _, rfl, (fun j hj => by omega), Ext.refl _⟩
  case round =>
    obtain ⟨k, hk, rfl, hp, hx⟩ := hrel
    have hxr : Ext w wr := hx
    have Hhp := Lib.hid hp; clear hp
    by_cases hlt : k < n
    · have HIn := Lib.hid (spec_in (gi l k) lo hi)
      have HB := Lib.hid (show riseB l lo hi k = (inB (gi l k) lo hi && (decide (k = 0) || decide (gi l (k - 1) < gi l k))) from rfl)
      have HSt := Lib.hid (fun (h : riseB l lo hi k = true) => show ∀ j, j < k + 1 → riseB l lo hi j = true from fun j hj => by
        by_cases e : j < k
        · exact Hhp.out j e
        · obtain rfl : j = k := by omega
          exact h)
      cases hin : inB (gi l k) lo hi
      · rw [hin] at HIn HB
        clear hin
        go_wp2
        (refine wp_region_from w (by repeat (first | (with_reducible exact Ext.refl _) | (with_reducible refine Ext.drewN ?_ _) | (with_reducible refine Ext.drew ?_) | (with_reducible refine Ext.alloc ?_ _) | ((with_reducible refine Ext.setCell ?_ ?_ _); rotate_left; focus (first | (simp; done) | (simp; omega) | omega)) | assumption | (with_reducible refine Ext.trans ?_ (by assumption)))) (by kernel_rfl) (by kernel_rfl) (seqB_of (by kernel_rfl)) ?_; (repeat (first | (refine mix_q rfl ?_; go_big_quiet_step (fail); refine wpQuiet_nil ?_; show wpMix _ _ _ _ _ _ _) | (refine mix_s rfl ?_; go_wp2_with (((with_reducible refine (HIn.out _).mono ?_); rintro e w9 ⟨rfl, rfl⟩)); first | refine ⟨up_of (by repeat (first | (with_reducible exact Ext.refl _) | (with_reducible refine Ext.drewN ?_ _) | (with_reducible refine Ext.drew ?_) | (with_reducible refine Ext.alloc ?_ _) | ((with_reducible refine Ext.setCell ?_ ?_ _); rotate_left; focus (first | (simp; done) | (simp; omega) | omega)) | assumption | (with_reducible refine Ext.trans ?_ (by assumption)))), ?_⟩ | refine ⟨rfl, rfl, up_of (by repeat (first | (with_reducible exact Ext.refl _) | (with_reducible refine Ext.drewN ?_ _) | (with_reducible refine Ext.drew ?_) | (with_reducible refine Ext.alloc ?_ _) | ((with_reducible refine Ext.setCell ?_ ?_ _); rotate_left; focus (first | (simp; done) | (simp; omega) | omega)) | assumption | (with_reducible refine Ext.trans ?_ (by assumption)))), ?_⟩))); refine mix_nil ?_)
        go_wp2
        go_ret
        exact ⟨rb (HNo.out k hlt HB.out).symm, (by repeat (first | (with_reducible exact Ext.refl _) | (with_reducible refine Ext.drewN ?_ _) | (with_reducible refine Ext.drew ?_) | (with_reducible refine Ext.alloc ?_ _) | ((with_reducible refine Ext.setCell ?_ ?_ _); rotate_left; focus (first | (simp; done) | (simp; omega) | omega)) | assumption | (with_reducible refine Ext.trans ?_ (by assumption))))⟩
      rw [hin, Bool.true_and] at HB
      rw [hin] at HIn
      clear hin
      rcases Nat.eq_zero_or_pos k with hk0 | hk0
      · have h0 : ¬ 0 < k := by omega
        have HX := Lib.hid (HSt.out (by rw [HB.out]; simp [hk0]))
        clear hk0
        go_wp2
        (refine wp_region_from w (by repeat (first | (with_reducible exact Ext.refl _) | (with_reducible refine Ext.drewN ?_ _) | (with_reducible refine Ext.drew ?_) | (with_reducible refine Ext.alloc ?_ _) | ((with_reducible refine Ext.setCell ?_ ?_ _); rotate_left; focus (first | (simp; done) | (simp; omega) | omega)) | assumption | (with_reducible refine Ext.trans ?_ (by assumption)))) (by kernel_rfl) (by kernel_rfl) (seqB_of (by kernel_rfl)) ?_; (repeat (first | (refine mix_q rfl ?_; go_big_quiet_step (fail); refine wpQuiet_nil ?_; show wpMix _ _ _ _ _ _ _) | (refine mix_s rfl ?_; go_wp2_with (((with_reducible refine (HIn.out _).mono ?_); rintro e w9 ⟨rfl, rfl⟩)); first | refine ⟨up_of (by repeat (first | (with_reducible exact Ext.refl _) | (with_reducible refine Ext.drewN ?_ _) | (with_reducible refine Ext.drew ?_) | (with_reducible refine Ext.alloc ?_ _) | ((with_reducible refine Ext.setCell ?_ ?_ _); rotate_left; focus (first | (simp; done) | (simp; omega) | omega)) | assumption | (with_reducible refine Ext.trans ?_ (by assumption)))), ?_⟩ | refine ⟨rfl, rfl, up_of (by repeat (first | (with_reducible exact Ext.refl _) | (with_reducible refine Ext.drewN ?_ _) | (with_reducible refine Ext.drew ?_) | (with_reducible refine Ext.alloc ?_ _) | ((with_reducible refine Ext.setCell ?_ ?_ _); rotate_left; focus (first | (simp; done) | (simp; omega) | omega)) | assumption | (with_reducible refine Ext.trans ?_ (by assumption)))), ?_⟩))); refine mix_nil ?_)
        go_wp2
        exact ⟨⟨k + 1, by omega, by go_num, HX.out, (by repeat (first | (with_reducible exact Ext.refl _) | (with_reducible refine Ext.drewN ?_ _) | (with_reducible refine Ext.drew ?_) | (with_reducible refine Ext.alloc ?_ _) | ((with_reducible refine Ext.setCell ?_ ?_ _); rotate_left; focus (first | (simp; done) | (simp; omega) | omega)) | assumption | (with_reducible refine Ext.trans ?_ (by assumption))))⟩, by simp [intOf]; omega⟩
      · have hz : (decide (k = 0)) = false := by simp; omega
        rw [hz, Bool.false_or] at HB
        obtain ⟨b1, o1, x1, x2⟩ := Hhv.out.one (P := Tryz.prog) 23 2 und_int64s cell_int64 ((k : Int) - 1) (by omega) (by omega)
        rw [show ((k : Int) - 1).toNat = k - 1 by omega] at x2
        clear hz
        by_cases hlt2 : gi l (k - 1) < gi l k
        · have HX := Lib.hid (HSt.out (by rw [HB.out]; simpa using hlt2))
          generalize gi l (k - 1) = z at *
          go_wp2
          (refine wp_region_from w (by repeat (first | (with_reducible exact Ext.refl _) | (with_reducible refine Ext.drewN ?_ _) | (with_reducible refine Ext.drew ?_) | (with_reducible refine Ext.alloc ?_ _) | ((with_reducible refine Ext.setCell ?_ ?_ _); rotate_left; focus (first | (simp; done) | (simp; omega) | omega)) | assumption | (with_reducible refine Ext.trans ?_ (by assumption)))) (by kernel_rfl) (by kernel_rfl) (seqB_of (by kernel_rfl)) ?_; (repeat (first | (refine mix_q rfl ?_; go_big_quiet_step (fail); refine wpQuiet_nil ?_; show wpMix _ _ _ _ _ _ _) | (refine mix_s rfl ?_; go_wp2_with (((with_reducible refine (HIn.out _).mono ?_); rintro e w9 ⟨rfl, rfl⟩)); first | refine ⟨up_of (by repeat (first | (with_reducible exact Ext.refl _) | (with_reducible refine Ext.drewN ?_ _) | (with_reducible refine Ext.drew ?_) | (with_reducible refine Ext.alloc ?_ _) | ((with_reducible refine Ext.setCell ?_ ?_ _); rotate_left; focus (first | (simp; done) | (simp; omega) | omega)) | assumption | (with_reducible refine Ext.trans ?_ (by assumption)))), ?_⟩ | refine ⟨rfl, rfl, up_of (by repeat (first | (with_reducible exact Ext.refl _) | (with_reducible refine Ext.drewN ?_ _) | (with_reducible refine Ext.drew ?_) | (with_reducible refine Ext.alloc ?_ _) | ((with_reducible refine Ext.setCell ?_ ?_ _); rotate_left; focus (first | (simp; done) | (simp; omega) | omega)) | assumption | (with_reducible refine Ext.trans ?_ (by assumption)))), ?_⟩))); refine mix_nil ?_)
          go_wp2
          exact ⟨⟨k + 1, by omega, by go_num, HX.out, (by repeat (first | (with_reducible exact Ext.refl _) | (with_reducible refine Ext.drewN ?_ _) | (with_reducible refine Ext.drew ?_) | (with_reducible refine Ext.alloc ?_ _) | ((with_reducible refine Ext.setCell ?_ ?_ _); rotate_left; focus (first | (simp; done) | (simp; omega) | omega)) | assumption | (with_reducible refine Ext.trans ?_ (by assumption))))⟩, by simp [intOf]; omega⟩
        · have HX := Lib.hid (HNo.out k hlt (by rw [HB.out]; simpa using hlt2))
          generalize gi l (k - 1) = z at *
          go_wp2
          (refine wp_region_from w (by repeat (first | (with_reducible exact Ext.refl _) | (with_reducible refine Ext.drewN ?_ _) | (with_reducible refine Ext.drew ?_) | (with_reducible refine Ext.alloc ?_ _) | ((with_reducible refine Ext.setCell ?_ ?_ _); rotate_left; focus (first | (simp; done) | (simp; omega) | omega)) | assumption | (with_reducible refine Ext.trans ?_ (by assumption)))) (by kernel_rfl) (by kernel_rfl) (seqB_of (by kernel_rfl)) ?_; (repeat (first | (refine mix_q rfl ?_; go_big_quiet_step (fail); refine wpQuiet_nil ?_; show wpMix _ _ _ _ _ _ _) | (refine mix_s rfl ?_; go_wp2_with (((with_reducible refine (HIn.out _).mono ?_); rintro e w9 ⟨rfl, rfl⟩)); first | refine ⟨up_of (by repeat (first | (with_reducible exact Ext.refl _) | (with_reducible refine Ext.drewN ?_ _) | (with_reducible refine Ext.drew ?_) | (with_reducible refine Ext.alloc ?_ _) | ((with_reducible refine Ext.setCell ?_ ?_ _); rotate_left; focus (first | (simp; done) | (simp; omega) | omega)) | assumption | (with_reducible refine Ext.trans ?_ (by assumption)))), ?_⟩ | refine ⟨rfl, rfl, up_of (by repeat (first | (with_reducible exact Ext.refl _) | (with_reducible refine Ext.drewN ?_ _) | (with_reducible refine Ext.drew ?_) | (with_reducible refine Ext.alloc ?_ _) | ((with_reducible refine Ext.setCell ?_ ?_ _); rotate_left; focus (first | (simp; done) | (simp; omega) | omega)) | assumption | (with_reducible refine Ext.trans ?_ (by assumption)))), ?_⟩))); refine mix_nil ?_)
          go_wp2
          go_ret
          exact ⟨rb HX.out.symm, (by repeat (first | (with_reducible exact Ext.refl _) | (with_reducible refine Ext.drewN ?_ _) | (with_reducible refine Ext.drew ?_) | (with_reducible refine Ext.alloc ?_ _) | ((with_reducible refine Ext.setCell ?_ ?_ _); rotate_left; focus (first | (simp; done) | (simp; omega) | omega)) | assumption | (with_reducible refine Ext.trans ?_ (by assumption))))⟩
    · obtain rfl : k = n := by omega
      go_wp2
      go_ret
      exact ⟨rb (HYes.out Hhp.out).symm, hx⟩
end Go.Proofs.YthbdnkokklahcaaGreat
