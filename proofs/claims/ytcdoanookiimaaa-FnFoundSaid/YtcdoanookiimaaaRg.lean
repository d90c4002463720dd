/- Walks: registries: words that are far apart. -/
import Derived.Test.YtcdoanookiimaaaRgM
import Derived.Test.YtcdoanookiimaaaEdit
import Derived.Test.YtcdoanookiimaaaEditS
import Derived.Test.YtcdoanookiimaaaStrFn
namespace Go.Proofs.Ytcdoanookiimaaa
set_option maxRecDepth 100000
open Go.RowKit

theorem any_not_allS (l : List ByteArray) (p : ByteArray → Bool) : (!(l.any fun x => p x)) = l.all fun x => !p x := by
  simp [List.all_eq_not_any_not]
set_option maxHeartbeats 1000000 in
theorem apartFrom1 (s v : ByteArray) (ap : Int) (q1 q2 : Nat) (w : World) (h1 : VarAt w q1 9 (.string s)) (h2 : VarAt w q2 2 (.int .i64 ap)) (hs : s.size ≤ 64) (hv : v.size ≤ 64) :
    Calls Try.prog 128 (#[.string v] ++ #[.pointer (some ⟨q1, 0, none⟩), .pointer (some ⟨q2, 0, none⟩)]) w (Ret (.bool (decide ((distS s v : Int) < ap))) w) := by
  have c1 : ∀ w', Ext w w' → w'.cell? ⟨q1, 0, none⟩ = some (.string s) := fun w' h => (h1.ext h).cell
  have c2 : ∀ w', Ext w w' → w'.cell? ⟨q2, 0, none⟩ = some (.int .i64 ap) := fun w' h => (h2.ext h).cell
  have HD := Lib.hid (fun W => impl_distance s v W hs hv)
  clear h1 h2
  go_enter Try.func128, Try.ntmps128
  go_wp2
  (refine wp_region_from w (by repeat (first | (with_reducible exact Ext.refl _) | (with_reducible refine Ext.drewN ?_ _) | (with_reducible refine Ext.drew ?_) | (with_reducible refine Ext.alloc ?_ _) | ((with_reducible refine Ext.setCell ?_ ?_ _); rotate_left; focus (first | (simp; done) | (simp; omega) | omega)) | assumption | (with_reducible refine Ext.trans ?_ (by assumption)))) (by kernel_rfl) (by kernel_rfl) (by kernel_rfl) ?_; (repeat (first | (refine mix_q rfl ?_; go_big_quiet_step (fail); refine wpQuiet_nil ?_; show wpMix _ _ _ _ _ _ _) | (refine mix_s rfl ?_; go_wp2_with (((with_reducible refine (HD.out _).mono ?_); rintro e w1 ⟨rfl, hy1⟩; have hxw1 : Ext w w1 := Ext.trans (by repeat (first | (with_reducible exact Ext.refl _) | (with_reducible refine Ext.drewN ?_ _) | (with_reducible refine Ext.drew ?_) | (with_reducible refine Ext.alloc ?_ _) | ((with_reducible refine Ext.setCell ?_ ?_ _); rotate_left; focus (first | (simp; done) | (simp; omega) | omega)) | assumption | (with_reducible refine Ext.trans ?_ (by assumption)))) hy1; have hz1 := hy1; clear hy1)); first | refine ⟨up_of (by repeat (first | (with_reducible exact Ext.refl _) | (with_reducible refine Ext.drewN ?_ _) | (with_reducible refine Ext.drew ?_) | (with_reducible refine Ext.alloc ?_ _) | ((with_reducible refine Ext.setCell ?_ ?_ _); rotate_left; focus (first | (simp; done) | (simp; omega) | omega)) | assumption | (with_reducible refine Ext.trans ?_ (by assumption)))), ?_⟩ | refine ⟨rfl, rfl, up_of (by repeat (first | (with_reducible exact Ext.refl _) | (with_reducible refine Ext.drewN ?_ _) | (with_reducible refine Ext.drew ?_) | (with_reducible refine Ext.alloc ?_ _) | ((with_reducible refine Ext.setCell ?_ ?_ _); rotate_left; focus (first | (simp; done) | (simp; omega) | omega)) | assumption | (with_reducible refine Ext.trans ?_ (by assumption)))), ?_⟩))); refine mix_nil ?_)
  go_wp2
  go_ret
  exact ⟨rfl, (by repeat (first | (with_reducible exact Ext.refl _) | (with_reducible refine Ext.drewN ?_ _) | (with_reducible refine Ext.drew ?_) | (with_reducible refine Ext.alloc ?_ _) | ((with_reducible refine Ext.setCell ?_ ?_ _); rotate_left; focus (first | (simp; done) | (simp; omega) | omega)) | assumption | (with_reducible refine Ext.trans ?_ (by assumption))))⟩
set_option maxHeartbeats 1000000 in
theorem impl_apartFrom (s : ByteArray) (a : Option Addr) (n c : Nat) (l : List ByteArray) (ap : Int) (w : World) (hv : Strs w a n c l) (hn : n ≤ 1048576) (hs : s.size ≤ 64) (hl : ∀ v ∈ l, v.size ≤ 64) :
    Calls Try.prog 62 #[.string s, .slice a n c, .int .i64 ap] w (Ret (.bool (l.all fun v => !decide ((distS s v : Int) < ap))) w) := by
  have HL := Lib.hid hv.len
  have HA := Lib.hid (any_not_allS l fun v => decide ((distS s v : Int) < ap))
  have HV1 := Lib.hid (((VarAt.new w 9 (.string s)).ext ((Ext.refl _).alloc (.cells #[.int .i64 ap] 2))))
  have HV2 := Lib.hid (VarAt.new (w.alloc (.cells #[.string s] 9)) 2 (.int .i64 ap))
  have hz : (w.alloc (.cells #[.string s] 9)).heap.size = w.heap.size + 1 := by unfold World.alloc; exact Array.size_push ..
  rw [hz] at HV2
  have HC := Lib.hid (containsFuncT a n c l 128 #[.pointer (some ⟨w.heap.size, 0, none⟩), .pointer (some ⟨w.heap.size + 1, 0, none⟩)] (fun v => decide ((distS s v : Int) < ap)) ((w.alloc (.cells #[.string s] 9)).alloc (.cells #[.int .i64 ap] 2)) (hv.ext (((Ext.refl _).alloc _).alloc _)) (by omega) (fun _ _ => rfl)
    (fun k hk w' hx => apartFrom1 s (gs l k) ap w.heap.size (w.heap.size + 1) w' (HV1.out.ext hx) (HV2.out.ext hx) hs (hl _ (gs_mem (by rw [HL.out]; exact hk)))))
  clear hv hl hz
  obtain ⟨y, hy⟩ : ∃ y, y = l.any fun v => decide ((distS s v : Int) < ap) := ⟨_, rfl⟩
  rw [← hy] at HC HA
  clear hy
  go_enter Try.func62, Try.ntmps62
  go_wp2_with (refine HC.out.mono ?_; rintro e w1 ⟨rfl, hx1⟩)
  go_ret
  exact ⟨rb HA.out, (((Ext.refl w).alloc _).alloc _).trans hx1⟩
end Go.Proofs.Ytcdoanookiimaaa
