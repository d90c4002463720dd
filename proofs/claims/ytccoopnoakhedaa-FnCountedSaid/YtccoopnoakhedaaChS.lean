/- Walks: CheckSymbols. -/
import Derived.Test.YtccoopnoakhedaaChW
import Derived.Test.YtccoopnoakhedaaText
import Derived.Test.YtccoopnoakhedaaMark
import Derived.Test.YtccoopnoakhedaaLInts
namespace Go.Proofs.Ytccoopnoakhedaa
set_option maxRecDepth 100000
open Go.RowKit

def csHit (D : Ch) (ds : List Int) (p : Nat) (d : Int) : Bool := runS D 0 D.start (ds.set p d) == D.fin
def csL (D : Ch) (ds : List Int) (p k : Nat) : List Int := ((List.range k).filter fun (d : Nat) => csHit D ds p (d : Int)).map fun (d : Nat) => (d : Int)
theorem csL_succ (D : Ch) (ds : List Int) (p k : Nat) : csL D ds p (k + 1) = csL D ds p k ++ (if csHit D ds p k then [(k : Int)] else []) := by
  unfold csL
  rw [List.range_succ, List.filter_append, List.map_append]
  congr 1
  by_cases h : csHit D ds p k = true <;> simp [h]
theorem csL_len (D : Ch) (ds : List Int) (p k : Nat) : (csL D ds p k).length ≤ k := by
  unfold csL; rw [List.length_map]; exact Nat.le_trans (List.length_filter_le _ _) (by simp)
theorem csL_dig (D : Ch) (ds : List Int) (p k : Nat) (h : k ≤ 36) : Dig36 (csL D ds p k) := fun d hd => by
  obtain ⟨i, hi, rfl⟩ := List.mem_map.1 hd
  have := List.mem_range.1 (List.mem_filter.1 hi).1
  omega
def csOk (D : Ch) (s : ByteArray) (x : Int) : Bool := runOk D s && inB x 0 ((s.size : Int) - 1)
def csT (D : Ch) (s : ByteArray) (x : Int) : ByteArray := if csOk D s x then textOf (csL D (digC s) x.toNat D.base.toNat) else .empty
theorem digC_set {D : Ch} {ds : List Int} (h : DigC D ds) {p k : Nat} (hk : (k : Int) < D.base) : DigC D (ds.set p k) := fun d hd => by
  rcases List.mem_or_eq_of_mem_set hd with h1 | rfl
  · exact h d h1
  · omega
set_option maxHeartbeats 1000000 in
theorem impl_checks (D : Ch) (q : Nat) (a : Option Addr) (n c : Nat) (a' : Option Addr) (n' c' : Nat) (b : Option Addr) (m e : Nat) (ds : List Int) (w : World) (hv : ChAt w q D a n c a' n' c') (hok : OkCh D)
    (hi : Ints w b m e ds) (hd : DigC D ds) (hpm : m ≤ D.places.length) :
    Calls Try.prog 33 #[.pointer (some ⟨q, 0, none⟩), .slice b m e] w (Ret (.bool (runS D 0 D.start ds == D.fin)) w) := by
  have HLd := Lib.hid (fun W h => impl_leads D q a n c a' n' c' 0 D.start b m e ds W (hv.ext h) hok (by omega) hok.st0 hok.st1 (hi.ext h) hd (by omega))
  obtain ⟨k0, k1, k2, k3, k4, k5, _, _⟩ := hv
  clear hok hi hd hpm
  generalize runS D 0 D.start ds = r at *
  go_enter Try.func33, Try.ntmps33
  go_wp2
  (refine wp_region_from w (by repeat (first | (with_reducible exact Ext.refl _) | (with_reducible refine Ext.drewN ?_ _) | (with_reducible refine Ext.drew ?_) | (with_reducible refine Ext.alloc ?_ _) | ((with_reducible refine Ext.setCell ?_ ?_ _); rotate_left; focus (first | (simp; done) | (simp; omega) | omega)) | assumption | (with_reducible refine Ext.trans ?_ (by assumption)))) (by kernel_rfl) (by kernel_rfl) (by kernel_rfl) ?_; (repeat (first | (refine mix_q rfl ?_; go_big_quiet_step (fail); refine wpQuiet_nil ?_; show wpMix _ _ _ _ _ _ _) | (refine mix_s rfl ?_; go_wp2_with ((with_reducible refine (HLd.out _ (by repeat (first | (with_reducible exact Ext.refl _) | (with_reducible refine Ext.drewN ?_ _) | (with_reducible refine Ext.drew ?_) | (with_reducible refine Ext.alloc ?_ _) | ((with_reducible refine Ext.setCell ?_ ?_ _); rotate_left; focus (first | (simp; done) | (simp; omega) | omega)) | assumption | (with_reducible refine Ext.trans ?_ (by assumption))))).mono ?_); rintro e w1 ⟨rfl, hy1⟩; have hxw1 : Ext w w1 := Ext.trans (by repeat (first | (with_reducible exact Ext.refl _) | (with_reducible refine Ext.drewN ?_ _) | (with_reducible refine Ext.drew ?_) | (with_reducible refine Ext.alloc ?_ _) | ((with_reducible refine Ext.setCell ?_ ?_ _); rotate_left; focus (first | (simp; done) | (simp; omega) | omega)) | assumption | (with_reducible refine Ext.trans ?_ (by assumption)))) hy1; have hz1 := hy1; clear hy1); first | refine ⟨up_of (by repeat (first | (with_reducible exact Ext.refl _) | (with_reducible refine Ext.drewN ?_ _) | (with_reducible refine Ext.drew ?_) | (with_reducible refine Ext.alloc ?_ _) | ((with_reducible refine Ext.setCell ?_ ?_ _); rotate_left; focus (first | (simp; done) | (simp; omega) | omega)) | assumption | (with_reducible refine Ext.trans ?_ (by assumption)))), ?_⟩ | refine ⟨rfl, rfl, up_of (by repeat (first | (with_reducible exact Ext.refl _) | (with_reducible refine Ext.drewN ?_ _) | (with_reducible refine Ext.drew ?_) | (with_reducible refine Ext.alloc ?_ _) | ((with_reducible refine Ext.setCell ?_ ?_ _); rotate_left; focus (first | (simp; done) | (simp; omega) | omega)) | assumption | (with_reducible refine Ext.trans ?_ (by assumption)))), ?_⟩))); refine mix_nil ?_)
  go_wp2
  go_ret
  exact ⟨rfl, (by repeat (first | (with_reducible exact Ext.refl _) | (with_reducible refine Ext.drewN ?_ _) | (with_reducible refine Ext.drew ?_) | (with_reducible refine Ext.alloc ?_ _) | ((with_reducible refine Ext.setCell ?_ ?_ _); rotate_left; focus (first | (simp; done) | (simp; omega) | omega)) | assumption | (with_reducible refine Ext.trans ?_ (by assumption))))⟩
end Go.Proofs.Ytccoopnoakhedaa
