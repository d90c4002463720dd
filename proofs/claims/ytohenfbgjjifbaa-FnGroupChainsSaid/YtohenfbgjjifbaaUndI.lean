/- Walks: undetected single errors of a chain, in the program. -/
import Derived.Test.YtohenfbgjjifbaaUndA
import Derived.Test.YtohenfbgjjifbaaChVS
import Derived.Test.YtohenfbgjjifbaaChW
import Derived.Test.YtohenfbgjjifbaaW1
namespace Go.Proofs.Ytohenfbgjjifbaa
set_option maxRecDepth 100000
open Go.RowKit

/-- two states that two digits lead to from one reachable state are never both led to the end -/
def Sep (D : Ch) (n' S : Nat) : Prop := ∀ pl, pl + 1 ≤ n' → ∀ x y : Int, 0 ≤ x → x < D.base → 0 ≤ y → y < D.base → x ≠ y → ∀ s : Nat, s < S → gi (begL D S pl) s ≠ 0 → bothS D n' (n' - (pl + 1)) (runS D pl s [x]) (runS D pl s [y]) = 0
set_option maxHeartbeats 400000 in
theorem impl_kind0 (base : Int) (w : World) : Calls Try.prog 53 #[.int .i64 0, .int .i64 base] w (Same (.bool true) w) := by
  have HI := Lib.hid (impl_in 0 0 5)
  rw [show inB 0 0 5 = true from rfl] at HI
  go_enter Try.func53, Try.ntmps53
  go_wp2_with (refine (HI.out _).mono ?_; rintro e w' ⟨rfl, rfl⟩)
  go_ret
  exact ⟨rfl, rfl⟩
set_option maxHeartbeats 400000 in
theorem impl_last0 (n : Nat) (w : World) (h1 : n ≤ 1048576) : Calls Try.prog 54 #[.int .i64 n, .int .i64 0] w (Same (.int .i64 ((n : Int) - 1)) w) := by
  have HE := Lib.hid impl_errLen0
  go_enter Try.func54, Try.ntmps54
  go_wp2_with (go_at_call 65; refine (HE.out _).mono ?_; rintro e w' ⟨rfl, rfl⟩)
  go_ret
  exact ⟨rfl, rfl⟩
def RetUnd (w : World) (e : Ending) (w' : World) : Prop := ∃ v : Int, e = .returned (.tuple #[.int .i64 0, .int .i64 v, .bool true]) ∧ Ext w w'
set_option maxHeartbeats 4000000 in
theorem impl_Undet0 (D : Ch) (a : Option Addr) (n c : Nat) (b : Option Addr) (m d S : Nat) (w : World) (hv : ChIn w D a n c b m d) (hval : validCh D = true) (hS : D.states = (S : Int)) (hsep : Sep D m S) :
    Calls Try.prog 24 #[.agg #[.int .i64 D.base, .int .i64 D.states, .int .i64 D.start, .int .i64 D.fin, .slice a n c, .slice b m d], .int .i64 0] w (RetUnd w) := by
  have HB := Lib.hid (hv.box 34)
  have HVal := Lib.hid (fun W h => impl_ValidChain D a n c b m d W (Cube.ext hv.ts h) (hv.ps.ext h) hv.hn hv.hn' hv.sm)
  have HP := Lib.hid hv.ps.len
  clear hv
  rw [hval] at HVal
  have hok := validCh_ok hval
  have p20 := hok.p20
  rw [HP.out] at p20
  have Hhok := Lib.hid hok; clear hok; have HhS := Lib.hid hS; clear hS; have Hhsep := Lib.hid hsep; clear hsep
  clear hval
  have HK := Lib.hid impl_kind0
  have HLa := Lib.hid (fun W => impl_last0 m W (by omega))
  go_enter Try.func24, Try.ntmps24
  go_wp2_with fail
  obtain ⟨wb, hwb⟩ : ∃ wb, wb = w.alloc (.cells #[.int .i64 D.base, .int .i64 D.states, .int .i64 D.start, .int .i64 D.fin, .slice a n c, .slice b m d] 34) := ⟨_, rfl⟩
  have hxb : Ext w wb := by rw [hwb]; exact (by repeat (first | (with_reducible exact Ext.refl _) | (with_reducible refine Ext.drewN ?_ _) | (with_reducible refine Ext.drew ?_) | (with_reducible refine Ext.alloc ?_ _) | ((with_reducible refine Ext.setCell ?_ ?_ _); rotate_left; focus (first | (simp; done) | (simp; omega) | omega)) | assumption | (with_reducible refine Ext.trans ?_ (by assumption))))
  rw [← hwb] at HB ⊢
  generalize w.heap.size = q at *
  clear hwb
  have HUn := Lib.hid (fun (pl : Nat) (hp : pl + 1 ≤ m) W (h : Ext wb W) => impl_undetAt (pl := pl) W (HB.out.ext h) Hhok.out HhS.out hp (Hhsep.out pl hp))
  refine (HVal.out _ hxb).mono ?_
  rintro e w1 ⟨rfl, hx1⟩
  obtain ⟨k0, k1, k2, k3, k4, k5, _, _⟩ := HB.out
  go_wp2_with ((with_reducible refine (HK.out _ _).mono ?_); rintro e w2 ⟨rfl, rfl⟩)
  go_loopw [7, 8, 9] (fun v7 v8 v9 wr => ∃ (k : Nat) (x : Int), k ≤ m ∧ v7 = .int .i64 0 ∧ v8 = .int .i64 x ∧ v9 = .int .i64 k ∧ Ext wb wr) (fun _ _ v9 _ => m - (intOf v9).toNat)
  case atStart => exact ⟨0, 0, Nat.zero_le _, rfl, rfl, rfl, hx1⟩
  case round =>
    obtain ⟨k, x, hk, rfl, rfl, rfl, hx⟩ := hrel
    by_cases hlt : k < m
    · go_wp2_with (first | ((with_reducible refine (HLa.out _).mono ?_); rintro e w2 ⟨rfl, rfl⟩) | ((with_reducible refine (HUn.out k (by omega) _ (by repeat (first | (with_reducible exact Ext.refl _) | (with_reducible refine Ext.drewN ?_ _) | (with_reducible refine Ext.drew ?_) | (with_reducible refine Ext.alloc ?_ _) | ((with_reducible refine Ext.setCell ?_ ?_ _); rotate_left; focus (first | (simp; done) | (simp; omega) | omega)) | assumption | (with_reducible refine Ext.trans ?_ (by assumption))))).mono ?_); rintro e w3 ⟨v, rfl, hy3⟩; have hx3 : Ext wb w3 := Ext.trans (by repeat (first | (with_reducible exact Ext.refl _) | (with_reducible refine Ext.drewN ?_ _) | (with_reducible refine Ext.drew ?_) | (with_reducible refine Ext.alloc ?_ _) | ((with_reducible refine Ext.setCell ?_ ?_ _); rotate_left; focus (first | (simp; done) | (simp; omega) | omega)) | assumption | (with_reducible refine Ext.trans ?_ (by assumption)))) hy3; clear hy3))
      exact ⟨⟨k + 1, _, by omega, rfl, rfl, by go_num, hx3⟩, by simp [intOf]; omega⟩
    · go_wp2_with (first | ((with_reducible refine (HLa.out _).mono ?_); rintro e w2 ⟨rfl, rfl⟩))
      refine bodyPost_ret (v := .tuple #[.int .i64 0, .int .i64 x, .bool true]) (by simp [results, Try.results24, go_sem]) rfl ⟨x, rfl, hxb.trans hx⟩
set_option maxHeartbeats 2000000 in
theorem impl_Caught0 (D : Ch) (a : Option Addr) (n c : Nat) (b : Option Addr) (m d S : Nat) (w : World) (hv : ChIn w D a n c b m d) (hval : validCh D = true) (hS : D.states = (S : Int)) (hsep : Sep D m S) :
    Calls Try.prog 9 #[.agg #[.int .i64 D.base, .int .i64 D.states, .int .i64 D.start, .int .i64 D.fin, .slice a n c, .slice b m d], .int .i64 0] w (Ret (.bool true) w) := by
  have HU := Lib.hid (fun W (h : Ext w W) => impl_Undet0 D a n c b m d S W (hv.ext h) hval hS hsep)
  have HB := Lib.hid (hv.box 34)
  clear hv hval hsep hS
  go_enter Try.func9, Try.ntmps9
  go_wp2_with fail
  obtain ⟨wb, hwb⟩ : ∃ wb, wb = w.alloc (.cells #[.int .i64 D.base, .int .i64 D.states, .int .i64 D.start, .int .i64 D.fin, .slice a n c, .slice b m d] 34) := ⟨_, rfl⟩
  have hxb : Ext w wb := by rw [hwb]; exact (by repeat (first | (with_reducible exact Ext.refl _) | (with_reducible refine Ext.drewN ?_ _) | (with_reducible refine Ext.drew ?_) | (with_reducible refine Ext.alloc ?_ _) | ((with_reducible refine Ext.setCell ?_ ?_ _); rotate_left; focus (first | (simp; done) | (simp; omega) | omega)) | assumption | (with_reducible refine Ext.trans ?_ (by assumption))))
  rw [← hwb] at HB ⊢
  generalize w.heap.size = q at *
  clear hwb
  obtain ⟨k0, k1, k2, k3, k4, k5, _, _⟩ := HB.out
  go_wp2_with ((with_reducible refine (HU.out _ hxb).mono ?_); rintro e w2 ⟨v, rfl, hx2⟩)
  go_ret
  exact ⟨rfl, hxb.trans hx2⟩
end Go.Proofs.Ytohenfbgjjifbaa
