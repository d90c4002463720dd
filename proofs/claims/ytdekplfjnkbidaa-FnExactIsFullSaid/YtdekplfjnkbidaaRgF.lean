/- Walks: registries: RadiusOf, StatusOf, LeastApart, on both sides. -/
import Derived.Test.YtdekplfjnkbidaaRgV
import Derived.Test.YtdekplfjnkbidaaRgVS
namespace Go.Proofs.Ytdekplfjnkbidaa
set_option maxRecDepth 100000
open Go.RowKit

theorem NoneIn.stepI {p : Int → Bool} {l : List Int} {k : Nat} (hk : k < l.length) (h : p (gi l k) = false) (hp : NoneIn p (l.take k)) : NoneIn p (l.take (k + 1)) := NoneIn.step (d := 0) hk rfl h hp
theorem idx_hitI {p : Int → Bool} {l : List Int} {k : Nat} (hk : k < l.length) (hp : NoneIn p (l.take k)) (h : p (gi l k) = true) : idx p l = k := idx_hit (d := 0) hk rfl h hp
set_option maxHeartbeats 400000 in
theorem indexI (a : Option Addr) (n c : Nat) (l : List Int) (x : Int) (w : World) (hv : Ints w a n c l) (hn : n ≤ 4294967296) :
    Calls Try.prog 104 #[.slice a n c, .int .i64 x] w (Same (.int .i64 (idx (fun y => x == y) l)) w) := by
  have HL := Lib.hid hv.len
  obtain ⟨b, off, hix, hcell⟩ := hv.ix (P := Try.prog) 23 2 und_int64s cell_int64
  have Hhv := Lib.hid hv; clear hv
  go_enter Try.func104, Try.ntmps104
  go_wp2
  go_loop [5, 8] (fun _ i => ∃ k : Nat, k ≤ n ∧ i = .int .i64 k ∧ NoneIn (fun y => x == y) (l.take k)) (fun _ i => n - (intOf i).toNat)
  case atStart => exact ⟨0, Nat.zero_le _, rfl, by simp [NoneIn]⟩
  case round =>
    obtain ⟨k, hk, rfl, hp⟩ := hrel
    have Hhp := Lib.hid hp; clear hp
    by_cases hlt : k < n
    · have hkl : k < l.length := by rw [HL.out]; exact hlt
      have HS := Lib.hid (fun h => NoneIn.stepI (p := fun y => x == y) hkl h Hhp.out)
      have HT := Lib.hid (idx_hitI (p := fun y => x == y) hkl Hhp.out)
      clear hkl
      go_wp2
      · go_ret
        exact ⟨ri (HT.out (by assumption)).symm, rfl⟩
      · exact ⟨⟨k + 1, by omega, by go_num, HS.out (by assumption)⟩, by simp [intOf]; omega⟩
    · go_wp2
      go_ret
      exact ⟨ri (idx_none (by have := Hhp.out; rwa [take_full (by rw [HL.out]; omega)] at this)).symm, rfl⟩
theorem any_flip (l : List Int) (x : Int) : (l.any fun y => x == y) = l.any fun y => y == x := by
  congr 1; funext y; rw [Bool.eq_iff_iff, beq_iff_eq, beq_iff_eq]; exact ⟨Eq.symm, Eq.symm⟩
set_option maxHeartbeats 400000 in
theorem containsI (a : Option Addr) (n c : Nat) (l : List Int) (x : Int) (w : World) (hv : Ints w a n c l) (hn : n ≤ 4294967296) :
    Calls Try.prog 64 #[.slice a n c, .int .i64 x] w (Same (.bool (l.any fun y => y == x)) w) := by
  have HC := Lib.hid (indexI a n c l x w hv hn)
  have HA := Lib.hid ((idx_ge (fun y => x == y) l).trans (any_flip l x))
  clear hv
  go_enter Try.func64, Try.ntmps64
  go_wp2_with (refine HC.out.mono ?_; rintro e w' ⟨rfl, rfl⟩)
  go_ret
  exact ⟨rb HA.out, rfl⟩
theorem any_step {l : List Int} {p : Int → Bool} {k : Nat} (hk : k < l.length) (h : p (gi l k) = true) : l.any p = true := List.any_eq_true.2 ⟨_, gi_mem hk, h⟩
set_option maxHeartbeats 400000 in
theorem spec_has (a : Option Addr) (n c : Nat) (l : List Int) (x : Int) (w : World) (hv : Ints w a n c l) (hn : n ≤ 4294967296) :
    Calls Try.prog 61 #[.slice a n c, .int .i64 x] w (Same (.bool (l.any fun y => y == x)) w) := by
  have HL := Lib.hid hv.len
  obtain ⟨b, off, hix, hcell⟩ := hv.ix (P := Try.prog) 23 2 und_int64s cell_int64
  have Hhv := Lib.hid hv; clear hv
  go_enter Try.func61, Try.ntmps61
  go_wp2
  go_loop [5] (fun i => ∃ k : Nat, k ≤ n ∧ i = .int .i64 k ∧ NoneIn (fun y => y == x) (l.take k)) (fun i => n - (intOf i).toNat)
  case atStart => exact ⟨0, Nat.zero_le _, rfl, by simp [NoneIn]⟩
  case round =>
    obtain ⟨k, hk, rfl, hp⟩ := hrel
    have Hhp := Lib.hid hp; clear hp
    by_cases hlt : k < n
    · have hkl : k < l.length := by rw [HL.out]; exact hlt
      have HS := Lib.hid (fun h => NoneIn.stepI (p := fun y => y == x) hkl h Hhp.out)
      have HT := Lib.hid (any_step (p := fun y => y == x) hkl)
      clear hkl
      go_wp2
      · go_ret
        exact ⟨rb (HT.out (by assumption)).symm, rfl⟩
      · exact ⟨⟨k + 1, by omega, by go_num, HS.out (by assumption)⟩, by simp [intOf]; omega⟩
    · go_wp2
      go_ret
      refine ⟨rb (Eq.symm ?_), rfl⟩
      have := Hhp.out
      rw [take_full (by rw [HL.out]; omega)] at this
      exact List.any_eq_false.2 fun y hy => by have h : (y == x) = false := this y hy; rw [h]; simp
/-! ### RadiusOf -/
def radRes (D : Rg) : Int := if validRg D then (D.apart - 1) / 2 else 0
set_option maxHeartbeats 400000 in
theorem impl_radius (D : Rg) (q : Nat) (a : Option Addr) (n c : Nat) (b : Option Addr) (m d : Nat) (ia : Option Addr) (im ic : Nat) (ra : Option Addr) (rm rc : Nat) (w : World) (hv : RgAt w q D a n c b m d ia im ic ra rm rc) (h1 : 1 ≤ D.apart) (h6 : D.apart ≤ 6) :
    Calls Try.prog 55 #[.pointer (some ⟨q, 0, none⟩)] w (Ret (.int .i64 ((D.apart - 1) / 2)) w) := by
  obtain ⟨_, k6, k7, k8, _, _⟩ := hv
  go_enter Try.func55, Try.ntmps55
  go_wp2
  go_ret
  exact ⟨ri (by omega), Ext.refl _⟩
set_option maxHeartbeats 1000000 in
theorem impl_RadiusOf (D : Rg) (a : Option Addr) (n c : Nat) (b : Option Addr) (m d : Nat) (ia : Option Addr) (im ic : Nat) (ra : Option Addr) (rm rc : Nat) (w : World) (hv : RgIn w D a n c b m d ia im ic ra rm rc) : Calls Try.prog 19 #[.agg #[.int .i64 D.ch.base, .int .i64 D.ch.states, .int .i64 D.ch.start, .int .i64 D.ch.fin, .slice a n c, .slice b m d, .int .i64 D.apart, .slice ia im ic, .slice ra rm rc]] w (Ret2 (.int .i64 (radRes D)) (.bool (validRg D)) w) := by
  have HB := Lib.hid (hv.box 33)
  have HVal := Lib.hid (fun W h => impl_ValidRegistry D a n c b m d ia im ic ra rm rc W (RgIn.ext hv h))
  clear hv
  cases hval : validRg D
  · rw [hval] at HVal
    have HR := Lib.hid (show radRes D = 0 by rw [radRes, hval]; rfl)
    go_enter Try.func19, Try.ntmps19
    go_wp2_with (refine (HVal.out _ ((Ext.refl w).alloc _)).mono ?_; rintro e w1 ⟨rfl, hx1⟩)
    go_ret2
    exact ⟨by rw [HR.out]; rfl, ((Ext.refl w).alloc _).trans hx1⟩
  · rw [hval] at HVal
    have hok := validRg_ok hval
    have h1 := hok.a1
    have h6 := hok.a6
    have HR := Lib.hid (show radRes D = (D.apart - 1) / 2 by rw [radRes, hval]; rfl)
    have Hhok := Lib.hid hok; clear hok; have Hhval := Lib.hid hval; clear hval
    go_enter Try.func19, Try.ntmps19
    go_wp2_with fail
    obtain ⟨wb, hwb⟩ : ∃ wb, wb = w.alloc (.cells #[.int .i64 D.ch.base, .int .i64 D.ch.states, .int .i64 D.ch.start, .int .i64 D.ch.fin, .slice a n c, .slice b m d, .int .i64 D.apart, .slice ia im ic, .slice ra rm rc] 33) := ⟨_, rfl⟩
    have hxb : Ext w wb := by rw [hwb]; exact (by repeat (first | (with_reducible exact Ext.refl _) | (with_reducible refine Ext.drewN ?_ _) | (with_reducible refine Ext.drew ?_) | (with_reducible refine Ext.alloc ?_ _) | ((with_reducible refine Ext.setCell ?_ ?_ _); rotate_left; focus (first | (simp; done) | (simp; omega) | omega)) | assumption | (with_reducible refine Ext.trans ?_ (by assumption))))
    rw [← hwb] at HB ⊢
    generalize w.heap.size = q at *
    clear hwb
    refine (HVal.out _ hxb).mono ?_
    rintro e w1 ⟨rfl, hx1⟩
    go_wp2_with (refine (impl_radius D q a n c b m d ia im ic ra rm rc w1 (HB.out.ext hx1) h1 h6).mono ?_; rintro e w2 ⟨rfl, hx2⟩)
    go_ret2
    exact ⟨by rw [HR.out]; rfl, (hxb.trans hx1).trans hx2⟩
set_option maxHeartbeats 1000000 in
theorem spec_RadiusOf (D : Rg) (a : Option Addr) (n c : Nat) (b : Option Addr) (m d : Nat) (ia : Option Addr) (im ic : Nat) (ra : Option Addr) (rm rc : Nat) (w : World) (hv : RgIn w D a n c b m d ia im ic ra rm rc) : Calls Try.prog 18 #[.agg #[.int .i64 D.ch.base, .int .i64 D.ch.states, .int .i64 D.ch.start, .int .i64 D.ch.fin, .slice a n c, .slice b m d, .int .i64 D.apart, .slice ia im ic, .slice ra rm rc]] w (Ret2 (.int .i64 (radRes D)) (.bool (validRg D)) w) := by
  have HB := Lib.hid (hv.box 33)
  have HVal := Lib.hid (fun q W W' (hx : Ext w W) hq (hx2 : Ext W W') => spec_l10Is D q a n c b m d ia im ic ra rm rc W' (RgAt.ext (w := W) hq hx2) (RgIn.ext hv (hx.trans hx2)))
  clear hv
  cases hval : validRg D
  · rw [hval] at HVal
    have HR := Lib.hid (show radRes D = 0 by rw [radRes, hval]; rfl)
    go_enter Try.func18, Try.ntmps18
    go_wp2_with (refine (HVal.out _ _ _ ((Ext.refl w).alloc _) HB.out (Ext.refl _)).mono ?_; rintro e w1 ⟨rfl, hx1⟩)
    go_ret2
    exact ⟨by rw [HR.out]; rfl, ((Ext.refl w).alloc _).trans hx1⟩
  · rw [hval] at HVal
    have hok := validRg_ok hval
    have h1 := hok.a1
    have h6 := hok.a6
    have HR := Lib.hid (show radRes D = (D.apart - 1) / 2 by rw [radRes, hval]; rfl)
    have Hhok := Lib.hid hok; clear hok; have Hhval := Lib.hid hval; clear hval
    go_enter Try.func18, Try.ntmps18
    go_wp2_with fail
    obtain ⟨wb, hwb⟩ : ∃ wb, wb = w.alloc (.cells #[.int .i64 D.ch.base, .int .i64 D.ch.states, .int .i64 D.ch.start, .int .i64 D.ch.fin, .slice a n c, .slice b m d, .int .i64 D.apart, .slice ia im ic, .slice ra rm rc] 33) := ⟨_, rfl⟩
    have hxb : Ext w wb := by rw [hwb]; exact (by repeat (first | (with_reducible exact Ext.refl _) | (with_reducible refine Ext.drewN ?_ _) | (with_reducible refine Ext.drew ?_) | (with_reducible refine Ext.alloc ?_ _) | ((with_reducible refine Ext.setCell ?_ ?_ _); rotate_left; focus (first | (simp; done) | (simp; omega) | omega)) | assumption | (with_reducible refine Ext.trans ?_ (by assumption))))
    rw [← hwb] at HB ⊢
    generalize w.heap.size = q at *
    clear hwb
    obtain ⟨_, k6, k7, k8, _, _⟩ := HB.out
    refine (HVal.out q wb wb hxb HB.out (Ext.refl _)).mono ?_
    rintro e w1 ⟨rfl, hx1⟩
    have hxw1 : Ext wb w1 := hx1
    go_wp2
    go_ret2
    exact ⟨by rw [HR.out]; rfl, hxb.trans hx1⟩
end Go.Proofs.Ytdekplfjnkbidaa
