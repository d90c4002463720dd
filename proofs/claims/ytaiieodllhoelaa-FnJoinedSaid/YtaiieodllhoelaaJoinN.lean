/- Walks: chains that cannot be joined: too many states. -/
import Derived.Test.YtaiieodllhoelaaJoinM
import Derived.Test.YtaiieodllhoelaaSAt
namespace Go.Proofs.Ytaiieodllhoelaa
set_option maxRecDepth 100000
open Go.RowKit

/-- no chain -/
def RetNoJoin (w : World) (e : Ending) (w' : World) : Prop := e = .returned (.tuple #[.agg #[.int .i64 0, .int .i64 0, .int .i64 0, .int .i64 0, .slice none 0 0, .slice none 0 0], .bool false]) ∧ Ext w w'
set_option maxHeartbeats 4000000 in
theorem impl_JoinNo (C D : Ch) (a : Option Addr) (n c : Nat) (b : Option Addr) (m d : Nat) (a2 : Option Addr) (n2 c2 : Nat) (b2 : Option Addr) (d2 : Nat) (w : World) (hC : ChIn w C a n c b m d) (hD : ChIn w D a2 n2 c2 b2 m d2) (hoc : OkCh C) (hod : OkCh D) (hb : C.base = D.base) (h36 : 36 < C.states * D.states) (hvc : validCh C = true) (hvd : validCh D = true) :
    Calls Try.prog 27 #[.agg #[.int .i64 C.base, .int .i64 C.states, .int .i64 C.start, .int .i64 C.fin, .slice a n c, .slice b m d], .agg #[.int .i64 D.base, .int .i64 D.states, .int .i64 D.start, .int .i64 D.fin, .slice a2 n2 c2, .slice b2 m d2]] w (RetNoJoin w) := by
  have HPC := Lib.hid hC.ps.len
  have HVC := Lib.hid (fun W (h : Ext w W) => impl_ValidChain C a n c b m d W (Cube.ext hC.ts h) (hC.ps.ext h) hC.hn hC.hn' hC.sm)
  have HVD := Lib.hid (fun W (h : Ext w W) => impl_ValidChain D a2 n2 c2 b2 m d2 W (Cube.ext hD.ts h) (hD.ps.ext h) hD.hn hD.hn' hD.sm)
  rw [hvc] at HVC
  rw [hvd] at HVD
  have HIC := Lib.hid hC
  have HID := Lib.hid hD
  have hs1 := hoc.s1
  have hs2 := hod.s1
  have hs3 := hoc.s36
  have hs4 := hod.s36
  have hup : C.states * D.states ≤ 36 * 36 := Int.mul_le_mul hs3 hs4 (by omega) (by omega)
  have HB := Lib.hid hb
  clear hC hD hb hvc hvd hoc hod
  go_enter Try.func27, Try.ntmps27
  go_wp2_with fail
  obtain ⟨wb, hwb⟩ : ∃ wb, wb = ((w.alloc (.cells #[.int .i64 C.base, .int .i64 C.states, .int .i64 C.start, .int .i64 C.fin, .slice a n c, .slice b m d] 27)).alloc (.cells #[.int .i64 D.base, .int .i64 D.states, .int .i64 D.start, .int .i64 D.fin, .slice a2 n2 c2, .slice b2 m d2] 27)).alloc (.cells #[.int .i64 0, .int .i64 0, .int .i64 0, .int .i64 0, .slice none 0 0, .slice none 0 0] 27) := ⟨_, rfl⟩
  have hxb : Ext w wb := by rw [hwb]; exact (by repeat (first | (with_reducible exact Ext.refl _) | (with_reducible refine Ext.drewN ?_ _) | (with_reducible refine Ext.drew ?_) | (with_reducible refine Ext.alloc ?_ _) | ((with_reducible refine Ext.setCell ?_ ?_ _); rotate_left; focus (first | (simp; done) | (simp; omega) | omega)) | assumption | (with_reducible refine Ext.trans ?_ (by assumption))))
  have HAC := Lib.hid (show ChAt wb w.heap.size C a n c b m d by rw [hwb]; exact ((HIC.out.box 27).ext ((Ext.refl _).alloc _)).ext ((Ext.refl _).alloc _))
  have HAD := Lib.hid (show ChAt wb (w.heap.size + 1) D a2 n2 c2 b2 m d2 by
    have h1 := (HID.out.ext ((Ext.refl w).alloc (.cells #[.int .i64 C.base, .int .i64 C.states, .int .i64 C.start, .int .i64 C.fin, .slice a n c, .slice b m d] 27))).box 27
    rw [show (w.alloc (.cells #[.int .i64 C.base, .int .i64 C.states, .int .i64 C.start, .int .i64 C.fin, .slice a n c, .slice b m d] 27)).heap.size = w.heap.size + 1 by simp] at h1
    rw [hwb]; exact h1.ext ((Ext.refl _).alloc _))
  have HZ := Lib.hid (show SAt wb (w.heap.size + 2) 27 #[.int .i64 0, .int .i64 0, .int .i64 0, .int .i64 0, .slice none 0 0, .slice none 0 0] by rw [hwb]; exact SAt.new' _ _ _ (by simp))
  have hq12 : w.heap.size + 1 + 1 = w.heap.size + 2 := rfl
  try rw [hq12]
  rw [← hwb]
  obtain ⟨q1, hq1⟩ : ∃ q, q = w.heap.size := ⟨_, rfl⟩
  rw [← hq1] at HAC HAD HZ ⊢
  have hq1l : w.heap.size ≤ q1 := by omega
  clear hwb hq1 hq12
  obtain ⟨k0, k1, k2, k3, k4, k5, _, _⟩ := HAC.out
  obtain ⟨j0, j1, j2, j3, j4, j5, _, _⟩ := HAD.out
  rw [← HB.out] at j0 HVD
  have hxbb : Ext wb wb := Ext.refl _
  go_wp2_with (first | ((with_reducible refine (HVC.out _ (hxb.trans (by repeat (first | (with_reducible exact Ext.refl _) | (with_reducible assumption) | (with_reducible refine Ext.drewN ?_ _) | (with_reducible refine Ext.drew ?_) | (with_reducible refine Ext.alloc ?_ _) | ((with_reducible refine Ext.setCell ?_ ?_ _); rotate_left; focus (first | (simp; done) | (simp; omega) | omega)) | (with_reducible refine Ext.trans ?_ (by with_reducible assumption)))))).mono ?_); rintro e w1 ⟨rfl, hy1⟩; have hx1 : Ext wb w1 := Ext.trans (by repeat (first | (with_reducible exact Ext.refl _) | (with_reducible assumption) | (with_reducible refine Ext.drewN ?_ _) | (with_reducible refine Ext.drew ?_) | (with_reducible refine Ext.alloc ?_ _) | ((with_reducible refine Ext.setCell ?_ ?_ _); rotate_left; focus (first | (simp; done) | (simp; omega) | omega)) | (with_reducible refine Ext.trans ?_ (by with_reducible assumption)))) hy1; clear hy1) | ((with_reducible refine (HVD.out _ (hxb.trans (by repeat (first | (with_reducible exact Ext.refl _) | (with_reducible assumption) | (with_reducible refine Ext.drewN ?_ _) | (with_reducible refine Ext.drew ?_) | (with_reducible refine Ext.alloc ?_ _) | ((with_reducible refine Ext.setCell ?_ ?_ _); rotate_left; focus (first | (simp; done) | (simp; omega) | omega)) | (with_reducible refine Ext.trans ?_ (by with_reducible assumption)))))).mono ?_); rintro e w3 ⟨rfl, hy3⟩; have hx3 : Ext wb w3 := Ext.trans (by repeat (first | (with_reducible exact Ext.refl _) | (with_reducible assumption) | (with_reducible refine Ext.drewN ?_ _) | (with_reducible refine Ext.drew ?_) | (with_reducible refine Ext.alloc ?_ _) | ((with_reducible refine Ext.setCell ?_ ?_ _); rotate_left; focus (first | (simp; done) | (simp; omega) | omega)) | (with_reducible refine Ext.trans ?_ (by with_reducible assumption)))) hy3; clear hy3; have HZ9 := Lib.hid (HZ.out.ext hx3); have z0 := HZ9.out.cell 0 (by simp); have z1 := HZ9.out.cell 1 (by simp); have z2 := HZ9.out.cell 2 (by simp); have z3 := HZ9.out.cell 3 (by simp); have z4 := HZ9.out.cell 4 (by simp); have z5 := HZ9.out.cell 5 (by simp); have zf := (fun j => HZ9.out.frozen j); have zl := HZ9.out.lt))
  refine bodyPost_ret (v := .tuple #[.agg #[.int .i64 0, .int .i64 0, .int .i64 0, .int .i64 0, .slice none 0 0, .slice none 0 0], .bool false]) ?_ rfl ?_
  · simp [results, Try.results27, go_sem, z0, z1, z2, z3, z4, z5]
  · have hxw3 : Ext w w3 := hxb.trans hx3
    exact ⟨rfl, (by repeat (first | (with_reducible exact Ext.refl _) | (with_reducible assumption) | (with_reducible refine Ext.drewN ?_ _) | (with_reducible refine Ext.drew ?_) | (with_reducible refine Ext.alloc ?_ _) | ((with_reducible refine Ext.setCell ?_ ?_ _); rotate_left; focus (first | (simp; done) | (simp; omega) | omega)) | (with_reducible refine Ext.trans ?_ (by with_reducible assumption))))⟩
end Go.Proofs.Ytaiieodllhoelaa
