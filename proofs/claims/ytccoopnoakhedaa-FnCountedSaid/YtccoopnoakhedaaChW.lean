/- Walks: words of a chain; RunChain, IsChecked. -/
import Derived.Test.YtccoopnoakhedaaChVS
namespace Go.Proofs.Ytccoopnoakhedaa
set_option maxRecDepth 100000
open Go.RowKit

/-- a chain as an argument: its two slices, of bounded sizes -/
structure ChIn (w : World) (D : Ch) (a : Option Addr) (n c : Nat) (a' : Option Addr) (n' c' : Nat) : Prop where
  ts : Cube w a n c D.tabs
  ps : Ints w a' n' c' D.places
  hn : n ≤ 1048576
  hn' : n' ≤ 1048576
  sm : SmallCh D
theorem ChIn.ext {w w' : World} {D : Ch} {a : Option Addr} {n c : Nat} {a' : Option Addr} {n' c' : Nat} (h : ChIn w D a n c a' n' c') (hx : Ext w w') : ChIn w' D a n c a' n' c' := ⟨h.ts.ext hx, h.ps.ext hx, h.hn, h.hn', h.sm⟩
theorem ChIn.box {w : World} {D : Ch} {a : Option Addr} {n c : Nat} {a' : Option Addr} {n' c' : Nat} (h : ChIn w D a n c a' n' c') (T : TypeId) :
    ChAt (w.alloc (.cells #[.int .i64 D.base, .int .i64 D.states, .int .i64 D.start, .int .i64 D.fin, .slice a n c, .slice a' n' c'] T)) w.heap.size D a n c a' n' c' := ch_box w D a n c a' n' c' T h.ts h.ps

def wordCh (D : Ch) (s : ByteArray) : Bool := wordB s.data.toList D.base 20 && decide (s.size = D.places.length)
def digC (s : ByteArray) : List Int := digs s.data.toList
theorem digC_len (s : ByteArray) : (digC s).length = s.size := by simp [digC, digs]
theorem wordCh_t {D : Ch} {s : ByteArray} (h : wordCh D s = true) : DigC D (digC s) ∧ s.size = D.places.length ∧ s.size ≤ 20 := by
  unfold wordCh wordB at h
  simp only [Bool.and_eq_true, List.all_eq_true, decide_eq_true_eq] at h
  obtain ⟨⟨h1, _, h3⟩, h4⟩ := h
  refine ⟨fun d hd => ?_, h4, by rw [size_eq] at h3; omega⟩
  obtain ⟨x, hx, rfl⟩ := List.mem_map.1 hd
  have := inB_t.1 (h1 x hx)
  omega
def runOk (D : Ch) (s : ByteArray) : Bool := validCh D && wordCh D s
def runEnd (D : Ch) (s : ByteArray) : Int := runS D 0 D.start (digC s)
def runRes (D : Ch) (s : ByteArray) : Int := if runOk D s then runEnd D s else 0
def chkB (D : Ch) (s : ByteArray) : Bool := runOk D s && decide (runEnd D s = D.fin)
theorem chk_no {D : Ch} {s : ByteArray} (h : runOk D s = false) : chkB D s = false := by simp [chkB, h]
theorem chk_yes {D : Ch} {s : ByteArray} (h : runOk D s = true) : chkB D s = (runEnd D s == D.fin) := by rw [chkB, h]; rfl

set_option maxHeartbeats 1000000 in
theorem impl_chWord (D : Ch) (q : Nat) (a : Option Addr) (n c : Nat) (a' : Option Addr) (n' c' : Nat) (s : ByteArray) (w : World) (hv : ChAt w q D a n c a' n' c') (hs : s.size ≤ 1048576) :
    Calls Try.prog 53 #[.pointer (some ⟨q, 0, none⟩), .string s] w (RetIf 2 (wordCh D s) (I (digC s)) w) := by
  have HP := Lib.hid hv.ps.len
  have HD := Lib.hid (impl_DigitsOf s D.base w (by omega))
  obtain ⟨k0, k1, k2, k3, k4, k5, hts, hps⟩ := hv
  have Hhts := Lib.hid hts; clear hts; have Hhps := Lib.hid hps; clear hps
  cases hb : wordB s.data.toList D.base 20
  · rw [hb] at HD
    have HF := Lib.hid (show wordCh D s = false by rw [wordCh, hb]; rfl)
    clear hb
    go_enter Try.func53, Try.ntmps53
    go_wp2_with (refine HD.out.mono ?_; rintro e w1 ⟨a1, n1, c1, rfl, hx1, _⟩)
    (refine wp_region_up (by kernel_rfl) (by kernel_rfl) (by kernel_rfl) ?_; (repeat (first | (refine mix_q rfl ?_; go_big_quiet_step (fail); refine wpQuiet_nil ?_; show wpMix _ _ _ _ _ _ _) | (refine mix_s rfl ?_; go_wp2_with (fail); first | refine ⟨up_of (by repeat (first | (with_reducible exact Ext.refl _) | (with_reducible refine Ext.drewN ?_ _) | (with_reducible refine Ext.drew ?_) | (with_reducible refine Ext.alloc ?_ _) | ((with_reducible refine Ext.setCell ?_ ?_ _); rotate_left; focus (first | (simp; done) | (simp; omega) | omega)) | assumption | (with_reducible refine Ext.trans ?_ (by assumption)))), ?_⟩ | refine ⟨rfl, rfl, up_of (by repeat (first | (with_reducible exact Ext.refl _) | (with_reducible refine Ext.drewN ?_ _) | (with_reducible refine Ext.drew ?_) | (with_reducible refine Ext.alloc ?_ _) | ((with_reducible refine Ext.setCell ?_ ?_ _); rotate_left; focus (first | (simp; done) | (simp; omega) | omega)) | assumption | (with_reducible refine Ext.trans ?_ (by assumption)))), ?_⟩))); refine mix_nil ?_)
    go_wp2
    go_ret2
    exact RetIf.mk HF.out (by repeat (first | (with_reducible exact Ext.refl _) | (with_reducible refine Ext.drewN ?_ _) | (with_reducible refine Ext.drew ?_) | (with_reducible refine Ext.alloc ?_ _) | ((with_reducible refine Ext.setCell ?_ ?_ _); rotate_left; focus (first | (simp; done) | (simp; omega) | omega)) | assumption | (with_reducible refine Ext.trans ?_ (by assumption)))) (fun h => by rw [HF.out] at h; cases h)
  · rw [hb] at HD
    have HF := Lib.hid (show wordCh D s = decide (s.size = n') by rw [wordCh, hb, HP.out]; rfl)
    have HDl := Lib.hid (digC_len s)
    clear hb
    go_enter Try.func53, Try.ntmps53
    go_wp2_with fail
    refine HD.out.mono ?_
    rintro e w1 ⟨a1, n1, c1, rfl, hx1, ho1⟩
    have ho := ho1 rfl
    have hl : n1 = s.size := by have := ho.len; rw [I_len] at this; rw [← HDl.out]; exact this.symm
    subst hl
    have Hho := Lib.hid ho; clear ho; have Hho1 := Lib.hid ho1; clear ho1
    go_wp2
    (refine wp_region_up (by kernel_rfl) (by kernel_rfl) (by kernel_rfl) ?_; (repeat (first | (refine mix_q rfl ?_; go_big_quiet_step (fail); refine wpQuiet_nil ?_; show wpMix _ _ _ _ _ _ _) | (refine mix_s rfl ?_; go_wp2_with (fail); first | refine ⟨up_of (by repeat (first | (with_reducible exact Ext.refl _) | (with_reducible refine Ext.drewN ?_ _) | (with_reducible refine Ext.drew ?_) | (with_reducible refine Ext.alloc ?_ _) | ((with_reducible refine Ext.setCell ?_ ?_ _); rotate_left; focus (first | (simp; done) | (simp; omega) | omega)) | assumption | (with_reducible refine Ext.trans ?_ (by assumption)))), ?_⟩ | refine ⟨rfl, rfl, up_of (by repeat (first | (with_reducible exact Ext.refl _) | (with_reducible refine Ext.drewN ?_ _) | (with_reducible refine Ext.drew ?_) | (with_reducible refine Ext.alloc ?_ _) | ((with_reducible refine Ext.setCell ?_ ?_ _); rotate_left; focus (first | (simp; done) | (simp; omega) | omega)) | assumption | (with_reducible refine Ext.trans ?_ (by assumption)))), ?_⟩))); refine mix_nil ?_)
    go_wp2
    go_ret2
    have hxx : Ext w1 w1.drew := (by repeat (first | (with_reducible exact Ext.refl _) | (with_reducible refine Ext.drewN ?_ _) | (with_reducible refine Ext.drew ?_) | (with_reducible refine Ext.alloc ?_ _) | ((with_reducible refine Ext.setCell ?_ ?_ _); rotate_left; focus (first | (simp; done) | (simp; omega) | omega)) | assumption | (with_reducible refine Ext.trans ?_ (by assumption))))
    refine RetIf.mk (HF.out.trans ?_) (by repeat (first | (with_reducible exact Ext.refl _) | (with_reducible refine Ext.drewN ?_ _) | (with_reducible refine Ext.drew ?_) | (with_reducible refine Ext.alloc ?_ _) | ((with_reducible refine Ext.setCell ?_ ?_ _); rotate_left; focus (first | (simp; done) | (simp; omega) | omega)) | assumption | (with_reducible refine Ext.trans ?_ (by assumption)))) (fun _ => Hho.out.ext (by repeat (first | (with_reducible exact Ext.refl _) | (with_reducible refine Ext.drewN ?_ _) | (with_reducible refine Ext.drew ?_) | (with_reducible refine Ext.alloc ?_ _) | ((with_reducible refine Ext.setCell ?_ ?_ _); rotate_left; focus (first | (simp; done) | (simp; omega) | omega)) | assumption | (with_reducible refine Ext.trans ?_ (by assumption)))))
    rw [Bool.eq_iff_iff]
    simp
    omega
set_option maxHeartbeats 1000000 in
theorem impl_RunChain (D : Ch) (a : Option Addr) (n c : Nat) (a' : Option Addr) (n' c' : Nat) (s : ByteArray) (w : World) (hv : ChIn w D a n c a' n' c') (hs : s.size ≤ 1048576) :
    Calls Try.prog 28 #[.agg #[.int .i64 D.base, .int .i64 D.states, .int .i64 D.start, .int .i64 D.fin, .slice a n c, .slice a' n' c'], .string s] w (Ret2 (.int .i64 (runRes D s)) (.bool (runOk D s)) w) := by
  have HB := Lib.hid (hv.box 27)
  have HVal := Lib.hid (fun W h => impl_ValidChain D a n c a' n' c' W (Cube.ext hv.ts h) (hv.ps.ext h) hv.hn hv.hn' hv.sm)
  have HDl := Lib.hid (digC_len s)
  clear hv
  cases hval : validCh D
  · rw [hval] at HVal
    have HF := Lib.hid (show runOk D s = false by rw [runOk, hval]; rfl)
    clear hval
    go_enter Try.func28, Try.ntmps28
    go_wp2_with (refine (HVal.out _ ((Ext.refl w).alloc _)).mono ?_; rintro e w1 ⟨rfl, hx1⟩)
    go_ret2
    exact ⟨by rw [runRes, HF.out]; rfl, ((Ext.refl w).alloc _).trans hx1⟩
  rw [hval] at HVal
  have hok := validCh_ok hval
  have HS := Lib.hid (show runOk D s = wordCh D s by rw [runOk, hval]; rfl)
  have Hhok := Lib.hid hok; clear hok
  clear hval
  go_enter Try.func28, Try.ntmps28
  go_wp2_with fail
  obtain ⟨wb, hwb⟩ : ∃ wb, wb = w.alloc (.cells #[.int .i64 D.base, .int .i64 D.states, .int .i64 D.start, .int .i64 D.fin, .slice a n c, .slice a' n' c'] 27) := ⟨_, rfl⟩
  have hxb : Ext w wb := by rw [hwb]; exact (by repeat (first | (with_reducible exact Ext.refl _) | (with_reducible refine Ext.drewN ?_ _) | (with_reducible refine Ext.drew ?_) | (with_reducible refine Ext.alloc ?_ _) | ((with_reducible refine Ext.setCell ?_ ?_ _); rotate_left; focus (first | (simp; done) | (simp; omega) | omega)) | assumption | (with_reducible refine Ext.trans ?_ (by assumption))))
  rw [← hwb] at HB ⊢
  generalize w.heap.size = q at *
  clear hwb
  refine (HVal.out _ hxb).mono ?_
  rintro e w1 ⟨rfl, hx1⟩
  have hxw1 : Ext w w1 := hxb.trans hx1
  have HW := Lib.hid (impl_chWord D q a n c a' n' c' s w1 (HB.out.ext hx1) hs)
  cases hw : wordCh D s
  · rw [hw] at HW HS
    go_wp2_with (refine HW.out.mono ?_; rintro e w2 ⟨a2, n2, c2', rfl, hx2, _⟩)
    go_ret2
    exact ⟨by rw [runRes, HS.out]; rfl, hxw1.trans hx2⟩
  obtain ⟨hdg, hdl, hd20⟩ := wordCh_t hw
  rw [hw] at HW HS
  have HR := Lib.hid (show runRes D s = runS D 0 D.start (digC s) by rw [runRes, HS.out]; rfl)
  obtain ⟨k0, k1, k2, k3, k4, k5, _, _⟩ := HB.out
  have Hhdg := Lib.hid hdg; clear hdg; have Hhw := Lib.hid hw; clear hw; have Hhdl := Lib.hid hdl; clear hdl
  go_wp2_with fail
  refine HW.out.mono ?_
  rintro e w2 ⟨a2, n2, c2', rfl, hx2, ho2⟩
  have ho := ho2 rfl
  have hl : n2 = s.size := by have := ho.len; rw [I_len] at this; rw [← HDl.out]; exact this.symm
  have HL := Lib.hid (impl_leads D q a n c a' n' c' 0 D.start a2 n2 c2' (digC s) w2 (HB.out.ext (hx1.trans hx2)) Hhok.out (by omega) Hhok.out.st0 Hhok.out.st1 ho.ints Hhdg.out (by have := Hhdl.out; omega))
  have hx12 : Ext wb w2 := hx1.trans hx2
  have Hho := Lib.hid ho; clear ho; have Hho2 := Lib.hid ho2; clear ho2; have Hhl := Lib.hid hl; clear hl
  go_wp2_with (refine HL.out.mono ?_; rintro e w3 ⟨rfl, hx3⟩)
  go_ret2
  exact ⟨by rw [HR.out, HS.out]; rfl, (hxw1.trans hx2).trans hx3⟩
set_option maxHeartbeats 1000000 in
theorem impl_IsChecked (D : Ch) (a : Option Addr) (n c : Nat) (a' : Option Addr) (n' c' : Nat) (s : ByteArray) (w : World) (hv : ChIn w D a n c a' n' c') (hs : s.size ≤ 1048576) :
    Calls Try.prog 12 #[.agg #[.int .i64 D.base, .int .i64 D.states, .int .i64 D.start, .int .i64 D.fin, .slice a n c, .slice a' n' c'], .string s] w (Ret (.bool (chkB D s)) w) := by
  have HB := Lib.hid (hv.box 27)
  have HR := Lib.hid (impl_RunChain D a n c a' n' c' s (w.alloc (.cells #[.int .i64 D.base, .int .i64 D.states, .int .i64 D.start, .int .i64 D.fin, .slice a n c, .slice a' n' c'] 27)) (hv.ext ((Ext.refl w).alloc _)) hs)
  clear hv
  obtain ⟨k0, k1, k2, k3, k4, k5, _, _⟩ := HB.out
  have HRr := Lib.hid (show runRes D s = if runOk D s then runEnd D s else 0 from rfl)
  cases hr : runOk D s
  · rw [hr] at HR
    have HF := Lib.hid (chk_no hr)
    clear hr
    go_enter Try.func12, Try.ntmps12
    go_wp2_with (refine HR.out.mono ?_; rintro e w1 ⟨rfl, hx1⟩)
    go_ret
    exact ⟨rb HF.out.symm, ((Ext.refl w).alloc _).trans hx1⟩
  · rw [hr] at HR
    rw [HRr.out, hr, if_pos rfl] at HR
    have HF := Lib.hid (chk_yes hr)
    clear hr
    go_enter Try.func12, Try.ntmps12
    go_wp2_with (refine HR.out.mono ?_; rintro e w1 ⟨rfl, hx1⟩)
    go_ret
    exact ⟨rb HF.out.symm, ((Ext.refl w).alloc _).trans hx1⟩
end Go.Proofs.Ytccoopnoakhedaa
