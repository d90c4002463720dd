/- Walks: words of a chain; RunChain, IsChecked. -/
import Derived.Test.YtohenfbgjjifbaaChVS
namespace Go.Proofs.Ytohenfbgjjifbaa
set_option maxRecDepth 100000
open Go.RowKit

/-- a chain as an argument: its two slices, of bounded sizes -/
structure ChIn (w : World) (D : Ch) (a : Option Addr) (n c : Nat) (a' : Option Addr) (n' c' : Nat) : Prop where
  ts : Cube w a n c D.tabs
  ps : Ints w a' n' c' D.places
  hn : n ≤ 1048576
  hn' : n' ≤ 1048576
  sm : SmallCh D
theorem ChIn.ext {w w' : World} {D : Ch} {a : Option Addr} {n c : Nat} {a' : Option Addr} {n' c' : Nat} (h : ChIn w D a n c a' n' c') (hx : Ext w w') : ChIn w' D a n c a' n' c' := ⟨h.ts.ext hx, h.ps.ext hx, h.hn, h.hn', h.sm⟩
theorem ChIn.box {w : World} {D : Ch} {a : Option Addr} {n c : Nat} {a' : Option Addr} {n' c' : Nat} (h : ChIn w D a n c a' n' c') (T : TypeId) :
    ChAt (w.alloc (.cells #[.int .i64 D.base, .int .i64 D.states, .int .i64 D.start, .int .i64 D.fin, .slice a n c, .slice a' n' c'] T)) w.heap.size D a n c a' n' c' := ch_box w D a n c a' n' c' T h.ts h.ps

def wordCh (D : Ch) (s : ByteArray) : Bool := wordB s.data.toList D.base 20 && decide (s.size = D.places.length)
def digC (s : ByteArray) : List Int := digs s.data.toList
theorem digC_len (s : ByteArray) : (digC s).length = s.size := by simp [digC, digs]
theorem wordCh_t {D : Ch} {s : ByteArray} (h : wordCh D s = true) : DigC D (digC s) ∧ s.size = D.places.length ∧ s.size ≤ 20 := by
  unfold wordCh wordB at h
  simp only [Bool.and_eq_true, List.all_eq_true, decide_eq_true_eq] at h
  obtain ⟨⟨h1, _, h3⟩, h4⟩ := h
  refine ⟨fun d hd => ?_, h4, by rw [size_eq] at h3; omega⟩
  obtain ⟨x, hx, rfl⟩ := List.mem_map.1 hd
  have := inB_t.1 (h1 x hx)
  omega
def runOk (D : Ch) (s : ByteArray) : Bool := validCh D && wordCh D s
def runEnd (D : Ch) (s : ByteArray) : Int := runS D 0 D.start (digC s)
def runRes (D : Ch) (s : ByteArray) : Int := if runOk D s then runEnd D s else 0
def chkB (D : Ch) (s : ByteArray) : Bool := runOk D s && decide (runEnd D s = D.fin)
theorem chk_no {D : Ch} {s : ByteArray} (h : runOk D s = false) : chkB D s = false := by simp [chkB, h]
theorem chk_yes {D : Ch} {s : ByteArray} (h : runOk D s = true) : chkB D s = (runEnd D s == D.fin) := by rw [chkB, h]; rfl

set_option maxHeartbeats 1000000 in
theorem impl_chWord (D : Ch) (q : Nat) (a : Option Addr) (n c : Nat) (a' : Option Addr) (n' c' : Nat) (s : ByteArray) (w : World) (hv : ChAt w q D a n c a' n' c') (hs : s.size ≤ 1048576) :
    Calls Try.prog 31 #[.pointer (some ⟨q, 0, none⟩), .string s] w (RetIf 2 (wordCh D s) (I (digC s)) w) := by
  have HP := Lib.hid hv.ps.len
  have HD := Lib.hid (impl_DigitsOf s D.base w (by omega))
  obtain ⟨k0, k1, k2, k3, k4, k5, hts, hps⟩ := hv
  have Hhts := Lib.hid hts; clear hts; have Hhps := Lib.hid hps; clear hps
  cases hb : wordB s.data.toList D.base 20
  · rw [hb] at HD
    have HF := Lib.hid (show wordCh D s = false by rw [wordCh, hb]; rfl)
    clear hb
    go_enter Try.func31, Try.ntmps31
    go_wp2_with (refine HD.out.mono ?_; rintro e w1 ⟨a1, n1, c1, rfl, hx1, _⟩)
    (refine wp_region_up (by kernel_rfl) (by kernel_rfl) (by kernel_rfl) ?_; (repeat (first | (refine mix_q rfl ?_; go_big_quiet_step (fail); refine wpQuiet_nil ?_; show wpMix _ _ _ _ _ _ _) | (refine mix_s rfl ?_; go_wp2_with (fail); first | refine ⟨up_of (by repeat (first | (with_reducible exact Ext.refl _) | (with_reducible refine Ext.drewN ?_ _) | (with_reducible refine Ext.drew ?_) | (with_reducible refine Ext.alloc ?_ _) | ((with_reducible refine Ext.setCell ?_ ?_ _); rotate_left; focus (first | (simp; done) | (simp; omega) | omega)) | assumption | (with_reducible refine Ext.trans ?_ (by assumption)))), ?_⟩ | refine ⟨rfl, rfl, up_of (by repeat (first | (with_reducible exact Ext.refl _) | (with_reducible refine Ext.drewN ?_ _) | (with_reducible refine Ext.drew ?_) | (with_reducible refine Ext.alloc ?_ _) | ((with_reducible refine Ext.setCell ?_ ?_ _); rotate_left; focus (first | (simp; done) | (simp; omega) | omega)) | assumption | (with_reducible refine Ext.trans ?_ (by assumption)))), ?_⟩))); refine mix_nil ?_)
    go_wp2
    go_ret2
    exact RetIf.mk HF.out (by repeat (first | (with_reducible exact Ext.refl _) | (with_reducible refine Ext.drewN ?_ _) | (with_reducible refine Ext.drew ?_) | (with_reducible refine Ext.alloc ?_ _) | ((with_reducible refine Ext.setCell ?_ ?_ _); rotate_left; focus (first | (simp; done) | (simp; omega) | omega)) | assumption | (with_reducible refine Ext.trans ?_ (by assumption)))) (fun h => by rw [HF.out] at h; cases h)
  · rw [hb] at HD
    have HF := Lib.hid (show wordCh D s = decide (s.size = n') by rw [wordCh, hb, HP.out]; rfl)
    have HDl := Lib.hid (digC_len s)
    clear hb
    go_enter Try.func31, Try.ntmps31
    go_wp2_with fail
    refine HD.out.mono ?_
    rintro e w1 ⟨a1, n1, c1, rfl, hx1, ho1⟩
    have ho := ho1 rfl
    have hl : n1 = s.size := by have := ho.len; rw [I_len] at this; rw [← HDl.out]; exact this.symm
    subst hl
    have Hho := Lib.hid ho; clear ho; have Hho1 := Lib.hid ho1; clear ho1
    go_wp2
    (refine wp_region_up (by kernel_rfl) (by kernel_rfl) (by kernel_rfl) ?_; (repeat (first | (refine mix_q rfl ?_; go_big_quiet_step (fail); refine wpQuiet_nil ?_; show wpMix _ _ _ _ _ _ _) | (refine mix_s rfl ?_; go_wp2_with (fail); first | refine ⟨up_of (by repeat (first | (with_reducible exact Ext.refl _) | (with_reducible refine Ext.drewN ?_ _) | (with_reducible refine Ext.drew ?_) | (with_reducible refine Ext.alloc ?_ _) | ((with_reducible refine Ext.setCell ?_ ?_ _); rotate_left; focus (first | (simp; done) | (simp; omega) | omega)) | assumption | (with_reducible refine Ext.trans ?_ (by assumption)))), ?_⟩ | refine ⟨rfl, rfl, up_of (by repeat (first | (with_reducible exact Ext.refl _) | (with_reducible refine Ext.drewN ?_ _) | (with_reducible refine Ext.drew ?_) | (with_reducible refine Ext.alloc ?_ _) | ((with_reducible refine Ext.setCell ?_ ?_ _); rotate_left; focus (first | (simp; done) | (simp; omega) | omega)) | assumption | (with_reducible refine Ext.trans ?_ (by assumption)))), ?_⟩))); refine mix_nil ?_)
    go_wp2
    go_ret2
    have hxx : Ext w1 w1.drew := (by repeat (first | (with_reducible exact Ext.refl _) | (with_reducible refine Ext.drewN ?_ _) | (with_reducible refine Ext.drew ?_) | (with_reducible refine Ext.alloc ?_ _) | ((with_reducible refine Ext.setCell ?_ ?_ _); rotate_left; focus (first | (simp; done) | (simp; omega) | omega)) | assumption | (with_reducible refine Ext.trans ?_ (by assumption))))
    refine RetIf.mk (HF.out.trans ?_) (by repeat (first | (with_reducible exact Ext.refl _) | (with_reducible refine Ext.drewN ?_ _) | (with_reducible refine Ext.drew ?_) | (with_reducible refine Ext.alloc ?_ _) | ((with_reducible refine Ext.setCell ?_ ?_ _); rotate_left; focus (first | (simp; done) | (simp; omega) | omega)) | assumption | (with_reducible refine Ext.trans ?_ (by assumption)))) (fun _ => Hho.out.ext (by repeat (first | (with_reducible exact Ext.refl _) | (with_reducible refine Ext.drewN ?_ _) | (with_reducible refine Ext.drew ?_) | (with_reducible refine Ext.alloc ?_ _) | ((with_reducible refine Ext.setCell ?_ ?_ _); rotate_left; focus (first | (simp; done) | (simp; omega) | omega)) | assumption | (with_reducible refine Ext.trans ?_ (by assumption)))))
    rw [Bool.eq_iff_iff]
    simp
    omega
end Go.Proofs.Ytohenfbgjjifbaa
