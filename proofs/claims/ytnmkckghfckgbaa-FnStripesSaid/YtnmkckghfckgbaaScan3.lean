/- Walks: ScanStripes. -/
import Derived.Test.YtnmkckghfckgbaaScan2
namespace Go.Proofs.Ytnmkckghfckgbaa
set_option maxRecDepth 100000
open Go.RowKit

theorem listB_wide {l : List Int} (h : listB l = true) : Wide l := fun x hx => by
  unfold listB at h
  simp only [Bool.and_eq_true, List.all_eq_true] at h
  exact inB_t.1 (h.1 x hx)
theorem wide_rev {l : List Int} (h : Wide l) : Wide l.reverse := fun x hx => h x (List.mem_reverse.1 hx)
def ssOk (D : Bc) (l : List Int) : Bool := validBc D && (listB l && (scanB D l != scanB D l.reverse))
def ssFw (D : Bc) (l : List Int) : Bool := ssOk D l && scanB D l
def ssT (D : Bc) (l : List Int) : ByteArray := if ssOk D l then (if scanB D l then scanT D l else scanT D l.reverse) else .empty
theorem ss_no {D : Bc} {l : List Int} (h : ssOk D l = false) : ssFw D l = false ∧ ssT D l = .empty := by simp [ssFw, ssT, h]
theorem ss_yes {D : Bc} {l : List Int} (h : ssOk D l = true) : (scanB D l = true → ssFw D l = true ∧ ssT D l = scanT D l) ∧ (scanB D l = false → ssFw D l = false ∧ ssT D l = scanT D l.reverse) := by
  constructor <;> intro h2 <;> simp [ssFw, ssT, h, h2]
set_option maxHeartbeats 1000000 in
theorem ScanStripes1 (D : Bc) (a : Option Addr) (n c : Nat) (b : Option Addr) (m d : Nat) (l : List Int) (w : World) (hv : Strs w a n c D.pats) (hn : n ≤ 1048576) (h1 : D.start.size ≤ 1048576) (h2 : D.stop.size ≤ 1048576) (h3 : ∀ p ∈ D.pats, p.size ≤ 1048576) (hi : Ints w b m d l) (hm : m ≤ 1048576) :
    Calls Try.prog 46 #[.agg #[.string D.start, .string D.stop, .slice a n c, .int .i64 D.gap], .slice b m d] w (Ret3 (.string (ssT D l)) (.bool (ssFw D l)) (.bool (ssOk D l)) w) := by
  have HB := Lib.hid (bc_box w D a n c 28 hv)
  have HIs := Lib.hid (impl_ValidBarcode D a n c (w.alloc (.cells #[.string D.start, .string D.stop, .slice a n c, .int .i64 D.gap] 28)) (hv.ext ((Ext.refl w).alloc _)) hn h1 h2 h3)
  have HLn := Lib.hid hi.len
  have Hhv := Lib.hid hv; clear hv; have Hh3 := Lib.hid h3; clear h3; have Hhi := Lib.hid hi; clear hi
  cases hval : validBc D
  · rw [hval] at HIs
    have HF := Lib.hid (show ssOk D l = false by rw [ssOk, hval]; rfl)
    clear hval
    go_enter Try.func46, Try.ntmps46
    go_wp2_with (refine HIs.out.mono ?_; rintro e w1 ⟨rfl, hx1⟩)
    go_ret3
    exact ⟨by rw [HF.out, (ss_no HF.out).1, (ss_no HF.out).2]; rfl, ((Ext.refl w).alloc _).trans hx1⟩
  rw [hval] at HIs
  have hok := validBc_ok hval
  have HS := Lib.hid (show ssOk D l = (listB l && (scanB D l != scanB D l.reverse)) by rw [ssOk, hval]; rfl)
  have Hhok := Lib.hid hok; clear hok
  clear hval
  go_enter Try.func46, Try.ntmps46
  go_wp2_with fail
  obtain ⟨wb, hwb⟩ : ∃ wb, wb = w.alloc (.cells #[.string D.start, .string D.stop, .slice a n c, .int .i64 D.gap] 28) := ⟨_, rfl⟩
  rw [← hwb] at HB HIs ⊢
  have hxb : Ext w wb := by rw [hwb]; exact (by repeat (first | (with_reducible exact Ext.refl _) | (with_reducible refine Ext.drewN ?_ _) | (with_reducible refine Ext.drew ?_) | (with_reducible refine Ext.alloc ?_ _) | ((with_reducible refine Ext.setCell ?_ ?_ _); rotate_left; focus (first | (simp; done) | (simp; omega) | omega)) | assumption | (with_reducible refine Ext.trans ?_ (by assumption))))
  generalize w.heap.size = p at *
  clear hwb
  refine HIs.out.mono ?_
  rintro e w1 ⟨rfl, hx1⟩
  have hxw1 : Ext w w1 := hxb.trans hx1
  have HLi := Lib.hid (impl_stripesOk b m d l w1 (Hhi.out.ext hxw1) hm)
  cases hlb : listB l
  · rw [hlb] at HLi HS
    have HF := Lib.hid (show ssOk D l = false by rw [HS.out]; rfl)
    go_wp2_with (refine HLi.out.mono ?_; rintro e w2 ⟨rfl, hx2⟩)
    go_ret3
    exact ⟨by rw [HF.out, (ss_no HF.out).1, (ss_no HF.out).2]; rfl, hxw1.trans hx2⟩
  have hwd := listB_wide hlb
  rw [hlb, Bool.true_and] at HS
  rw [hlb] at HLi
  clear hlb
  go_wp2_with fail
  refine HLi.out.mono ?_
  rintro e w2 ⟨rfl, hx2⟩
  have hxw2 : Ext w w2 := hxw1.trans hx2
  have HS1 := Lib.hid (impl_scan D p a n c b m d l w2 (HB.out.ext (hx1.trans hx2)) Hhok.out (Hhi.out.ext hxw2) hm hwd)
  go_wp2_with fail
  refine HS1.out.mono ?_
  rintro e w3 ⟨rfl, hx3⟩
  have hxw3 : Ext w w3 := hxw2.trans hx3
  have HT := Lib.hid (impl_opposite b m d l w3 (Hhi.out.ext hxw3) hm)
  go_wp2_with fail
  refine HT.out.mono ?_
  rintro e w4 ⟨a4, c4, rfl, ho4, hx4⟩
  rw [I_len, List.length_reverse, HLn.out] at ho4 ⊢
  have hxw4 : Ext w w4 := hxw3.trans hx4
  have HS2 := Lib.hid (impl_scan D p a n c a4 m c4 l.reverse w4 (HB.out.ext (((hx1.trans hx2).trans hx3).trans hx4)) Hhok.out ho4.ints hm (wide_rev hwd))
  have Hho4 := Lib.hid ho4; clear ho4; have Hhwd := Lib.hid hwd; clear hwd
  have HO := Lib.hid (ss_yes (D := D) (l := l))
  have HN := Lib.hid (ss_no (D := D) (l := l))
  cases e1 : scanB D l <;> cases e2 : scanB D l.reverse <;> rw [e1, e2] at HS
  · have hf : ssOk D l = false := HS.out
    have HF := Lib.hid hf
    have HNN := Lib.hid (HN.out hf)
    rw [e2] at HS2
    clear e1 e2 hf
    go_wp2_with (refine HS2.out.mono ?_; rintro e w5 ⟨rfl, hx5⟩)
    go_ret3
    exact ⟨by rw [HF.out, HNN.out.1, HNN.out.2]; rfl, hxw4.trans hx5⟩
  · have hf : ssOk D l = true := HS.out
    have HF := Lib.hid hf
    have HNN := Lib.hid ((HO.out hf).2 e1)
    rw [e2] at HS2
    clear e1 e2 hf
    go_wp2_with (refine HS2.out.mono ?_; rintro e w5 ⟨rfl, hx5⟩)
    go_ret3
    exact ⟨by rw [HF.out, HNN.out.1, HNN.out.2]; rfl, hxw4.trans hx5⟩
  · have hf : ssOk D l = true := HS.out
    have HF := Lib.hid hf
    have HNN := Lib.hid ((HO.out hf).1 e1)
    rw [e2] at HS2
    clear e1 e2 hf
    go_wp2_with (refine HS2.out.mono ?_; rintro e w5 ⟨rfl, hx5⟩)
    go_ret3
    exact ⟨by rw [HF.out, HNN.out.1, HNN.out.2]; rfl, hxw4.trans hx5⟩
  · have hf : ssOk D l = false := HS.out
    have HF := Lib.hid hf
    have HNN := Lib.hid (HN.out hf)
    rw [e2] at HS2
    clear e1 e2 hf
    go_wp2_with (refine HS2.out.mono ?_; rintro e w5 ⟨rfl, hx5⟩)
    go_ret3
    exact ⟨by rw [HF.out, HNN.out.1, HNN.out.2]; rfl, hxw4.trans hx5⟩
set_option maxHeartbeats 1000000 in
theorem ScanStripes2 (D : Bc) (a : Option Addr) (n c : Nat) (b : Option Addr) (m d : Nat) (l : List Int) (w : World) (hv : Strs w a n c D.pats) (hn : n ≤ 1048576) (h1 : D.start.size ≤ 1048576) (h2 : D.stop.size ≤ 1048576) (h3 : ∀ p ∈ D.pats, p.size ≤ 1048576) (hi : Ints w b m d l) (hm : m ≤ 1048576) :
    Calls Try.prog 47 #[.agg #[.string D.start, .string D.stop, .slice a n c, .int .i64 D.gap], .slice b m d] w (Ret3 (.string (ssT D l)) (.bool (ssFw D l)) (.bool (ssOk D l)) w) := by
  have HB := Lib.hid (bc_box w D a n c 28 hv)
  have HIs := Lib.hid (spec_l08Is D w.heap.size a n c _ HB.out hn h1 h2 h3)
  have HLn := Lib.hid hi.len
  have Hhv := Lib.hid hv; clear hv; have Hh3 := Lib.hid h3; clear h3; have Hhi := Lib.hid hi; clear hi
  cases hval : validBc D
  · rw [hval] at HIs
    have HF := Lib.hid (show ssOk D l = false by rw [ssOk, hval]; rfl)
    clear hval
    go_enter Try.func47, Try.ntmps47
    go_wp2_with (refine HIs.out.mono ?_; rintro e w1 ⟨rfl, hx1⟩)
    go_ret3
    exact ⟨by rw [HF.out, (ss_no HF.out).1, (ss_no HF.out).2]; rfl, ((Ext.refl w).alloc _).trans hx1⟩
  rw [hval] at HIs
  have hok := validBc_ok hval
  have HS := Lib.hid (show ssOk D l = (listB l && (scanB D l != scanB D l.reverse)) by rw [ssOk, hval]; rfl)
  have Hhok := Lib.hid hok; clear hok
  clear hval
  go_enter Try.func47, Try.ntmps47
  go_wp2_with fail
  obtain ⟨wb, hwb⟩ : ∃ wb, wb = w.alloc (.cells #[.string D.start, .string D.stop, .slice a n c, .int .i64 D.gap] 28) := ⟨_, rfl⟩
  rw [← hwb] at HB HIs ⊢
  have hxb : Ext w wb := by rw [hwb]; exact (by repeat (first | (with_reducible exact Ext.refl _) | (with_reducible refine Ext.drewN ?_ _) | (with_reducible refine Ext.drew ?_) | (with_reducible refine Ext.alloc ?_ _) | ((with_reducible refine Ext.setCell ?_ ?_ _); rotate_left; focus (first | (simp; done) | (simp; omega) | omega)) | assumption | (with_reducible refine Ext.trans ?_ (by assumption))))
  generalize w.heap.size = p at *
  clear hwb
  refine HIs.out.mono ?_
  rintro e w1 ⟨rfl, hx1⟩
  have hxw1 : Ext w w1 := hxb.trans hx1
  have HLi := Lib.hid (spec_l08List b m d l w1 (Hhi.out.ext hxw1) hm)
  cases hlb : listB l
  · rw [hlb] at HLi HS
    have HF := Lib.hid (show ssOk D l = false by rw [HS.out]; rfl)
    go_wp2_with (refine HLi.out.mono ?_; rintro e w2 ⟨rfl, hx2⟩)
    go_ret3
    exact ⟨by rw [HF.out, (ss_no HF.out).1, (ss_no HF.out).2]; rfl, hxw1.trans hx2⟩
  have hwd := listB_wide hlb
  rw [hlb, Bool.true_and] at HS
  rw [hlb] at HLi
  clear hlb
  go_wp2_with fail
  refine HLi.out.mono ?_
  rintro e w2 ⟨rfl, hx2⟩
  have hxw2 : Ext w w2 := hxw1.trans hx2
  have HS1 := Lib.hid (spec_scan D p a n c b m d l w2 (HB.out.ext (hx1.trans hx2)) Hhok.out (Hhi.out.ext hxw2) hm hwd)
  go_wp2_with fail
  refine HS1.out.mono ?_
  rintro e w3 ⟨rfl, hx3⟩
  have hxw3 : Ext w w3 := hxw2.trans hx3
  have HT := Lib.hid (spec_l08Turn b m d l w3 (Hhi.out.ext hxw3) hm)
  go_wp2_with fail
  refine HT.out.mono ?_
  rintro e w4 ⟨a4, c4, rfl, ho4, hx4⟩
  rw [I_len, List.length_reverse, HLn.out] at ho4 ⊢
  have hxw4 : Ext w w4 := hxw3.trans hx4
  have HS2 := Lib.hid (spec_scan D p a n c a4 m c4 l.reverse w4 (HB.out.ext (((hx1.trans hx2).trans hx3).trans hx4)) Hhok.out ho4.ints hm (wide_rev hwd))
  have Hho4 := Lib.hid ho4; clear ho4; have Hhwd := Lib.hid hwd; clear hwd
  have HO := Lib.hid (ss_yes (D := D) (l := l))
  have HN := Lib.hid (ss_no (D := D) (l := l))
  cases e1 : scanB D l <;> cases e2 : scanB D l.reverse <;> rw [e1, e2] at HS
  · have hf : ssOk D l = false := HS.out
    have HF := Lib.hid hf
    have HNN := Lib.hid (HN.out hf)
    rw [e2] at HS2
    clear e1 e2 hf
    go_wp2_with (refine HS2.out.mono ?_; rintro e w5 ⟨rfl, hx5⟩)
    go_ret3
    exact ⟨by rw [HF.out, HNN.out.1, HNN.out.2]; rfl, hxw4.trans hx5⟩
  · have hf : ssOk D l = true := HS.out
    have HF := Lib.hid hf
    have HNN := Lib.hid ((HO.out hf).2 e1)
    rw [e2] at HS2
    clear e1 e2 hf
    go_wp2_with (refine HS2.out.mono ?_; rintro e w5 ⟨rfl, hx5⟩)
    go_ret3
    exact ⟨by rw [HF.out, HNN.out.1, HNN.out.2]; rfl, hxw4.trans hx5⟩
  · have hf : ssOk D l = true := HS.out
    have HF := Lib.hid hf
    have HNN := Lib.hid ((HO.out hf).1 e1)
    rw [e2] at HS2
    clear e1 e2 hf
    go_wp2_with (refine HS2.out.mono ?_; rintro e w5 ⟨rfl, hx5⟩)
    go_ret3
    exact ⟨by rw [HF.out, HNN.out.1, HNN.out.2]; rfl, hxw4.trans hx5⟩
  · have hf : ssOk D l = false := HS.out
    have HF := Lib.hid hf
    have HNN := Lib.hid (HN.out hf)
    rw [e2] at HS2
    clear e1 e2 hf
    go_wp2_with (refine HS2.out.mono ?_; rintro e w5 ⟨rfl, hx5⟩)
    go_ret3
    exact ⟨by rw [HF.out, HNN.out.1, HNN.out.2]; rfl, hxw4.trans hx5⟩
end Go.Proofs.Ytnmkckghfckgbaa
