/- Walks: lists that are stripes; ReadStripes in the reference. -/
import Derived.Test.YtnmkckghfckgbaaRead
namespace Go.Proofs.Ytnmkckghfckgbaa
set_option maxRecDepth 100000
open Go.RowKit

def listB (l : List Int) : Bool := (l.all fun x => inB x 1 100000) && decide (l.length % 2 = 1 ∧ l.length ≤ 400)
set_option maxHeartbeats 1000000 in
theorem spec_l08List (a : Option Addr) (n c : Nat) (l : List Int) (w : World) (hv : Ints w a n c l) (hn : n ≤ 1048576) :
    Calls Try.prog 76 #[.slice a n c] w (Ret (.bool (listB l)) w) := by
  have HL := Lib.hid hv.len
  obtain ⟨b, off, hix, hcell⟩ := hv.ix (P := Try.prog) 36 2 und_int64s cell_int64
  have Hhv := Lib.hid hv; clear hv
  go_enter Try.func76, Try.ntmps76
  go_wp2
  go_loopw [3] (fun i wr => ∃ k : Nat, k ≤ n ∧ i = .int .i64 k ∧ (l.take k).all (fun x => inB x 1 100000) = true ∧ Ext w wr) (fun i _ => n - (intOf i).toNat)
  case atStart => exact ⟨0, Nat.zero_le _, rfl, rfl, Ext.refl _⟩
  case round =>
    obtain ⟨k, hk, rfl, hp, hx⟩ := hrel
    have Hhp := Lib.hid hp; clear hp
    by_cases hlt : k < n
    · have HI := Lib.hid (spec_in (gi l k) 1 100000)
      cases hb : inB (gi l k) 1 100000
      · have HN := Lib.hid (all_no (p := fun x => inB x 1 100000) (l := l) (k := k) (x := gi l k) (by rw [HL.out]; exact hlt) rfl hb)
        rw [hb] at HI
        clear hb
        go_wp2_with ((refine (HI.out _).mono ?_); rintro e w1 ⟨rfl, rfl⟩)
        go_ret
        exact ⟨by rw [listB, HN.out]; rfl, (by repeat (first | (with_reducible exact Ext.refl _) | (with_reducible refine Ext.drewN ?_ _) | (with_reducible refine Ext.drew ?_) | (with_reducible refine Ext.alloc ?_ _) | ((with_reducible refine Ext.setCell ?_ ?_ _); rotate_left; focus (first | (simp; done) | (simp; omega) | omega)) | assumption | (with_reducible refine Ext.trans ?_ (by assumption))))⟩
      · have HN := Lib.hid (all_step (p := fun x => inB x 1 100000) (l := l) (k := k) (x := gi l k) (by rw [HL.out]; exact hlt) rfl hb Hhp.out)
        rw [hb] at HI
        clear hb
        go_wp2_with ((refine (HI.out _).mono ?_); rintro e w1 ⟨rfl, rfl⟩)
        exact ⟨⟨k + 1, by omega, by go_num, HN.out, (by repeat (first | (with_reducible exact Ext.refl _) | (with_reducible refine Ext.drewN ?_ _) | (with_reducible refine Ext.drew ?_) | (with_reducible refine Ext.alloc ?_ _) | ((with_reducible refine Ext.setCell ?_ ?_ _); rotate_left; focus (first | (simp; done) | (simp; omega) | omega)) | assumption | (with_reducible refine Ext.trans ?_ (by assumption))))⟩, by simp [intOf]; omega⟩
    · obtain rfl : k = n := by omega
      have HB := Lib.hid (show listB l = decide (k % 2 = 1 ∧ k ≤ 400) by
        have := Hhp.out
        rw [take_full (by rw [HL.out]; exact Nat.le_refl _)] at this
        rw [listB, this, HL.out]; rfl)
      by_cases h1 : k % 2 = 1
      · have h1' : (k : Int) % 2 = 1 := by omega
        go_wp2
        go_ret
        exact ⟨rb (by rw [HB.out]; simp [h1]; omega), (by repeat (first | (with_reducible exact Ext.refl _) | (with_reducible refine Ext.drewN ?_ _) | (with_reducible refine Ext.drew ?_) | (with_reducible refine Ext.alloc ?_ _) | ((with_reducible refine Ext.setCell ?_ ?_ _); rotate_left; focus (first | (simp; done) | (simp; omega) | omega)) | assumption | (with_reducible refine Ext.trans ?_ (by assumption))))⟩
      · have h1' : ¬ (k : Int) % 2 = 1 := by omega
        go_wp2
        go_ret
        exact ⟨rb (by rw [HB.out]; simp [h1]), (by repeat (first | (with_reducible exact Ext.refl _) | (with_reducible refine Ext.drewN ?_ _) | (with_reducible refine Ext.drew ?_) | (with_reducible refine Ext.alloc ?_ _) | ((with_reducible refine Ext.setCell ?_ ?_ _); rotate_left; focus (first | (simp; done) | (simp; omega) | omega)) | assumption | (with_reducible refine Ext.trans ?_ (by assumption))))⟩
def readOkB (D : Bc) (l : List Int) : Bool := validBc D && (listB l && readB D l)
def readOk (D : Bc) (l : List Int) : ByteArray := if readOkB D l then textOf (digsR D l) else .empty
set_option maxHeartbeats 1000000 in
theorem spec_ReadStripes (D : Bc) (a : Option Addr) (n c : Nat) (b : Option Addr) (m d : Nat) (l : List Int) (w : World) (hv : Strs w a n c D.pats) (hn : n ≤ 1048576) (h1 : D.start.size ≤ 1048576) (h2 : D.stop.size ≤ 1048576) (h3 : ∀ p ∈ D.pats, p.size ≤ 1048576) (hi : Ints w b m d l) (hm : m ≤ 1048576) :
    Calls Try.prog 40 #[.agg #[.string D.start, .string D.stop, .slice a n c, .int .i64 D.gap], .slice b m d] w (Ret2 (.string (readOk D l)) (.bool (readOkB D l)) w) := by
  have HB := Lib.hid (bc_box w D a n c 28 hv)
  have HIs := Lib.hid (spec_l08Is D w.heap.size a n c _ HB.out hn h1 h2 h3)
  have Hhv := Lib.hid hv; clear hv; have Hh3 := Lib.hid h3; clear h3; have Hhi := Lib.hid hi; clear hi
  cases hval : validBc D
  · rw [hval] at HIs
    have HF := Lib.hid (show readOkB D l = false by rw [readOkB, hval]; rfl)
    clear hval
    go_enter Try.func40, Try.ntmps40
    go_wp2_with (refine HIs.out.mono ?_; rintro e w1 ⟨rfl, hx1⟩)
    go_ret2
    exact ⟨by rw [readOk, HF.out]; rfl, ((Ext.refl w).alloc _).trans hx1⟩
  rw [hval] at HIs
  have hok := validBc_ok hval
  have HS := Lib.hid (show readOkB D l = (listB l && readB D l) by rw [readOkB, hval]; rfl)
  have Hhok := Lib.hid hok; clear hok
  clear hval
  go_enter Try.func40, Try.ntmps40
  go_wp2_with fail
  obtain ⟨wb, hwb⟩ : ∃ wb, wb = w.alloc (.cells #[.string D.start, .string D.stop, .slice a n c, .int .i64 D.gap] 28) := ⟨_, rfl⟩
  rw [← hwb] at HB HIs ⊢
  have hxb : Ext w wb := by rw [hwb]; exact (by repeat (first | (with_reducible exact Ext.refl _) | (with_reducible refine Ext.drewN ?_ _) | (with_reducible refine Ext.drew ?_) | (with_reducible refine Ext.alloc ?_ _) | ((with_reducible refine Ext.setCell ?_ ?_ _); rotate_left; focus (first | (simp; done) | (simp; omega) | omega)) | assumption | (with_reducible refine Ext.trans ?_ (by assumption))))
  generalize w.heap.size = p at *
  clear hwb
  refine HIs.out.mono ?_
  rintro e w1 ⟨rfl, hx1⟩
  have hxw1 : Ext w w1 := hxb.trans hx1
  have HLi := Lib.hid (spec_l08List b m d l w1 (Hhi.out.ext hxw1) hm)
  cases hlb : listB l
  · rw [hlb] at HLi HS
    go_wp2_with (refine HLi.out.mono ?_; rintro e w2 ⟨rfl, hx2⟩)
    go_ret2
    exact ⟨by rw [readOk, HS.out]; rfl, hxw1.trans hx2⟩
  · rw [hlb, Bool.true_and] at HS
    rw [hlb] at HLi
    have HT := Lib.hid (show readOk D l = readT D l by rw [readOk, HS.out]; rfl)
    go_wp2_with (first | ((with_reducible refine HLi.out.mono ?_); rintro e w2 ⟨rfl, hx2⟩) | ((with_reducible refine (spec_l08Read D p a n c b m d l w2 ((HB.out.ext hx1).ext hx2) Hhok.out ((Hhi.out.ext hxw1).ext hx2) hm).mono ?_); rintro e w3 ⟨rfl, hx3⟩))
    go_ret2
    exact ⟨by rw [HT.out, HS.out]; rfl, (hxw1.trans hx2).trans hx3⟩
end Go.Proofs.Ytnmkckghfckgbaa
