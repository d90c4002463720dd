/- Walks: NearestWords of the reference; how long the lists are. -/
import Derived.Test.YtdekplfjnkbidaaGreatNear
namespace Go.Proofs.YtdekplfjnkbidaaGreat
set_option maxRecDepth 100000
open Go.RowKit

theorem tslenNearestWords {w : World} {D : Rg} {a : Option Addr} {n c : Nat} {b : Option Addr} {m d : Nat} {ia : Option Addr} {im ic : Nat} {ra : Option Addr} {rm rc : Nat} {s : ByteArray} (hi : RgIn w D a n c b m d ia im ic ra rm rc) : (nearL D s).length ≤ 1048576 := by
  unfold nearL
  split
  · have h1 := (near_sub D s D.issued.length (Nat.le_refl _)).length_le
    have h2 := putAll_len (nearS D s D.issued.length).1
    rw [List.take_length] at h1
    have h3 := hi.is.len
    have := hi.hi
    omega
  · simp
/-- a list, a number and whether they are there -/
def RetNearS (l : List ByteArray) (n : Int) (b : Bool) (w : World) (e : Ending) (w' : World) : Prop :=
  ∃ a c, e = .returned (.tuple #[.slice a l.length c, .int .i64 n, .bool b]) ∧ Strs w' a l.length c l ∧ Ext w w'
theorem RetNearS.no {l : List ByteArray} {n : Int} {b : Bool} {w w' : World} (hl : l = []) (hn : n = 0) (hb : b = false) (hx : Ext w w') : RetNearS l n b w (.returned (.tuple #[.slice none 0 0, .int .i64 0, .bool false])) w' := by
  subst hl; subst hn; subst hb
  exact ⟨none, 0, rfl, strs_nil _ _ _, hx⟩
set_option maxHeartbeats 2000000 in
theorem spec_Nearest (D : Rg) (a : Option Addr) (n c : Nat) (b : Option Addr) (m d : Nat) (ia : Option Addr) (im ic : Nat) (ra : Option Addr) (rm rc : Nat) (s : ByteArray) (w : World) (hv : RgIn w D a n c b m d ia im ic ra rm rc) (hs : s.size ≤ 1048576) : Calls Tryz.prog 12 #[.agg #[.int .i64 D.ch.base, .int .i64 D.ch.states, .int .i64 D.ch.start, .int .i64 D.ch.fin, .slice a n c, .slice b m d, .int .i64 D.apart, .slice ia im ic, .slice ra rm rc], .string s] w (RetNearS (nearL D s) (nearN D s) (nearB D s) w) := by
  have HB := Lib.hid (hv.box 32)
  have HN := Lib.hid hv
  have HL := Lib.hid hv.is.len
  clear hv
  cases hask : askB D s
  · have HA := Lib.hid (spec_l10Ask D _ a n c b m d ia im ic ra rm rc s _ HB.out (HN.out.ext ((Ext.refl w).alloc _)) hs)
    have HO := Lib.hid (ask_no hask)
    have HR := Lib.hid (near_no HO.out)
    rw [hask] at HA
    clear hask
    go_enter Tryz.func12, Tryz.ntmps12
    go_wp2_with (refine HA.out.mono ?_; rintro e w1 ⟨rfl, hx1⟩)
    go_ret3
    exact RetNearS.no HR.out.1 HR.out.2 HO.out (((Ext.refl w).alloc _).trans hx1)
  have hval : validRg D = true := by have h := hask; unfold askB at h; simp only [Bool.and_eq_true] at h; exact h.1
  have hwd : wordB s.data.toList 36 20 = true := by have h := hask; unfold askB at h; simp only [Bool.and_eq_true] at h; exact h.2
  have hok := validRg_ok hval
  have hs20 := wordB_size hwd
  have hnil := near_nil D s im
  have HNb := Lib.hid (show nearB D s = !decide ((nearS D s im).2 < 0) by rw [nearB, hask, HL.out]; rfl)
  have HNl := Lib.hid (show nearB D s = true → nearL D s = putAll (nearS D s im).1 from fun h => by rw [nearL, h, HL.out]; rfl)
  have HNn := Lib.hid (show nearB D s = true → nearN D s = (nearS D s im).2 from fun h => by rw [nearN, h, HL.out]; rfl)
  have HPn := Lib.hid (show (putAll (nearS D s im).1).length = 0 ↔ (nearS D s im).2 < 0 by
    rw [← hnil]
    constructor
    · intro h
      cases h3 : (nearS D s im).1 with
      | nil => rfl
      | cons x l => have := (mem_putAll (x := x) (nearS D s im).1).2 (by rw [h3]; exact List.mem_cons_self ..); rw [List.eq_nil_of_length_eq_zero h] at this; cases this
    · intro h; rw [h]; rfl)
  have Hhok := Lib.hid hok; clear hok; have Hhval := Lib.hid hval; clear hval; have Hhwd := Lib.hid hwd; clear hwd; have Hhnil := Lib.hid hnil; clear hnil
  go_enter Tryz.func12, Tryz.ntmps12
  go_wp2_with fail
  obtain ⟨wb, hwb⟩ : ∃ wb, wb = w.alloc (.cells #[.int .i64 D.ch.base, .int .i64 D.ch.states, .int .i64 D.ch.start, .int .i64 D.ch.fin, .slice a n c, .slice b m d, .int .i64 D.apart, .slice ia im ic, .slice ra rm rc] 32) := ⟨_, rfl⟩
  have hxb : Ext w wb := by rw [hwb]; exact (by repeat (first | (with_reducible exact Ext.refl _) | (with_reducible refine Ext.drewN ?_ _) | (with_reducible refine Ext.drew ?_) | (with_reducible refine Ext.alloc ?_ _) | ((with_reducible refine Ext.setCell ?_ ?_ _); rotate_left; focus (first | (simp; done) | (simp; omega) | omega)) | assumption | (with_reducible refine Ext.trans ?_ (by assumption))))
  rw [← hwb] at HB ⊢
  generalize w.heap.size = q at *
  clear hwb
  have HA := Lib.hid (spec_l10Ask D q a n c b m d ia im ic ra rm rc s wb HB.out (HN.out.ext hxb) hs)
  rw [hask] at HA
  clear hask
  refine HA.out.mono ?_
  rintro e w1 ⟨rfl, hx1⟩
  have HS := Lib.hid (spec_l10Nearest D q a n c b m d ia im ic ra rm rc s w1 (HB.out.ext hx1) (HN.out.ext (hxb.trans hx1)) Hhok.out hs20)
  go_wp2_with fail
  refine HS.out.mono ?_
  rintro e w2 ⟨a2, c2, rfl, hs2, hx2⟩
  have hx2' : Ext wb w2 := hx1.trans hx2
  have HS2 := Lib.hid hs2
  clear hs2
  by_cases hz : (nearS D s im).2 < 0
  · have h0 := HPn.out.2 hz
    have HO := Lib.hid (show nearB D s = false by rw [HNb.out, decide_eq_true hz]; rfl)
    have HR := Lib.hid (near_no HO.out)
    clear hz
    generalize (nearS D s im).2 = nn at *
    rw [h0]
    clear h0
    go_wp2
    go_ret3
    exact RetNearS.no HR.out.1 HR.out.2 HO.out (hxb.trans hx2')
  · have hB : nearB D s = true := by rw [HNb.out]; simpa using hz
    have hpos : ¬ (putAll (nearS D s im).1).length = 0 := fun h => hz (HPn.out.1 h)
    have HLl := Lib.hid (HNl.out hB)
    have HNn2 := Lib.hid (HNn.out hB)
    have hp0 : decide ((putAll (nearS D s im).1).length = 0) = false := decide_eq_false hpos
    have HBt := Lib.hid hB
    clear hz hB
    rw [← HNn2.out]
    generalize (putAll (nearS D s im).1) = us at *
    go_wp2
    go_ret3
    rw [HBt.out, HLl.out]
    exact ⟨a2, c2, rfl, HS2.out, hxb.trans hx2'⟩
end Go.Proofs.YtdekplfjnkbidaaGreat
