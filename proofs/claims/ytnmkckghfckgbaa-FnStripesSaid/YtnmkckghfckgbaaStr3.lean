/- Walks: the word of a barcode; stripes of a word, in the program. -/
import Derived.Test.YtnmkckghfckgbaaStr2
import Derived.Test.YtnmkckghfckgbaaWords
namespace Go.Proofs.Ytnmkckghfckgbaa
set_option maxRecDepth 100000
open Go.RowKit

/-- a slice and a bool: the slice holds vs if it is true, else it is nil -/
def RetOpt (E : TypeId) (b : Bool) (vs : List Value) (w : World) (e : Ending) (w' : World) : Prop :=
  ∃ a n c, e = .returned (.tuple #[.slice a n c, .bool b]) ∧ Ext w w' ∧ Own w' w.heap.size E a n c (if b then vs else [])
theorem RetOpt.no {E : TypeId} {b : Bool} {vs : List Value} {w w' : World} (hb : b = false) (hx : Ext w w') : RetOpt E b vs w (.returned (.tuple #[.slice none 0 0, .bool false])) w' :=
  ⟨none, 0, 0, by rw [hb], hx, by rw [hb]; exact Own.nil _ _ _⟩
theorem RetOpt.yes {E : TypeId} {b : Bool} {vs : List Value} {w w' : World} {a : Option Addr} {n c : Nat} (hb : b = true) (ho : Own w' w.heap.size E a n c vs) (hx : Ext w w') : RetOpt E b vs w (.returned (.tuple #[.slice a n c, .bool true])) w' :=
  ⟨a, n, c, by rw [hb], hx, by rw [hb]; exact ho⟩

/-- s is a word, its digits are those of patterns -/
def wordBcB (D : Bc) (s : ByteArray) : Bool := wordB s.data.toList 36 20 && !((digs s.data.toList).any fun x => decide ((D.pats.length : Int) ≤ x))

set_option maxHeartbeats 400000 in
theorem word1 (p : Nat) (a : Option Addr) (n c : Nat) (x : Int) (pb : Nat) (w : World) (hb : w.cell? ⟨pb, 0, none⟩ = some (.pointer (some ⟨p, 0, none⟩))) (hc : w.cell? ⟨p, 2, none⟩ = some (.slice a n c)) :
    Calls Try.prog 106 (#[.int .i64 x] ++ #[.pointer (some ⟨pb, 0, none⟩)]) w (Ret (.bool (decide ((n : Int) ≤ x))) w) := by
  go_enter Try.func106, Try.ntmps106
  go_wp2
  go_ret
  exact ⟨by simp, (by repeat (first | (with_reducible exact Ext.refl _) | (with_reducible refine Ext.drewN ?_ _) | (with_reducible refine Ext.drew ?_) | (with_reducible refine Ext.alloc ?_ _) | ((with_reducible refine Ext.setCell ?_ ?_ _); rotate_left; focus (first | (simp; done) | (simp; omega) | omega)) | assumption | (with_reducible refine Ext.trans ?_ (by assumption))))⟩

set_option maxHeartbeats 1000000 in
theorem impl_word (D : Bc) (p : Nat) (a : Option Addr) (n c : Nat) (s : ByteArray) (w : World) (hv : BcAt w p D a n c) (hs : s.size ≤ 4611686018427387904) :
    Calls Try.prog 69 #[.pointer (some ⟨p, 0, none⟩), .string s] w (RetIf 2 (wordBcB D s) (I (digs s.data.toList)) w) := by
  have HW := Lib.hid (impl_digitsOf s 36 20 (w.alloc (.cells #[.pointer (some ⟨p, 0, none⟩)] 57)) hs (by omega) (by omega))
  have hps := hv.ps
  have HN := Lib.hid hps.len
  obtain ⟨_, _, c2, _, _⟩ := hv
  have Hhps := Lib.hid hps; clear hps
  cases hb : wordB s.data.toList 36 20
  · rw [hb] at HW
    have HF := Lib.hid (show wordBcB D s = false by rw [wordBcB, hb]; rfl)
    clear hb
    go_enter Try.func69, Try.ntmps69
    go_wp2_with (refine HW.out.mono ?_; rintro e w1 ⟨a1, n1, c1, rfl, hx1, _⟩)
    go_ret2
    exact RetIf.mk HF.out (((Ext.refl w).alloc _).trans hx1) (fun h => by rw [HF.out] at h; cases h)
  · rw [hb] at HW
    have HF := Lib.hid (show wordBcB D s = !((digs s.data.toList).any fun x => decide ((n : Int) ≤ x)) by rw [wordBcB, hb, HN.out]; rfl)
    have hz : s.data.toList.length ≤ 20 := by simp [wordB] at hb; simp; omega
    have Hhz := Lib.hid hz; clear hz
    clear hb
    go_enter Try.func69, Try.ntmps69
    go_wp2_with (refine HW.out.mono ?_; rintro e w1 ⟨a1, n1, c1, rfl, hx1, ho1⟩)
    have ho := ho1 trivial
    have hlen : n1 ≤ 20 := by have := ho.len; rw [I_len, show (digs s.data.toList).length = s.data.toList.length by simp [digs]] at this; have := Hhz.out; omega
    have hxw : Ext w w1 := ((Ext.refl w).alloc _).trans hx1
    refine (containsFunc_ints a1 n1 c1 (digs s.data.toList) 106 _ (fun x => decide ((n : Int) ≤ x)) (ofI fun x => decide ((n : Int) ≤ x)) _ ho.ints (by omega) (fun x => rfl)
      ⟨fun _ _ => rfl, fun v hvl w' hx => by obtain ⟨x, _, rfl⟩ := mem_I hvl; exact word1 p a n c x w.heap.size w' ((((VarAt.new w _ _).ext hx1).ext hx).cell) (c2 w' (hxw.trans hx))⟩).mono ?_
    rintro e w2 ⟨rfl, hx2⟩
    have Hho1 := Lib.hid ho1; clear ho1
    go_wp2
    go_ret2
    exact RetIf.mk HF.out (hxw.trans hx2) (fun _ => (ho.mono (by simp)).ext hx2)

/-- the stripes of a word, if it is one -/
def stripesOkB (D : Bc) (s : ByteArray) : Bool := validBc D && wordBcB D s
theorem digB_of {D : Bc} {s : ByteArray} (h : wordBcB D s = true) : DigB D (digs s.data.toList) ∧ (digs s.data.toList).length ≤ 20 := by
  unfold wordBcB at h
  simp only [Bool.and_eq_true, Bool.not_eq_true', List.any_eq_false, decide_eq_true_eq] at h
  obtain ⟨hw, hd⟩ := h
  unfold wordB at hw
  simp only [Bool.and_eq_true, List.all_eq_true, decide_eq_true_eq] at hw
  obtain ⟨h1, _, h3⟩ := hw
  refine ⟨fun d hdd => ?_, by rw [show (digs s.data.toList).length = s.data.toList.length by simp [digs]]; omega⟩
  have h2 := hd d hdd
  obtain ⟨c, hc, rfl⟩ := List.mem_map.1 hdd
  have := inB_t.1 (h1 c hc)
  exact ⟨this.1, by omega⟩
set_option maxHeartbeats 1000000 in
theorem impl_StripesOf (D : Bc) (a : Option Addr) (n c : Nat) (s : ByteArray) (w : World) (hv : Strs w a n c D.pats) (hn : n ≤ 1048576) (h1 : D.start.size ≤ 1048576) (h2 : D.stop.size ≤ 1048576) (h3 : ∀ p ∈ D.pats, p.size ≤ 1048576) (hs : s.size ≤ 1048576) :
    Calls Try.prog 32 #[.agg #[.string D.start, .string D.stop, .slice a n c, .int .i64 D.gap], .string s] w (RetOpt 2 (stripesOkB D s) (I (stripesL D (digs s.data.toList))) w) := by
  have HVal := Lib.hid (impl_ValidBarcode D a n c (w.alloc (.cells #[.string D.start, .string D.stop, .slice a n c, .int .i64 D.gap] 28)) (hv.ext ((Ext.refl w).alloc _)) hn h1 h2 h3)
  have HB := Lib.hid (bc_box w D a n c 28 hv)
  have Hhv := Lib.hid hv; clear hv; have Hh3 := Lib.hid h3; clear h3
  cases hval : validBc D
  · rw [hval] at HVal
    have HF := Lib.hid (show stripesOkB D s = false by rw [stripesOkB, hval]; rfl)
    clear hval
    go_enter Try.func32, Try.ntmps32
    go_wp2_with (refine HVal.out.mono ?_; rintro e w1 ⟨rfl, hx1⟩)
    go_ret2
    exact RetOpt.no HF.out (((Ext.refl w).alloc _).trans hx1)
  rw [hval] at HVal
  have hok := validBc_ok hval
  have HS := Lib.hid (show stripesOkB D s = wordBcB D s by rw [stripesOkB, hval]; rfl)
  have Hhok := Lib.hid hok; clear hok
  clear hval
  go_enter Try.func32, Try.ntmps32
  go_wp2_with fail
  obtain ⟨wb, hwb⟩ : ∃ wb, wb = w.alloc (.cells #[.string D.start, .string D.stop, .slice a n c, .int .i64 D.gap] 28) := ⟨_, rfl⟩
  rw [← hwb] at HB HVal ⊢
  have hxb : Ext w wb := by rw [hwb]; exact (by repeat (first | (with_reducible exact Ext.refl _) | (with_reducible refine Ext.drewN ?_ _) | (with_reducible refine Ext.drew ?_) | (with_reducible refine Ext.alloc ?_ _) | ((with_reducible refine Ext.setCell ?_ ?_ _); rotate_left; focus (first | (simp; done) | (simp; omega) | omega)) | assumption | (with_reducible refine Ext.trans ?_ (by assumption))))
  have hle : w.heap.size ≤ wb.heap.size := hxb.le
  have HBo := HB
  obtain ⟨c0, c1, c2, c3, hps⟩ := HB.out
  generalize w.heap.size = p at *
  have Hhps := Lib.hid hps; clear hps
  clear hwb
  refine HVal.out.mono ?_
  rintro e w1 ⟨rfl, hx1⟩
  have hxb1 : Ext wb w1 := hx1
  have HW := Lib.hid (impl_word D p a n c s w1 (HBo.out.ext hx1) (by omega))
  cases hw : wordBcB D s
  · rw [hw] at HW HS
    go_wp2_with (refine HW.out.mono ?_; rintro e w2 ⟨a2, n2, c2', rfl, hx2, _⟩)
    go_ret2
    exact RetOpt.no HS.out ((hxb.trans hx1).trans hx2)
  · obtain ⟨hdg, hdl⟩ := digB_of hw
    rw [hw] at HW HS
    have Hhdg := Lib.hid hdg; clear hdg
    generalize digs s.data.toList = ds at *
    go_wp2_with (refine HW.out.mono ?_; rintro e w2 ⟨a2, n2, c2', rfl, hx2, ho2⟩)
    have ho := ho2 trivial
    have hl2 : n2 ≤ 64 := by have := ho.len; rw [I_len] at this; omega
    have HST := Lib.hid (impl_stripes D p a n c a2 n2 c2' ds w2 ((HBo.out.ext hx1).ext hx2) Hhok.out Hhdg.out ho.ints hl2)
    have Hho := Lib.hid ho; clear ho; have Hho2 := Lib.hid ho2; clear ho2
    refine HST.out.mono ?_
    rintro e w3 ⟨a3, c3', rfl, ho3, hx3⟩
    have hx9 : Ext w w3 := ((hxb.trans hx1).trans hx2).trans hx3
    have Hho3 := Lib.hid ho3; clear ho3
    go_wp2
    go_ret2
    exact RetOpt.yes HS.out (Hho3.out.mono (((hxb.trans hx1).trans hx2).le)) hx9
end Go.Proofs.Ytnmkckghfckgbaa
