/- Walks: the nearest words of a registry, on both sides. -/
import Derived.Test.YtdekplfjnkbidaaGreatNearM
import Derived.Test.YtdekplfjnkbidaaGreatPut
import Derived.Test.YtdekplfjnkbidaaGreatRgG
import Derived.Test.YtdekplfjnkbidaaGreatSort
namespace Go.Proofs.YtdekplfjnkbidaaGreat
set_option maxRecDepth 100000
open Go.RowKit

/-- the least distance as the program keeps it -/
def leastI (D : Rg) (s : ByteArray) (k : Nat) : Int := if (nearS D s k).2 < 0 then 1099511627776 else (nearS D s k).2
theorem wordB_size {s : ByteArray} (h : wordB s.data.toList 36 20 = true) : s.size ≤ 20 := by
  unfold wordB at h
  simp only [Bool.and_eq_true, decide_eq_true_eq, ba_len] at h
  omega
theorem near_bd (D : Rg) (s : ByteArray) : ∀ k, k ≤ D.issued.length → (∀ j, j < D.issued.length → (gs D.issued j).size ≤ 20) → s.size ≤ 20 → -1 ≤ (nearS D s k).2 ∧ (nearS D s k).2 ≤ 20
  | 0, _, _, _ => by simp [nearS]
  | k + 1, hk, h1, h2 => by
    have ih := near_bd D s k (by omega) h1 h2
    have h3 := dist_max (gs D.issued k) s
    have h4 := h1 k (by omega)
    have h5 : 0 ≤ farK D s k ∧ farK D s k ≤ 20 := by unfold farK; omega
    unfold nearS
    split
    · exact ih
    split
    · exact ⟨by omega, by simp only; omega⟩
    split
    · exact ⟨by simp only; omega, by simp only; omega⟩
    · exact ih
set_option maxHeartbeats 400000 in
theorem impl_wordOk (s : ByteArray) (most : Int) (w : World) (hs : s.size ≤ 1048576) (h0 : 0 ≤ most) (h1 : most ≤ 1048576) :
    Calls Tryz.prog 42 #[.string s, .int .i64 most] w (Ret (.bool (wordB s.data.toList 36 most)) w) := by
  have HD := Lib.hid (impl_digitsOf s 36 most w (by omega) h0 h1)
  go_enter Tryz.func42, Tryz.ntmps42
  go_wp2_with (refine HD.out.mono ?_; rintro e w1 ⟨a1, n1, c1, rfl, hx1, _⟩)
  go_ret
  exact ⟨rfl, hx1⟩
/-- a list, a number and whether they are there -/
def RetNear (l : List ByteArray) (n : Int) (b : Bool) (w : World) (e : Ending) (w' : World) : Prop :=
  ∃ a c, e = .returned (.tuple #[.slice a l.length c, .int .i64 n, .bool b]) ∧ Own w' w.heap.size 9 a l.length c (St l) ∧ Ext w w'
theorem RetNear.no {l : List ByteArray} {n : Int} {b : Bool} {w w' : World} (hl : l = []) (hn : n = 0) (hb : b = false) (hx : Ext w w') : RetNear l n b w (.returned (.tuple #[.slice none 0 0, .int .i64 0, .bool false])) w' := by
  subst hl; subst hn; subst hb
  exact ⟨none, 0, rfl, Own.nil _ _ _, hx⟩
theorem near_no {D : Rg} {s : ByteArray} (h : nearB D s = false) : nearL D s = [] ∧ nearN D s = 0 := by unfold nearL nearN; rw [h]; exact ⟨rfl, rfl⟩
theorem ask_no {D : Rg} {s : ByteArray} (h : askB D s = false) : nearB D s = false := by rw [nearB, h]; rfl
set_option maxHeartbeats 8000000 in
theorem impl_Nearest (D : Rg) (a : Option Addr) (n c : Nat) (b : Option Addr) (m d : Nat) (ia : Option Addr) (im ic : Nat) (ra : Option Addr) (rm rc : Nat) (s : ByteArray) (w : World) (hv : RgIn w D a n c b m d ia im ic ra rm rc) (hs : s.size ≤ 1048576) : Calls Tryz.prog 13 #[.agg #[.int .i64 D.ch.base, .int .i64 D.ch.states, .int .i64 D.ch.start, .int .i64 D.ch.fin, .slice a n c, .slice b m d, .int .i64 D.apart, .slice ia im ic, .slice ra rm rc], .string s] w (RetNear (nearL D s) (nearN D s) (nearB D s) w) := by
  have HB := Lib.hid (hv.box 32)
  have HN := Lib.hid hv
  have HVal := Lib.hid (fun W h => impl_ValidRegistry D a n c b m d ia im ic ra rm rc W (RgIn.ext hv h))
  have HWd := Lib.hid (fun W => impl_wordOk s 20 W hs (by omega) (by omega))
  have him := hv.hi
  have hrm := hv.hr
  have HL := Lib.hid hv.is.len
  obtain ⟨bi, oi, hix, hcell⟩ := hv.is.ix (P := Tryz.prog) 26 9 und_strs cell_str
  clear hv
  cases hval : validRg D
  · rw [hval] at HVal
    have HO := Lib.hid (ask_no (show askB D s = false by rw [askB, hval]; rfl))
    have HR := Lib.hid (near_no HO.out)
    clear hval
    go_enter Tryz.func13, Tryz.ntmps13
    go_wp2_with (refine (HVal.out _ ((Ext.refl w).alloc _)).mono ?_; rintro e w1 ⟨rfl, hx1⟩)
    go_ret3
    exact RetNear.no HR.out.1 HR.out.2 HO.out (((Ext.refl w).alloc _).trans hx1)
  rw [hval] at HVal
  have hok := validRg_ok hval
  cases hwd : wordB s.data.toList 36 20
  · rw [hwd] at HWd
    have HO := Lib.hid (ask_no (show askB D s = false by rw [askB, hwd]; simp))
    have HR := Lib.hid (near_no HO.out)
    clear hwd hval hok
    go_enter Tryz.func13, Tryz.ntmps13
    go_wp2_with fail
    obtain ⟨wb, hwb⟩ : ∃ wb, wb = w.alloc (.cells #[.int .i64 D.ch.base, .int .i64 D.ch.states, .int .i64 D.ch.start, .int .i64 D.ch.fin, .slice a n c, .slice b m d, .int .i64 D.apart, .slice ia im ic, .slice ra rm rc] 32) := ⟨_, rfl⟩
    have hxb : Ext w wb := by rw [hwb]; exact (by repeat (first | (with_reducible exact Ext.refl _) | (with_reducible refine Ext.drewN ?_ _) | (with_reducible refine Ext.drew ?_) | (with_reducible refine Ext.alloc ?_ _) | ((with_reducible refine Ext.setCell ?_ ?_ _); rotate_left; focus (first | (simp; done) | (simp; omega) | omega)) | assumption | (with_reducible refine Ext.trans ?_ (by assumption))))
    rw [← hwb] at HB ⊢
    generalize w.heap.size = q at *
    clear hwb
    refine (HVal.out _ hxb).mono ?_
    rintro e w1 ⟨rfl, hx1⟩
    go_wp2_with (refine (HWd.out _).mono ?_; rintro e w2 ⟨rfl, hx2⟩)
    go_ret3
    exact RetNear.no HR.out.1 HR.out.2 HO.out ((hxb.trans hx1).trans hx2)
  rw [hwd] at HWd
  have hs20 := wordB_size hwd
  have HAsk := Lib.hid (show nearB D s = !decide ((nearS D s im).2 < 0) by rw [nearB, askB, hval, hwd, HL.out]; rfl)
  have HNd := Lib.hid (near_nodup hok s)
  rw [HL.out] at HNd
  have HBd := Lib.hid (fun k (hk : k ≤ im) => near_bd D s k (by rw [HL.out]; exact hk) hok.s20 hs20)
  have Hhok := Lib.hid hok; clear hok; have Hhval := Lib.hid hval; clear hval; have Hhwd := Lib.hid hwd; clear hwd
  go_enter Tryz.func13, Tryz.ntmps13
  go_wp2_with fail
  obtain ⟨wb, hwb⟩ : ∃ wb, wb = w.alloc (.cells #[.int .i64 D.ch.base, .int .i64 D.ch.states, .int .i64 D.ch.start, .int .i64 D.ch.fin, .slice a n c, .slice b m d, .int .i64 D.apart, .slice ia im ic, .slice ra rm rc] 32) := ⟨_, rfl⟩
  have hxb : Ext w wb := by rw [hwb]; exact (by repeat (first | (with_reducible exact Ext.refl _) | (with_reducible refine Ext.drewN ?_ _) | (with_reducible refine Ext.drew ?_) | (with_reducible refine Ext.alloc ?_ _) | ((with_reducible refine Ext.setCell ?_ ?_ _); rotate_left; focus (first | (simp; done) | (simp; omega) | omega)) | assumption | (with_reducible refine Ext.trans ?_ (by assumption))))
  rw [← hwb] at HB ⊢
  obtain ⟨q, hq⟩ : ∃ q, q = w.heap.size := ⟨_, rfl⟩
  rw [← hq] at HB ⊢
  have hqb : q ≤ wb.heap.size := by rw [hq]; exact hxb.le
  have Hhq := Lib.hid hq; clear hq
  clear hwb
  obtain ⟨_, k6, k7, k8, _, _⟩ := HB.out
  refine (HVal.out _ hxb).mono ?_
  rintro e w1 ⟨rfl, hx1⟩
  have hx1' : Ext wb w1 := hx1
  go_wp2_with (refine (HWd.out _).mono ?_; rintro e w2 ⟨rfl, hx2⟩; have hx2' : Ext wb w2 := Ext.trans hx1' hx2)
  go_loopw [7, 8, 9, 10, 11, 24] (fun v7 v8 _ _ _ i wr => ∃ (k : Nat) (ad : Option Addr) (c7 : Nat), k ≤ im ∧ i = .int .i64 k ∧ v7 = .slice ad (nearS D s k).1.length c7 ∧ v8 = .int .i64 (leastI D s k) ∧ Own wr wb.heap.size 9 ad (nearS D s k).1.length c7 (St (nearS D s k).1) ∧ Ext wb wr) (fun _ _ _ _ _ i _ => im - (intOf i).toNat)
  case atStart => exact ⟨0, _, _, Nat.zero_le _, rfl, rfl, rfl, (Own.lit0 w2 _).mono hx2'.le, hx2'.alloc _⟩
  case round =>
    obtain ⟨k, ad, c7, hk, rfl, rfl, rfl, ho, hx⟩ := hrel
    have hxr : Ext wb wr := hx
    have hxq : Ext w wr := hxb.trans hx
    have HO := Lib.hid ho
    have hqr : wb.heap.size ≤ wr.heap.size := hx.le
    clear ho
    by_cases hlt : k < im
    · have HC := Lib.hid (containsI ra rm rc D.revoked (k : Int) wr (HB.out.rs.ext hx) (by omega))
      rw [show (D.revoked.any fun y => y == (k : Int)) = revHas D k from rfl] at HC
      have hbd := HBd.out k hk
      cases hrev : revHas D k
      · rw [hrev] at HC
        have hsk := Hhok.out.s20 k (by rw [HL.out]; exact hlt)
        have hfar : 0 ≤ farK D s k ∧ farK D s k ≤ 20 := by
          have h3 := dist_max (gs D.issued k) s
          unfold farK; omega
        have HD := Lib.hid (fun W => impl_distance (gs D.issued k) s W (by omega) (by omega))
        rw [show ((distS (gs D.issued k) s : Nat) : Int) = farK D s k from rfl] at HD
        by_cases hl : farK D s k < leastI D s k
        · have HN1 := Lib.hid (near_new (s := s) hrev (by
            unfold leastI at hl
            by_cases h : (nearS D s k).2 < 0
            · exact .inl h
            · rw [if_neg h] at hl; exact .inr hl))
          have HL1 := Lib.hid (show leastI D s (k + 1) = farK D s k by unfold leastI; rw [HN1.out]; exact if_neg (by simp only; omega))
          have hd1 : decide (farK D s k < leastI D s k) = true := by simpa using hl
          have hd2 : decide (farK D s k = farK D s k) = true := by simp
          generalize farK D s k = fk at *
          generalize leastI D s k = lk at *
          clear hrev
          go_wp2_with (first | ((with_reducible refine HC.out.mono ?_); rintro e w3 ⟨rfl, rfl⟩) | ((with_reducible refine (HD.out _).mono ?_); rintro e w4 ⟨rfl, hx4⟩; have hq4 : wb.heap.size ≤ w4.heap.size := Nat.le_trans hqr hx4.le; have HO4 := Lib.hid (HO.out.ext hx4)) | (at_builtin; refine law_append1 _ rfl _ _ 26 rfl 9 (.string .empty) 16 und_strs info_str rfl wb.heap.size none 0 0 [] (.string (gs D.issued k)) rfl rfl (by simp [Act.eval, go_sem]) (Own.nil _ _ _) hq4 (by omega) (by omega) ?_; intro ad5 c5 w5 ho5 hb5 hg5))
          refine ⟨⟨k + 1, ad5, c5, by omega, by go_num, by rw [HN1.out]; rfl, by rw [HL1.out], ?_, ((hx.trans hx4).below hb5)⟩, by simp [intOf]; omega⟩
          rw [HN1.out]
          exact ho5
        · by_cases he : farK D s k = leastI D s k
          · have hneg : ¬ (nearS D s k).2 < 0 := by unfold leastI at he; intro h; rw [if_pos h] at he; omega
            have hle : leastI D s k = (nearS D s k).2 := by unfold leastI; exact if_neg hneg
            have HN1 := Lib.hid (near_more (s := s) hrev hneg (he.trans hle))
            have HL1 := Lib.hid (show leastI D s (k + 1) = leastI D s k by unfold leastI; rw [HN1.out, if_neg (by simp only; omega), if_neg hneg]; simp only; rw [he, hle])
            have HLen := Lib.hid (show (nearS D s (k + 1)).1.length = (nearS D s k).1.length + 1 by rw [HN1.out]; simp)
            have HSt := Lib.hid (show St (nearS D s (k + 1)).1 = St (nearS D s k).1 ++ [.string (gs D.issued k)] by rw [HN1.out, St_append]; rfl)
            have hln := Lib.hid (show (nearS D s k).1.length ≤ 1048576 by
              have h1 := (near_sub D s k (by rw [HL.out]; exact hk)).length_le
              rw [List.length_take] at h1; omega)
            have hd1 : decide (farK D s k < leastI D s k) = false := by simpa using hl
            have hd2 : decide (farK D s k = leastI D s k) = true := by simpa using he
            have hd3 : (farK D s k == leastI D s k) = true := by simpa using he
            have hln' := hln.out
            clear he hle hneg hrev HN1 hln
            generalize St (nearS D s k).1 = us at *
            generalize (nearS D s k).1.length = nl at *
            generalize farK D s k = fk at *
            generalize leastI D s k = lk at *
            go_wp2_with (first | ((with_reducible refine HC.out.mono ?_); rintro e w3 ⟨rfl, rfl⟩) | ((with_reducible refine (HD.out _).mono ?_); rintro e w4 ⟨rfl, hx4⟩; have hq4 : wb.heap.size ≤ w4.heap.size := Nat.le_trans hqr hx4.le; have HO4 := Lib.hid (HO.out.ext hx4)) | (at_builtin; refine law_append1 _ rfl _ _ 26 rfl 9 (.string .empty) 16 und_strs info_str rfl wb.heap.size ad nl c7 us (.string (gs D.issued k)) rfl rfl (by simp [Act.eval, go_sem]) HO4.out hq4 (by omega) (by omega) ?_; intro ad5 c5 w5 ho5 hb5 hg5))
            refine ⟨⟨k + 1, ad5, c5, by omega, by go_num, by rw [HLen.out], by rw [HL1.out], ?_, ((hx.trans hx4).below hb5)⟩, by simp [intOf]; omega⟩
            rw [HLen.out, HSt.out]
            exact ho5
          · have hneg : ¬ (nearS D s k).2 < 0 := by unfold leastI at hl; intro h; rw [if_pos h] at hl; omega
            have hle : leastI D s k = (nearS D s k).2 := by unfold leastI; exact if_neg hneg
            have HN1 := Lib.hid (near_not (s := s) hrev hneg (by omega))
            have HL1 := Lib.hid (show leastI D s (k + 1) = leastI D s k by unfold leastI; rw [HN1.out])
            have hd1 : decide (farK D s k < leastI D s k) = false := by simpa using hl
            have hd2 : decide (farK D s k = leastI D s k) = false := by simpa using he
            have hd3 : (farK D s k == leastI D s k) = false := by simpa using he
            clear he hle hneg hrev
            have HN2 := Lib.hid (show (nearS D s (k + 1)).1 = (nearS D s k).1 by rw [HN1.out])
            clear HN1
            generalize (nearS D s k).1 = ls at *
            generalize farK D s k = fk at *
            generalize leastI D s k = lk at *
            go_wp2_with (first | ((with_reducible refine HC.out.mono ?_); rintro e w3 ⟨rfl, rfl⟩) | ((with_reducible refine (HD.out _).mono ?_); rintro e w4 ⟨rfl, hx4⟩; have hq4 : wb.heap.size ≤ w4.heap.size := Nat.le_trans hqr hx4.le; have HO4 := Lib.hid (HO.out.ext hx4)))
            refine ⟨⟨k + 1, ad, c7, by omega, by go_num, by rw [HN2.out], by rw [HL1.out], ?_, hx.trans hx4⟩, by simp [intOf]; omega⟩
            rw [HN2.out]
            exact HO4.out
      · rw [hrev] at HC
        have HN1 := Lib.hid (near_rev (s := s) hrev)
        have HN2 := Lib.hid (show (nearS D s (k + 1)).1 = (nearS D s k).1 by rw [HN1.out])
        have HL1 := Lib.hid (show leastI D s (k + 1) = leastI D s k by unfold leastI; rw [HN1.out])
        clear hrev HN1
        generalize (nearS D s k).1 = ls at *
        generalize leastI D s k = lk at *
        go_wp2_with ((with_reducible refine HC.out.mono ?_); rintro e w3 ⟨rfl, rfl⟩)
        refine ⟨⟨k + 1, ad, c7, by omega, by go_num, by rw [HN2.out], by rw [HL1.out], ?_, hx⟩, by simp [intOf]; omega⟩
        rw [HN2.out]
        exact HO.out
    · obtain rfl : k = im := by omega
      by_cases hz : (nearS D s k).2 < 0
      · have hB := Lib.hid (show nearB D s = false by rw [HAsk.out]; simpa using hz)
        have HR := Lib.hid (near_no hB.out)
        have HLn := Lib.hid (show (nearS D s k).1.length = 0 by rw [(near_nil D s k).2 hz]; rfl)
        clear hz
        rw [HLn.out]
        go_wp2
        go_ret3
        exact RetNear.no HR.out.1 HR.out.2 hB.out hxq
      · have hB := Lib.hid (show nearB D s = true by rw [HAsk.out]; simpa using hz)
        have hne : (nearS D s k).1 ≠ [] := fun h => hz ((near_nil D s k).1 h)
        have HLs := Lib.hid (show leastI D s k = nearN D s by unfold leastI nearN; rw [if_neg hz, hB.out, HL.out]; rfl)
        have HSt := Lib.hid (show sortS (nearS D s k).1 = nearL D s by unfold nearL; rw [hB.out, HL.out, sort_put HNd.out]; rfl)
        have hpos : 0 < (nearS D s k).1.length := List.length_pos_iff.2 hne
        have hln : (nearS D s k).1.length ≤ 1048576 := by
          have h1 := (near_sub D s k (by rw [HL.out]; exact Nat.le_refl _)).length_le
          rw [List.length_take] at h1; omega
        have HLl := Lib.hid (show (nearS D s k).1.length = (nearL D s).length by rw [← HSt.out, sortS_len])
        obtain ⟨g, rfl⟩ := HO.out.some hpos
        have HSo := Lib.hid (sort_strs g _ c7 wb.heap.size _ wr HO.out hln)
        rw [HSt.out] at HSo
        rw [HLs.out]
        clear hz hne HLs HSt
        have hne0 : ((nearS D s k).1.length : Int) ≠ 0 := by omega
        generalize (nearS D s k).1.length = nl at *
        go_wp2_with ((with_reducible refine HSo.out.mono ?_); rintro e w9 ⟨rfl, ho9, hg9⟩)
        go_ret3
        have hnl := HLl.out
        rw [hB.out]
        refine ⟨some ⟨g, 0, none⟩, c7, by rw [hnl]; rfl, ?_, ?_⟩
        · rw [← hnl]; exact ho9.mono hxb.le
        · exact hxq.grown hg9 fun k hk => by have := (HO.out.blk _ rfl).1; cases hk; exact Nat.le_trans hxb.le this
set_option maxHeartbeats 400000 in
theorem spec_l06Word (s : ByteArray) (w : World) (hs : s.size ≤ 1048576) :
    Calls Tryz.prog 71 #[.string s, .int .i64 20] w (Ret (.bool (wordB s.data.toList 36 20)) w) := by
  have HW := Lib.hid (fun W => spec_word s 36 W (by omega) (by omega) (by omega))
  by_cases h20 : s.size ≤ 20
  · have hd : decide ((s.size : Int) ≤ 20) = true := decide_eq_true (by omega)
    by_cases h0 : s.size = 0
    · have hse : s = .empty := by
        have : s.data.size = 0 := h0
        exact ByteArray.ext (Array.eq_empty_of_size_eq_zero this)
      subst hse
      have HV := Lib.hid (show wordB (ByteArray.empty).data.toList 36 20 = true by decide)
      go_enter Tryz.func71, Tryz.ntmps71
      go_wp2_with ((with_reducible refine (HW.out _).mono ?_); rintro e w1 ⟨rfl, rfl⟩)
      go_ret
      exact ⟨rb HV.out.symm, Ext.refl _⟩
    · have hnil : ¬ s.toList = [] := fun h => by
        rw [ByteArray.toList_eq] at h
        have h1 := ba_len s
        rw [h] at h1
        exact h0 h1.symm
      have HE := Lib.hid (show s.toList.isEmpty = false by cases h : s.toList with
        | nil => exact absurd h hnil
        | cons x l => rfl)
      go_enter Tryz.func71, Tryz.ntmps71
      go_wp2_with ((with_reducible refine (HW.out _).mono ?_); rintro e w1 ⟨rfl, rfl⟩)
      go_ret
      exact ⟨rb (show (s.toList.isEmpty || wordB s.data.toList 36 20) = wordB s.data.toList 36 20 by rw [HE.out]; rfl), Ext.refl _⟩
  · have HV := Lib.hid (show wordB s.data.toList 36 20 = false by
      rw [Bool.eq_false_iff]; intro h; exact h20 (wordB_size h))
    go_enter Tryz.func71, Tryz.ntmps71
    go_wp2_with ((with_reducible refine (HW.out _).mono ?_); rintro e w1 ⟨rfl, rfl⟩)
    go_ret
    exact ⟨rb HV.out.symm, Ext.refl _⟩
set_option maxHeartbeats 1000000 in
theorem spec_l10Ask (D : Rg) (q : Nat) (a : Option Addr) (n c : Nat) (b : Option Addr) (m d : Nat) (ia : Option Addr) (im ic : Nat) (ra : Option Addr) (rm rc : Nat) (s : ByteArray) (w : World) (hv : RgAt w q D a n c b m d ia im ic ra rm rc) (hin : RgIn w D a n c b m d ia im ic ra rm rc) (hs : s.size ≤ 1048576) :
    Calls Tryz.prog 40 #[.pointer (some ⟨q, 0, none⟩), .string s] w (Ret (.bool (askB D s)) w) := by
  have HI := Lib.hid (spec_l10Is D q a n c b m d ia im ic ra rm rc w hv hin)
  have HW := Lib.hid (fun W => spec_l06Word s W hs)
  have HA := Lib.hid (show askB D s = (validRg D && wordB s.data.toList 36 20) from rfl)
  clear hv hin
  cases hval : validRg D
  · rw [hval] at HI HA
    go_enter Tryz.func40, Tryz.ntmps40
    go_wp2_with (first | ((with_reducible refine HI.out.mono ?_); rintro e w1 ⟨rfl, hx1⟩) | ((with_reducible refine (HW.out _).mono ?_); rintro e w2 ⟨rfl, hx2⟩))
    go_ret
    exact ⟨rb HA.out.symm, hx1⟩
  · rw [hval] at HI HA
    go_enter Tryz.func40, Tryz.ntmps40
    go_wp2_with (first | ((with_reducible refine HI.out.mono ?_); rintro e w1 ⟨rfl, hx1⟩) | ((with_reducible refine (HW.out _).mono ?_); rintro e w2 ⟨rfl, hx2⟩))
    go_ret
    exact ⟨rb HA.out.symm, hx1.trans hx2⟩
theorem strs_nil (w : World) (a : Option Addr) (c : Nat) : Strs w a 0 c [] := ⟨rfl, Nat.zero_le _, fun h => by omega⟩
/-- a list and a number -/
def RetNS (l : List ByteArray) (n : Int) (w : World) (e : Ending) (w' : World) : Prop :=
  ∃ a c, e = .returned (.tuple #[.slice a l.length c, .int .i64 n]) ∧ Strs w' a l.length c l ∧ Ext w w'
set_option maxHeartbeats 8000000 in
theorem spec_l10Nearest (D : Rg) (q : Nat) (a : Option Addr) (n c : Nat) (b : Option Addr) (m d : Nat) (ia : Option Addr) (im ic : Nat) (ra : Option Addr) (rm rc : Nat) (s : ByteArray) (wb : World) (hv : RgAt wb q D a n c b m d ia im ic ra rm rc) (hin : RgIn wb D a n c b m d ia im ic ra rm rc) (hok : OkRg D) (hs20 : s.size ≤ 20) :
    Calls Tryz.prog 41 #[.pointer (some ⟨q, 0, none⟩), .string s] wb (RetNS (putAll (nearS D s im).1) (nearS D s im).2 wb) := by
  have HB := Lib.hid hv
  have him := hin.hi
  have hrm := hin.hr
  have HL := Lib.hid hin.is.len
  obtain ⟨bi, oi, hix, hcell⟩ := hin.is.ix (P := Tryz.prog) 26 9 und_strs cell_str
  have HBd := Lib.hid (fun k (hk : k ≤ im) => near_bd D s k (by rw [HL.out]; exact hk) hok.s20 hs20)
  have HSz := Lib.hid (fun k (hk : k ≤ im) => show (putAll (nearS D s k).1).length ≤ 1048576 by
    have h1 := (near_sub D s k (by rw [HL.out]; exact hk)).length_le
    have h2 := putAll_len (nearS D s k).1
    rw [List.length_take] at h1; omega)
  have HP := Lib.hid (fun W k a7 n7 c7 (l7 : List ByteArray) (h : Strs W a7 n7 c7 l7) hn => spec_putTs a7 n7 c7 l7 (gs D.issued k) W h hn)
  obtain ⟨_, k6, k7, k8, _, _⟩ := hv
  clear hin
  have Hhok := Lib.hid hok; clear hok
  have hxbb : Ext wb wb := Ext.refl wb
  go_enter Tryz.func41, Tryz.ntmps41
  go_wp2
  go_loopw [6, 7, 8, 9] (fun v6 v7 i _ wr => ∃ (k : Nat) (ad : Option Addr) (c7 : Nat), k ≤ im ∧ i = .int .i64 k ∧ v7 = .slice ad (putAll (nearS D s k).1).length c7 ∧ v6 = .int .i64 (nearS D s k).2 ∧ Strs wr ad (putAll (nearS D s k).1).length c7 (putAll (nearS D s k).1) ∧ Ext wb wr) (fun _ _ i _ _ => im - (intOf i).toNat)
  case atStart => exact ⟨0, _, _, Nat.zero_le _, rfl, rfl, rfl, ⟨rfl, Nat.le_refl _, fun h => by simp [putAll, nearS] at h⟩, (Ext.refl wb).alloc _⟩
  case round =>
    obtain ⟨k, ad, c7, hk, rfl, rfl, rfl, ho, hx⟩ := hrel
    have hxr : Ext wb wr := hx
    have HO := Lib.hid ho
    clear ho
    by_cases hlt : k < im
    · have HC := Lib.hid (spec_has ra rm rc D.revoked (k : Int) wr (HB.out.rs.ext hx) (by omega))
      rw [show (D.revoked.any fun y => y == (k : Int)) = revHas D k from rfl] at HC
      have hbd := HBd.out k hk
      have hsz := HSz.out k hk
      cases hrev : revHas D k
      · rw [hrev] at HC
        have hsk := Hhok.out.s20 k (by rw [HL.out]; exact hlt)
        have hfar : 0 ≤ farK D s k ∧ farK D s k ≤ 20 := by
          have h3 := dist_max (gs D.issued k) s
          unfold farK; omega
        have HD := Lib.hid (fun W => spec_l10Far (gs D.issued k) s W (by omega) (by omega))
        rw [show ((distS (gs D.issued k) s : Nat) : Int) = farK D s k from rfl] at HD
        have HOne := Lib.hid (show putS [] (gs D.issued k) = putAll [gs D.issued k] from rfl)
        by_cases hneg : (nearS D s k).2 < 0
        · have HN1 := Lib.hid (near_new (s := s) hrev (.inl hneg))
          have hd0 : decide ((nearS D s k).2 < 0) = true := by simpa using hneg
          generalize farK D s k = fk at *
          generalize (nearS D s k).2 = lk at *
          clear hrev hneg
          generalize putAll (nearS D s k).1 = us at *
          go_wp2_with (first | ((with_reducible refine HC.out.mono ?_); rintro e w3 ⟨rfl, rfl⟩) | ((with_reducible refine (HD.out _).mono ?_); rintro e w4 ⟨rfl, hx4⟩; have HO4 := Lib.hid (Strs.ext HO.out hx4); have hx4' : Ext wb w4 := hx.trans hx4) | ((with_reducible refine (HP.out _ k _ 0 0 [] (strs_nil _ _ _) (by simp)).mono ?_); rintro e w5 ⟨a5, c5, rfl, hs5, hx5⟩))
          refine ⟨⟨k + 1, a5, c5, by omega, by go_num, by rw [HN1.out]; rfl, by rw [HN1.out], ?_, (by repeat (first | (with_reducible exact Ext.refl _) | (with_reducible assumption) | (with_reducible refine Ext.drewN ?_ _) | (with_reducible refine Ext.drew ?_) | (with_reducible refine Ext.alloc ?_ _) | ((with_reducible refine Ext.setCell ?_ ?_ _); rotate_left; focus (first | (simp; done) | (simp; omega) | omega)) | (with_reducible refine Ext.trans ?_ (by with_reducible assumption))))⟩, by simp [intOf]; omega⟩
          rw [HN1.out]
          exact hs5
        · have hd0 : decide ((nearS D s k).2 < 0) = false := by simpa using hneg
          by_cases hl : farK D s k < (nearS D s k).2
          · have HN1 := Lib.hid (near_new (s := s) hrev (.inr hl))
            have hd1 : decide (farK D s k < (nearS D s k).2) = true := by simpa using hl
            generalize farK D s k = fk at *
            generalize (nearS D s k).2 = lk at *
            clear hrev hneg
            generalize putAll (nearS D s k).1 = us at *
            go_wp2_with (first | ((with_reducible refine HC.out.mono ?_); rintro e w3 ⟨rfl, rfl⟩) | ((with_reducible refine (HD.out _).mono ?_); rintro e w4 ⟨rfl, hx4⟩; have HO4 := Lib.hid (Strs.ext HO.out hx4); have hx4' : Ext wb w4 := hx.trans hx4) | ((with_reducible refine (HP.out _ k _ 0 0 [] (strs_nil _ _ _) (by simp)).mono ?_); rintro e w5 ⟨a5, c5, rfl, hs5, hx5⟩))
            refine ⟨⟨k + 1, a5, c5, by omega, by go_num, by rw [HN1.out]; rfl, by rw [HN1.out], ?_, (by repeat (first | (with_reducible exact Ext.refl _) | (with_reducible assumption) | (with_reducible refine Ext.drewN ?_ _) | (with_reducible refine Ext.drew ?_) | (with_reducible refine Ext.alloc ?_ _) | ((with_reducible refine Ext.setCell ?_ ?_ _); rotate_left; focus (first | (simp; done) | (simp; omega) | omega)) | (with_reducible refine Ext.trans ?_ (by with_reducible assumption))))⟩, by simp [intOf]; omega⟩
            rw [HN1.out]
            exact hs5
          · have hd1 : decide (farK D s k < (nearS D s k).2) = false := by simpa using hl
            by_cases he : farK D s k = (nearS D s k).2
            · have HN0 := near_more (s := s) hrev hneg he
              have HN1 := Lib.hid (show putAll (nearS D s (k + 1)).1 = putS (putAll (nearS D s k).1) (gs D.issued k) by rw [HN0, putAll_snoc])
              have HN2 := Lib.hid (show (nearS D s (k + 1)).2 = (nearS D s k).2 by rw [HN0]; exact he)
              have hd2 : decide (farK D s k = (nearS D s k).2) = true := by simpa using he
              have hd3 : (farK D s k == (nearS D s k).2) = true := by simpa using he
              clear hrev hneg he HN0
              generalize putAll (nearS D s k).1 = us at *
              generalize farK D s k = fk at *
              generalize (nearS D s k).2 = lk at *
              go_wp2_with (first | ((with_reducible refine HC.out.mono ?_); rintro e w3 ⟨rfl, rfl⟩) | ((with_reducible refine (HD.out _).mono ?_); rintro e w4 ⟨rfl, hx4⟩; have HO4 := Lib.hid (Strs.ext HO.out hx4); have hx4' : Ext wb w4 := hx.trans hx4) | ((with_reducible refine (HP.out _ k ad us.length c7 us HO4.out (by omega)).mono ?_); rintro e w5 ⟨a5, c5, rfl, hs5, hx5⟩))
              refine ⟨⟨k + 1, a5, c5, by omega, by go_num, by rw [HN1.out], by rw [HN2.out], ?_, (by repeat (first | (with_reducible exact Ext.refl _) | (with_reducible assumption) | (with_reducible refine Ext.drewN ?_ _) | (with_reducible refine Ext.drew ?_) | (with_reducible refine Ext.alloc ?_ _) | ((with_reducible refine Ext.setCell ?_ ?_ _); rotate_left; focus (first | (simp; done) | (simp; omega) | omega)) | (with_reducible refine Ext.trans ?_ (by with_reducible assumption))))⟩, by simp [intOf]; omega⟩
              rw [HN1.out]
              exact hs5
            · have HN0 := near_not (s := s) hrev hneg (by omega)
              have HN1 := Lib.hid (show putAll (nearS D s (k + 1)).1 = putAll (nearS D s k).1 by rw [HN0])
              have HN2 := Lib.hid (show (nearS D s (k + 1)).2 = (nearS D s k).2 by rw [HN0])
              have hd2 : decide (farK D s k = (nearS D s k).2) = false := by simpa using he
              have hd3 : (farK D s k == (nearS D s k).2) = false := by simpa using he
              clear hrev hneg he HN0
              generalize putAll (nearS D s k).1 = us at *
              generalize farK D s k = fk at *
              generalize (nearS D s k).2 = lk at *
              go_wp2_with (first | ((with_reducible refine HC.out.mono ?_); rintro e w3 ⟨rfl, rfl⟩) | ((with_reducible refine (HD.out _).mono ?_); rintro e w4 ⟨rfl, hx4⟩; have HO4 := Lib.hid (Strs.ext HO.out hx4); have hx4' : Ext wb w4 := hx.trans hx4))
              refine ⟨⟨k + 1, ad, c7, by omega, by go_num, by rw [HN1.out], by rw [HN2.out], ?_, (by repeat (first | (with_reducible exact Ext.refl _) | (with_reducible assumption) | (with_reducible refine Ext.drewN ?_ _) | (with_reducible refine Ext.drew ?_) | (with_reducible refine Ext.alloc ?_ _) | ((with_reducible refine Ext.setCell ?_ ?_ _); rotate_left; focus (first | (simp; done) | (simp; omega) | omega)) | (with_reducible refine Ext.trans ?_ (by with_reducible assumption))))⟩, by simp [intOf]; omega⟩
              rw [HN1.out]
              exact HO4.out
      · rw [hrev] at HC
        have HN0 := near_rev (s := s) hrev
        have HN1 := Lib.hid (show putAll (nearS D s (k + 1)).1 = putAll (nearS D s k).1 by rw [HN0])
        have HN2 := Lib.hid (show (nearS D s (k + 1)).2 = (nearS D s k).2 by rw [HN0])
        clear hrev HN0
        generalize putAll (nearS D s k).1 = us at *
        generalize (nearS D s k).2 = lk at *
        go_wp2_with ((with_reducible refine HC.out.mono ?_); rintro e w3 ⟨rfl, rfl⟩)
        refine ⟨⟨k + 1, ad, c7, by omega, by go_num, by rw [HN1.out], by rw [HN2.out], ?_, hx⟩, by simp [intOf]; omega⟩
        rw [HN1.out]
        exact HO.out
    · obtain rfl : k = im := by omega
      go_wp2
      go_ret2
      exact ⟨ad, c7, rfl, HO.out, hx⟩
end Go.Proofs.YtdekplfjnkbidaaGreat
