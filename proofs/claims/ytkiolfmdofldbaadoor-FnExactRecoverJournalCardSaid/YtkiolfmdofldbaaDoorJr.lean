/- Walks: journals, in the program and in the reference. -/
import Derived.Test.YtkiolfmdofldbaaDoorJrB
import Derived.Test.YtkiolfmdofldbaaDoorWr
namespace Go.Proofs.YtkiolfmdofldbaaDoor
set_option maxRecDepth 100000
open Go.RowKit Go.Sort

theorem jr_cells (a b : ByteArray) : Lib.byteCells (bl a) ++ Lib.strCells b = Lib.byteCells (bl (a ++ b)) := by
  rw [bl_app, Lib.byteCells_append]; rfl
theorem jr_cells_len (a : ByteArray) : (Lib.byteCells (bl a)).length = a.size := by simp [Lib.byteCells, bl]
theorem jr_len (l : List ByteArray) {k : Nat} (h1 : (jrK l k).size ≤ 4000) (h2 : (gs l k).size ≤ 4000) : (jrK l (k + 1)).size ≤ 8100 ∧ (lineS (ckK l (k + 1)) (gs l k)).size ≤ 4100 := by
  have h3 := decS_le (ckK l (k + 1)) (ckK_bd l (k + 1)).1 (by have := (ckK_bd l (k + 1)).2; omega)
  rw [jrK_step, lineS_size]; omega
/-- a text and whether it is there -/
def RetTB (t : ByteArray) (b : Bool) (w : World) (e : Ending) (w' : World) : Prop := e = .returned (.tuple #[.string t, .bool b]) ∧ Ext w w'
theorem RetTB.no {l : List ByteArray} {w w' : World} (h : jrOk l = false) (hx : Ext w w') : RetTB (jrT l) (jrOk l) w (.returned (.tuple #[.string ⟨#[]⟩, .bool false])) w' := by
  unfold jrT
  rw [h]; exact ⟨rfl, hx⟩
theorem RetTB.yes {l : List ByteArray} {w w' : World} (h : jrOk l = true) (hx : Ext w w') : RetTB (jrT l) (jrOk l) w (.returned (.tuple #[.string (jrK l l.length), .bool true])) w' := by
  unfold jrT
  rw [h]; exact ⟨rfl, hx⟩
set_option maxHeartbeats 4000000 in
theorem impl_JournalOf (a : Option Addr) (n c : Nat) (l : List ByteArray) (w : World) (hv : Strs w a n c l) (hn : n ≤ 1048576) (hs : ∀ x ∈ l, x.size ≤ 1048576) (ht : TabW w) :
    Calls Tryd.prog 9 #[.slice a n c] w (RetTB (jrT l) (jrOk l) w) := by
  have HL := Lib.hid hv.len
  have HS := Lib.hid (fun k (h : k < n) => hs _ (gs_mem (l := l) (k := k) (by rw [HL.out]; exact h)))
  have HT := Lib.hid ht
  obtain ⟨b, off, hix, hcell⟩ := hv.ix (P := Tryd.prog) 22 9 und_strs cell_str
  clear hv hs ht
  go_enter Tryd.func9, Tryd.ntmps9
  go_wp2_with fail
  have hb0 := Lib.hid (Lib.IsBuilderF.of (Lib.fresh_isBuilder 43 5 w))
  obtain ⟨wb, hwb⟩ : ∃ wb, wb = w.alloc (.cells #[.pointer none, .slice none 0 0] 43) := ⟨_, rfl⟩
  have hxb : Ext w wb := by rw [hwb]; exact (by repeat (first | (with_reducible exact Ext.refl _) | (with_reducible refine Ext.drewN ?_ _) | (with_reducible refine Ext.drew ?_) | (with_reducible refine Ext.alloc ?_ _) | ((with_reducible refine Ext.setCell ?_ ?_ _); rotate_left; focus (first | (simp; done) | (simp; omega) | omega)) | assumption | (with_reducible refine Ext.trans ?_ (by assumption))))
  rw [← hwb] at hb0 ⊢
  clear hwb
  obtain ⟨q, hq⟩ : ∃ q, q = w.heap.size := ⟨_, rfl⟩
  have hqw : q ≤ w.heap.size := by omega
  rw [← hq] at hb0 ⊢
  have HQ := Lib.hid hq
  clear hq
  go_loopw [5, 7, 11] (fun ck _ i wr => ∃ k : Nat, k ≤ n ∧ i = .int .i64 k ∧ ck = .int .i64 (ckK l k) ∧ Hid (noNl l k) ∧ (jrK l k).size ≤ 8100 ∧ Hid (Lib.IsBuilderF 43 5 q q (Lib.byteCells (bl (jrK l k))) wr) ∧ Ext w wr) (fun _ _ i _ => n - (intOf i).toNat)
  case atStart => exact ⟨0, Nat.zero_le _, rfl, rfl, fun j hj => by omega, by simp [jrK], hb0.out, hxb⟩
  case round =>
    obtain ⟨k, hk, rfl, rfl, HN, hsz, HB, hx⟩ := hrel
    have hrr : Ext wr wr := Ext.refl _
    have HLn := Lib.hid (show Calls Tryd.prog 21 #[.pointer (some ⟨q, 0, none⟩)] wr (Same (.int .i64 (jrK l k).size) wr) from (Tryd.Builder_Len_f q q _ wr HB.out).mono fun _ _ h => ⟨by rw [h.1, jr_cells_len], h.2.symm⟩)
    by_cases hlt : k < n
    · have HSk := HS.out k hlt
      have hkl : k < l.length := by rw [HL.out]; exact hlt
      by_cases h1 : 4000 < (gs l k).size
      · have HJ := Lib.hid (jrOk_line hkl h1)
        clear hkl
        go_wp2_with fail
        go_ret2
        exact RetTB.no HJ.out hx
      · have HC := Lib.hid (show ∀ W, Calls Tryd.prog 20 #[.string (gs l k), .string ⟨#[10]⟩] W (Same (.bool (hasB 10 (gs l k))) W) from fun W => (Tryd.strings_Contains_one (gs l k) 10 W).mono fun _ _ h => ⟨by rw [h.1, hasB_index], h.2.symm⟩)
        cases hb : hasB 10 (gs l k) with
        | true =>
          have HJ := Lib.hid (jrOk_nl hkl hb)
          rw [hb] at HC
          clear hkl hb
          go_wp2_with (refine (HC.out _).mono ?_; rintro e w1 ⟨rfl, rfl⟩)
          go_ret2
          exact RetTB.no HJ.out hx
        | false =>
          rw [hb] at HC
          have HN2 := Lib.hid (noNl_step HN.out hb)
          clear hb
          by_cases h2 : 4000 < (jrK l k).size
          · have HJ := Lib.hid (jrOk_long (Nat.le_of_lt hkl) h2)
            clear hkl
            go_wp2_with (first | (go_at_call 20; refine (HC.out _).mono ?_; rintro e w1 ⟨rfl, rfl⟩) | (go_at_call 21; refine HLn.out.mono ?_; rintro e w1 ⟨rfl, rfl⟩))
            go_ret2
            exact RetTB.no HJ.out hx
          · obtain ⟨h3, h4⟩ := jr_len l (by omega : (jrK l k).size ≤ 4000) (by omega : (gs l k).size ≤ 4000)
            have hck := ckK_bd l k
            have HCk := Lib.hid (impl_CheckOf (ckK l k) (gs l k) wr hck.1 hck.2 (by omega))
            have hck2 := ckK_bd l (k + 1)
            have HEq := Lib.hid (show ckS (ckK l k) (gs l k) = ckK l (k + 1) from rfl)
            rw [HEq.out] at HCk
            have HD := Lib.hid (impl_Decimal (ckK l (k + 1)) wr (by omega) (by omega) (HT.out.ext hx))
            have HW := Lib.hid (fun W (h : Ext wr W) => Tryd.Builder_Write q q _ (lineS (ckK l (k + 1)) (gs l k)) W (bld_ext HB.out h) (by rw [jr_cells_len]; omega) (Nat.le_trans hqw (hx.trans h).le))
            rw [jr_cells] at HW
            have HLi := Lib.hid (show lineS (ckK l (k + 1)) (gs l k) = decS (ckK l (k + 1)) ++ ⟨#[32]⟩ ++ gs l k ++ ⟨#[10]⟩ from rfl)
            have HJs := Lib.hid (show jrK l k ++ lineS (ckK l (k + 1)) (gs l k) = jrK l (k + 1) from rfl)
            rw [HJs.out] at HW
            generalize lineS (ckK l (k + 1)) (gs l k) = ln at *
            have hds := decS_le (ckK l (k + 1)) hck2.1 (by omega)
            generalize hg2 : ckK l (k + 1) = ck2 at *
            have HG2 := Lib.hid hg2
            generalize ckK l k = ck1 at *
            clear hg2
            clear hkl
            go_wp2_with (first | (go_at_call 20; refine (HC.out _).mono ?_; rintro e w1 ⟨rfl, rfl⟩) | (go_at_call 21; refine HLn.out.mono ?_; rintro e w1 ⟨rfl, rfl⟩) | (go_at_call 22; refine HCk.out.mono ?_; rintro e w1 ⟨rfl, rfl⟩) | (go_at_call 24; refine HD.out.mono ?_; rintro e w2 ⟨rfl, hx2⟩) | (rw [← HLi.out]; go_at_call 23; refine (HW.out _ hx2).mono ?_; rintro e w3 ⟨rfl, hb3, hB3⟩))
            exact ⟨⟨k + 1, by omega, by go_num, by rw [HG2.out], HN2.out, h3, .inr hb3, Ext.below (hx.trans hx2) (by rw [← HQ.out]; exact hB3)⟩, by simp [intOf]; omega⟩
    · obtain rfl : k = n := by omega
      by_cases h2 : 4000 < (jrK l k).size
      · have HJ := Lib.hid (jrOk_long (l := l) (k := k) (by rw [HL.out]; exact Nat.le_refl _) h2)
        go_wp2_with (go_at_call 21; refine HLn.out.mono ?_; rintro e w1 ⟨rfl, rfl⟩)
        go_ret2
        exact RetTB.no HJ.out hx
      · have HJ := Lib.hid (jrOk_yes (l := l) (by rw [HL.out]; exact HN.out) (by rw [HL.out]; omega))
        have HSt := Lib.hid (Tryd.Builder_String_any_f q q (bl (jrK l k)) wr HB.out (Nat.le_trans hqw hx.le))
        have HE := Lib.hid (show (⟨(bl (jrK l k)).toArray⟩ : ByteArray) = jrK l l.length by rw [HL.out]; exact mk_bl _)
        rw [HE.out] at HSt
        go_wp2_with (first | (go_at_call 21; refine HLn.out.mono ?_; rintro e w1 ⟨rfl, rfl⟩) | (go_at_call 25; refine HSt.out.mono ?_; rintro e w2 ⟨rfl, _, hb2⟩))
        go_ret2
        exact RetTB.yes HJ.out (Ext.below hx (by rw [← HQ.out]; exact hb2))
end Go.Proofs.YtkiolfmdofldbaaDoor
