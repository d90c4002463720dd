/- The library's contract on (*strings.Builder).WriteString, laid at this program. Conditions: none. -/
import Derived.Test.YtefkefmhfoedcaaDoorShelf
import Derived.Shelf.Strings.BuilderF
import Derived.Test.YtefkefmhfoedcaaDoorJrB
namespace Go.Proofs
open Go.Shelf Go.RowKit
def Tryd.layWr_ren : Go.Shelf.Ren := ⟨fun | 166 => 17 | 240 => 35 | 276 => 48 | n => n, fun | 70 => 41 | 72 => 43 | 37 => 22 | 5 => 5 | 75 => 49 | 80 => 53 | 164 => 85 | 20 => 20 | 0 => 0 | 3 => 3 | 4 => 4 | 9 => 9 | n => n, fun | n => n⟩
theorem Tryd.layWr : Go.Proofs.Lays.n166 Tryd.prog Tryd.layWr_ren := {
  mixed := by kernel_rfl
  f166 := Tryd.func17.trans (congrArg some (by kernel_rfl))
  f240 := Tryd.func35.trans (congrArg some (by kernel_rfl))
  f276 := Tryd.func48.trans (congrArg some (by kernel_rfl))
  t0 := Tryd.underlying0
  a0 := Tryd.isAgg0
  z0 := Tryd.sizeOf0
  v0 := Tryd.zeroValue0
  t3 := Tryd.underlying3
  a3 := Tryd.isAgg3
  z3 := Tryd.sizeOf3
  v3 := Tryd.zeroValue3
  t4 := Tryd.underlying4
  a4 := Tryd.isAgg4
  z4 := Tryd.sizeOf4
  v4 := Tryd.zeroValue4
  t9 := Tryd.underlying9
  a9 := Tryd.isAgg9
  z9 := Tryd.sizeOf9
  v9 := Tryd.zeroValue9
  t20 := Tryd.underlying20
  a20 := Tryd.isAgg20
  z20 := Tryd.sizeOf20
  v20 := Tryd.zeroValue20
  t37 := Tryd.underlying22
  a37 := Tryd.isAgg22
  z37 := Tryd.sizeOf22
  v37 := Tryd.zeroValue22
  t70 := Tryd.underlying41
  a70 := Tryd.isAgg41
  z70 := Tryd.sizeOf41
  v70 := Tryd.zeroValue41
  t72 := Tryd.underlying43
  a72 := Tryd.isAgg43
  z72 := Tryd.sizeOf43
  v72 := Tryd.zeroValue43
  t75 := Tryd.underlying49
  a75 := Tryd.isAgg49
  z75 := Tryd.sizeOf49
  v75 := Tryd.zeroValue49
  t164 := Tryd.underlying85
  a164 := Tryd.isAgg85
  z164 := Tryd.sizeOf85
  v164 := Tryd.zeroValue85 }
theorem Tryd.ExtraWr : Builder.Extra Tryd.prog Tryd.layWr_ren := {
  sizeBuilder := by kernel_rfl
  liesBuilder := by kernel_rfl
  t5 := Tryd.underlying5
  a5 := Tryd.isAgg5
  z5 := Tryd.sizeOf5
  v5 := Tryd.zeroValue5
  infoByte := by kernel_rfl
  cellsByte := by kernel_rfl
  sizeByte := by kernel_rfl
  neB5 := by decide }
theorem Tryd.Builder_Write (B b : Nat) (bs : List Value) (s : ByteArray) (w : World) (h : Lib.IsBuilderF 43 5 B b bs w) (hlen : bs.length + s.size ≤ 140737488355328) (hBw : B ≤ w.heap.size) :
    Calls Tryd.prog 17 #[.pointer (some ⟨b, 0, none⟩), .string s] w fun e w' => e = .returned (.tuple #[.int .i64 s.size, .nilIface]) ∧ (Lib.BuilderAtF 43 5 B b (.pointer (some ⟨b, 0, none⟩)) (bs ++ Lib.strCells s) w' ∧ Below B w w') := Any.Builder_WriteString_f Tryd.layWr Tryd.ExtraWr B b bs s w h hlen hBw
end Go.Proofs

/- Walks: journals, in the program and in the reference. -/
namespace Go.Proofs.YtefkefmhfoedcaaDoor
set_option maxRecDepth 100000
open Go.RowKit Go.Sort

theorem jr_cells (a b : ByteArray) : Lib.byteCells (bl a) ++ Lib.strCells b = Lib.byteCells (bl (a ++ b)) := by
  rw [bl_app, Lib.byteCells_append]; rfl
theorem jr_cells_len (a : ByteArray) : (Lib.byteCells (bl a)).length = a.size := by simp [Lib.byteCells, bl]
theorem jr_len (l : List ByteArray) {k : Nat} (h1 : (jrK l k).size ≤ 4000) (h2 : (gs l k).size ≤ 4000) : (jrK l (k + 1)).size ≤ 8100 ∧ (lineS (ckK l (k + 1)) (gs l k)).size ≤ 4100 := by
  have h3 := decS_le (ckK l (k + 1)) (ckK_bd l (k + 1)).1 (by have := (ckK_bd l (k + 1)).2; omega)
  rw [jrK_step, lineS_size]; omega
/-- a text and whether it is there -/
def RetTB (t : ByteArray) (b : Bool) (w : World) (e : Ending) (w' : World) : Prop := e = .returned (.tuple #[.string t, .bool b]) ∧ Ext w w'
theorem RetTB.no {l : List ByteArray} {w w' : World} (h : jrOk l = false) (hx : Ext w w') : RetTB (jrT l) (jrOk l) w (.returned (.tuple #[.string ⟨#[]⟩, .bool false])) w' := by
  unfold jrT
  rw [h]; exact ⟨rfl, hx⟩
theorem RetTB.yes {l : List ByteArray} {w w' : World} (h : jrOk l = true) (hx : Ext w w') : RetTB (jrT l) (jrOk l) w (.returned (.tuple #[.string (jrK l l.length), .bool true])) w' := by
  unfold jrT
  rw [h]; exact ⟨rfl, hx⟩
set_option maxHeartbeats 4000000 in
theorem impl_JournalOf (a : Option Addr) (n c : Nat) (l : List ByteArray) (w : World) (hv : Strs w a n c l) (hn : n ≤ 1048576) (hs : ∀ x ∈ l, x.size ≤ 1048576) (ht : TabW w) :
    Calls Tryd.prog 7 #[.slice a n c] w (RetTB (jrT l) (jrOk l) w) := by
  have HL := Lib.hid hv.len
  have HS := Lib.hid (fun k (h : k < n) => hs _ (gs_mem (l := l) (k := k) (by rw [HL.out]; exact h)))
  have HT := Lib.hid ht
  obtain ⟨b, off, hix, hcell⟩ := hv.ix (P := Tryd.prog) 24 9 und_strs cell_str
  clear hv hs ht
  go_enter Tryd.func7, Tryd.ntmps7
  go_wp2_with fail
  have hb0 := Lib.hid (Lib.IsBuilderF.of (Lib.fresh_isBuilder 43 5 w))
  obtain ⟨wb, hwb⟩ : ∃ wb, wb = w.alloc (.cells #[.pointer none, .slice none 0 0] 43) := ⟨_, rfl⟩
  have hxb : Ext w wb := by rw [hwb]; exact (by repeat (first | (with_reducible exact Ext.refl _) | (with_reducible refine Ext.drewN ?_ _) | (with_reducible refine Ext.drew ?_) | (with_reducible refine Ext.alloc ?_ _) | ((with_reducible refine Ext.setCell ?_ ?_ _); rotate_left; focus (first | (simp; done) | (simp; omega) | omega)) | assumption | (with_reducible refine Ext.trans ?_ (by assumption))))
  rw [← hwb] at hb0 ⊢
  clear hwb
  obtain ⟨q, hq⟩ : ∃ q, q = w.heap.size := ⟨_, rfl⟩
  have hqw : q ≤ w.heap.size := by omega
  rw [← hq] at hb0 ⊢
  have HQ := Lib.hid hq
  clear hq
  go_loopw [5, 7, 11] (fun ck _ i wr => ∃ k : Nat, k ≤ n ∧ i = .int .i64 k ∧ ck = .int .i64 (ckK l k) ∧ Hid (noNl l k) ∧ (jrK l k).size ≤ 8100 ∧ Hid (Lib.IsBuilderF 43 5 q q (Lib.byteCells (bl (jrK l k))) wr) ∧ Ext w wr) (fun _ _ i _ => n - (intOf i).toNat)
  case atStart => exact ⟨0, Nat.zero_le _, rfl, rfl, fun j hj => by omega, by simp [jrK], hb0.out, hxb⟩
  case round =>
    obtain ⟨k, hk, rfl, rfl, HN, hsz, HB, hx⟩ := hrel
    have hrr : Ext wr wr := Ext.refl _
    have HLn := Lib.hid (show Calls Tryd.prog 15 #[.pointer (some ⟨q, 0, none⟩)] wr (Same (.int .i64 (jrK l k).size) wr) from (Tryd.Builder_Len_f q q _ wr HB.out).mono fun _ _ h => ⟨by rw [h.1, jr_cells_len], h.2.symm⟩)
    by_cases hlt : k < n
    · have HSk := HS.out k hlt
      have hkl : k < l.length := by rw [HL.out]; exact hlt
      by_cases h1 : 4000 < (gs l k).size
      · have HJ := Lib.hid (jrOk_line hkl h1)
        clear hkl
        go_wp2_with fail
        go_ret2
        exact RetTB.no HJ.out hx
      · have HC := Lib.hid (show ∀ W, Calls Tryd.prog 14 #[.string (gs l k), .string ⟨#[10]⟩] W (Same (.bool (hasB 10 (gs l k))) W) from fun W => (Tryd.strings_Contains_one (gs l k) 10 W).mono fun _ _ h => ⟨by rw [h.1, hasB_index], h.2.symm⟩)
        cases hb : hasB 10 (gs l k) with
        | true =>
          have HJ := Lib.hid (jrOk_nl hkl hb)
          rw [hb] at HC
          clear hkl hb
          go_wp2_with (refine (HC.out _).mono ?_; rintro e w1 ⟨rfl, rfl⟩)
          go_ret2
          exact RetTB.no HJ.out hx
        | false =>
          rw [hb] at HC
          have HN2 := Lib.hid (noNl_step HN.out hb)
          clear hb
          by_cases h2 : 4000 < (jrK l k).size
          · have HJ := Lib.hid (jrOk_long (Nat.le_of_lt hkl) h2)
            clear hkl
            go_wp2_with (first | (go_at_call 14; refine (HC.out _).mono ?_; rintro e w1 ⟨rfl, rfl⟩) | (go_at_call 15; refine HLn.out.mono ?_; rintro e w1 ⟨rfl, rfl⟩))
            go_ret2
            exact RetTB.no HJ.out hx
          · obtain ⟨h3, h4⟩ := jr_len l (by omega : (jrK l k).size ≤ 4000) (by omega : (gs l k).size ≤ 4000)
            have hck := ckK_bd l k
            have HCk := Lib.hid (impl_CheckOf (ckK l k) (gs l k) wr hck.1 hck.2 (by omega))
            have hck2 := ckK_bd l (k + 1)
            have HEq := Lib.hid (show ckS (ckK l k) (gs l k) = ckK l (k + 1) from rfl)
            rw [HEq.out] at HCk
            have HD := Lib.hid (impl_Decimal (ckK l (k + 1)) wr (by omega) (by omega) (HT.out.ext hx))
            have HW := Lib.hid (fun W (h : Ext wr W) => Tryd.Builder_Write q q _ (lineS (ckK l (k + 1)) (gs l k)) W (bld_ext HB.out h) (by rw [jr_cells_len]; omega) (Nat.le_trans hqw (hx.trans h).le))
            rw [jr_cells] at HW
            have HLi := Lib.hid (show lineS (ckK l (k + 1)) (gs l k) = decS (ckK l (k + 1)) ++ ⟨#[32]⟩ ++ gs l k ++ ⟨#[10]⟩ from rfl)
            have HJs := Lib.hid (show jrK l k ++ lineS (ckK l (k + 1)) (gs l k) = jrK l (k + 1) from rfl)
            rw [HJs.out] at HW
            generalize lineS (ckK l (k + 1)) (gs l k) = ln at *
            have hds := decS_le (ckK l (k + 1)) hck2.1 (by omega)
            generalize hg2 : ckK l (k + 1) = ck2 at *
            have HG2 := Lib.hid hg2
            generalize ckK l k = ck1 at *
            clear hg2
            clear hkl
            go_wp2_with (first | (go_at_call 14; refine (HC.out _).mono ?_; rintro e w1 ⟨rfl, rfl⟩) | (go_at_call 15; refine HLn.out.mono ?_; rintro e w1 ⟨rfl, rfl⟩) | (go_at_call 16; refine HCk.out.mono ?_; rintro e w1 ⟨rfl, rfl⟩) | (go_at_call 18; refine HD.out.mono ?_; rintro e w2 ⟨rfl, hx2⟩) | (rw [← HLi.out]; go_at_call 17; refine (HW.out _ hx2).mono ?_; rintro e w3 ⟨rfl, hb3, hB3⟩))
            exact ⟨⟨k + 1, by omega, by go_num, by rw [HG2.out], HN2.out, h3, .inr hb3, Ext.below (hx.trans hx2) (by rw [← HQ.out]; exact hB3)⟩, by simp [intOf]; omega⟩
    · obtain rfl : k = n := by omega
      by_cases h2 : 4000 < (jrK l k).size
      · have HJ := Lib.hid (jrOk_long (l := l) (k := k) (by rw [HL.out]; exact Nat.le_refl _) h2)
        go_wp2_with (go_at_call 15; refine HLn.out.mono ?_; rintro e w1 ⟨rfl, rfl⟩)
        go_ret2
        exact RetTB.no HJ.out hx
      · have HJ := Lib.hid (jrOk_yes (l := l) (by rw [HL.out]; exact HN.out) (by rw [HL.out]; omega))
        have HSt := Lib.hid (Tryd.Builder_String_any_f q q (bl (jrK l k)) wr HB.out (Nat.le_trans hqw hx.le))
        have HE := Lib.hid (show (⟨(bl (jrK l k)).toArray⟩ : ByteArray) = jrK l l.length by rw [HL.out]; exact mk_bl _)
        rw [HE.out] at HSt
        go_wp2_with (first | (go_at_call 15; refine HLn.out.mono ?_; rintro e w1 ⟨rfl, rfl⟩) | (go_at_call 19; refine HSt.out.mono ?_; rintro e w2 ⟨rfl, _, hb2⟩))
        go_ret2
        exact RetTB.yes HJ.out (Ext.below hx (by rw [← HQ.out]; exact hb2))
end Go.Proofs.YtefkefmhfoedcaaDoor

/- Walks: journals, in the reference. -/
namespace Go.Proofs.YtefkefmhfoedcaaDoor
set_option maxRecDepth 100000
open Go.RowKit Go.Sort

theorem jrK_sum (l : List ByteArray) : ∀ k, (jrK l k).size ≤ sumK l k + 20 * k ∧ 3 * k ≤ sumK l k
  | 0 => by simp [jrK, sumK]
  | k + 1 => by
    have h1 := jrK_sum l k
    have h2 := decS_le (ckK l (k + 1)) (ckK_bd l (k + 1)).1 (by have := (ckK_bd l (k + 1)).2; omega)
    rw [jrK_step, sumK]; omega
end Go.Proofs.YtefkefmhfoedcaaDoor

/- Walks: texts cut at a mark; what is recovered of a journal, in the program and in the reference. -/
namespace Go.Proofs.YtefkefmhfoedcaaDoor
set_option maxRecDepth 100000
open Go.RowKit Go.Sort

def CutI (c : UInt8) (s : ByteArray) (i f : Nat) (ps : List (List UInt8)) : Prop :=
  (i ≤ s.size ∧ f ≤ i ∧ splitB c ((bl s).take i) = ps ++ [((bl s).take i).drop f]) ∨ (i = s.size + 1 ∧ ps = splitB c (bl s))
theorem take_bl (s : ByteArray) (i : Nat) (h : i < s.size) : (bl s).take (i + 1) = (bl s).take i ++ [s[i]] := by
  rw [List.take_add_one, List.getElem?_eq_getElem (by rw [bl_len]; exact h)]
  simp only [Option.toList_some]
  rw [bl_at s i h]
theorem CutI.start (c : UInt8) (s : ByteArray) : CutI c s 0 0 [] := .inl ⟨Nat.zero_le _, Nat.le_refl _, by simp [splitB]⟩
theorem CutI.mark {c : UInt8} {s : ByteArray} {i f : Nat} {ps : List (List UInt8)} (h : CutI c s i f ps) (hi : i < s.size) (he : s[i] = c) : CutI c s (i + 1) (i + 1) (ps ++ [((bl s).take i).drop f]) := by
  rcases h with ⟨_, h2, h3⟩ | ⟨h1, _⟩
  · refine .inl ⟨hi, Nat.le_refl _, ?_⟩
    rw [take_bl s i hi, splitB_snoc c _ _ _ _ h3, if_pos he]
    rw [show ((bl s).take i ++ [s[i]]).drop (i + 1) = [] from List.drop_eq_nil_of_le (by rw [List.length_append, List.length_take, bl_len]; simp; omega)]
  · omega
theorem CutI.on {c : UInt8} {s : ByteArray} {i f : Nat} {ps : List (List UInt8)} (h : CutI c s i f ps) (hi : i < s.size) (he : s[i] ≠ c) : CutI c s (i + 1) f ps := by
  rcases h with ⟨_, h2, h3⟩ | ⟨h1, _⟩
  · refine .inl ⟨hi, by omega, ?_⟩
    rw [take_bl s i hi, splitB_snoc c _ _ _ _ h3, if_neg he]
    rw [List.drop_append_of_le_length (by rw [List.length_take, bl_len]; omega)]
  · omega
theorem CutI.fin {c : UInt8} {s : ByteArray} {f : Nat} {ps : List (List UInt8)} (h : CutI c s s.size f ps) (g : Nat) : CutI c s (s.size + 1) g (ps ++ [((bl s).take s.size).drop f]) := by
  rcases h with ⟨_, _, h3⟩ | ⟨h1, _⟩
  · refine .inr ⟨rfl, ?_⟩
    rw [← h3, List.take_of_length_le (by rw [bl_len]; exact Nat.le_refl _)]
  · omega
theorem CutI.from_le {c : UInt8} {s : ByteArray} {i f : Nat} {ps : List (List UInt8)} (h : CutI c s i f ps) (hi : i ≤ s.size) : f ≤ i := by
  rcases h with ⟨_, h2, _⟩ | ⟨h1, _⟩
  · exact h2
  · omega
theorem CutI.len {c : UInt8} {s : ByteArray} {i f : Nat} {ps : List (List UInt8)} (h : CutI c s i f ps) : ps.length ≤ i := by
  rcases h with ⟨h1, _, h3⟩ | ⟨h1, h2⟩
  · have h4 := splitB_len c ((bl s).take i)
    rw [h3, List.length_append, List.length_take, bl_len] at h4
    simp at h4; omega
  · have h4 := splitB_len c (bl s)
    rw [← h2, bl_len] at h4; omega
theorem mk_ext (s : ByteArray) (f i : Nat) : mkB (((bl s).take i).drop f) = s.extract f i := by rw [← bl_extract, mk_bl]
theorem u8_ne {a b : UInt8} (h : a ≠ b) : ((a.toNat : Int) == (b.toNat : Int)) = false := by
  rw [beq_eq_false_iff_ne]; intro e; exact h (UInt8.toNat_inj.1 (by omega))
theorem lines_len (s : ByteArray) : (linesB s).length = (partsB 10 s).length - 1 := by unfold linesB; rw [List.length_take]; omega
theorem lines_gs (s : ByteArray) (i : Nat) (h : i < (partsB 10 s).length - 1) : gs (linesB s) i = gs (partsB 10 s) i := by
  simp only [gs, linesB, List.getD_eq_getElem?_getD, List.getElem?_take, h, if_true]
/-- lines, and what is left behind them -/
def RetLines (s : ByteArray) (m : Nat) (w : World) (e : Ending) (w' : World) : Prop :=
  ∃ a c z, e = .returned (.tuple #[.slice a m c, .string z]) ∧ Strs w' a m c (linesB s) ∧ Ext w w'
set_option maxHeartbeats 1000000 in
theorem cut_one (p : ByteArray) (w : World) (hs : p.size ≤ 1048576) : Calls Tryd.prog 21 #[.string p, .string ⟨#[32]⟩] w (Ret (.tuple #[.string (if 0 ≤ spI p then preOf p else p), .string (lineOf p), .bool (decide (0 ≤ spI p))]) w) := by
  have HI := Lib.hid (fun W => Tryd.stringslite_Index_one p 32 W)
  have HB := Lib.hid (sp_bd p)
  have HP := Lib.hid (show preOf p = p.extract 0 (spI p).toNat from rfl)
  have HL := Lib.hid (show 0 ≤ spI p → lineOf p = p.extract ((spI p).toNat + 1) p.size from fun h => if_pos h)
  have HL2 := Lib.hid (show ¬ 0 ≤ spI p → lineOf p = .empty from fun h => if_neg h)
  have HS := Lib.hid (show Lib.indexByte p.data.toList 32 = spI p from rfl)
  rw [HS.out] at HI
  have HIn : Hid (∀ W, Calls Tryd.prog 38 #[.string p, .string ⟨#[32]⟩] W (Ret (.tuple #[.string (if 0 ≤ spI p then preOf p else p), .string (lineOf p), .bool (decide (0 ≤ spI p))]) W)) := by
    refine Lib.hid fun W => ?_
    by_cases h : 0 ≤ spI p
    · obtain ⟨o, ho⟩ := Int.eq_ofNat_of_zero_le h
      have hb := HB.out h
      have hl := HL.out h
      have hp := HP.out
      rw [if_pos h, decide_eq_true h, hl, hp]
      rw [ho] at HI hb ⊢
      rw [Int.toNat_natCast] at hb ⊢
      clear h hl hp HB HP HL HL2 HS
      clear ho
      go_enter Tryd.func38, Tryd.ntmps38
      go_wp2_with (refine (HI.out _).mono ?_; rintro e w1 ⟨rfl, rfl⟩)
      (refine wp_region_up (by kernel_rfl) (by kernel_rfl) (by kernel_rfl) ?_; (repeat (first | (refine mix_q rfl ?_; go_big_quiet_step (fail); refine wpQuiet_nil ?_; show wpMix _ _ _ _ _ _ _) | (refine mix_s rfl ?_; go_wp2_with (fail); first | refine ⟨up_of (by repeat (first | (with_reducible exact Ext.refl _) | (with_reducible refine Ext.drewN ?_ _) | (with_reducible refine Ext.drew ?_) | (with_reducible refine Ext.alloc ?_ _) | ((with_reducible refine Ext.setCell ?_ ?_ _); rotate_left; focus (first | (simp; done) | (simp; omega) | omega)) | assumption | (with_reducible refine Ext.trans ?_ (by assumption)))), ?_⟩ | refine ⟨rfl, rfl, up_of (by repeat (first | (with_reducible exact Ext.refl _) | (with_reducible refine Ext.drewN ?_ _) | (with_reducible refine Ext.drew ?_) | (with_reducible refine Ext.alloc ?_ _) | ((with_reducible refine Ext.setCell ?_ ?_ _); rotate_left; focus (first | (simp; done) | (simp; omega) | omega)) | assumption | (with_reducible refine Ext.trans ?_ (by assumption)))), ?_⟩))); refine mix_nil ?_)
      go_wp2
      go_ret3
      exact ⟨rfl, (by repeat (first | (with_reducible exact Ext.refl _) | (with_reducible refine Ext.drewN ?_ _) | (with_reducible refine Ext.drew ?_) | (with_reducible refine Ext.alloc ?_ _) | ((with_reducible refine Ext.setCell ?_ ?_ _); rotate_left; focus (first | (simp; done) | (simp; omega) | omega)) | assumption | (with_reducible refine Ext.trans ?_ (by assumption))))⟩
    · have hl := HL2.out h
      rw [if_neg h, decide_eq_false h, hl]
      obtain ⟨v, hv⟩ : ∃ v, v = spI p := ⟨_, rfl⟩
      rw [← hv] at HI h
      clear hl HB HP HL HL2 HS hv
      go_enter Tryd.func38, Tryd.ntmps38
      go_wp2_with (refine (HI.out _).mono ?_; rintro e w1 ⟨rfl, rfl⟩)
      go_ret3
      exact ⟨rfl, (by repeat (first | (with_reducible exact Ext.refl _) | (with_reducible refine Ext.drewN ?_ _) | (with_reducible refine Ext.drew ?_) | (with_reducible refine Ext.alloc ?_ _) | ((with_reducible refine Ext.setCell ?_ ?_ _); rotate_left; focus (first | (simp; done) | (simp; omega) | omega)) | assumption | (with_reducible refine Ext.trans ?_ (by assumption))))⟩
  clear HI HB HP HL HL2 HS
  generalize (if 0 ≤ spI p then preOf p else p) = x1 at *
  generalize lineOf p = x2 at *
  generalize decide (0 ≤ spI p) = x3 at *
  go_enter Tryd.func21, Tryd.ntmps21
  go_wp2_with (refine (HIn.out _).mono ?_; rintro e w1 ⟨rfl, hx1⟩)
  go_ret3
  exact ⟨rfl, hx1⟩
/-- what is recovered: of its own (the program's) -/
def RetRcO (s : ByteArray) (w : World) (e : Ending) (w' : World) : Prop :=
  ∃ a c, e = .returned (.tuple #[.slice a (rcL s).length c, .int .i64 (rcN s), .bool (rcOk s)]) ∧ Own w' w.heap.size 9 a (rcL s).length c (St (rcL s)) ∧ Ext w w'
theorem RetRcO.no {s : ByteArray} {w w' : World} (h : 4000 < s.size) (hx : Ext w w') : RetRcO s w (.returned (.tuple #[.slice none 0 0, .int .i64 0, .bool false])) w' := by
  have h1 : rcOk s = false := by unfold rcOk; rw [decide_eq_false_iff_not]; omega
  have h2 : rcL s = [] := by unfold rcL; rw [h1]; rfl
  have h3 : rcN s = 0 := by unfold rcN; rw [h1]; rfl
  refine ⟨none, 0, ?_, ?_, hx⟩
  · rw [h1, h2, h3]; rfl
  · rw [h2]; exact Own.nil _ _ _
theorem RetRcO.yes {s : ByteArray} {i : Nat} {ad : Option Addr} {c : Nat} {w w' : World} (h : s.size ≤ 4000) (hi : i ≤ (partsB 10 s).length - 1) (h1 : ∀ j, j < i → recOk (partsB 10 s) j = true) (h2 : i = (partsB 10 s).length - 1 ∨ recOk (partsB 10 s) i = false)
    (ho : Own w' w.heap.size 9 ad i c (St (recLines (partsB 10 s) i))) (hx : Ext w w') : RetRcO s w (.returned (.tuple #[.slice ad i c, .int .i64 (offB (partsB 10 s) i : Nat), .bool true])) w' := by
  have h3 : rcOk s = true := by unfold rcOk; rw [decide_eq_true_eq]; exact h
  have h4 : rcK s = i := recN_at hi h1 h2
  have h5 : rcL s = recLines (partsB 10 s) i := by unfold rcL; rw [h3, h4]; rfl
  have h6 : rcN s = (offB (partsB 10 s) i : Nat) := by unfold rcN; rw [h3, h4]; rfl
  refine ⟨ad, c, ?_, ?_, hx⟩
  · rw [h3, h5, h6, recLines_len]
  · rw [h5, recLines_len]; exact ho
theorem rec_no {ps : List ByteArray} {i : Nat} (h : ¬ 0 ≤ spI (gs ps i)) : recOk ps i = false := by unfold recOk; rw [decide_eq_false h]; rfl
theorem rec_no2 {ps : List ByteArray} {i : Nat} (h : preOf (gs ps i) ≠ decS (ckJ ps (i + 1))) : recOk ps i = false := by unfold recOk; rw [decide_eq_false h, Bool.and_false]
theorem rec_yes {ps : List ByteArray} {i : Nat} (h1 : 0 ≤ spI (gs ps i)) (h2 : preOf (gs ps i) = decS (ckJ ps (i + 1))) : recOk ps i = true := by unfold recOk; rw [decide_eq_true h1, decide_eq_true h2]; rfl
theorem all_step' {p : Nat → Bool} {i : Nat} (h : ∀ j, j < i → p j = true) (h2 : p i = true) : ∀ j, j < i + 1 → p j = true := fun j hj => by
  by_cases e : j < i
  · exact h j e
  · obtain rfl : j = i := by omega
    exact h2
theorem bs_ne {a b : ByteArray} (h : a ≠ b) : (a.toList == b.toList) = false := by
  rw [Bool.eq_false_iff]; intro e; exact h (bs_iff.1 e)
theorem lineOf_le (p : ByteArray) : (lineOf p).size ≤ p.size := by
  unfold lineOf
  split
  · rw [ByteArray.size_extract]; omega
  · simp
set_option maxHeartbeats 4000000 in
theorem impl_RecoverJournal (s : ByteArray) (w : World) (hs : s.size ≤ 1048576) (ht : TabW w) : Calls Tryd.prog 9 #[.string s] w (RetRcO s w) := by
  have HT := Lib.hid ht
  clear ht
  by_cases hlen : 4000 < s.size
  · go_enter Tryd.func9, Tryd.ntmps9
    go_wp2_with fail
    go_ret3
    exact RetRcO.no hlen (Ext.refl _)
  obtain ⟨m, hm⟩ : ∃ m, (partsB 10 s).length = m + 1 := ⟨(partsB 10 s).length - 1, by have := (partsB_len 10 s).1; omega⟩
  have HM := Lib.hid hm
  have hms : m ≤ s.size := by have := (partsB_len 10 s).2; omega
  have HYes := Lib.hid (fun i ad c w' => RetRcO.yes (s := s) (i := i) (ad := ad) (c := c) (w := w) (w' := w') (by omega))
  rw [hm, Nat.add_sub_cancel] at HYes
  have HOff := Lib.hid (fun i (h : i < m + 1) => off_bd 10 s i (by omega))
  have HPb := Lib.hid (fun i (h : i < m) => jpart_bd 10 s i (by omega))
  have HIx := Lib.hid (fun i (h : i < m) => part_index 10 s i (by omega))
  have HIn := Lib.hid (part_none 10 s m (by omega))
  have HPi := Lib.hid (fun i (h : i < m) => part_is 10 s i (by omega))
  have HIB := Lib.hid (fun x W => Tryd.strings_IndexByte x 10 W)
  obtain ⟨PS, hPS⟩ : ∃ PS, PS = partsB 10 s := ⟨_, rfl⟩
  rw [← hPS] at HYes HOff HPb HIx HIn HPi
  clear hm hPS
  go_enter Tryd.func9, Tryd.ntmps9
  go_wp2_with fail
  go_loopw [5, 6, 7, 8, 9, 10, 11, 12, 13] (fun o at' ck _ _ _ _ _ _ wr => ∃ (i : Nat) (ad : Option Addr) (c : Nat), i ≤ m ∧ o = .slice ad i c ∧ at' = .int .i64 (offB PS i : Nat) ∧ ck = .int .i64 (ckJ PS i) ∧ Hid (∀ j, j < i → recOk PS j = true) ∧ Hid (Own wr w.heap.size 9 ad i c (St (recLines PS i))) ∧ Ext w wr) (fun o _ _ _ _ _ _ _ _ _ => m - lenOf o)
  case atStart => exact ⟨0, _, _, Nat.zero_le _, rfl, rfl, rfl, fun j hj => by omega, Own.lit0 w _, (by repeat (first | (with_reducible exact Ext.refl _) | (with_reducible refine Ext.drewN ?_ _) | (with_reducible refine Ext.drew ?_) | (with_reducible refine Ext.alloc ?_ _) | ((with_reducible refine Ext.setCell ?_ ?_ _); rotate_left; focus (first | (simp; done) | (simp; omega) | omega)) | assumption | (with_reducible refine Ext.trans ?_ (by assumption))))⟩
  case round =>
    obtain ⟨i, ad, c, hi, rfl, rfl, rfl, HR, HO, hx⟩ := hrel
    have hrr : Ext wr wr := Ext.refl _
    have hof := HOff.out i (by omega)
    by_cases hlt : i < m
    · have hpb := HPb.out i hlt
      have HI1 := Lib.hid (show ∀ W, Calls Tryd.prog 20 #[.string (s.extract (offB PS i) s.size), .int .u8 10] W (Same (.int .i64 (gs PS i).size) W) from fun W => (HIB.out _ W).mono fun _ _ h => ⟨by rw [h.1]; exact ri (HIx.out i hlt), h.2.symm⟩)
      have HPt := Lib.hid (HPi.out i hlt)
      have HOs := Lib.hid (show offB PS (i + 1) = offB PS i + ((gs PS i).size + 1) from rfl)
      have hck := ckJ_bd PS i
      have hck2 := ckJ_bd PS (i + 1)
      have hle := lineOf_le (gs PS i)
      have HCk := Lib.hid (fun W => impl_CheckOf (ckJ PS i) (lineOf (gs PS i)) W hck.1 hck.2 (by omega))
      have HEq := Lib.hid (show ckS (ckJ PS i) (lineOf (gs PS i)) = ckJ PS (i + 1) from rfl)
      rw [HEq.out] at HCk
      have HCt := Lib.hid (fun W => cut_one (gs PS i) W (by omega))
      have HNo1 := Lib.hid (rec_no (ps := PS) (i := i))
      have HNo2 := Lib.hid (rec_no2 (ps := PS) (i := i))
      have HYs := Lib.hid (rec_yes (ps := PS) (i := i))
      have HLs := Lib.hid (recLines_step PS i)
      have HSp := Lib.hid (sp_eq (gs PS i) (decS (ckJ PS (i + 1))))
      have HD := Lib.hid (fun W (h : Ext w W) => impl_Decimal (ckJ PS (i + 1)) W (by omega) (by omega) (HT.out.ext h))
      have hds := decS_le (ckJ PS (i + 1)) hck2.1 (by omega)
      obtain ⟨o, ho⟩ : ∃ o, o = offB PS i := ⟨_, rfl⟩
      rw [← ho] at HI1 HPt HOs hpb hof ⊢
      have HOo := Lib.hid ho
      obtain ⟨p, hp⟩ : ∃ p, p = gs PS i := ⟨_, rfl⟩
      rw [← hp] at HI1 HPt HOs hpb HCk HCt HNo1 HNo2 HYs HLs HSp hle
      generalize hg2 : ckJ PS (i + 1) = ck2 at *
      have HG2 := Lib.hid hg2
      generalize ckJ PS i = ck1 at *
      clear hg2 hp ho HEq
      by_cases hsp : 0 ≤ spI p
      · rw [if_pos hsp, decide_eq_true hsp] at HCt
        have HSp2 := HSp.out hsp
        by_cases hpre : preOf p = decS ck2
        · have HR2 := Lib.hid (all_step' HR.out (HYs.out hsp hpre))
          have heq : ((decS ck2 ++ ⟨#[32]⟩ ++ lineOf p).toList == p.toList) = true := bs_iff.2 (HSp2.2 hpre)
          clear HSp HSp2 hpre hsp HNo1 HNo2 HYs
          generalize preOf p = pp at *
          generalize lineOf p = ln at *
          go_wp2_with (first | (go_at_call 20; refine (HI1.out _).mono ?_; rintro e w1 ⟨rfl, rfl⟩) | (rw [HPt.out]; go_at_call 21; refine (HCt.out _).mono ?_; rintro e w1 ⟨rfl, hx1⟩) | (go_at_call 16; refine (HCk.out _).mono ?_; rintro e w2 ⟨rfl, rfl⟩))
          have hxw1 : Ext w w1 := hx.trans (Ext.trans (by repeat (first | (with_reducible exact Ext.refl _) | (with_reducible refine Ext.drewN ?_ _) | (with_reducible refine Ext.drew ?_) | (with_reducible refine Ext.alloc ?_ _) | ((with_reducible refine Ext.setCell ?_ ?_ _); rotate_left; focus (first | (simp; done) | (simp; omega) | omega)) | assumption | (with_reducible refine Ext.trans ?_ (by assumption)))) hx1)
          (refine wp_region_up (by kernel_rfl) (by kernel_rfl) (by kernel_rfl) ?_; (repeat (first | (refine mix_q rfl ?_; go_big_quiet_step (fail); refine wpQuiet_nil ?_; show wpMix _ _ _ _ _ _ _) | (refine mix_s rfl ?_; go_wp2_with ((go_at_call 18; refine (HD.out _ (hxw1.trans (by repeat (first | (with_reducible exact Ext.refl _) | (with_reducible refine Ext.drewN ?_ _) | (with_reducible refine Ext.drew ?_) | (with_reducible refine Ext.alloc ?_ _) | ((with_reducible refine Ext.setCell ?_ ?_ _); rotate_left; focus (first | (simp; done) | (simp; omega) | omega)) | assumption | (with_reducible refine Ext.trans ?_ (by assumption)))))).mono ?_; rintro e w2 ⟨rfl, hx2⟩)); first | refine ⟨up_of (by repeat (first | (with_reducible exact Ext.refl _) | (with_reducible refine Ext.drewN ?_ _) | (with_reducible refine Ext.drew ?_) | (with_reducible refine Ext.alloc ?_ _) | ((with_reducible refine Ext.setCell ?_ ?_ _); rotate_left; focus (first | (simp; done) | (simp; omega) | omega)) | assumption | (with_reducible refine Ext.trans ?_ (by assumption)))), ?_⟩ | refine ⟨rfl, rfl, up_of (by repeat (first | (with_reducible exact Ext.refl _) | (with_reducible refine Ext.drewN ?_ _) | (with_reducible refine Ext.drew ?_) | (with_reducible refine Ext.alloc ?_ _) | ((with_reducible refine Ext.setCell ?_ ?_ _); rotate_left; focus (first | (simp; done) | (simp; omega) | omega)) | assumption | (with_reducible refine Ext.trans ?_ (by assumption)))), ?_⟩))); refine mix_nil ?_)
          rw [HPt.out, heq]
          go_wp2_with (at_builtin; refine law_append1 _ rfl _ _ 24 rfl 9 (.string .empty) 16 und_strs info_str rfl w.heap.size ad i c (St (recLines PS i)) _ rfl rfl rfl (Own.ext HO.out (by repeat (first | (with_reducible exact Ext.refl _) | (with_reducible refine Ext.drewN ?_ _) | (with_reducible refine Ext.drew ?_) | (with_reducible refine Ext.alloc ?_ _) | ((with_reducible refine Ext.setCell ?_ ?_ _); rotate_left; focus (first | (simp; done) | (simp; omega) | omega)) | assumption | (with_reducible refine Ext.trans ?_ (by assumption))))) (Ext.le (hxw1.trans (by repeat (first | (with_reducible exact Ext.refl _) | (with_reducible refine Ext.drewN ?_ _) | (with_reducible refine Ext.drew ?_) | (with_reducible refine Ext.alloc ?_ _) | ((with_reducible refine Ext.setCell ?_ ?_ _); rotate_left; focus (first | (simp; done) | (simp; omega) | omega)) | assumption | (with_reducible refine Ext.trans ?_ (by assumption)))))) (by omega) (by omega) ?_; intro ad' c' w3 ho3 hb3 _; have hxw3 : Ext w w3 := Ext.below (hxw1.trans (by repeat (first | (with_reducible exact Ext.refl _) | (with_reducible refine Ext.drewN ?_ _) | (with_reducible refine Ext.drew ?_) | (with_reducible refine Ext.alloc ?_ _) | ((with_reducible refine Ext.setCell ?_ ?_ _); rotate_left; focus (first | (simp; done) | (simp; omega) | omega)) | assumption | (with_reducible refine Ext.trans ?_ (by assumption))))) hb3)
          exact ⟨⟨i + 1, ad', c', hlt, rfl, by rw [HOs.out]; go_num, by rw [HG2.out], HR2.out, by rw [Hid, HLs.out, St_append]; exact ho3, hxw3⟩, by simp [lenOf]; omega⟩
        · have HNo := Lib.hid (HNo2.out hpre)
          have heq : ((decS ck2 ++ ⟨#[32]⟩ ++ lineOf p).toList == p.toList) = false := bs_ne fun h => hpre (HSp2.1 h)
          clear HSp HSp2 hpre hsp HNo1 HNo2 HYs
          generalize preOf p = pp at *
          generalize lineOf p = ln at *
          go_wp2_with (first | (go_at_call 20; refine (HI1.out _).mono ?_; rintro e w1 ⟨rfl, rfl⟩) | (rw [HPt.out]; go_at_call 21; refine (HCt.out _).mono ?_; rintro e w1 ⟨rfl, hx1⟩) | (go_at_call 16; refine (HCk.out _).mono ?_; rintro e w2 ⟨rfl, rfl⟩))
          have hxw1 : Ext w w1 := hx.trans (Ext.trans (by repeat (first | (with_reducible exact Ext.refl _) | (with_reducible refine Ext.drewN ?_ _) | (with_reducible refine Ext.drew ?_) | (with_reducible refine Ext.alloc ?_ _) | ((with_reducible refine Ext.setCell ?_ ?_ _); rotate_left; focus (first | (simp; done) | (simp; omega) | omega)) | assumption | (with_reducible refine Ext.trans ?_ (by assumption)))) hx1)
          (refine wp_region_up (by kernel_rfl) (by kernel_rfl) (by kernel_rfl) ?_; (repeat (first | (refine mix_q rfl ?_; go_big_quiet_step (fail); refine wpQuiet_nil ?_; show wpMix _ _ _ _ _ _ _) | (refine mix_s rfl ?_; go_wp2_with ((go_at_call 18; refine (HD.out _ (hxw1.trans (by repeat (first | (with_reducible exact Ext.refl _) | (with_reducible refine Ext.drewN ?_ _) | (with_reducible refine Ext.drew ?_) | (with_reducible refine Ext.alloc ?_ _) | ((with_reducible refine Ext.setCell ?_ ?_ _); rotate_left; focus (first | (simp; done) | (simp; omega) | omega)) | assumption | (with_reducible refine Ext.trans ?_ (by assumption)))))).mono ?_; rintro e w2 ⟨rfl, hx2⟩)); first | refine ⟨up_of (by repeat (first | (with_reducible exact Ext.refl _) | (with_reducible refine Ext.drewN ?_ _) | (with_reducible refine Ext.drew ?_) | (with_reducible refine Ext.alloc ?_ _) | ((with_reducible refine Ext.setCell ?_ ?_ _); rotate_left; focus (first | (simp; done) | (simp; omega) | omega)) | assumption | (with_reducible refine Ext.trans ?_ (by assumption)))), ?_⟩ | refine ⟨rfl, rfl, up_of (by repeat (first | (with_reducible exact Ext.refl _) | (with_reducible refine Ext.drewN ?_ _) | (with_reducible refine Ext.drew ?_) | (with_reducible refine Ext.alloc ?_ _) | ((with_reducible refine Ext.setCell ?_ ?_ _); rotate_left; focus (first | (simp; done) | (simp; omega) | omega)) | assumption | (with_reducible refine Ext.trans ?_ (by assumption)))), ?_⟩))); refine mix_nil ?_)
          rw [HPt.out, heq]
          go_wp2
          go_ret3
          rw [HOo.out]
          exact HYes.out i ad c _ hi HR.out (.inr HNo.out) (Own.ext HO.out (by repeat (first | (with_reducible exact Ext.refl _) | (with_reducible refine Ext.drewN ?_ _) | (with_reducible refine Ext.drew ?_) | (with_reducible refine Ext.alloc ?_ _) | ((with_reducible refine Ext.setCell ?_ ?_ _); rotate_left; focus (first | (simp; done) | (simp; omega) | omega)) | assumption | (with_reducible refine Ext.trans ?_ (by assumption))))) (hxw1.trans (by repeat (first | (with_reducible exact Ext.refl _) | (with_reducible refine Ext.drewN ?_ _) | (with_reducible refine Ext.drew ?_) | (with_reducible refine Ext.alloc ?_ _) | ((with_reducible refine Ext.setCell ?_ ?_ _); rotate_left; focus (first | (simp; done) | (simp; omega) | omega)) | assumption | (with_reducible refine Ext.trans ?_ (by assumption)))))
      · rw [if_neg hsp, decide_eq_false hsp] at HCt
        have HNo := Lib.hid (HNo1.out hsp)
        clear HSp hsp HNo1 HNo2 HYs
        generalize lineOf p = ln at *
        go_wp2_with (first | (go_at_call 20; refine (HI1.out _).mono ?_; rintro e w1 ⟨rfl, rfl⟩) | (rw [HPt.out]; go_at_call 21; refine (HCt.out _).mono ?_; rintro e w1 ⟨rfl, hx1⟩) | (go_at_call 16; refine (HCk.out _).mono ?_; rintro e w2 ⟨rfl, rfl⟩))
        have hxw1 : Ext w w1 := hx.trans (Ext.trans (by repeat (first | (with_reducible exact Ext.refl _) | (with_reducible refine Ext.drewN ?_ _) | (with_reducible refine Ext.drew ?_) | (with_reducible refine Ext.alloc ?_ _) | ((with_reducible refine Ext.setCell ?_ ?_ _); rotate_left; focus (first | (simp; done) | (simp; omega) | omega)) | assumption | (with_reducible refine Ext.trans ?_ (by assumption)))) hx1)
        (refine wp_region_up (by kernel_rfl) (by kernel_rfl) (by kernel_rfl) ?_; (repeat (first | (refine mix_q rfl ?_; go_big_quiet_step (fail); refine wpQuiet_nil ?_; show wpMix _ _ _ _ _ _ _) | (refine mix_s rfl ?_; go_wp2_with (fail); first | refine ⟨up_of (by repeat (first | (with_reducible exact Ext.refl _) | (with_reducible refine Ext.drewN ?_ _) | (with_reducible refine Ext.drew ?_) | (with_reducible refine Ext.alloc ?_ _) | ((with_reducible refine Ext.setCell ?_ ?_ _); rotate_left; focus (first | (simp; done) | (simp; omega) | omega)) | assumption | (with_reducible refine Ext.trans ?_ (by assumption)))), ?_⟩ | refine ⟨rfl, rfl, up_of (by repeat (first | (with_reducible exact Ext.refl _) | (with_reducible refine Ext.drewN ?_ _) | (with_reducible refine Ext.drew ?_) | (with_reducible refine Ext.alloc ?_ _) | ((with_reducible refine Ext.setCell ?_ ?_ _); rotate_left; focus (first | (simp; done) | (simp; omega) | omega)) | assumption | (with_reducible refine Ext.trans ?_ (by assumption)))), ?_⟩))); refine mix_nil ?_)
        go_wp2
        go_ret3
        rw [HOo.out]
        exact HYes.out i ad c _ hi HR.out (.inr HNo.out) (Own.ext HO.out (by repeat (first | (with_reducible exact Ext.refl _) | (with_reducible refine Ext.drewN ?_ _) | (with_reducible refine Ext.drew ?_) | (with_reducible refine Ext.alloc ?_ _) | ((with_reducible refine Ext.setCell ?_ ?_ _); rotate_left; focus (first | (simp; done) | (simp; omega) | omega)) | assumption | (with_reducible refine Ext.trans ?_ (by assumption))))) (hxw1.trans (by repeat (first | (with_reducible exact Ext.refl _) | (with_reducible refine Ext.drewN ?_ _) | (with_reducible refine Ext.drew ?_) | (with_reducible refine Ext.alloc ?_ _) | ((with_reducible refine Ext.setCell ?_ ?_ _); rotate_left; focus (first | (simp; done) | (simp; omega) | omega)) | assumption | (with_reducible refine Ext.trans ?_ (by assumption)))))
    · obtain rfl : i = m := by omega
      have HI1 := Lib.hid (show ∀ W, Calls Tryd.prog 20 #[.string (s.extract (offB PS i) s.size), .int .u8 10] W (Same (.int .i64 (-1)) W) from fun W => (HIB.out _ W).mono fun _ _ h => ⟨by rw [h.1]; exact ri HIn.out, h.2.symm⟩)
      obtain ⟨o, ho⟩ : ∃ o, o = offB PS i := ⟨_, rfl⟩
      rw [← ho] at HI1 hof ⊢
      have HOo := Lib.hid ho
      clear ho
      go_wp2_with (refine (HI1.out _).mono ?_; rintro e w1 ⟨rfl, rfl⟩)
      go_ret3
      rw [HOo.out]
      exact HYes.out i ad c _ hi HR.out (.inl rfl) (Own.ext HO.out (by repeat (first | (with_reducible exact Ext.refl _) | (with_reducible refine Ext.drewN ?_ _) | (with_reducible refine Ext.drew ?_) | (with_reducible refine Ext.alloc ?_ _) | ((with_reducible refine Ext.setCell ?_ ?_ _); rotate_left; focus (first | (simp; done) | (simp; omega) | omega)) | assumption | (with_reducible refine Ext.trans ?_ (by assumption))))) (hx.trans (by repeat (first | (with_reducible exact Ext.refl _) | (with_reducible refine Ext.drewN ?_ _) | (with_reducible refine Ext.drew ?_) | (with_reducible refine Ext.alloc ?_ _) | ((with_reducible refine Ext.setCell ?_ ?_ _); rotate_left; focus (first | (simp; done) | (simp; omega) | omega)) | assumption | (with_reducible refine Ext.trans ?_ (by assumption)))))
end Go.Proofs.YtefkefmhfoedcaaDoor
