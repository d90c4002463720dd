/- Walks: texts cut at a mark; what is recovered of a journal, in the program and in the reference. -/
import Derived.Test.YtkiolfmdofldbaaDoorJrS
namespace Go.Proofs.YtkiolfmdofldbaaDoor
set_option maxRecDepth 100000
open Go.RowKit Go.Sort

def CutI (c : UInt8) (s : ByteArray) (i f : Nat) (ps : List (List UInt8)) : Prop :=
  (i ≤ s.size ∧ f ≤ i ∧ splitB c ((bl s).take i) = ps ++ [((bl s).take i).drop f]) ∨ (i = s.size + 1 ∧ ps = splitB c (bl s))
theorem take_bl (s : ByteArray) (i : Nat) (h : i < s.size) : (bl s).take (i + 1) = (bl s).take i ++ [s[i]] := by
  rw [List.take_add_one, List.getElem?_eq_getElem (by rw [bl_len]; exact h)]
  simp only [Option.toList_some]
  rw [bl_at s i h]
theorem CutI.start (c : UInt8) (s : ByteArray) : CutI c s 0 0 [] := .inl ⟨Nat.zero_le _, Nat.le_refl _, by simp [splitB]⟩
theorem CutI.mark {c : UInt8} {s : ByteArray} {i f : Nat} {ps : List (List UInt8)} (h : CutI c s i f ps) (hi : i < s.size) (he : s[i] = c) : CutI c s (i + 1) (i + 1) (ps ++ [((bl s).take i).drop f]) := by
  rcases h with ⟨_, h2, h3⟩ | ⟨h1, _⟩
  · refine .inl ⟨hi, Nat.le_refl _, ?_⟩
    rw [take_bl s i hi, splitB_snoc c _ _ _ _ h3, if_pos he]
    rw [show ((bl s).take i ++ [s[i]]).drop (i + 1) = [] from List.drop_eq_nil_of_le (by rw [List.length_append, List.length_take, bl_len]; simp; omega)]
  · omega
theorem CutI.on {c : UInt8} {s : ByteArray} {i f : Nat} {ps : List (List UInt8)} (h : CutI c s i f ps) (hi : i < s.size) (he : s[i] ≠ c) : CutI c s (i + 1) f ps := by
  rcases h with ⟨_, h2, h3⟩ | ⟨h1, _⟩
  · refine .inl ⟨hi, by omega, ?_⟩
    rw [take_bl s i hi, splitB_snoc c _ _ _ _ h3, if_neg he]
    rw [List.drop_append_of_le_length (by rw [List.length_take, bl_len]; omega)]
  · omega
theorem CutI.fin {c : UInt8} {s : ByteArray} {f : Nat} {ps : List (List UInt8)} (h : CutI c s s.size f ps) (g : Nat) : CutI c s (s.size + 1) g (ps ++ [((bl s).take s.size).drop f]) := by
  rcases h with ⟨_, _, h3⟩ | ⟨h1, _⟩
  · refine .inr ⟨rfl, ?_⟩
    rw [← h3, List.take_of_length_le (by rw [bl_len]; exact Nat.le_refl _)]
  · omega
theorem CutI.from_le {c : UInt8} {s : ByteArray} {i f : Nat} {ps : List (List UInt8)} (h : CutI c s i f ps) (hi : i ≤ s.size) : f ≤ i := by
  rcases h with ⟨_, h2, _⟩ | ⟨h1, _⟩
  · exact h2
  · omega
theorem CutI.len {c : UInt8} {s : ByteArray} {i f : Nat} {ps : List (List UInt8)} (h : CutI c s i f ps) : ps.length ≤ i := by
  rcases h with ⟨h1, _, h3⟩ | ⟨h1, h2⟩
  · have h4 := splitB_len c ((bl s).take i)
    rw [h3, List.length_append, List.length_take, bl_len] at h4
    simp at h4; omega
  · have h4 := splitB_len c (bl s)
    rw [← h2, bl_len] at h4; omega
theorem mk_ext (s : ByteArray) (f i : Nat) : mkB (((bl s).take i).drop f) = s.extract f i := by rw [← bl_extract, mk_bl]
theorem u8_ne {a b : UInt8} (h : a ≠ b) : ((a.toNat : Int) == (b.toNat : Int)) = false := by
  rw [beq_eq_false_iff_ne]; intro e; exact h (UInt8.toNat_inj.1 (by omega))
set_option maxHeartbeats 4000000 in
theorem spec_cut (s : ByteArray) (c : UInt8) (w : World) (hs : s.size ≤ 1048576) : Calls Tryd.prog 40 #[.string s, .int .u8 (c.toNat : Int)] w (RetOwn 9 (St (partsB c s)) w) := by
  obtain ⟨cn, hcn⟩ : ∃ cn : Int, cn = (c.toNat : Int) := ⟨_, rfl⟩
  rw [← hcn]
  have HC := Lib.hid hcn
  clear hcn
  go_enter Tryd.func40, Tryd.ntmps40
  go_wp2_with fail
  go_loopw [5, 6, 7] (fun o fr ii wr => ∃ (i f : Nat) (ps : List (List UInt8)) (ad : Option Addr) (cc : Nat), i ≤ s.size + 1 ∧ ii = .int .i64 i ∧ fr = .int .i64 f ∧ o = .slice ad ps.length cc ∧ Hid (CutI c s i f ps) ∧ Hid (Own wr w.heap.size 9 ad ps.length cc (St (ps.map mkB))) ∧ Ext w wr) (fun _ _ ii _ => s.size + 1 - (intOf ii).toNat)
  case atStart => exact ⟨0, 0, [], _, _, by omega, rfl, rfl, rfl, CutI.start c s, Own.lit0 w _, (by repeat (first | (with_reducible exact Ext.refl _) | (with_reducible refine Ext.drewN ?_ _) | (with_reducible refine Ext.drew ?_) | (with_reducible refine Ext.alloc ?_ _) | ((with_reducible refine Ext.setCell ?_ ?_ _); rotate_left; focus (first | (simp; done) | (simp; omega) | omega)) | assumption | (with_reducible refine Ext.trans ?_ (by assumption))))⟩
  case round =>
    obtain ⟨i, f, ps, ad, cc, hi, rfl, rfl, rfl, HI, HO, hx⟩ := hrel
    have hpl := HI.out.len
    obtain ⟨m, hm⟩ : ∃ m, m = ps.length := ⟨_, rfl⟩
    have HM := Lib.hid hm
    rw [← hm] at HO hpl ⊢
    clear hm
    by_cases hlt : i < s.size
    · have hf := HI.out.from_le (Nat.le_of_lt hlt)
      by_cases he : s[i] = c
      · have HN := Lib.hid (HI.out.mark hlt he)
        have he2 : ((s[i].toNat : Int) == cn) = true := by rw [he, HC.out]; simp
        have hne : ((i : Int) == (s.size : Int)) = false := by rw [beq_eq_false_iff_ne]; omega
        clear he
        go_wp2_with (at_builtin; refine law_append1 _ rfl _ _ 22 rfl 9 (.string .empty) 16 und_strs info_str rfl w.heap.size ad m cc (St (ps.map mkB)) _ rfl rfl rfl HO.out hx.le (by omega) (by omega) ?_; intro ad' c' w1 ho1 hb1 _; have hxw1 : Ext w w1 := Ext.below hx hb1)
        exact ⟨⟨i + 1, i + 1, _, ad', c', by omega, by go_num, by go_num, by rw [List.length_append, ← HM.out]; rfl, HN.out, by
          rw [Hid, List.length_append, ← HM.out, List.map_append, St_append, List.map_cons, mk_ext]
          exact ho1, hxw1⟩, by simp [intOf]; omega⟩
      · have HN := Lib.hid (HI.out.on hlt he)
        have he2 : ((s[i].toNat : Int) == cn) = false := by rw [HC.out]; exact u8_ne he
        have hne : ((i : Int) == (s.size : Int)) = false := by rw [beq_eq_false_iff_ne]; omega
        clear he
        go_wp2_with fail
        exact ⟨⟨i + 1, f, ps, ad, cc, by omega, by go_num, rfl, by rw [← HM.out], HN.out, by rw [Hid, ← HM.out]; exact HO.out, hx⟩, by simp [intOf]; omega⟩
    · by_cases hi2 : i = s.size
      · subst hi2
        have hf := HI.out.from_le (Nat.le_refl _)
        have HN := Lib.hid (HI.out.fin (s.size + 1))
        clear hlt
        go_wp2_with (at_builtin; refine law_append1 _ rfl _ _ 22 rfl 9 (.string .empty) 16 und_strs info_str rfl w.heap.size ad m cc (St (ps.map mkB)) _ rfl rfl rfl HO.out hx.le (by omega) (by omega) ?_; intro ad' c' w1 ho1 hb1 _; have hxw1 : Ext w w1 := Ext.below hx hb1)
        exact ⟨⟨s.size + 1, s.size + 1, _, ad', c', by omega, by go_num, by go_num, by rw [List.length_append, ← HM.out]; rfl, HN.out, by
          rw [Hid, List.length_append, ← HM.out, List.map_append, St_append, List.map_cons, mk_ext]
          exact ho1, hxw1⟩, by simp [intOf]⟩
      · have hi3 : i = s.size + 1 := by omega
        have HF := Lib.hid (show ps = splitB c (bl s) from by
          rcases HI.out with ⟨h1, _⟩ | ⟨_, h2⟩
          · omega
          · exact h2)
        subst hi3
        clear hlt hi2
        go_wp2
        go_ret
        have h := HO.out
        have h2 : (partsB c s).length = m := by rw [HM.out, HF.out]; simp [partsB]
        rw [HF.out] at h
        exact RetOwn.mkS h h2 hx
theorem lines_len (s : ByteArray) : (linesB s).length = (partsB 10 s).length - 1 := by unfold linesB; rw [List.length_take]; omega
theorem lines_gs (s : ByteArray) (i : Nat) (h : i < (partsB 10 s).length - 1) : gs (linesB s) i = gs (partsB 10 s) i := by
  simp only [gs, linesB, List.getD_eq_getElem?_getD, List.getElem?_take, h, if_true]
/-- lines, and what is left behind them -/
def RetLines (s : ByteArray) (m : Nat) (w : World) (e : Ending) (w' : World) : Prop :=
  ∃ a c z, e = .returned (.tuple #[.slice a m c, .string z]) ∧ Strs w' a m c (linesB s) ∧ Ext w w'
set_option maxHeartbeats 2000000 in
theorem spec_lines (s : ByteArray) (m : Nat) (w : World) (hs : s.size ≤ 1048576) (hm : (partsB 10 s).length = m + 1) : Calls Tryd.prog 26 #[.string s] w (RetLines s m w) := by
  have HC := Lib.hid (spec_cut s 10 w hs)
  have HM := Lib.hid hm
  have hml : m ≤ s.size := by have := (partsB_len 10 s).2; omega
  clear hm
  go_enter Tryd.func26, Tryd.ntmps26
  go_wp2_with (refine HC.out.mono ?_; rintro e w1 ⟨a1, c1, rfl, ho1, hx1⟩)
  rw [St_len, HM.out] at ho1 ⊢
  have HS := Lib.hid (show Strs w1 a1 (m + 1) c1 (partsB 10 s) from ho1.sl)
  obtain ⟨a2, hs2, hp2⟩ := HS.out.pre (P := Tryd.prog) 22 9 und_strs cell_str elem_strs m (by omega)
  obtain ⟨b, off, hix, hcell⟩ := HS.out.ix (P := Tryd.prog) 22 9 und_strs cell_str
  have HP2 := Lib.hid hp2
  have hc1 : ∀ w', Ext w1 w' → w'.cell? ⟨b, off + m, none⟩ = some (.string (gs (partsB 10 s) m)) := fun w' h => hcell m w' (by omega) h
  have hx1m : ∀ (K : IntKind) (w' : World), (Instr.indexAt 22 (.slice a1 (m + 1) c1) (.int K m)).run Tryd.prog w' = .ok (.pointer (some ⟨b, off + m, none⟩)) w' := fun K w' => by
    have h := hix (m : Int) K w' (by omega) (by omega)
    rwa [Int.toNat_natCast] at h
  have hxx : Ext w1 w1 := Ext.refl _
  clear ho1 hp2 hix hcell
  go_wp2_with fail
  (refine wp_region_up (by kernel_rfl) (by kernel_rfl) (by kernel_rfl) ?_; (repeat (first | (refine mix_q rfl ?_; go_big_quiet_step (fail); refine wpQuiet_nil ?_; show wpMix _ _ _ _ _ _ _) | (refine mix_s rfl ?_; go_wp2_with (fail); first | refine ⟨up_of (by repeat (first | (with_reducible exact Ext.refl _) | (with_reducible refine Ext.drewN ?_ _) | (with_reducible refine Ext.drew ?_) | (with_reducible refine Ext.alloc ?_ _) | ((with_reducible refine Ext.setCell ?_ ?_ _); rotate_left; focus (first | (simp; done) | (simp; omega) | omega)) | assumption | (with_reducible refine Ext.trans ?_ (by assumption)))), ?_⟩ | refine ⟨rfl, rfl, up_of (by repeat (first | (with_reducible exact Ext.refl _) | (with_reducible refine Ext.drewN ?_ _) | (with_reducible refine Ext.drew ?_) | (with_reducible refine Ext.alloc ?_ _) | ((with_reducible refine Ext.setCell ?_ ?_ _); rotate_left; focus (first | (simp; done) | (simp; omega) | omega)) | assumption | (with_reducible refine Ext.trans ?_ (by assumption)))), ?_⟩))); refine mix_nil ?_)
  go_wp2
  go_ret2
  refine ⟨a2, c1, _, rfl, ?_, hx1.trans (by repeat (first | (with_reducible exact Ext.refl _) | (with_reducible refine Ext.drewN ?_ _) | (with_reducible refine Ext.drew ?_) | (with_reducible refine Ext.alloc ?_ _) | ((with_reducible refine Ext.setCell ?_ ?_ _); rotate_left; focus (first | (simp; done) | (simp; omega) | omega)) | assumption | (with_reducible refine Ext.trans ?_ (by assumption))))⟩
  rw [linesB, HM.out, Nat.add_sub_cancel]
  exact Strs.ext HP2.out (by repeat (first | (with_reducible exact Ext.refl _) | (with_reducible refine Ext.drewN ?_ _) | (with_reducible refine Ext.drew ?_) | (with_reducible refine Ext.alloc ?_ _) | ((with_reducible refine Ext.setCell ?_ ?_ _); rotate_left; focus (first | (simp; done) | (simp; omega) | omega)) | assumption | (with_reducible refine Ext.trans ?_ (by assumption))))
set_option maxHeartbeats 1000000 in
theorem cut_one (p : ByteArray) (w : World) (hs : p.size ≤ 1048576) : Calls Tryd.prog 30 #[.string p, .string ⟨#[32]⟩] w (Ret (.tuple #[.string (if 0 ≤ spI p then preOf p else p), .string (lineOf p), .bool (decide (0 ≤ spI p))]) w) := by
  have HI := Lib.hid (fun W => Tryd.stringslite_Index_one p 32 W)
  have HB := Lib.hid (sp_bd p)
  have HP := Lib.hid (show preOf p = p.extract 0 (spI p).toNat from rfl)
  have HL := Lib.hid (show 0 ≤ spI p → lineOf p = p.extract ((spI p).toNat + 1) p.size from fun h => if_pos h)
  have HL2 := Lib.hid (show ¬ 0 ≤ spI p → lineOf p = .empty from fun h => if_neg h)
  have HS := Lib.hid (show Lib.indexByte p.data.toList 32 = spI p from rfl)
  rw [HS.out] at HI
  have HIn : Hid (∀ W, Calls Tryd.prog 42 #[.string p, .string ⟨#[32]⟩] W (Ret (.tuple #[.string (if 0 ≤ spI p then preOf p else p), .string (lineOf p), .bool (decide (0 ≤ spI p))]) W)) := by
    refine Lib.hid fun W => ?_
    by_cases h : 0 ≤ spI p
    · obtain ⟨o, ho⟩ := Int.eq_ofNat_of_zero_le h
      have hb := HB.out h
      have hl := HL.out h
      have hp := HP.out
      rw [if_pos h, decide_eq_true h, hl, hp]
      rw [ho] at HI hb ⊢
      rw [Int.toNat_natCast] at hb ⊢
      clear h hl hp HB HP HL HL2 HS
      clear ho
      go_enter Tryd.func42, Tryd.ntmps42
      go_wp2_with (refine (HI.out _).mono ?_; rintro e w1 ⟨rfl, rfl⟩)
      (refine wp_region_up (by kernel_rfl) (by kernel_rfl) (by kernel_rfl) ?_; (repeat (first | (refine mix_q rfl ?_; go_big_quiet_step (fail); refine wpQuiet_nil ?_; show wpMix _ _ _ _ _ _ _) | (refine mix_s rfl ?_; go_wp2_with (fail); first | refine ⟨up_of (by repeat (first | (with_reducible exact Ext.refl _) | (with_reducible refine Ext.drewN ?_ _) | (with_reducible refine Ext.drew ?_) | (with_reducible refine Ext.alloc ?_ _) | ((with_reducible refine Ext.setCell ?_ ?_ _); rotate_left; focus (first | (simp; done) | (simp; omega) | omega)) | assumption | (with_reducible refine Ext.trans ?_ (by assumption)))), ?_⟩ | refine ⟨rfl, rfl, up_of (by repeat (first | (with_reducible exact Ext.refl _) | (with_reducible refine Ext.drewN ?_ _) | (with_reducible refine Ext.drew ?_) | (with_reducible refine Ext.alloc ?_ _) | ((with_reducible refine Ext.setCell ?_ ?_ _); rotate_left; focus (first | (simp; done) | (simp; omega) | omega)) | assumption | (with_reducible refine Ext.trans ?_ (by assumption)))), ?_⟩))); refine mix_nil ?_)
      go_wp2
      go_ret3
      exact ⟨rfl, (by repeat (first | (with_reducible exact Ext.refl _) | (with_reducible refine Ext.drewN ?_ _) | (with_reducible refine Ext.drew ?_) | (with_reducible refine Ext.alloc ?_ _) | ((with_reducible refine Ext.setCell ?_ ?_ _); rotate_left; focus (first | (simp; done) | (simp; omega) | omega)) | assumption | (with_reducible refine Ext.trans ?_ (by assumption))))⟩
    · have hl := HL2.out h
      rw [if_neg h, decide_eq_false h, hl]
      obtain ⟨v, hv⟩ : ∃ v, v = spI p := ⟨_, rfl⟩
      rw [← hv] at HI h
      clear hl HB HP HL HL2 HS hv
      go_enter Tryd.func42, Tryd.ntmps42
      go_wp2_with (refine (HI.out _).mono ?_; rintro e w1 ⟨rfl, rfl⟩)
      go_ret3
      exact ⟨rfl, (by repeat (first | (with_reducible exact Ext.refl _) | (with_reducible refine Ext.drewN ?_ _) | (with_reducible refine Ext.drew ?_) | (with_reducible refine Ext.alloc ?_ _) | ((with_reducible refine Ext.setCell ?_ ?_ _); rotate_left; focus (first | (simp; done) | (simp; omega) | omega)) | assumption | (with_reducible refine Ext.trans ?_ (by assumption))))⟩
  clear HI HB HP HL HL2 HS
  generalize (if 0 ≤ spI p then preOf p else p) = x1 at *
  generalize lineOf p = x2 at *
  generalize decide (0 ≤ spI p) = x3 at *
  go_enter Tryd.func30, Tryd.ntmps30
  go_wp2_with (refine (HIn.out _).mono ?_; rintro e w1 ⟨rfl, hx1⟩)
  go_ret3
  exact ⟨rfl, hx1⟩
/-- what is recovered: of its own (the program's) -/
def RetRcO (s : ByteArray) (w : World) (e : Ending) (w' : World) : Prop :=
  ∃ a c, e = .returned (.tuple #[.slice a (rcL s).length c, .int .i64 (rcN s), .bool (rcOk s)]) ∧ Own w' w.heap.size 9 a (rcL s).length c (St (rcL s)) ∧ Ext w w'
theorem RetRcO.no {s : ByteArray} {w w' : World} (h : 4000 < s.size) (hx : Ext w w') : RetRcO s w (.returned (.tuple #[.slice none 0 0, .int .i64 0, .bool false])) w' := by
  have h1 : rcOk s = false := by unfold rcOk; rw [decide_eq_false_iff_not]; omega
  have h2 : rcL s = [] := by unfold rcL; rw [h1]; rfl
  have h3 : rcN s = 0 := by unfold rcN; rw [h1]; rfl
  refine ⟨none, 0, ?_, ?_, hx⟩
  · rw [h1, h2, h3]; rfl
  · rw [h2]; exact Own.nil _ _ _
theorem RetRcO.yes {s : ByteArray} {i : Nat} {ad : Option Addr} {c : Nat} {w w' : World} (h : s.size ≤ 4000) (hi : i ≤ (partsB 10 s).length - 1) (h1 : ∀ j, j < i → recOk (partsB 10 s) j = true) (h2 : i = (partsB 10 s).length - 1 ∨ recOk (partsB 10 s) i = false)
    (ho : Own w' w.heap.size 9 ad i c (St (recLines (partsB 10 s) i))) (hx : Ext w w') : RetRcO s w (.returned (.tuple #[.slice ad i c, .int .i64 (offB (partsB 10 s) i : Nat), .bool true])) w' := by
  have h3 : rcOk s = true := by unfold rcOk; rw [decide_eq_true_eq]; exact h
  have h4 : rcK s = i := recN_at hi h1 h2
  have h5 : rcL s = recLines (partsB 10 s) i := by unfold rcL; rw [h3, h4]; rfl
  have h6 : rcN s = (offB (partsB 10 s) i : Nat) := by unfold rcN; rw [h3, h4]; rfl
  refine ⟨ad, c, ?_, ?_, hx⟩
  · rw [h3, h5, h6, recLines_len]
  · rw [h5, recLines_len]; exact ho
theorem rec_no {ps : List ByteArray} {i : Nat} (h : ¬ 0 ≤ spI (gs ps i)) : recOk ps i = false := by unfold recOk; rw [decide_eq_false h]; rfl
theorem rec_no2 {ps : List ByteArray} {i : Nat} (h : preOf (gs ps i) ≠ decS (ckJ ps (i + 1))) : recOk ps i = false := by unfold recOk; rw [decide_eq_false h, Bool.and_false]
theorem rec_yes {ps : List ByteArray} {i : Nat} (h1 : 0 ≤ spI (gs ps i)) (h2 : preOf (gs ps i) = decS (ckJ ps (i + 1))) : recOk ps i = true := by unfold recOk; rw [decide_eq_true h1, decide_eq_true h2]; rfl
theorem all_step' {p : Nat → Bool} {i : Nat} (h : ∀ j, j < i → p j = true) (h2 : p i = true) : ∀ j, j < i + 1 → p j = true := fun j hj => by
  by_cases e : j < i
  · exact h j e
  · obtain rfl : j = i := by omega
    exact h2
theorem bs_ne {a b : ByteArray} (h : a ≠ b) : (a.toList == b.toList) = false := by
  rw [Bool.eq_false_iff]; intro e; exact h (bs_iff.1 e)
theorem lineOf_le (p : ByteArray) : (lineOf p).size ≤ p.size := by
  unfold lineOf
  split
  · rw [ByteArray.size_extract]; omega
  · simp
set_option maxHeartbeats 4000000 in
theorem impl_RecoverJournal (s : ByteArray) (w : World) (hs : s.size ≤ 1048576) (ht : TabW w) : Calls Tryd.prog 12 #[.string s] w (RetRcO s w) := by
  have HT := Lib.hid ht
  clear ht
  by_cases hlen : 4000 < s.size
  · go_enter Tryd.func12, Tryd.ntmps12
    go_wp2_with fail
    go_ret3
    exact RetRcO.no hlen (Ext.refl _)
  obtain ⟨m, hm⟩ : ∃ m, (partsB 10 s).length = m + 1 := ⟨(partsB 10 s).length - 1, by have := (partsB_len 10 s).1; omega⟩
  have HM := Lib.hid hm
  have hms : m ≤ s.size := by have := (partsB_len 10 s).2; omega
  have HYes := Lib.hid (fun i ad c w' => RetRcO.yes (s := s) (i := i) (ad := ad) (c := c) (w := w) (w' := w') (by omega))
  rw [hm, Nat.add_sub_cancel] at HYes
  have HOff := Lib.hid (fun i (h : i < m + 1) => off_bd 10 s i (by omega))
  have HPb := Lib.hid (fun i (h : i < m) => part_bd 10 s i (by omega))
  have HIx := Lib.hid (fun i (h : i < m) => part_index 10 s i (by omega))
  have HIn := Lib.hid (part_none 10 s m (by omega))
  have HPi := Lib.hid (fun i (h : i < m) => part_is 10 s i (by omega))
  have HIB := Lib.hid (fun x W => Tryd.strings_IndexByte x 10 W)
  obtain ⟨PS, hPS⟩ : ∃ PS, PS = partsB 10 s := ⟨_, rfl⟩
  rw [← hPS] at HYes HOff HPb HIx HIn HPi
  clear hm hPS
  go_enter Tryd.func12, Tryd.ntmps12
  go_wp2_with fail
  go_loopw [5, 6, 7, 8, 9, 10, 11, 12, 13] (fun o at' ck _ _ _ _ _ _ wr => ∃ (i : Nat) (ad : Option Addr) (c : Nat), i ≤ m ∧ o = .slice ad i c ∧ at' = .int .i64 (offB PS i : Nat) ∧ ck = .int .i64 (ckJ PS i) ∧ Hid (∀ j, j < i → recOk PS j = true) ∧ Hid (Own wr w.heap.size 9 ad i c (St (recLines PS i))) ∧ Ext w wr) (fun o _ _ _ _ _ _ _ _ _ => m - lenOf o)
  case atStart => exact ⟨0, _, _, Nat.zero_le _, rfl, rfl, rfl, fun j hj => by omega, Own.lit0 w _, (by repeat (first | (with_reducible exact Ext.refl _) | (with_reducible refine Ext.drewN ?_ _) | (with_reducible refine Ext.drew ?_) | (with_reducible refine Ext.alloc ?_ _) | ((with_reducible refine Ext.setCell ?_ ?_ _); rotate_left; focus (first | (simp; done) | (simp; omega) | omega)) | assumption | (with_reducible refine Ext.trans ?_ (by assumption))))⟩
  case round =>
    obtain ⟨i, ad, c, hi, rfl, rfl, rfl, HR, HO, hx⟩ := hrel
    have hrr : Ext wr wr := Ext.refl _
    have hof := HOff.out i (by omega)
    by_cases hlt : i < m
    · have hpb := HPb.out i hlt
      have HI1 := Lib.hid (show ∀ W, Calls Tryd.prog 29 #[.string (s.extract (offB PS i) s.size), .int .u8 10] W (Same (.int .i64 (gs PS i).size) W) from fun W => (HIB.out _ W).mono fun _ _ h => ⟨by rw [h.1]; exact ri (HIx.out i hlt), h.2.symm⟩)
      have HPt := Lib.hid (HPi.out i hlt)
      have HOs := Lib.hid (show offB PS (i + 1) = offB PS i + ((gs PS i).size + 1) from rfl)
      have hck := ckJ_bd PS i
      have hck2 := ckJ_bd PS (i + 1)
      have hle := lineOf_le (gs PS i)
      have HCk := Lib.hid (fun W => impl_CheckOf (ckJ PS i) (lineOf (gs PS i)) W hck.1 hck.2 (by omega))
      have HEq := Lib.hid (show ckS (ckJ PS i) (lineOf (gs PS i)) = ckJ PS (i + 1) from rfl)
      rw [HEq.out] at HCk
      have HCt := Lib.hid (fun W => cut_one (gs PS i) W (by omega))
      have HNo1 := Lib.hid (rec_no (ps := PS) (i := i))
      have HNo2 := Lib.hid (rec_no2 (ps := PS) (i := i))
      have HYs := Lib.hid (rec_yes (ps := PS) (i := i))
      have HLs := Lib.hid (recLines_step PS i)
      have HSp := Lib.hid (sp_eq (gs PS i) (decS (ckJ PS (i + 1))))
      have HD := Lib.hid (fun W (h : Ext w W) => impl_Decimal (ckJ PS (i + 1)) W (by omega) (by omega) (HT.out.ext h))
      have hds := decS_le (ckJ PS (i + 1)) hck2.1 (by omega)
      obtain ⟨o, ho⟩ : ∃ o, o = offB PS i := ⟨_, rfl⟩
      rw [← ho] at HI1 HPt HOs hpb hof ⊢
      have HOo := Lib.hid ho
      obtain ⟨p, hp⟩ : ∃ p, p = gs PS i := ⟨_, rfl⟩
      rw [← hp] at HI1 HPt HOs hpb HCk HCt HNo1 HNo2 HYs HLs HSp hle
      generalize hg2 : ckJ PS (i + 1) = ck2 at *
      have HG2 := Lib.hid hg2
      generalize ckJ PS i = ck1 at *
      clear hg2 hp ho HEq
      by_cases hsp : 0 ≤ spI p
      · rw [if_pos hsp, decide_eq_true hsp] at HCt
        have HSp2 := HSp.out hsp
        by_cases hpre : preOf p = decS ck2
        · have HR2 := Lib.hid (all_step' HR.out (HYs.out hsp hpre))
          have heq : ((decS ck2 ++ ⟨#[32]⟩ ++ lineOf p).toList == p.toList) = true := bs_iff.2 (HSp2.2 hpre)
          clear HSp HSp2 hpre hsp HNo1 HNo2 HYs
          generalize preOf p = pp at *
          generalize lineOf p = ln at *
          go_wp2_with (first | (go_at_call 29; refine (HI1.out _).mono ?_; rintro e w1 ⟨rfl, rfl⟩) | (rw [HPt.out]; go_at_call 30; refine (HCt.out _).mono ?_; rintro e w1 ⟨rfl, hx1⟩) | (go_at_call 22; refine (HCk.out _).mono ?_; rintro e w2 ⟨rfl, rfl⟩))
          have hxw1 : Ext w w1 := hx.trans (Ext.trans (by repeat (first | (with_reducible exact Ext.refl _) | (with_reducible refine Ext.drewN ?_ _) | (with_reducible refine Ext.drew ?_) | (with_reducible refine Ext.alloc ?_ _) | ((with_reducible refine Ext.setCell ?_ ?_ _); rotate_left; focus (first | (simp; done) | (simp; omega) | omega)) | assumption | (with_reducible refine Ext.trans ?_ (by assumption)))) hx1)
          (refine wp_region_up (by kernel_rfl) (by kernel_rfl) (by kernel_rfl) ?_; (repeat (first | (refine mix_q rfl ?_; go_big_quiet_step (fail); refine wpQuiet_nil ?_; show wpMix _ _ _ _ _ _ _) | (refine mix_s rfl ?_; go_wp2_with ((go_at_call 24; refine (HD.out _ (hxw1.trans (by repeat (first | (with_reducible exact Ext.refl _) | (with_reducible refine Ext.drewN ?_ _) | (with_reducible refine Ext.drew ?_) | (with_reducible refine Ext.alloc ?_ _) | ((with_reducible refine Ext.setCell ?_ ?_ _); rotate_left; focus (first | (simp; done) | (simp; omega) | omega)) | assumption | (with_reducible refine Ext.trans ?_ (by assumption)))))).mono ?_; rintro e w2 ⟨rfl, hx2⟩)); first | refine ⟨up_of (by repeat (first | (with_reducible exact Ext.refl _) | (with_reducible refine Ext.drewN ?_ _) | (with_reducible refine Ext.drew ?_) | (with_reducible refine Ext.alloc ?_ _) | ((with_reducible refine Ext.setCell ?_ ?_ _); rotate_left; focus (first | (simp; done) | (simp; omega) | omega)) | assumption | (with_reducible refine Ext.trans ?_ (by assumption)))), ?_⟩ | refine ⟨rfl, rfl, up_of (by repeat (first | (with_reducible exact Ext.refl _) | (with_reducible refine Ext.drewN ?_ _) | (with_reducible refine Ext.drew ?_) | (with_reducible refine Ext.alloc ?_ _) | ((with_reducible refine Ext.setCell ?_ ?_ _); rotate_left; focus (first | (simp; done) | (simp; omega) | omega)) | assumption | (with_reducible refine Ext.trans ?_ (by assumption)))), ?_⟩))); refine mix_nil ?_)
          rw [HPt.out, heq]
          go_wp2_with (at_builtin; refine law_append1 _ rfl _ _ 22 rfl 9 (.string .empty) 16 und_strs info_str rfl w.heap.size ad i c (St (recLines PS i)) _ rfl rfl rfl (Own.ext HO.out (by repeat (first | (with_reducible exact Ext.refl _) | (with_reducible refine Ext.drewN ?_ _) | (with_reducible refine Ext.drew ?_) | (with_reducible refine Ext.alloc ?_ _) | ((with_reducible refine Ext.setCell ?_ ?_ _); rotate_left; focus (first | (simp; done) | (simp; omega) | omega)) | assumption | (with_reducible refine Ext.trans ?_ (by assumption))))) (Ext.le (hxw1.trans (by repeat (first | (with_reducible exact Ext.refl _) | (with_reducible refine Ext.drewN ?_ _) | (with_reducible refine Ext.drew ?_) | (with_reducible refine Ext.alloc ?_ _) | ((with_reducible refine Ext.setCell ?_ ?_ _); rotate_left; focus (first | (simp; done) | (simp; omega) | omega)) | assumption | (with_reducible refine Ext.trans ?_ (by assumption)))))) (by omega) (by omega) ?_; intro ad' c' w3 ho3 hb3 _; have hxw3 : Ext w w3 := Ext.below (hxw1.trans (by repeat (first | (with_reducible exact Ext.refl _) | (with_reducible refine Ext.drewN ?_ _) | (with_reducible refine Ext.drew ?_) | (with_reducible refine Ext.alloc ?_ _) | ((with_reducible refine Ext.setCell ?_ ?_ _); rotate_left; focus (first | (simp; done) | (simp; omega) | omega)) | assumption | (with_reducible refine Ext.trans ?_ (by assumption))))) hb3)
          exact ⟨⟨i + 1, ad', c', hlt, rfl, by rw [HOs.out]; go_num, by rw [HG2.out], HR2.out, by rw [Hid, HLs.out, St_append]; exact ho3, hxw3⟩, by simp [lenOf]; omega⟩
        · have HNo := Lib.hid (HNo2.out hpre)
          have heq : ((decS ck2 ++ ⟨#[32]⟩ ++ lineOf p).toList == p.toList) = false := bs_ne fun h => hpre (HSp2.1 h)
          clear HSp HSp2 hpre hsp HNo1 HNo2 HYs
          generalize preOf p = pp at *
          generalize lineOf p = ln at *
          go_wp2_with (first | (go_at_call 29; refine (HI1.out _).mono ?_; rintro e w1 ⟨rfl, rfl⟩) | (rw [HPt.out]; go_at_call 30; refine (HCt.out _).mono ?_; rintro e w1 ⟨rfl, hx1⟩) | (go_at_call 22; refine (HCk.out _).mono ?_; rintro e w2 ⟨rfl, rfl⟩))
          have hxw1 : Ext w w1 := hx.trans (Ext.trans (by repeat (first | (with_reducible exact Ext.refl _) | (with_reducible refine Ext.drewN ?_ _) | (with_reducible refine Ext.drew ?_) | (with_reducible refine Ext.alloc ?_ _) | ((with_reducible refine Ext.setCell ?_ ?_ _); rotate_left; focus (first | (simp; done) | (simp; omega) | omega)) | assumption | (with_reducible refine Ext.trans ?_ (by assumption)))) hx1)
          (refine wp_region_up (by kernel_rfl) (by kernel_rfl) (by kernel_rfl) ?_; (repeat (first | (refine mix_q rfl ?_; go_big_quiet_step (fail); refine wpQuiet_nil ?_; show wpMix _ _ _ _ _ _ _) | (refine mix_s rfl ?_; go_wp2_with ((go_at_call 24; refine (HD.out _ (hxw1.trans (by repeat (first | (with_reducible exact Ext.refl _) | (with_reducible refine Ext.drewN ?_ _) | (with_reducible refine Ext.drew ?_) | (with_reducible refine Ext.alloc ?_ _) | ((with_reducible refine Ext.setCell ?_ ?_ _); rotate_left; focus (first | (simp; done) | (simp; omega) | omega)) | assumption | (with_reducible refine Ext.trans ?_ (by assumption)))))).mono ?_; rintro e w2 ⟨rfl, hx2⟩)); first | refine ⟨up_of (by repeat (first | (with_reducible exact Ext.refl _) | (with_reducible refine Ext.drewN ?_ _) | (with_reducible refine Ext.drew ?_) | (with_reducible refine Ext.alloc ?_ _) | ((with_reducible refine Ext.setCell ?_ ?_ _); rotate_left; focus (first | (simp; done) | (simp; omega) | omega)) | assumption | (with_reducible refine Ext.trans ?_ (by assumption)))), ?_⟩ | refine ⟨rfl, rfl, up_of (by repeat (first | (with_reducible exact Ext.refl _) | (with_reducible refine Ext.drewN ?_ _) | (with_reducible refine Ext.drew ?_) | (with_reducible refine Ext.alloc ?_ _) | ((with_reducible refine Ext.setCell ?_ ?_ _); rotate_left; focus (first | (simp; done) | (simp; omega) | omega)) | assumption | (with_reducible refine Ext.trans ?_ (by assumption)))), ?_⟩))); refine mix_nil ?_)
          rw [HPt.out, heq]
          go_wp2
          go_ret3
          rw [HOo.out]
          exact HYes.out i ad c _ hi HR.out (.inr HNo.out) (Own.ext HO.out (by repeat (first | (with_reducible exact Ext.refl _) | (with_reducible refine Ext.drewN ?_ _) | (with_reducible refine Ext.drew ?_) | (with_reducible refine Ext.alloc ?_ _) | ((with_reducible refine Ext.setCell ?_ ?_ _); rotate_left; focus (first | (simp; done) | (simp; omega) | omega)) | assumption | (with_reducible refine Ext.trans ?_ (by assumption))))) (hxw1.trans (by repeat (first | (with_reducible exact Ext.refl _) | (with_reducible refine Ext.drewN ?_ _) | (with_reducible refine Ext.drew ?_) | (with_reducible refine Ext.alloc ?_ _) | ((with_reducible refine Ext.setCell ?_ ?_ _); rotate_left; focus (first | (simp; done) | (simp; omega) | omega)) | assumption | (with_reducible refine Ext.trans ?_ (by assumption)))))
      · rw [if_neg hsp, decide_eq_false hsp] at HCt
        have HNo := Lib.hid (HNo1.out hsp)
        clear HSp hsp HNo1 HNo2 HYs
        generalize lineOf p = ln at *
        go_wp2_with (first | (go_at_call 29; refine (HI1.out _).mono ?_; rintro e w1 ⟨rfl, rfl⟩) | (rw [HPt.out]; go_at_call 30; refine (HCt.out _).mono ?_; rintro e w1 ⟨rfl, hx1⟩) | (go_at_call 22; refine (HCk.out _).mono ?_; rintro e w2 ⟨rfl, rfl⟩))
        have hxw1 : Ext w w1 := hx.trans (Ext.trans (by repeat (first | (with_reducible exact Ext.refl _) | (with_reducible refine Ext.drewN ?_ _) | (with_reducible refine Ext.drew ?_) | (with_reducible refine Ext.alloc ?_ _) | ((with_reducible refine Ext.setCell ?_ ?_ _); rotate_left; focus (first | (simp; done) | (simp; omega) | omega)) | assumption | (with_reducible refine Ext.trans ?_ (by assumption)))) hx1)
        (refine wp_region_up (by kernel_rfl) (by kernel_rfl) (by kernel_rfl) ?_; (repeat (first | (refine mix_q rfl ?_; go_big_quiet_step (fail); refine wpQuiet_nil ?_; show wpMix _ _ _ _ _ _ _) | (refine mix_s rfl ?_; go_wp2_with (fail); first | refine ⟨up_of (by repeat (first | (with_reducible exact Ext.refl _) | (with_reducible refine Ext.drewN ?_ _) | (with_reducible refine Ext.drew ?_) | (with_reducible refine Ext.alloc ?_ _) | ((with_reducible refine Ext.setCell ?_ ?_ _); rotate_left; focus (first | (simp; done) | (simp; omega) | omega)) | assumption | (with_reducible refine Ext.trans ?_ (by assumption)))), ?_⟩ | refine ⟨rfl, rfl, up_of (by repeat (first | (with_reducible exact Ext.refl _) | (with_reducible refine Ext.drewN ?_ _) | (with_reducible refine Ext.drew ?_) | (with_reducible refine Ext.alloc ?_ _) | ((with_reducible refine Ext.setCell ?_ ?_ _); rotate_left; focus (first | (simp; done) | (simp; omega) | omega)) | assumption | (with_reducible refine Ext.trans ?_ (by assumption)))), ?_⟩))); refine mix_nil ?_)
        go_wp2
        go_ret3
        rw [HOo.out]
        exact HYes.out i ad c _ hi HR.out (.inr HNo.out) (Own.ext HO.out (by repeat (first | (with_reducible exact Ext.refl _) | (with_reducible refine Ext.drewN ?_ _) | (with_reducible refine Ext.drew ?_) | (with_reducible refine Ext.alloc ?_ _) | ((with_reducible refine Ext.setCell ?_ ?_ _); rotate_left; focus (first | (simp; done) | (simp; omega) | omega)) | assumption | (with_reducible refine Ext.trans ?_ (by assumption))))) (hxw1.trans (by repeat (first | (with_reducible exact Ext.refl _) | (with_reducible refine Ext.drewN ?_ _) | (with_reducible refine Ext.drew ?_) | (with_reducible refine Ext.alloc ?_ _) | ((with_reducible refine Ext.setCell ?_ ?_ _); rotate_left; focus (first | (simp; done) | (simp; omega) | omega)) | assumption | (with_reducible refine Ext.trans ?_ (by assumption)))))
    · obtain rfl : i = m := by omega
      have HI1 := Lib.hid (show ∀ W, Calls Tryd.prog 29 #[.string (s.extract (offB PS i) s.size), .int .u8 10] W (Same (.int .i64 (-1)) W) from fun W => (HIB.out _ W).mono fun _ _ h => ⟨by rw [h.1]; exact ri HIn.out, h.2.symm⟩)
      obtain ⟨o, ho⟩ : ∃ o, o = offB PS i := ⟨_, rfl⟩
      rw [← ho] at HI1 hof ⊢
      have HOo := Lib.hid ho
      clear ho
      go_wp2_with (refine (HI1.out _).mono ?_; rintro e w1 ⟨rfl, rfl⟩)
      go_ret3
      rw [HOo.out]
      exact HYes.out i ad c _ hi HR.out (.inl rfl) (Own.ext HO.out (by repeat (first | (with_reducible exact Ext.refl _) | (with_reducible refine Ext.drewN ?_ _) | (with_reducible refine Ext.drew ?_) | (with_reducible refine Ext.alloc ?_ _) | ((with_reducible refine Ext.setCell ?_ ?_ _); rotate_left; focus (first | (simp; done) | (simp; omega) | omega)) | assumption | (with_reducible refine Ext.trans ?_ (by assumption))))) (hx.trans (by repeat (first | (with_reducible exact Ext.refl _) | (with_reducible refine Ext.drewN ?_ _) | (with_reducible refine Ext.drew ?_) | (with_reducible refine Ext.alloc ?_ _) | ((with_reducible refine Ext.setCell ?_ ?_ _); rotate_left; focus (first | (simp; done) | (simp; omega) | omega)) | assumption | (with_reducible refine Ext.trans ?_ (by assumption)))))
end Go.Proofs.YtkiolfmdofldbaaDoor
