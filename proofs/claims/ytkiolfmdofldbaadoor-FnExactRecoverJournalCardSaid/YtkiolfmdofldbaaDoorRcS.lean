/- Walks: what is recovered of a journal, in the reference. -/
import Derived.Test.YtkiolfmdofldbaaDoorRc
namespace Go.Proofs.YtkiolfmdofldbaaDoor
set_option maxRecDepth 100000
open Go.RowKit Go.Sort

/-- as the reference gives it -/
def RetRcS (s : ByteArray) (w : World) (e : Ending) (w' : World) : Prop :=
  ∃ a c, e = .returned (.tuple #[.slice a (rcL s).length c, .int .i64 (rcN s), .bool (rcOk s)]) ∧ Strs w' a (rcL s).length c (rcL s) ∧ Ext w w'
theorem RetRcO.toS {s : ByteArray} {w w' : World} {e : Ending} (h : RetRcO s w e w') : RetRcS s w e w' :=
  let ⟨a, c, h1, h2, h3⟩ := h; ⟨a, c, h1, h2.sl, h3⟩
theorem sp_at {p : ByteArray} {j : Nat} (hj : j < p.size) (h1 : 32 ∉ (bl p).take j) (h2 : p[j] = 32) : spI p = (j : Int) := by
  have h3 : bl p = (bl p).take j ++ 32 :: (bl p).drop (j + 1) := by
    have h4 : (bl p)[j]'(by rw [bl_len]; exact hj) = 32 := by rw [bl_at p j hj, h2]
    rw [← h4, List.getElem_cons_drop, List.take_append_drop]
  unfold spI
  rw [h3, index_at h1, List.length_take, bl_len]
  congr 1; omega
theorem sp_none {p : ByteArray} (h : 32 ∉ bl p) : ¬ 0 ≤ spI p := by unfold spI; rw [index_no h]; omega
set_option maxHeartbeats 8000000 in
theorem spec_RecoverJournal (s : ByteArray) (w : World) (hs : s.size ≤ 1048576) : Calls Tryd.prog 11 #[.string s] w (RetRcS s w) := by
  by_cases hlen : 4000 < s.size
  · go_enter Tryd.func11, Tryd.ntmps11
    go_wp2_with fail
    go_ret3
    exact (RetRcO.no hlen (Ext.refl _)).toS
  obtain ⟨m, hm⟩ : ∃ m, (partsB 10 s).length = m + 1 := ⟨(partsB 10 s).length - 1, by have := (partsB_len 10 s).1; omega⟩
  have HM := Lib.hid hm
  have hms : m ≤ s.size := by have := (partsB_len 10 s).2; omega
  have HYes := Lib.hid (fun i ad c w' => RetRcO.yes (s := s) (i := i) (ad := ad) (c := c) (w := w) (w' := w') (by omega))
  rw [hm, Nat.add_sub_cancel] at HYes
  have HOff := Lib.hid (fun i (h : i < m + 1) => off_bd 10 s i (by omega))
  have HPb := Lib.hid (fun i (h : i < m) => part_bd 10 s i (by omega))
  have HLi := Lib.hid (spec_lines s m w hs hm)
  have HLg := Lib.hid (fun i (h : i < m) => lines_gs s i (by omega))
  have HLl := Lib.hid (show (linesB s).length = m by rw [lines_len, hm, Nat.add_sub_cancel])
  obtain ⟨PS, hPS⟩ : ∃ PS, PS = partsB 10 s := ⟨_, rfl⟩
  rw [← hPS] at HYes HOff HPb HLg
  clear hm hPS
  go_enter Tryd.func11, Tryd.ntmps11
  go_wp2_with (refine HLi.out.mono ?_; rintro e w1 ⟨a1, c1, z1, rfl, hs1, hx1⟩)
  obtain ⟨b, off, hix, hcell⟩ := hs1.ix (P := Tryd.prog) 22 9 und_strs cell_str
  have HCl := Lib.hid hcell
  clear hcell hs1
  go_loopw [7, 8, 9, 10, 11, 12] (fun o ck n' ii _ _ wr => ∃ (i : Nat) (ad : Option Addr) (c : Nat), i ≤ m ∧ ii = .int .i64 i ∧ o = .slice ad i c ∧ n' = .int .i64 (offB PS i : Nat) ∧ ck = .int .i64 (ckJ PS i) ∧ Hid (∀ j, j < i → recOk PS j = true) ∧ Hid (Own wr w1.heap.size 9 ad i c (St (recLines PS i))) ∧ Ext w1 wr) (fun _ _ _ ii _ _ _ => m - (intOf ii).toNat)
  case atStart => exact ⟨0, _, _, Nat.zero_le _, rfl, rfl, rfl, rfl, fun j hj => by omega, Own.lit0 w1 _, (by repeat (first | (with_reducible exact Ext.refl _) | (with_reducible refine Ext.drewN ?_ _) | (with_reducible refine Ext.drew ?_) | (with_reducible refine Ext.alloc ?_ _) | ((with_reducible refine Ext.setCell ?_ ?_ _); rotate_left; focus (first | (simp; done) | (simp; omega) | omega)) | assumption | (with_reducible refine Ext.trans ?_ (by assumption))))⟩
  case round =>
    obtain ⟨i, ad, c, hi, rfl, rfl, rfl, rfl, HR, HO, hx⟩ := hrel
    have hxw : Ext w wr := hx1.trans hx
    have hof := HOff.out i (by omega)
    by_cases hlt : i < m
    · have hpb := HPb.out i hlt
      have HOs := Lib.hid (show offB PS (i + 1) = offB PS i + ((gs PS i).size + 1) from rfl)
      have hck := ckJ_bd PS i
      have hck2 := ckJ_bd PS (i + 1)
      have hle := lineOf_le (gs PS i)
      have HCk := Lib.hid (fun W => spec_check (ckJ PS i) (lineOf (gs PS i)) W hck.1 hck.2 (by omega))
      have HEq := Lib.hid (show ckS (ckJ PS i) (lineOf (gs PS i)) = ckJ PS (i + 1) from rfl)
      rw [HEq.out] at HCk
      have HNo1 := Lib.hid (rec_no (ps := PS) (i := i))
      have HNo2 := Lib.hid (rec_no2 (ps := PS) (i := i))
      have HYs := Lib.hid (rec_yes (ps := PS) (i := i))
      have HLs := Lib.hid (recLines_step PS i)
      have HD := Lib.hid (fun W => spec_dec (ckJ PS (i + 1)).toNat W (by omega))
      rw [Int.toNat_of_nonneg hck2.1] at HD
      obtain ⟨o, ho⟩ : ∃ o, o = offB PS i := ⟨_, rfl⟩
      rw [← ho] at HOs hpb hof ⊢
      have HOo := Lib.hid ho
      obtain ⟨p, hp⟩ : ∃ p, p = gs PS i := ⟨_, rfl⟩
      have hci : ∀ w', Ext w1 w' → w'.cell? ⟨b, off + i, none⟩ = some (.string p) := fun w' h => by rw [hp, ← HLg.out i hlt]; exact HCl.out i w' hlt h
      have hxi : ∀ (K : IntKind) (w' : World), (Instr.indexAt 22 (.slice a1 m c1) (.int K i)).run Tryd.prog w' = .ok (.pointer (some ⟨b, off + i, none⟩)) w' := fun K w' => by
        have h := hix (i : Int) K w' (by omega) (by omega)
        rwa [Int.toNat_natCast] at h
      rw [← hp] at HOs hpb HCk HNo1 HNo2 HYs HLs hle
      generalize hg2 : ckJ PS (i + 1) = ck2 at *
      have HG2 := Lib.hid hg2
      generalize ckJ PS i = ck1 at *
      clear hg2 hp ho HEq hix
      obtain ⟨wo, hwo⟩ : ∃ wo, wo = wr := ⟨_, rfl⟩
      subst hwo
      go_wp2_with fail
      go_loopw [11] (fun jj wr => ∃ j : Nat, j ≤ p.size ∧ jj = .int .i64 j ∧ Hid (32 ∉ (bl p).take j) ∧ Ext wo wr) (fun jj _ => p.size - (intOf jj).toNat)
      case atStart => exact ⟨0, Nat.zero_le _, rfl, by simp [Hid], (by repeat (first | (with_reducible exact Ext.refl _) | (with_reducible refine Ext.drewN ?_ _) | (with_reducible refine Ext.drew ?_) | (with_reducible refine Ext.alloc ?_ _) | ((with_reducible refine Ext.setCell ?_ ?_ _); rotate_left; focus (first | (simp; done) | (simp; omega) | omega)) | assumption | (with_reducible refine Ext.trans ?_ (by assumption))))⟩
      case round =>
        obtain ⟨j, hj, rfl, HB, hxo⟩ := hrel
        have hrr : Ext wr wr := Ext.refl _
        have hx1r : Ext w1 wr := hx.trans hxo
        have hxwr : Ext w wr := hxw.trans hxo
        by_cases hlj : j < p.size
        · by_cases he : p[j] = 32
          · have HSp := Lib.hid (sp_at hlj HB.out he)
            have he2 : ((p[j].toNat : Int) == 32) = true := by rw [he]; rfl
            have hne : ((j : Int) == (p.size : Int)) = false := by rw [beq_eq_false_iff_ne]; omega
            have HLo := Lib.hid (show lineOf p = p.extract (j + 1) p.size by unfold lineOf; rw [HSp.out, if_pos (by omega), Int.toNat_natCast])
            have HPo := Lib.hid (show preOf p = p.extract 0 j by unfold preOf; rw [HSp.out, Int.toNat_natCast])
            have HS0 := Lib.hid (show 0 ≤ spI p by rw [HSp.out]; omega)
            clear he
            by_cases hpre : preOf p = decS ck2
            · have HR2 := Lib.hid (all_step' HR.out (HYs.out HS0.out hpre))
              have heq : ((p.extract 0 j).toList == (decS ck2).toList) = true := bs_iff.2 (by rw [← HPo.out]; exact hpre)
              clear hpre HNo1 HNo2 HYs
              go_wp2_with (rw [← HLo.out]; go_at_call 27; refine (HCk.out _).mono ?_; rintro e w2 ⟨rfl, rfl⟩)
              (refine wp_region_up (by kernel_rfl) (by kernel_rfl) (by kernel_rfl) ?_; (repeat (first | (refine mix_q rfl ?_; go_big_quiet_step (fail); refine wpQuiet_nil ?_; show wpMix _ _ _ _ _ _ _) | (refine mix_s rfl ?_; go_wp2_with ((go_at_call 28; refine (HD.out _).mono ?_; rintro e w2 ⟨rfl, hx2⟩)); first | refine ⟨up_of (by repeat (first | (with_reducible exact Ext.refl _) | (with_reducible refine Ext.drewN ?_ _) | (with_reducible refine Ext.drew ?_) | (with_reducible refine Ext.alloc ?_ _) | ((with_reducible refine Ext.setCell ?_ ?_ _); rotate_left; focus (first | (simp; done) | (simp; omega) | omega)) | assumption | (with_reducible refine Ext.trans ?_ (by assumption)))), ?_⟩ | refine ⟨rfl, rfl, up_of (by repeat (first | (with_reducible exact Ext.refl _) | (with_reducible refine Ext.drewN ?_ _) | (with_reducible refine Ext.drew ?_) | (with_reducible refine Ext.alloc ?_ _) | ((with_reducible refine Ext.setCell ?_ ?_ _); rotate_left; focus (first | (simp; done) | (simp; omega) | omega)) | assumption | (with_reducible refine Ext.trans ?_ (by assumption)))), ?_⟩))); refine mix_nil ?_)
              try rw [heq]
              go_wp2_with (at_builtin; refine law_append1 _ rfl _ _ 22 rfl 9 (.string .empty) 16 und_strs info_str rfl w1.heap.size ad i c (St (recLines PS i)) _ rfl rfl rfl (Own.ext HO.out (hxo.trans (by repeat (first | (with_reducible exact Ext.refl _) | (with_reducible refine Ext.drewN ?_ _) | (with_reducible refine Ext.drew ?_) | (with_reducible refine Ext.alloc ?_ _) | ((with_reducible refine Ext.setCell ?_ ?_ _); rotate_left; focus (first | (simp; done) | (simp; omega) | omega)) | assumption | (with_reducible refine Ext.trans ?_ (by assumption)))))) (Ext.le (hx1r.trans (by repeat (first | (with_reducible exact Ext.refl _) | (with_reducible refine Ext.drewN ?_ _) | (with_reducible refine Ext.drew ?_) | (with_reducible refine Ext.alloc ?_ _) | ((with_reducible refine Ext.setCell ?_ ?_ _); rotate_left; focus (first | (simp; done) | (simp; omega) | omega)) | assumption | (with_reducible refine Ext.trans ?_ (by assumption)))))) (by omega) (by omega) ?_; intro ad' c' w3 ho3 hb3 _; have hxw3 : Ext w1 w3 := Ext.below (hx1r.trans (by repeat (first | (with_reducible exact Ext.refl _) | (with_reducible refine Ext.drewN ?_ _) | (with_reducible refine Ext.drew ?_) | (with_reducible refine Ext.alloc ?_ _) | ((with_reducible refine Ext.setCell ?_ ?_ _); rotate_left; focus (first | (simp; done) | (simp; omega) | omega)) | assumption | (with_reducible refine Ext.trans ?_ (by assumption))))) hb3)
              exact ⟨⟨i + 1, ad', c', hlt, by go_num, rfl, by rw [HOs.out]; go_num, by rw [HG2.out], HR2.out, by rw [Hid, HLs.out, St_append]; exact ho3, hxw3⟩, by simp [intOf]; omega⟩
            · have HNo := Lib.hid (HNo2.out hpre)
              have heq : ((p.extract 0 j).toList == (decS ck2).toList) = false := bs_ne (by rw [← HPo.out]; exact hpre)
              clear hpre HNo1 HNo2 HYs
              go_wp2_with (rw [← HLo.out]; go_at_call 27; refine (HCk.out _).mono ?_; rintro e w2 ⟨rfl, rfl⟩)
              (refine wp_region_up (by kernel_rfl) (by kernel_rfl) (by kernel_rfl) ?_; (repeat (first | (refine mix_q rfl ?_; go_big_quiet_step (fail); refine wpQuiet_nil ?_; show wpMix _ _ _ _ _ _ _) | (refine mix_s rfl ?_; go_wp2_with ((go_at_call 28; refine (HD.out _).mono ?_; rintro e w2 ⟨rfl, hx2⟩)); first | refine ⟨up_of (by repeat (first | (with_reducible exact Ext.refl _) | (with_reducible refine Ext.drewN ?_ _) | (with_reducible refine Ext.drew ?_) | (with_reducible refine Ext.alloc ?_ _) | ((with_reducible refine Ext.setCell ?_ ?_ _); rotate_left; focus (first | (simp; done) | (simp; omega) | omega)) | assumption | (with_reducible refine Ext.trans ?_ (by assumption)))), ?_⟩ | refine ⟨rfl, rfl, up_of (by repeat (first | (with_reducible exact Ext.refl _) | (with_reducible refine Ext.drewN ?_ _) | (with_reducible refine Ext.drew ?_) | (with_reducible refine Ext.alloc ?_ _) | ((with_reducible refine Ext.setCell ?_ ?_ _); rotate_left; focus (first | (simp; done) | (simp; omega) | omega)) | assumption | (with_reducible refine Ext.trans ?_ (by assumption)))), ?_⟩))); refine mix_nil ?_)
              try rw [heq]
              go_wp2
              go_ret3
              rw [HOo.out]
              exact (HYes.out i ad c _ hi HR.out (.inr HNo.out) (Own.mono (Own.ext HO.out (hxo.trans (by repeat (first | (with_reducible exact Ext.refl _) | (with_reducible refine Ext.drewN ?_ _) | (with_reducible refine Ext.drew ?_) | (with_reducible refine Ext.alloc ?_ _) | ((with_reducible refine Ext.setCell ?_ ?_ _); rotate_left; focus (first | (simp; done) | (simp; omega) | omega)) | assumption | (with_reducible refine Ext.trans ?_ (by assumption)))))) hx1.le) (hxwr.trans (by repeat (first | (with_reducible exact Ext.refl _) | (with_reducible refine Ext.drewN ?_ _) | (with_reducible refine Ext.drew ?_) | (with_reducible refine Ext.alloc ?_ _) | ((with_reducible refine Ext.setCell ?_ ?_ _); rotate_left; focus (first | (simp; done) | (simp; omega) | omega)) | assumption | (with_reducible refine Ext.trans ?_ (by assumption)))))).toS
          · have HB2 := Lib.hid (show 32 ∉ (bl p).take (j + 1) by
              rw [take_bl p j hlj, List.mem_append, not_or]
              exact ⟨HB.out, by simp; exact fun h => he h.symm⟩)
            have he2 : ((p[j].toNat : Int) == 32) = false := u8_ne (b := 32) he
            clear he
            go_wp2
            exact ⟨⟨j + 1, hlj, by go_num, HB2.out, hxo.trans (by repeat (first | (with_reducible exact Ext.refl _) | (with_reducible refine Ext.drewN ?_ _) | (with_reducible refine Ext.drew ?_) | (with_reducible refine Ext.alloc ?_ _) | ((with_reducible refine Ext.setCell ?_ ?_ _); rotate_left; focus (first | (simp; done) | (simp; omega) | omega)) | assumption | (with_reducible refine Ext.trans ?_ (by assumption))))⟩, by simp [intOf]; omega⟩
        · have HNo := Lib.hid (HNo1.out (by have h := sp_none (p := p) (by have := HB.out; rwa [List.take_of_length_le (by rw [bl_len]; omega)] at this); omega))
          have hje : j = p.size := by omega
          subst hje
          clear HNo1 HNo2 HYs hlj
          go_wp2
          go_ret3
          rw [HOo.out]
          exact (HYes.out i ad c _ hi HR.out (.inr HNo.out) (Own.mono (Own.ext HO.out (hxo.trans (by repeat (first | (with_reducible exact Ext.refl _) | (with_reducible refine Ext.drewN ?_ _) | (with_reducible refine Ext.drew ?_) | (with_reducible refine Ext.alloc ?_ _) | ((with_reducible refine Ext.setCell ?_ ?_ _); rotate_left; focus (first | (simp; done) | (simp; omega) | omega)) | assumption | (with_reducible refine Ext.trans ?_ (by assumption)))))) hx1.le) (hxwr.trans (by repeat (first | (with_reducible exact Ext.refl _) | (with_reducible refine Ext.drewN ?_ _) | (with_reducible refine Ext.drew ?_) | (with_reducible refine Ext.alloc ?_ _) | ((with_reducible refine Ext.setCell ?_ ?_ _); rotate_left; focus (first | (simp; done) | (simp; omega) | omega)) | assumption | (with_reducible refine Ext.trans ?_ (by assumption)))))).toS
    · obtain rfl : i = m := by omega
      obtain ⟨o, ho⟩ : ∃ o, o = offB PS i := ⟨_, rfl⟩
      rw [← ho]
      have HOo := Lib.hid ho
      clear ho hof
      go_wp2
      go_ret3
      rw [HOo.out]
      exact (HYes.out i ad c _ hi HR.out (.inl rfl) (Own.mono (Own.ext HO.out (by repeat (first | (with_reducible exact Ext.refl _) | (with_reducible refine Ext.drewN ?_ _) | (with_reducible refine Ext.drew ?_) | (with_reducible refine Ext.alloc ?_ _) | ((with_reducible refine Ext.setCell ?_ ?_ _); rotate_left; focus (first | (simp; done) | (simp; omega) | omega)) | assumption | (with_reducible refine Ext.trans ?_ (by assumption))))) hx1.le) (hxw.trans (by repeat (first | (with_reducible exact Ext.refl _) | (with_reducible refine Ext.drewN ?_ _) | (with_reducible refine Ext.drew ?_) | (with_reducible refine Ext.alloc ?_ _) | ((with_reducible refine Ext.setCell ?_ ?_ _); rotate_left; focus (first | (simp; done) | (simp; omega) | omega)) | assumption | (with_reducible refine Ext.trans ?_ (by assumption)))))).toS
end Go.Proofs.YtkiolfmdofldbaaDoor
