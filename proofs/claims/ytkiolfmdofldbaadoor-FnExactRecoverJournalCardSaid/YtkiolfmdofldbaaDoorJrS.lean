/- Walks: journals, in the reference. -/
import Derived.Test.YtkiolfmdofldbaaDoorJr
namespace Go.Proofs.YtkiolfmdofldbaaDoor
set_option maxRecDepth 100000
open Go.RowKit Go.Sort

theorem jrK_sum (l : List ByteArray) : ∀ k, (jrK l k).size ≤ sumK l k + 20 * k ∧ 3 * k ≤ sumK l k
  | 0 => by simp [jrK, sumK]
  | k + 1 => by
    have h1 := jrK_sum l k
    have h2 := decS_le (ckK l (k + 1)) (ckK_bd l (k + 1)).1 (by have := (ckK_bd l (k + 1)).2; omega)
    rw [jrK_step, sumK]; omega
set_option maxHeartbeats 4000000 in
theorem spec_journal (a : Option Addr) (n c : Nat) (l : List ByteArray) (w : World) (hv : Strs w a n c l) (hn : n ≤ 1048576) (hs : (jrK l n).size ≤ 1048576) :
    Calls Tryd.prog 19 #[.slice a n c] w (Ret (.string (jrK l n)) w) := by
  have HL := Lib.hid hv.len
  have HS := Lib.hid (fun k (h : k < n) => Nat.le_trans (jrK_mono l (show k + 1 ≤ n from h)) hs)
  obtain ⟨b, off, hix, hcell⟩ := hv.ix (P := Tryd.prog) 22 9 und_strs cell_str
  clear hv hs
  go_enter Tryd.func19, Tryd.ntmps19
  go_wp2_with fail
  go_loopw [3, 4, 5] (fun o ck i wr => ∃ k : Nat, k ≤ n ∧ i = .int .i64 k ∧ ck = .int .i64 (ckK l k) ∧ o = .string (jrK l k) ∧ Ext w wr) (fun _ _ i _ => n - (intOf i).toNat)
  case atStart => exact ⟨0, Nat.zero_le _, rfl, rfl, rfl, Ext.refl _⟩
  case round =>
    obtain ⟨k, hk, rfl, rfl, rfl, hx⟩ := hrel
    have hrr : Ext wr wr := Ext.refl _
    by_cases hlt : k < n
    · have hsz := HS.out k hlt
      rw [jrK_step] at hsz
      have hck := ckK_bd l k
      have hck2 := ckK_bd l (k + 1)
      have HCk := Lib.hid (fun W => spec_check (ckK l k) (gs l k) W hck.1 hck.2 (by omega))
      have HEq := Lib.hid (show ckS (ckK l k) (gs l k) = ckK l (k + 1) from rfl)
      rw [HEq.out] at HCk
      have HD := Lib.hid (fun W => spec_dec (ckK l (k + 1)).toNat W (by omega))
      rw [Int.toNat_of_nonneg hck2.1] at HD
      have hds := decS_le (ckK l (k + 1)) hck2.1 (by omega)
      have HJs := Lib.hid (show jrK l k ++ (decS (ckK l (k + 1)) ++ ⟨#[32]⟩ ++ gs l k ++ ⟨#[10]⟩) = jrK l (k + 1) from rfl)
      generalize hg2 : ckK l (k + 1) = ck2 at *
      have HG2 := Lib.hid hg2
      generalize ckK l k = ck1 at *
      clear hg2 HS
      go_wp2_with (refine (HCk.out _).mono ?_; rintro e w1 ⟨rfl, rfl⟩)
      (refine wp_region_up (by kernel_rfl) (by kernel_rfl) (by kernel_rfl) ?_; (repeat (first | (refine mix_q rfl ?_; go_big_quiet_step (fail); refine wpQuiet_nil ?_; show wpMix _ _ _ _ _ _ _) | (refine mix_s rfl ?_; go_wp2_with ((go_at_call 28; refine (HD.out _).mono ?_; rintro e w2 ⟨rfl, hx2⟩)); first | refine ⟨up_of (by repeat (first | (with_reducible exact Ext.refl _) | (with_reducible refine Ext.drewN ?_ _) | (with_reducible refine Ext.drew ?_) | (with_reducible refine Ext.alloc ?_ _) | ((with_reducible refine Ext.setCell ?_ ?_ _); rotate_left; focus (first | (simp; done) | (simp; omega) | omega)) | assumption | (with_reducible refine Ext.trans ?_ (by assumption)))), ?_⟩ | refine ⟨rfl, rfl, up_of (by repeat (first | (with_reducible exact Ext.refl _) | (with_reducible refine Ext.drewN ?_ _) | (with_reducible refine Ext.drew ?_) | (with_reducible refine Ext.alloc ?_ _) | ((with_reducible refine Ext.setCell ?_ ?_ _); rotate_left; focus (first | (simp; done) | (simp; omega) | omega)) | assumption | (with_reducible refine Ext.trans ?_ (by assumption)))), ?_⟩))); refine mix_nil ?_)
      go_wp2
      exact ⟨⟨k + 1, by omega, by go_num, by rw [HG2.out], by rw [HJs.out], hx.trans (by repeat (first | (with_reducible exact Ext.refl _) | (with_reducible refine Ext.drewN ?_ _) | (with_reducible refine Ext.drew ?_) | (with_reducible refine Ext.alloc ?_ _) | ((with_reducible refine Ext.setCell ?_ ?_ _); rotate_left; focus (first | (simp; done) | (simp; omega) | omega)) | assumption | (with_reducible refine Ext.trans ?_ (by assumption))))⟩, by simp [intOf]; omega⟩
    · obtain rfl : k = n := by omega
      go_wp2
      go_ret
      exact ⟨rfl, hx⟩
set_option maxHeartbeats 4000000 in
theorem spec_JournalOf (a : Option Addr) (n c : Nat) (l : List ByteArray) (w : World) (hv : Strs w a n c l) (hn : n ≤ 1048576) (hs : ∀ x ∈ l, x.size ≤ 1048576) :
    Calls Tryd.prog 7 #[.slice a n c] w (RetTB (jrT l) (jrOk l) w) := by
  have HL := Lib.hid hv.len
  have HS := Lib.hid (fun k (h : k < n) => hs _ (gs_mem (l := l) (k := k) (by rw [HL.out]; exact h)))
  have HJ := Lib.hid (fun h => spec_journal a n c l w hv hn h)
  obtain ⟨b, off, hix, hcell⟩ := hv.ix (P := Tryd.prog) 22 9 und_strs cell_str
  have hxw : Ext w w := Ext.refl w
  clear hv hs
  go_enter Tryd.func7, Tryd.ntmps7
  go_wp2
  go_loop [4, 5, 6] (fun v i _ => ∃ (k m : Nat), k ≤ n ∧ i = .int .i64 k ∧ v = .int .i64 (m : Int) ∧ Hid (m = sumK l k) ∧ m ≤ 4000 ∧ Hid (noNl l k)) (fun _ i _ => n - (intOf i).toNat)
  case atStart => exact ⟨0, 0, Nat.zero_le _, rfl, rfl, rfl, by omega, fun j hj => by omega⟩
  case round =>
    obtain ⟨k, m, hk, rfl, rfl, HM, hm, HN⟩ := hrel
    by_cases hlt : k < n
    · have HSk := HS.out k hlt
      have hkl : k < l.length := by rw [HL.out]; exact hlt
      have HMs := Lib.hid (show m + ((gs l k).size + 3) = sumK l (k + 1) by rw [HM.out]; rfl)
      by_cases h1 : (4000 : Int) < (m : Int) + (((gs l k).size : Int) + 3)
      · have HJn := Lib.hid (jrOk_sum (l := l) (k := k + 1) hkl (by rw [← HMs.out]; omega))
        clear hkl
        go_wp2
        go_ret2
        exact RetTB.no HJn.out hxw
      · go_wp2
        go_loop [6] (fun i => ∃ j : Nat, j ≤ (gs l k).size ∧ i = .int .i64 j ∧ Hid (10 ∉ (bl (gs l k)).take j)) (fun i => (gs l k).size - (intOf i).toNat)
        case atStart => exact ⟨0, Nat.zero_le _, rfl, by simp [Hid]⟩
        case round =>
          obtain ⟨j, hj, rfl, HB⟩ := hrel
          by_cases hlj : j < (gs l k).size
          · have HTk := Lib.hid (show (bl (gs l k)).take (j + 1) = (bl (gs l k)).take j ++ [(gs l k)[j]] by
              rw [List.take_add_one, List.getElem?_eq_getElem (by rw [bl_len]; exact hlj)]
              simp only [Option.toList_some]
              rw [bl_at (gs l k) j hlj])
            by_cases he : (gs l k)[j] = 10
            · have HJn := Lib.hid (jrOk_nl (l := l) (k := k) hkl (by
                rw [hasB, decide_eq_true_eq, List.mem_iff_getElem]
                exact ⟨j, by rw [bl_len]; exact hlj, by rw [bl_at (gs l k) j hlj, he]⟩))
              have he2 : (((gs l k)[j].toNat : Int) == 10) = true := by rw [he]; rfl
              clear he hkl
              go_wp2
              go_ret2
              exact RetTB.no HJn.out hxw
            · have HB2 := Lib.hid (show 10 ∉ (bl (gs l k)).take (j + 1) by
                rw [HTk.out, List.mem_append, not_or]
                exact ⟨HB.out, by simp; exact fun h => he h.symm⟩)
              have he2 : (((gs l k)[j].toNat : Int) == 10) = false := by
                rw [beq_eq_false_iff_ne]; intro h; apply he
                exact UInt8.toNat_inj.1 (by have : (gs l k)[j].toNat = 10 := by omega
                                            rw [this]; rfl)
              clear he
              go_wp2
              exact ⟨⟨j + 1, hlj, by go_num, HB2.out⟩, by simp [intOf]; omega⟩
          · have HNk := Lib.hid (noNl_step HN.out (by
              rw [hasB, decide_eq_false_iff_not]
              have := HB.out
              rwa [List.take_of_length_le (by rw [bl_len]; omega)] at this))
            go_wp2
            exact ⟨⟨k + 1, m + ((gs l k).size + 3), by omega, by go_num, by go_num, HMs.out, by omega, HNk.out⟩, by simp [intOf]; omega⟩
    · obtain rfl : k = n := by omega
      have HJs := Lib.hid (HJ.out (by have h1 := jrK_sum l k; have := HM.out; omega))
      by_cases h2 : 4000 < (jrK l k).size
      · have HJn := Lib.hid (jrOk_long (l := l) (k := k) (by rw [HL.out]; exact Nat.le_refl _) h2)
        go_wp2_with (refine HJs.out.mono ?_; rintro e w1 ⟨rfl, hx1⟩)
        go_ret2
        exact RetTB.no HJn.out hx1
      · have HJn := Lib.hid (jrOk_yes (l := l) (by rw [HL.out]; exact HN.out) (by rw [HL.out]; omega))
        have HE := Lib.hid (show jrK l k = jrK l l.length by rw [HL.out])
        go_wp2_with (refine HJs.out.mono ?_; rintro e w1 ⟨rfl, hx1⟩)
        go_ret2
        rw [HE.out]
        exact RetTB.yes HJn.out hx1
end Go.Proofs.YtkiolfmdofldbaaDoor
