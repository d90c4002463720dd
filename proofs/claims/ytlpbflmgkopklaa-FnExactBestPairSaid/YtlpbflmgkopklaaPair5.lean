/- Walks: BestPair of the reference. -/
import Derived.Test.YtlpbflmgkopklaaPair4
import Derived.Test.YtlpbflmgkopklaaLm3
namespace Go.Proofs.Ytlpbflmgkopklaa
set_option maxRecDepth 100000
open Go.RowKit

theorem pairB_no {base : Int} (h : pairB base = false) : (base != 2) = true ∧ (base != 3) = true ∧ (base != 5) = true := by
  unfold pairB at h
  simp only [Bool.or_eq_false_iff] at h
  exact ⟨by rw [bne, h.1.1]; rfl, by rw [bne, h.1.2]; rfl, by rw [bne, h.2]; rfl⟩
theorem bp_len (base places : Int) : ((bpO base places).1.getD []).length ≤ 12 := by
  cases h : bpOk base places
  · rw [bpO_no h]; simp
  · have ho : bpO base places = bpF base.toNat places.toNat (base.toNat ^ (2 * places.toNat)) := by unfold bpO; rw [h]; rfl
    rw [ho]
    cases hl : (bpF base.toNat places.toNat (base.toNat ^ (2 * places.toNat))).1 with
    | none => simp
    | some l =>
      have h1 := bpF_len _ _ _ hl
      unfold bpOk at h
      simp only [Bool.and_eq_true] at h
      obtain ⟨p1, p2⟩ := inB_t.1 h.2.1
      show l.length ≤ 12
      omega
theorem bp_len1 (base places : Int) : (bpL1 base places).length ≤ 1048576 := by have := bp_len base places; unfold bpL1; rw [List.length_take]; omega
theorem bp_len2 (base places : Int) : (bpL2 base places).length ≤ 1048576 := by have := bp_len base places; unfold bpL2; rw [List.length_drop]; omega
set_option maxHeartbeats 8000000 in
theorem spec_BP (base places : Int) (w : World) :
    Calls Try.prog 10 #[.int .i64 base, .int .i64 places] w (RetLLNB (bpL1 base places) (bpL2 base places) (bpZ base places) (bpB base places) w) := by
  have HIn := Lib.hid (fun W => spec_in places 1 6 W)
  cases hb : pairB base
  · have HO := Lib.hid (bpO_no (show bpOk base places = false by unfold bpOk; rw [hb]; rfl))
    obtain ⟨e2, e3, e5⟩ := pairB_no hb
    clear hb
    go_enter Try.func10, Try.ntmps10
    go_wp2_with fail
    refine bodyPost_ret (v := .tuple #[.slice none 0 0, .slice none 0 0, .int .i64 0, .bool false]) (by simp [results, Try.results10, go_sem]) rfl ?_
    exact bp_retN HO.out (by repeat (first | (with_reducible exact Ext.refl _) | (with_reducible assumption) | (with_reducible refine Ext.drewN ?_ _) | (with_reducible refine Ext.drew ?_) | (with_reducible refine Ext.alloc ?_ _) | ((with_reducible refine Ext.setCell ?_ ?_ _); rotate_left; focus (first | (simp; done) | (simp; omega) | omega)) | (with_reducible refine Ext.trans ?_ (by with_reducible assumption))))
  have hb3 := pairB_t hb
  cases hp : inB places 1 6
  · rw [hp] at HIn
    have HO := Lib.hid (bpO_no (show bpOk base places = false by unfold bpOk; rw [hp]; simp))
    clear hp hb
    rcases hb3 with hb3 | hb3 | hb3
    · have e2 : (base != 2) = false := by rw [hb3]; rfl
      clear hb3
      go_enter Try.func10, Try.ntmps10
      go_wp2_with ((with_reducible refine (HIn.out _).mono ?_); rintro e w' ⟨rfl, rfl⟩)
      refine bodyPost_ret (v := .tuple #[.slice none 0 0, .slice none 0 0, .int .i64 0, .bool false]) (by simp [results, Try.results10, go_sem]) rfl ?_
      exact bp_retN HO.out (by repeat (first | (with_reducible exact Ext.refl _) | (with_reducible assumption) | (with_reducible refine Ext.drewN ?_ _) | (with_reducible refine Ext.drew ?_) | (with_reducible refine Ext.alloc ?_ _) | ((with_reducible refine Ext.setCell ?_ ?_ _); rotate_left; focus (first | (simp; done) | (simp; omega) | omega)) | (with_reducible refine Ext.trans ?_ (by with_reducible assumption))))
    · have e2 : (base != 2) = true := by rw [hb3]; rfl
      have e3 : (base != 3) = false := by rw [hb3]; rfl
      clear hb3
      go_enter Try.func10, Try.ntmps10
      go_wp2_with ((with_reducible refine (HIn.out _).mono ?_); rintro e w' ⟨rfl, rfl⟩)
      refine bodyPost_ret (v := .tuple #[.slice none 0 0, .slice none 0 0, .int .i64 0, .bool false]) (by simp [results, Try.results10, go_sem]) rfl ?_
      exact bp_retN HO.out (by repeat (first | (with_reducible exact Ext.refl _) | (with_reducible assumption) | (with_reducible refine Ext.drewN ?_ _) | (with_reducible refine Ext.drew ?_) | (with_reducible refine Ext.alloc ?_ _) | ((with_reducible refine Ext.setCell ?_ ?_ _); rotate_left; focus (first | (simp; done) | (simp; omega) | omega)) | (with_reducible refine Ext.trans ?_ (by with_reducible assumption))))
    · have e2 : (base != 2) = true := by rw [hb3]; rfl
      have e3 : (base != 3) = true := by rw [hb3]; rfl
      have e5 : (base != 5) = false := by rw [hb3]; rfl
      clear hb3
      go_enter Try.func10, Try.ntmps10
      go_wp2_with ((with_reducible refine (HIn.out _).mono ?_); rintro e w' ⟨rfl, rfl⟩)
      refine bodyPost_ret (v := .tuple #[.slice none 0 0, .slice none 0 0, .int .i64 0, .bool false]) (by simp [results, Try.results10, go_sem]) rfl ?_
      exact bp_retN HO.out (by repeat (first | (with_reducible exact Ext.refl _) | (with_reducible assumption) | (with_reducible refine Ext.drewN ?_ _) | (with_reducible refine Ext.drew ?_) | (with_reducible refine Ext.alloc ?_ _) | ((with_reducible refine Ext.setCell ?_ ?_ _); rotate_left; focus (first | (simp; done) | (simp; omega) | omega)) | (with_reducible refine Ext.trans ?_ (by with_reducible assumption))))
  rw [hp] at HIn
  obtain ⟨p1, p2⟩ := inB_t.1 hp
  obtain ⟨np, rfl⟩ := Int.eq_ofNat_of_zero_le (show 0 ≤ places by omega)
  obtain ⟨m, rfl⟩ := Int.eq_ofNat_of_zero_le (show 0 ≤ base by omega)
  have hm2 : 2 ≤ m := by omega
  have hm5 : m ≤ 5 := by omega
  obtain ⟨nN, hnN⟩ : ∃ nN, nN = 2 * np := ⟨_, rfl⟩
  have HNN := Lib.hid hnN
  have hnb : nN ≤ 12 := by omega
  have HCT := Lib.hid (show (2 * (np : Int)) = (nN : Int) by omega)
  have HFw := Lib.hid (show ∀ W, Calls Try.prog 38 #[.int .i64 m, .int .i64 (2 * (np : Int))] W (Same (.bool (decide ((m : Int) ^ nN ≤ 20000))) W) from fun W => by
    rw [HCT.out]
    exact spec_few m nN W (by omega) (by omega) (by omega))
  cases hpw : decide ((m : Int) ^ nN ≤ 20000)
  · rw [hpw] at HFw
    have HO := Lib.hid (bpO_no (show bpOk m np = false by unfold bpOk; rw [Int.toNat_natCast, ← hnN, hpw]; simp))
    clear hb hp hpw hnN
    rcases hb3 with hb3 | hb3 | hb3
    · have e2 : ((m : Int) != 2) = false := by rw [hb3]; rfl
      clear hb3
      go_enter Try.func10, Try.ntmps10
      go_wp2_with (first | ((with_reducible refine (HIn.out _).mono ?_); rintro e w' ⟨rfl, rfl⟩) | ((with_reducible refine (HFw.out _).mono ?_); rintro e w' ⟨rfl, rfl⟩))
      refine bodyPost_ret (v := .tuple #[.slice none 0 0, .slice none 0 0, .int .i64 0, .bool false]) (by simp [results, Try.results10, go_sem]) rfl ?_
      exact bp_retN HO.out (by repeat (first | (with_reducible exact Ext.refl _) | (with_reducible assumption) | (with_reducible refine Ext.drewN ?_ _) | (with_reducible refine Ext.drew ?_) | (with_reducible refine Ext.alloc ?_ _) | ((with_reducible refine Ext.setCell ?_ ?_ _); rotate_left; focus (first | (simp; done) | (simp; omega) | omega)) | (with_reducible refine Ext.trans ?_ (by with_reducible assumption))))
    · have e2 : ((m : Int) != 2) = true := by rw [hb3]; rfl
      have e3 : ((m : Int) != 3) = false := by rw [hb3]; rfl
      clear hb3
      go_enter Try.func10, Try.ntmps10
      go_wp2_with (first | ((with_reducible refine (HIn.out _).mono ?_); rintro e w' ⟨rfl, rfl⟩) | ((with_reducible refine (HFw.out _).mono ?_); rintro e w' ⟨rfl, rfl⟩))
      refine bodyPost_ret (v := .tuple #[.slice none 0 0, .slice none 0 0, .int .i64 0, .bool false]) (by simp [results, Try.results10, go_sem]) rfl ?_
      exact bp_retN HO.out (by repeat (first | (with_reducible exact Ext.refl _) | (with_reducible assumption) | (with_reducible refine Ext.drewN ?_ _) | (with_reducible refine Ext.drew ?_) | (with_reducible refine Ext.alloc ?_ _) | ((with_reducible refine Ext.setCell ?_ ?_ _); rotate_left; focus (first | (simp; done) | (simp; omega) | omega)) | (with_reducible refine Ext.trans ?_ (by with_reducible assumption))))
    · have e2 : ((m : Int) != 2) = true := by rw [hb3]; rfl
      have e3 : ((m : Int) != 3) = true := by rw [hb3]; rfl
      have e5 : ((m : Int) != 5) = false := by rw [hb3]; rfl
      clear hb3
      go_enter Try.func10, Try.ntmps10
      go_wp2_with (first | ((with_reducible refine (HIn.out _).mono ?_); rintro e w' ⟨rfl, rfl⟩) | ((with_reducible refine (HFw.out _).mono ?_); rintro e w' ⟨rfl, rfl⟩))
      refine bodyPost_ret (v := .tuple #[.slice none 0 0, .slice none 0 0, .int .i64 0, .bool false]) (by simp [results, Try.results10, go_sem]) rfl ?_
      exact bp_retN HO.out (by repeat (first | (with_reducible exact Ext.refl _) | (with_reducible assumption) | (with_reducible refine Ext.drewN ?_ _) | (with_reducible refine Ext.drew ?_) | (with_reducible refine Ext.alloc ?_ _) | ((with_reducible refine Ext.setCell ?_ ?_ _); rotate_left; focus (first | (simp; done) | (simp; omega) | omega)) | (with_reducible refine Ext.trans ?_ (by with_reducible assumption))))
  rw [hpw] at HFw
  have HO := Lib.hid (show bpO m np = bpF m np (m ^ nN) by unfold bpO bpOk; rw [Int.toNat_natCast, Int.toNat_natCast, ← hnN, hpw, hb, hp]; rfl)
  have hNp : 0 < m ^ nN := Nat.pow_pos (by omega)
  obtain ⟨N, hN⟩ : ∃ N, N = m ^ nN := ⟨_, rfl⟩
  have HN := Lib.hid hN
  have hN0 : 0 < N := by omega
  have hnn : nN - np = np := by omega
  have hnp2 : np ≤ nN := by omega
  have HBd := Lib.hid (fun t => bpF_bd m np t)
  have HLn := Lib.hid (fun t l => bpF_len m np t (l := l))
  have HFs := Lib.hid (show ∀ t, bpF m np (t + 1) = if (bpF m np t).2 < apF m np ((tupAt m nN t).take np) ((tupAt m nN t).drop np) (m ^ np) then (some (tupAt m nN t), apF m np ((tupAt m nN t).take np) ((tupAt m nN t).drop np) (m ^ np)) else bpF m np t from fun t => by rw [hnN, bpF])
  have HTs := Lib.hid (fun t (ht : t < m ^ nN) => tup_small (m := m) (n := nN) (t := t) (by omega) (by omega) ht)
  rw [← hN] at HO HTs
  have HX0 := Lib.hid (Ext.refl w)
  clear hb hp hpw hnN hN hNp
  have way : ∀ b2 b3 b5 : Bool, ((m : Int) != 2) = b2 → ((m : Int) != 3) = b3 → ((m : Int) != 5) = b5 → (b2 && (b3 && b5)) = false → Calls Try.prog 10 #[.int .i64 m, .int .i64 np] w (RetLLNB (bpL1 m np) (bpL2 m np) (bpZ m np) (bpB m np) w) := by
    clear hb3
    intro b2 b3 b5 e2 e3 e5 hbb
    have h3 : b2 = false ∨ (b2 = true ∧ b3 = false) ∨ (b2 = true ∧ b3 = true ∧ b5 = false) := by revert hbb; cases b2 <;> cases b3 <;> cases b5 <;> simp
    clear hbb
    rcases h3 with rfl | ⟨rfl, rfl⟩ | ⟨rfl, rfl, rfl⟩
    all_goals
      go_enter Try.func10, Try.ntmps10
      go_wp2_with (first | ((with_reducible refine (HIn.out _).mono ?_); rintro e w' ⟨rfl, rfl⟩) | ((with_reducible refine (HFw.out _).mono ?_); rintro e w' ⟨rfl, rfl⟩) | (at_make; refine law_make _ rfl _ _ 22 rfl 2 (.int .i64 0) 8 und_int64s info_int64 rfl _ _ nN (congrArg (Value.int .i64) HCT.out) (congrArg (Value.int .i64) HCT.out) (by omega) (by unfold maxLen; omega) ?_; intro w1 hown hx hsz))
      have HR0 := Lib.hid (show Own (w1.alloc (.cells #[] 2)) w.heap.size 2 (some ⟨w.heap.size, 0, none⟩) nN nN (I (tupAt m nN (0 % N))) by rw [Nat.zero_mod, tupAt_zero, I_replicate]; exact hown.ext ((Ext.refl _).alloc _))
      have hxr0 : Ext w (w1.alloc (.cells #[] 2)) := hx.alloc _
      have hsr0 : w.heap.size < (w1.alloc (.cells #[] 2)).heap.size := by simp [hsz]; omega
      clear hown hx hsz
      go_loopg [9, 10, 11, 12] N (fun gk s9 s10 s11 _ wr => ∃ (t : Nat) (z : Int) (sa : Option Addr) (sn sc : Nat), t ≤ N ∧ gk = N - t ∧ s9 = .slice sa sn sc ∧ s10 = .int .i64 z ∧ s11 = .bool (decide (t < N)) ∧ Hid (z = (bpF m np t).2) ∧ Hid (∀ l, (bpF m np t).1 = some l → sn = l.length ∧ Own wr (w.heap.size + 1) 2 sa sn sc (I l)) ∧ Hid (Own wr w.heap.size 2 (some ⟨w.heap.size, 0, none⟩) nN nN (I (tupAt m nN (t % N)))) ∧ Ext w wr ∧ w.heap.size < wr.heap.size)
      case atStart => exact ⟨0, 0, _, _, _, Nat.zero_le _, rfl, rfl, rfl, by rw [decide_eq_true hN0], rfl, Lib.hid (fun l h => by cases h), HR0, hxr0, hsr0⟩
      case round =>
        obtain ⟨t, z, sa, sn, sc, ht, rfl, rfl, rfl, rfl, HZ, HB, HRw, hxr, hsr⟩ := hrel
        have hzb := (HBd.out t)
        rw [← HZ.out] at hzb
        by_cases hlt : t < N
        · have hmod : t % N = t := Nat.mod_eq_of_lt hlt
          have HRw2 := Lib.hid (show Own wr w.heap.size 2 (some ⟨w.heap.size, 0, none⟩) nN nN (I (tupAt m nN t)) by have h := HRw.out; rwa [hmod] at h)
          have htN : t < m ^ nN := by rw [← HN.out]; exact hlt
          have HNx := Lib.hid (fun W (h : Ext wr W) => spec_next m nN t w.heap.size w.heap.size nN W (by omega) (by omega) (by omega) htN (HRw2.out.ext h))
          have HOw := Lib.hid (fun W (h : Ext wr W) => spec_own (some ⟨w.heap.size, 0, none⟩) nN nN (tupAt m nN t) W (HRw2.out.ints.ext h) (by omega))
          obtain ⟨a1, r1, i1⟩ := HRw2.out.ints.pre (P := Try.prog) 22 2 und_int64s cell_int64 elem_int64s np hnp2
          obtain ⟨a2, r2, i2⟩ := HRw2.out.ints.suf (P := Try.prog) 22 2 und_int64s cell_int64 elem_int64s np hnp2
          rw [hnn] at r2 i2
          have hts := HTs.out t hlt
          have HAp := Lib.hid (fun W (h : Ext wr W) => spec_apart m np a1 a2 nN np ((tupAt m nN t).take np) ((tupAt m nN t).drop np) W (i1.ext h) (i2.ext h) (by omega) (by omega) (by omega) (hts.take np) (fun x hx => hts x (List.mem_of_mem_drop hx)))
          have HFt := Lib.hid (HFs.out t)
          have hyb := apF_bd m np ((tupAt m nN t).take np) ((tupAt m nN t).drop np) (m ^ np)
          generalize apF m np ((tupAt m nN t).take np) ((tupAt m nN t).drop np) (m ^ np) = y at *
          rw [← HZ.out] at HFt
          rw [decide_eq_true hlt]
          clear hmod i1 i2 hts htN
          have hrr : Ext wr wr := Ext.refl _
          by_cases hzy : z < y
          · have HFy := Lib.hid (HFt.out.trans (if_pos hzy))
            go_wp2_with fail
            (refine wp_region_from wr (by repeat (first | (with_reducible exact Ext.refl _) | (with_reducible refine Ext.drewN ?_ _) | (with_reducible refine Ext.drew ?_) | (with_reducible refine Ext.alloc ?_ _) | ((with_reducible refine Ext.setCell ?_ ?_ _); rotate_left; focus (first | (simp; done) | (simp; omega) | omega)) | assumption | (with_reducible refine Ext.trans ?_ (by assumption)))) (by kernel_rfl) (by kernel_rfl) (seqB_of (by kernel_rfl)) ?_; (repeat (first | (refine mix_q rfl ?_; go_big_quiet_step (fail); refine wpQuiet_nil ?_; show wpMix _ _ _ _ _ _ _) | (refine mix_s rfl ?_; go_wp2_with (((with_reducible refine (HAp.out _ (by repeat (first | (with_reducible exact Ext.refl _) | (with_reducible refine Ext.drewN ?_ _) | (with_reducible refine Ext.drew ?_) | (with_reducible refine Ext.alloc ?_ _) | ((with_reducible refine Ext.setCell ?_ ?_ _); rotate_left; focus (first | (simp; done) | (simp; omega) | omega)) | assumption | (with_reducible refine Ext.trans ?_ (by assumption))))).mono ?_); rintro e w2 ⟨rfl, hy2⟩; have hx2 : Ext wr w2 := Ext.trans (by repeat (first | (with_reducible exact Ext.refl _) | (with_reducible refine Ext.drewN ?_ _) | (with_reducible refine Ext.drew ?_) | (with_reducible refine Ext.alloc ?_ _) | ((with_reducible refine Ext.setCell ?_ ?_ _); rotate_left; focus (first | (simp; done) | (simp; omega) | omega)) | assumption | (with_reducible refine Ext.trans ?_ (by assumption)))) hy2; clear hy2)); first | refine ⟨up_of (by repeat (first | (with_reducible exact Ext.refl _) | (with_reducible refine Ext.drewN ?_ _) | (with_reducible refine Ext.drew ?_) | (with_reducible refine Ext.alloc ?_ _) | ((with_reducible refine Ext.setCell ?_ ?_ _); rotate_left; focus (first | (simp; done) | (simp; omega) | omega)) | assumption | (with_reducible refine Ext.trans ?_ (by assumption)))), ?_⟩ | refine ⟨rfl, rfl, up_of (by repeat (first | (with_reducible exact Ext.refl _) | (with_reducible refine Ext.drewN ?_ _) | (with_reducible refine Ext.drew ?_) | (with_reducible refine Ext.alloc ?_ _) | ((with_reducible refine Ext.setCell ?_ ?_ _); rotate_left; focus (first | (simp; done) | (simp; omega) | omega)) | assumption | (with_reducible refine Ext.trans ?_ (by assumption)))), ?_⟩))); refine mix_nil ?_)
            go_wp2_with (first | (go_at_call 41; (with_reducible refine (HOw.out _ (by repeat (first | (with_reducible exact Ext.refl _) | (with_reducible assumption) | (with_reducible refine Ext.drewN ?_ _) | (with_reducible refine Ext.drew ?_) | (with_reducible refine Ext.alloc ?_ _) | ((with_reducible refine Ext.setCell ?_ ?_ _); rotate_left; focus (first | (simp; done) | (simp; omega) | omega)) | (with_reducible refine Ext.trans ?_ (by with_reducible assumption))))).mono ?_); rintro e w3 ⟨a3, c3, rfl, ho3, hy3⟩; rw [I_len, tupAt_len] at ho3 ⊢; have hx3 : Ext wr w3 := Ext.trans (by repeat (first | (with_reducible exact Ext.refl _) | (with_reducible assumption) | (with_reducible refine Ext.drewN ?_ _) | (with_reducible refine Ext.drew ?_) | (with_reducible refine Ext.alloc ?_ _) | ((with_reducible refine Ext.setCell ?_ ?_ _); rotate_left; focus (first | (simp; done) | (simp; omega) | omega)) | (with_reducible refine Ext.trans ?_ (by with_reducible assumption)))) hy3; have HO3 := Lib.hid (ho3.mono (show w.heap.size + 1 ≤ _ from Nat.le_trans (show w.heap.size + 1 ≤ wr.heap.size from hsr) (Ext.le hx2))); clear hy3 ho3) | ((with_reducible refine (HNx.out _ (by repeat (first | (with_reducible exact Ext.refl _) | (with_reducible assumption) | (with_reducible refine Ext.drewN ?_ _) | (with_reducible refine Ext.drew ?_) | (with_reducible refine Ext.alloc ?_ _) | ((with_reducible refine Ext.setCell ?_ ?_ _); rotate_left; focus (first | (simp; done) | (simp; omega) | omega)) | (with_reducible refine Ext.trans ?_ (by with_reducible assumption))))).mono ?_); rintro e w4 ⟨rfl, ht4, ho4⟩))
            go_roundg (N - (t + 1))
            case measure => omega
            case rel => exact ⟨t + 1, y, a3, nN, c3, hlt, rfl, rfl, rfl, by rw [HN.out], by rw [HFy.out]; rfl, Lib.hid (fun l hl => by
              rw [HFy.out] at hl
              cases hl
              exact ⟨(tupAt_len m nN t).symm, HO3.out.touch ht4 (Nat.lt_succ_self _)⟩), by rw [HN.out]; exact ho4, ext_touch (hxr.trans hx3) ht4, Nat.lt_of_lt_of_le hsr (Nat.le_trans hx3.le ht4.size)⟩
          · have HFy := Lib.hid (HFt.out.trans (if_neg hzy))
            go_wp2_with fail
            (refine wp_region_from wr (by repeat (first | (with_reducible exact Ext.refl _) | (with_reducible refine Ext.drewN ?_ _) | (with_reducible refine Ext.drew ?_) | (with_reducible refine Ext.alloc ?_ _) | ((with_reducible refine Ext.setCell ?_ ?_ _); rotate_left; focus (first | (simp; done) | (simp; omega) | omega)) | assumption | (with_reducible refine Ext.trans ?_ (by assumption)))) (by kernel_rfl) (by kernel_rfl) (seqB_of (by kernel_rfl)) ?_; (repeat (first | (refine mix_q rfl ?_; go_big_quiet_step (fail); refine wpQuiet_nil ?_; show wpMix _ _ _ _ _ _ _) | (refine mix_s rfl ?_; go_wp2_with (((with_reducible refine (HAp.out _ (by repeat (first | (with_reducible exact Ext.refl _) | (with_reducible refine Ext.drewN ?_ _) | (with_reducible refine Ext.drew ?_) | (with_reducible refine Ext.alloc ?_ _) | ((with_reducible refine Ext.setCell ?_ ?_ _); rotate_left; focus (first | (simp; done) | (simp; omega) | omega)) | assumption | (with_reducible refine Ext.trans ?_ (by assumption))))).mono ?_); rintro e w2 ⟨rfl, hy2⟩; have hx2 : Ext wr w2 := Ext.trans (by repeat (first | (with_reducible exact Ext.refl _) | (with_reducible refine Ext.drewN ?_ _) | (with_reducible refine Ext.drew ?_) | (with_reducible refine Ext.alloc ?_ _) | ((with_reducible refine Ext.setCell ?_ ?_ _); rotate_left; focus (first | (simp; done) | (simp; omega) | omega)) | assumption | (with_reducible refine Ext.trans ?_ (by assumption)))) hy2; clear hy2)); first | refine ⟨up_of (by repeat (first | (with_reducible exact Ext.refl _) | (with_reducible refine Ext.drewN ?_ _) | (with_reducible refine Ext.drew ?_) | (with_reducible refine Ext.alloc ?_ _) | ((with_reducible refine Ext.setCell ?_ ?_ _); rotate_left; focus (first | (simp; done) | (simp; omega) | omega)) | assumption | (with_reducible refine Ext.trans ?_ (by assumption)))), ?_⟩ | refine ⟨rfl, rfl, up_of (by repeat (first | (with_reducible exact Ext.refl _) | (with_reducible refine Ext.drewN ?_ _) | (with_reducible refine Ext.drew ?_) | (with_reducible refine Ext.alloc ?_ _) | ((with_reducible refine Ext.setCell ?_ ?_ _); rotate_left; focus (first | (simp; done) | (simp; omega) | omega)) | assumption | (with_reducible refine Ext.trans ?_ (by assumption)))), ?_⟩))); refine mix_nil ?_)
            go_wp2_with ((with_reducible refine (HNx.out _ (by repeat (first | (with_reducible exact Ext.refl _) | (with_reducible assumption) | (with_reducible refine Ext.drewN ?_ _) | (with_reducible refine Ext.drew ?_) | (with_reducible refine Ext.alloc ?_ _) | ((with_reducible refine Ext.setCell ?_ ?_ _); rotate_left; focus (first | (simp; done) | (simp; omega) | omega)) | (with_reducible refine Ext.trans ?_ (by with_reducible assumption))))).mono ?_); rintro e w4 ⟨rfl, ht4, ho4⟩)
            go_roundg (N - (t + 1))
            case measure => omega
            case rel => exact ⟨t + 1, z, sa, sn, sc, hlt, rfl, rfl, rfl, by rw [HN.out], by rw [HFy.out]; exact HZ.out, Lib.hid (fun l hl => by
              rw [HFy.out] at hl
              exact ⟨(HB.out l hl).1, ((HB.out l hl).2.ext hx2).touch ht4 (Nat.lt_succ_self _)⟩), by rw [HN.out]; exact ho4, ext_touch (hxr.trans hx2) ht4, Nat.lt_of_lt_of_le hsr (Nat.le_trans hx2.le ht4.size)⟩
        · obtain rfl : t = N := by omega
          rw [show decide (t < t) = false by simp]
          by_cases hz0 : z = 0
          · have HN1 := Lib.hid (show (bpF m np t).1 = none from (HBd.out t).2.2.2 (by rw [← HZ.out]; exact hz0))
            subst hz0
            go_wp2_with fail
            refine bodyPost_ret (v := .tuple #[.slice none 0 0, .slice none 0 0, .int .i64 0, .bool false]) (by simp [results, Try.results10, go_sem]) rfl ?_
            exact bp_retN (by rw [HO.out]; exact HN1.out) hxr
          · obtain ⟨l, hl⟩ : ∃ l, (bpF m np t).1 = some l := by
              cases h : (bpF m np t).1 with
              | none => exact absurd (by rw [HZ.out]; exact (HBd.out t).2.2.1 h) hz0
              | some l => exact ⟨l, rfl⟩
            have hll := HLn.out t l hl
            obtain ⟨hsn, ho⟩ := HB.out l hl
            rw [hll, ← HNN.out] at hsn
            subst hsn
            have hzz : (z == 0) = false := by simpa using hz0
            obtain ⟨a1, r1, i1⟩ := ho.ints.pre (P := Try.prog) 22 2 und_int64s cell_int64 elem_int64s np hnp2
            obtain ⟨a2, r2, i2⟩ := ho.ints.suf (P := Try.prog) 22 2 und_int64s cell_int64 elem_int64s np hnp2
            rw [hnn] at r2 i2
            have hl1 : (l.take np).length = np := i1.len
            have hl2 : (l.drop np).length = np := i2.len
            have HC1 := Lib.hid (fun W' (h : Ext wr W') => spec_own a1 np sc (l.take np) W' (i1.ext h) (by omega))
            have HC2 := Lib.hid (fun W' (h : Ext wr W') => spec_own a2 np (sc - np) (l.drop np) W' (i2.ext h) (by omega))
            have HR1 := Lib.hid (show bpL1 m np = l.take np by unfold bpL1; rw [HO.out, hl]; rfl)
            have HR2 := Lib.hid (show bpL2 m np = l.drop np by unfold bpL2; rw [HO.out, hl]; rfl)
            have HR3 := Lib.hid (show bpZ m np = z by unfold bpZ; rw [HO.out, HZ.out])
            have HR4 := Lib.hid (show bpB m np = true by unfold bpB; rw [HO.out, hl]; rfl)
            have hrr : Ext wr wr := Ext.refl _
            clear i1 i2 ho hll hz0 hl
            go_wp2_with fail
            (refine wp_region_from wr (by repeat (first | (with_reducible exact Ext.refl _) | (with_reducible refine Ext.drewN ?_ _) | (with_reducible refine Ext.drew ?_) | (with_reducible refine Ext.alloc ?_ _) | ((with_reducible refine Ext.setCell ?_ ?_ _); rotate_left; focus (first | (simp; done) | (simp; omega) | omega)) | assumption | (with_reducible refine Ext.trans ?_ (by assumption)))) (by kernel_rfl) (by kernel_rfl) (seqB_of (by kernel_rfl)) ?_; (repeat (first | (refine mix_q rfl ?_; go_big_quiet_step (fail); refine wpQuiet_nil ?_; show wpMix _ _ _ _ _ _ _) | (refine mix_s rfl ?_; go_wp2_with ((first | (go_at_call 41; (with_reducible refine (HC1.out _ (by repeat (first | (with_reducible exact Ext.refl _) | (with_reducible refine Ext.drewN ?_ _) | (with_reducible refine Ext.drew ?_) | (with_reducible refine Ext.alloc ?_ _) | ((with_reducible refine Ext.setCell ?_ ?_ _); rotate_left; focus (first | (simp; done) | (simp; omega) | omega)) | assumption | (with_reducible refine Ext.trans ?_ (by assumption))))).mono ?_); rintro e w3 ⟨b1, d1, rfl, ho3, hy3⟩; rw [I_len, hl1] at ho3 ⊢; have hx3 : Ext wr w3 := Ext.trans (by repeat (first | (with_reducible exact Ext.refl _) | (with_reducible refine Ext.drewN ?_ _) | (with_reducible refine Ext.drew ?_) | (with_reducible refine Ext.alloc ?_ _) | ((with_reducible refine Ext.setCell ?_ ?_ _); rotate_left; focus (first | (simp; done) | (simp; omega) | omega)) | assumption | (with_reducible refine Ext.trans ?_ (by assumption)))) hy3; have HO3 := Lib.hid (ho3.mono (Ext.le (show Ext wr _ from (by repeat (first | (with_reducible exact Ext.refl _) | (with_reducible refine Ext.drewN ?_ _) | (with_reducible refine Ext.drew ?_) | (with_reducible refine Ext.alloc ?_ _) | ((with_reducible refine Ext.setCell ?_ ?_ _); rotate_left; focus (first | (simp; done) | (simp; omega) | omega)) | assumption | (with_reducible refine Ext.trans ?_ (by assumption))))))); clear ho3 hy3) | (go_at_call 41; (with_reducible refine (HC2.out _ (by repeat (first | (with_reducible exact Ext.refl _) | (with_reducible refine Ext.drewN ?_ _) | (with_reducible refine Ext.drew ?_) | (with_reducible refine Ext.alloc ?_ _) | ((with_reducible refine Ext.setCell ?_ ?_ _); rotate_left; focus (first | (simp; done) | (simp; omega) | omega)) | assumption | (with_reducible refine Ext.trans ?_ (by assumption))))).mono ?_); rintro e w4 ⟨b2, d2, rfl, ho4, hy4⟩; rw [I_len, hl2] at ho4 ⊢; have hx34 : Ext w3 w4 := Ext.trans (by repeat (first | (with_reducible exact Ext.refl _) | (with_reducible refine Ext.drewN ?_ _) | (with_reducible refine Ext.drew ?_) | (with_reducible refine Ext.alloc ?_ _) | ((with_reducible refine Ext.setCell ?_ ?_ _); rotate_left; focus (first | (simp; done) | (simp; omega) | omega)) | assumption | (with_reducible refine Ext.trans ?_ (by assumption)))) hy4; have hx4 : Ext wr w4 := hx3.trans hx34; have HO4 := Lib.hid (ho4.mono (Ext.le (show Ext w3 _ from (by repeat (first | (with_reducible exact Ext.refl _) | (with_reducible refine Ext.drewN ?_ _) | (with_reducible refine Ext.drew ?_) | (with_reducible refine Ext.alloc ?_ _) | ((with_reducible refine Ext.setCell ?_ ?_ _); rotate_left; focus (first | (simp; done) | (simp; omega) | omega)) | assumption | (with_reducible refine Ext.trans ?_ (by assumption))))))); clear ho4 hy4))); first | refine ⟨up_of (by repeat (first | (with_reducible exact Ext.refl _) | (with_reducible refine Ext.drewN ?_ _) | (with_reducible refine Ext.drew ?_) | (with_reducible refine Ext.alloc ?_ _) | ((with_reducible refine Ext.setCell ?_ ?_ _); rotate_left; focus (first | (simp; done) | (simp; omega) | omega)) | assumption | (with_reducible refine Ext.trans ?_ (by assumption)))), ?_⟩ | refine ⟨rfl, rfl, up_of (by repeat (first | (with_reducible exact Ext.refl _) | (with_reducible refine Ext.drewN ?_ _) | (with_reducible refine Ext.drew ?_) | (with_reducible refine Ext.alloc ?_ _) | ((with_reducible refine Ext.setCell ?_ ?_ _); rotate_left; focus (first | (simp; done) | (simp; omega) | omega)) | assumption | (with_reducible refine Ext.trans ?_ (by assumption)))), ?_⟩))); refine mix_nil ?_)
            go_wp2_with fail
            refine bodyPost_ret (v := .tuple #[.slice b1 np d1, .slice b2 np d2, .int .i64 z, .bool true]) (by simp [results, Try.results10, go_sem]) rfl ?_
            rw [HR1.out, HR2.out, HR3.out, HR4.out]
            exact ⟨b1, np, d1, b2, np, d2, rfl, hxr.trans hx4, (HO3.out.ext hx34).mono hxr.le, HO4.out.mono (hxr.trans hx3).le, own_ne HO3.out HO4.out (Nat.le_refl _)⟩
  rcases hb3 with hb3 | hb3 | hb3
  · exact way _ _ _ rfl rfl rfl (by rw [hb3]; rfl)
  · exact way _ _ _ rfl rfl rfl (by rw [hb3]; rfl)
  · exact way _ _ _ rfl rfl rfl (by rw [hb3]; rfl)
end Go.Proofs.Ytlpbflmgkopklaa
