/- Walks: registries: free words, the first free one; IsFull of the reference. -/
import Derived.Test.YtdekplfjnkbidaaTrialM
import Derived.Test.YtdekplfjnkbidaaNxtW
import Derived.Test.YtdekplfjnkbidaaRgG
namespace Go.Proofs.Ytdekplfjnkbidaa
set_option maxRecDepth 100000
open Go.RowKit

theorem all_flip (l : List ByteArray) (s : ByteArray) (ap : Int) : (l.all fun v => !decide ((distS v s : Int) < ap)) = l.all fun v => !decide ((distS s v : Int) < ap) := by
  congr 1; funext v; rw [dist_comm]
theorem allS_no {l : List ByteArray} {p : ByteArray → Bool} {k : Nat} (hk : k < l.length) (h : p (gs l k) = false) : l.all p = false := List.all_eq_false.2 ⟨_, gs_mem hk, by rw [h]; simp⟩
theorem allS_step {l : List ByteArray} {p : ByteArray → Bool} {k : Nat} (hk : k < l.length) (h : p (gs l k) = true) (hp : (l.take k).all p = true) : (l.take (k + 1)).all p = true := by
  rw [take_gs hk, List.all_append, hp]; simp [h]
set_option maxHeartbeats 2000000 in
theorem spec_l10Free (D : Rg) (q : Nat) (a : Option Addr) (n c : Nat) (b : Option Addr) (m d : Nat) (ia : Option Addr) (im ic : Nat) (ra : Option Addr) (rm rc : Nat) (s : ByteArray) (w : World) (hv : RgAt w q D a n c b m d ia im ic ra rm rc) (hok : OkRg D) (hs : s.size ≤ 64) :
    Calls Try.prog 79 #[.pointer (some ⟨q, 0, none⟩), .string s] w (Ret (.bool (freeB D s)) w) := by
  have HL := Lib.hid hv.is.len
  have HOK := Lib.hid hok
  have HA := Lib.hid (show freeB D s = D.issued.all fun v => !decide ((distS v s : Int) < D.apart) from (all_flip _ _ _).symm)
  rw [HA.out]
  have h40 := hok.n40
  rw [HL.out] at h40
  obtain ⟨b1, o1, hix, hcell⟩ := hv.is.ix (P := Try.prog) 26 9 und_strs cell_str
  obtain ⟨_, k6, k7, k8, _, _⟩ := hv
  clear hok
  go_enter Try.func79, Try.ntmps79
  go_wp2
  go_loopw [5] (fun i wr => ∃ k : Nat, k ≤ im ∧ i = .int .i64 k ∧ Hid (((D.issued.take k).all fun v => !decide ((distS v s : Int) < D.apart)) = true) ∧ Ext w wr) (fun i _ => im - (intOf i).toNat)
  case atStart => exact ⟨0, Nat.zero_le _, rfl, by simp [Hid], Ext.refl _⟩
  case round =>
    obtain ⟨k, hk, rfl, HP, hx⟩ := hrel
    have hxr : Ext w wr := hx
    by_cases hlt : k < im
    · have hkl : k < D.issued.length := by rw [HL.out]; exact hlt
      have h20 := HOK.out.s20 k hkl
      have HF := Lib.hid (fun W => spec_l10Far (gs D.issued k) s W (by omega) hs)
      by_cases hf : (distS (gs D.issued k) s : Int) < D.apart
      · have HX := Lib.hid (allS_no (p := fun v => !decide ((distS v s : Int) < D.apart)) hkl (by simpa using hf))
        clear hkl
        generalize distS (gs D.issued k) s = z at *
        go_wp2
        (refine wp_region_from w (by repeat (first | (with_reducible exact Ext.refl _) | (with_reducible refine Ext.drewN ?_ _) | (with_reducible refine Ext.drew ?_) | (with_reducible refine Ext.alloc ?_ _) | ((with_reducible refine Ext.setCell ?_ ?_ _); rotate_left; focus (first | (simp; done) | (simp; omega) | omega)) | assumption | (with_reducible refine Ext.trans ?_ (by assumption)))) (by kernel_rfl) (by kernel_rfl) (seqB_of (by kernel_rfl)) ?_; (repeat (first | (refine mix_q rfl ?_; go_big_quiet_step (fail); refine wpQuiet_nil ?_; show wpMix _ _ _ _ _ _ _) | (refine mix_s rfl ?_; go_wp2_with (((with_reducible refine (HF.out _).mono ?_); rintro e w4 ⟨rfl, hy4⟩; have hxw4 : Ext w w4 := Ext.trans (by repeat (first | (with_reducible exact Ext.refl _) | (with_reducible refine Ext.drewN ?_ _) | (with_reducible refine Ext.drew ?_) | (with_reducible refine Ext.alloc ?_ _) | ((with_reducible refine Ext.setCell ?_ ?_ _); rotate_left; focus (first | (simp; done) | (simp; omega) | omega)) | assumption | (with_reducible refine Ext.trans ?_ (by assumption)))) hy4; have hz4 := hy4; clear hy4)); first | refine ⟨up_of (by repeat (first | (with_reducible exact Ext.refl _) | (with_reducible refine Ext.drewN ?_ _) | (with_reducible refine Ext.drew ?_) | (with_reducible refine Ext.alloc ?_ _) | ((with_reducible refine Ext.setCell ?_ ?_ _); rotate_left; focus (first | (simp; done) | (simp; omega) | omega)) | assumption | (with_reducible refine Ext.trans ?_ (by assumption)))), ?_⟩ | refine ⟨rfl, rfl, up_of (by repeat (first | (with_reducible exact Ext.refl _) | (with_reducible refine Ext.drewN ?_ _) | (with_reducible refine Ext.drew ?_) | (with_reducible refine Ext.alloc ?_ _) | ((with_reducible refine Ext.setCell ?_ ?_ _); rotate_left; focus (first | (simp; done) | (simp; omega) | omega)) | assumption | (with_reducible refine Ext.trans ?_ (by assumption)))), ?_⟩))); refine mix_nil ?_)
        go_wp2
        go_ret
        exact ⟨rb HX.out.symm, (by repeat (first | (with_reducible exact Ext.refl _) | (with_reducible refine Ext.drewN ?_ _) | (with_reducible refine Ext.drew ?_) | (with_reducible refine Ext.alloc ?_ _) | ((with_reducible refine Ext.setCell ?_ ?_ _); rotate_left; focus (first | (simp; done) | (simp; omega) | omega)) | assumption | (with_reducible refine Ext.trans ?_ (by assumption))))⟩
      · have HX := Lib.hid (allS_step (p := fun v => !decide ((distS v s : Int) < D.apart)) hkl (by simpa using hf) HP.out)
        clear hkl
        generalize distS (gs D.issued k) s = z at *
        go_wp2
        (refine wp_region_from w (by repeat (first | (with_reducible exact Ext.refl _) | (with_reducible refine Ext.drewN ?_ _) | (with_reducible refine Ext.drew ?_) | (with_reducible refine Ext.alloc ?_ _) | ((with_reducible refine Ext.setCell ?_ ?_ _); rotate_left; focus (first | (simp; done) | (simp; omega) | omega)) | assumption | (with_reducible refine Ext.trans ?_ (by assumption)))) (by kernel_rfl) (by kernel_rfl) (seqB_of (by kernel_rfl)) ?_; (repeat (first | (refine mix_q rfl ?_; go_big_quiet_step (fail); refine wpQuiet_nil ?_; show wpMix _ _ _ _ _ _ _) | (refine mix_s rfl ?_; go_wp2_with (((with_reducible refine (HF.out _).mono ?_); rintro e w4 ⟨rfl, hy4⟩; have hxw4 : Ext w w4 := Ext.trans (by repeat (first | (with_reducible exact Ext.refl _) | (with_reducible refine Ext.drewN ?_ _) | (with_reducible refine Ext.drew ?_) | (with_reducible refine Ext.alloc ?_ _) | ((with_reducible refine Ext.setCell ?_ ?_ _); rotate_left; focus (first | (simp; done) | (simp; omega) | omega)) | assumption | (with_reducible refine Ext.trans ?_ (by assumption)))) hy4; have hz4 := hy4; clear hy4)); first | refine ⟨up_of (by repeat (first | (with_reducible exact Ext.refl _) | (with_reducible refine Ext.drewN ?_ _) | (with_reducible refine Ext.drew ?_) | (with_reducible refine Ext.alloc ?_ _) | ((with_reducible refine Ext.setCell ?_ ?_ _); rotate_left; focus (first | (simp; done) | (simp; omega) | omega)) | assumption | (with_reducible refine Ext.trans ?_ (by assumption)))), ?_⟩ | refine ⟨rfl, rfl, up_of (by repeat (first | (with_reducible exact Ext.refl _) | (with_reducible refine Ext.drewN ?_ _) | (with_reducible refine Ext.drew ?_) | (with_reducible refine Ext.alloc ?_ _) | ((with_reducible refine Ext.setCell ?_ ?_ _); rotate_left; focus (first | (simp; done) | (simp; omega) | omega)) | assumption | (with_reducible refine Ext.trans ?_ (by assumption)))), ?_⟩))); refine mix_nil ?_)
        go_wp2
        exact ⟨⟨k + 1, by omega, by go_num, HX, (by repeat (first | (with_reducible exact Ext.refl _) | (with_reducible refine Ext.drewN ?_ _) | (with_reducible refine Ext.drew ?_) | (with_reducible refine Ext.alloc ?_ _) | ((with_reducible refine Ext.setCell ?_ ?_ _); rotate_left; focus (first | (simp; done) | (simp; omega) | omega)) | assumption | (with_reducible refine Ext.trans ?_ (by assumption))))⟩, by simp [intOf]; omega⟩
    · obtain rfl : k = im := by omega
      go_wp2
      go_ret
      exact ⟨rb (by have := HP.out; rw [take_full (by rw [HL.out]; exact Nat.le_refl _)] at this; exact this.symm), hx⟩
set_option maxHeartbeats 1000000 in
theorem impl_free (D : Rg) (q : Nat) (a : Option Addr) (n c : Nat) (b : Option Addr) (m d : Nat) (ia : Option Addr) (im ic : Nat) (ra : Option Addr) (rm rc : Nat) (s : ByteArray) (w : World) (hv : RgAt w q D a n c b m d ia im ic ra rm rc) (hn : im ≤ 1048576) (hl : ∀ v ∈ D.issued, v.size ≤ 64) (hs : s.size ≤ 64) :
    Calls Try.prog 77 #[.pointer (some ⟨q, 0, none⟩), .string s] w (Ret (.bool (freeB D s)) w) := by
  have HA := Lib.hid (fun W h => impl_apartFrom s ia im ic D.issued D.apart W (Strs.ext hv.is h) hn hs hl)
  have HB := Lib.hid (show freeB D s = D.issued.all fun v => !decide ((distS s v : Int) < D.apart) from rfl)
  rw [← HB.out] at HA
  obtain ⟨_, k6, k7, k8, _, _⟩ := hv
  clear hl
  go_enter Try.func77, Try.ntmps77
  go_wp2
  (refine wp_region_from w (by repeat (first | (with_reducible exact Ext.refl _) | (with_reducible refine Ext.drewN ?_ _) | (with_reducible refine Ext.drew ?_) | (with_reducible refine Ext.alloc ?_ _) | ((with_reducible refine Ext.setCell ?_ ?_ _); rotate_left; focus (first | (simp; done) | (simp; omega) | omega)) | assumption | (with_reducible refine Ext.trans ?_ (by assumption)))) (by kernel_rfl) (by kernel_rfl) (seqB_of (by kernel_rfl)) ?_; (repeat (first | (refine mix_q rfl ?_; go_big_quiet_step (fail); refine wpQuiet_nil ?_; show wpMix _ _ _ _ _ _ _) | (refine mix_s rfl ?_; go_wp2_with (((with_reducible refine (HA.out _ (by repeat (first | (with_reducible exact Ext.refl _) | (with_reducible refine Ext.drewN ?_ _) | (with_reducible refine Ext.drew ?_) | (with_reducible refine Ext.alloc ?_ _) | ((with_reducible refine Ext.setCell ?_ ?_ _); rotate_left; focus (first | (simp; done) | (simp; omega) | omega)) | assumption | (with_reducible refine Ext.trans ?_ (by assumption))))).mono ?_); rintro e w4 ⟨rfl, hy4⟩; have hxw4 : Ext w w4 := Ext.trans (by repeat (first | (with_reducible exact Ext.refl _) | (with_reducible refine Ext.drewN ?_ _) | (with_reducible refine Ext.drew ?_) | (with_reducible refine Ext.alloc ?_ _) | ((with_reducible refine Ext.setCell ?_ ?_ _); rotate_left; focus (first | (simp; done) | (simp; omega) | omega)) | assumption | (with_reducible refine Ext.trans ?_ (by assumption)))) hy4; have hz4 := hy4; clear hy4)); first | refine ⟨up_of (by repeat (first | (with_reducible exact Ext.refl _) | (with_reducible refine Ext.drewN ?_ _) | (with_reducible refine Ext.drew ?_) | (with_reducible refine Ext.alloc ?_ _) | ((with_reducible refine Ext.setCell ?_ ?_ _); rotate_left; focus (first | (simp; done) | (simp; omega) | omega)) | assumption | (with_reducible refine Ext.trans ?_ (by assumption)))), ?_⟩ | refine ⟨rfl, rfl, up_of (by repeat (first | (with_reducible exact Ext.refl _) | (with_reducible refine Ext.drewN ?_ _) | (with_reducible refine Ext.drew ?_) | (with_reducible refine Ext.alloc ?_ _) | ((with_reducible refine Ext.setCell ?_ ?_ _); rotate_left; focus (first | (simp; done) | (simp; omega) | omega)) | assumption | (with_reducible refine Ext.trans ?_ (by assumption)))), ?_⟩))); refine mix_nil ?_)
  go_wp2
  go_ret
  exact ⟨rfl, (by repeat (first | (with_reducible exact Ext.refl _) | (with_reducible refine Ext.drewN ?_ _) | (with_reducible refine Ext.drew ?_) | (with_reducible refine Ext.alloc ?_ _) | ((with_reducible refine Ext.setCell ?_ ?_ _); rotate_left; focus (first | (simp; done) | (simp; omega) | omega)) | assumption | (with_reducible refine Ext.trans ?_ (by assumption))))⟩
theorem tries_le (D : Ch) : triesN D ≤ (wordsA D).length := Nat.min_le_left _ _
theorem emp_false {α : Type} {l : List α} {k : Nat} (h : k < l.length) : (l.drop k).isEmpty = false := by
  rw [List.drop_eq_getElem_cons h]; rfl
theorem emp_true {α : Type} {l : List α} {k : Nat} (h : l.length ≤ k) : (l.drop k).isEmpty = true := by
  rw [List.drop_of_length_le h]; rfl
set_option maxHeartbeats 4000000 in
theorem spec_l10Trial (D : Rg) (q : Nat) (a : Option Addr) (n c : Nat) (b : Option Addr) (m d : Nat) (ia : Option Addr) (im ic : Nat) (ra : Option Addr) (rm rc : Nat) (w : World) (hv : RgAt w q D a n c b m d ia im ic ra rm rc) (hok : OkRg D) :
    Calls Try.prog 74 #[.pointer (some ⟨q, 0, none⟩)] w (Ret2 (.string (trialT D)) (.bool (trialB D)) w) := by
  have HV := Lib.hid hv
  have HOK := Lib.hid hok
  have HE := Lib.hid (fun W h => spec_l02Ends D.ch q a n c b m d W (ChAt.ext hv.ch h) hok.ch)
  have HP := Lib.hid hv.ch.ps.len
  have p20 := hok.ch.p20
  rw [HP.out] at p20
  clear hv hok
  go_enter Try.func74, Try.ntmps74
  go_wp2_with fail
  refine (HE.out _ (Ext.refl _)).mono ?_
  intro e w1 he
  obtain ⟨ge, gc, rfl, hm, hx1⟩ := he.matL
  rw [HP.out] at hm ⊢
  have HM := Lib.hid hm
  clear he hm
  have hxw1 : Ext w w1 := hx1
  go_wp2
  go_loopw [5, 6, 7, 8] (fun wv kv _ _ wr => ∃ k : Nat, k ≤ 2000 ∧ k ≤ (wordsA D.ch).length ∧ kv = .int .i64 k ∧ wv = .string (wordR D.ch k) ∧ Hid (NoFree D k) ∧ Ext w1 wr) (fun _ kv _ _ _ => 2000 - (intOf kv).toNat)
  case atStart => exact ⟨0, by omega, Nat.zero_le _, rfl, rfl, Lib.hid (fun j hj => by omega), Ext.refl _⟩
  case round =>
    obtain ⟨k, hk, hkl, rfl, rfl, HN, hx⟩ := hrel
    have hxr : Ext w1 wr := hx
    have hxq : Ext w wr := hxw1.trans hx
    by_cases h2 : k < 2000
    · have HNx := Lib.hid (spec_l10Next D.ch q a n c b m d ge gc (wordR D.ch k) wr (HV.out.ch.ext hxq) HOK.out.ch (HM.out.ext hx) (by rw [← HP.out]; exact wordR_size HOK.out.ch hkl))
      rw [nextL_wordR HOK.out.ch hkl] at HNx
      by_cases hk2 : k < (wordsA D.ch).length
      · rw [nextT_wordR HOK.out.ch hk2, emp_false hk2] at HNx
        have hsz := wordR_len HOK.out.ch hk2
        rw [HP.out] at hsz
        have HFr := Lib.hid (fun W h => spec_l10Free D q a n c b m d ia im ic ra rm rc (wordR D.ch (k + 1)) W (RgAt.ext HV.out (hxw1.trans h)) HOK.out (by omega))
        cases hfr : freeB D (wordR D.ch (k + 1))
        · rw [hfr] at HFr
          have HN2 := Lib.hid (HN.out.step hfr)
          clear hfr hsz
          go_wp2_with (first | (go_at_call 114; (with_reducible refine HNx.out.mono ?_); rintro e w2 ⟨rfl, hy2⟩; have hxw2 : Ext w1 w2 := hx.trans hy2) | (go_at_call 79; (with_reducible refine (HFr.out _ hxw2).mono ?_); rintro e w3 ⟨rfl, hy3⟩))
          exact ⟨⟨k + 1, by omega, by omega, by go_num, rfl, HN2, hxw2.trans hy3⟩, by simp [intOf]; omega⟩
        · rw [hfr] at HFr
          have HT := Lib.hid (trial_some (R := D) (k := k) (by unfold triesN; omega) HN.out hfr)
          have HT1 := Lib.hid (show trialT D = wordR D.ch (k + 1) by rw [trialT, HT.out]; rfl)
          have HT2 := Lib.hid (show trialB D = true by rw [trialB, HT.out]; rfl)
          clear hfr hsz
          go_wp2_with (first | (go_at_call 114; (with_reducible refine HNx.out.mono ?_); rintro e w2 ⟨rfl, hy2⟩; have hxw2 : Ext w1 w2 := hx.trans hy2) | (go_at_call 79; (with_reducible refine (HFr.out _ hxw2).mono ?_); rintro e w3 ⟨rfl, hy3⟩))
          go_ret2
          exact ⟨by rw [HT1.out, HT2.out]; rfl, (hxw1.trans hxw2).trans hy3⟩
      · rw [emp_true (by omega)] at HNx
        have HT := Lib.hid (trial_none (R := D) (by rw [show triesN D.ch = k by unfold triesN; omega]; exact HN.out))
        have HT1 := Lib.hid (show trialT D = .empty by rw [trialT, HT.out]; rfl)
        have HT2 := Lib.hid (show trialB D = false by rw [trialB, HT.out]; rfl)
        go_wp2_with (go_at_call 114; (with_reducible refine HNx.out.mono ?_); rintro e w2 ⟨rfl, hy2⟩; have hxw2 : Ext w1 w2 := hx.trans hy2)
        go_ret2
        exact ⟨by rw [HT1.out, HT2.out]; rfl, hxw1.trans hxw2⟩
    · have HT := Lib.hid (trial_none (R := D) (by rw [show triesN D.ch = k by unfold triesN; omega]; exact HN.out))
      have HT1 := Lib.hid (show trialT D = .empty by rw [trialT, HT.out]; rfl)
      have HT2 := Lib.hid (show trialB D = false by rw [trialB, HT.out]; rfl)
      go_wp2
      go_ret2
      exact ⟨by rw [HT1.out, HT2.out]; rfl, hxq⟩
def fullR (D : Rg) : Bool := validRg D && !trialB D
set_option maxHeartbeats 1000000 in
theorem spec_IsFull (D : Rg) (a : Option Addr) (n c : Nat) (b : Option Addr) (m d : Nat) (ia : Option Addr) (im ic : Nat) (ra : Option Addr) (rm rc : Nat) (w : World) (hv : RgIn w D a n c b m d ia im ic ra rm rc) : Calls Try.prog 32 #[.agg #[.int .i64 D.ch.base, .int .i64 D.ch.states, .int .i64 D.ch.start, .int .i64 D.ch.fin, .slice a n c, .slice b m d, .int .i64 D.apart, .slice ia im ic, .slice ra rm rc]] w (Ret (.bool (fullR D)) w) := by
  have HB := Lib.hid (hv.box 33)
  have HN := Lib.hid hv
  clear hv
  cases hval : validRg D
  · have HVal := Lib.hid (spec_l10Is D _ a n c b m d ia im ic ra rm rc _ HB.out (HN.out.ext ((Ext.refl w).alloc _)))
    rw [hval] at HVal
    have HO := Lib.hid (show fullR D = false by rw [fullR, hval]; rfl)
    clear hval
    go_enter Try.func32, Try.ntmps32
    go_wp2_with ((with_reducible refine HVal.out.mono ?_); rintro e w1 ⟨rfl, hx1⟩)
    go_ret
    exact ⟨rb HO.out.symm, ((Ext.refl w).alloc _).trans hx1⟩
  have hok := validRg_ok hval
  have HO := Lib.hid (show fullR D = !trialB D by rw [fullR, hval]; rfl)
  have Hhok := Lib.hid hok; clear hok
  go_enter Try.func32, Try.ntmps32
  go_wp2_with fail
  obtain ⟨wb, hwb⟩ : ∃ wb, wb = w.alloc (.cells #[.int .i64 D.ch.base, .int .i64 D.ch.states, .int .i64 D.ch.start, .int .i64 D.ch.fin, .slice a n c, .slice b m d, .int .i64 D.apart, .slice ia im ic, .slice ra rm rc] 33) := ⟨_, rfl⟩
  have hxb : Ext w wb := by rw [hwb]; exact (by repeat (first | (with_reducible exact Ext.refl _) | (with_reducible refine Ext.drewN ?_ _) | (with_reducible refine Ext.drew ?_) | (with_reducible refine Ext.alloc ?_ _) | ((with_reducible refine Ext.setCell ?_ ?_ _); rotate_left; focus (first | (simp; done) | (simp; omega) | omega)) | assumption | (with_reducible refine Ext.trans ?_ (by assumption))))
  rw [← hwb] at HB ⊢
  generalize w.heap.size = q at *
  clear hwb
  have HVal := Lib.hid (spec_l10Is D q a n c b m d ia im ic ra rm rc wb HB.out (HN.out.ext hxb))
  rw [hval] at HVal
  clear hval
  refine HVal.out.mono ?_
  rintro e w1 ⟨rfl, hx1⟩
  have HT := Lib.hid (spec_l10Trial D q a n c b m d ia im ic ra rm rc w1 (HB.out.ext hx1) Hhok.out)
  go_wp2_with ((with_reducible refine HT.out.mono ?_); rintro e w2 ⟨rfl, hx2⟩)
  go_ret
  exact ⟨rb HO.out.symm, (hxb.trans hx1).trans hx2⟩
end Go.Proofs.Ytdekplfjnkbidaa
