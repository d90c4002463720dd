/- Walks: registries: the trials of the program; IsFull. -/
import Derived.Test.YtdekplfjnkbidaaTrial
import Derived.Test.YtdekplfjnkbidaaSAt
namespace Go.Proofs.Ytdekplfjnkbidaa
set_option maxRecDepth 100000
open Go.RowKit

theorem RetEnds.matK {D : Ch} {w w' : World} {e : Ending} (h : RetEnds D w e w') : ∃ a c, e = .returned (.slice a (D.places.length + 1) c) ∧ (∀ W, KeepB w.heap.size w'.heap.size w' W → Mat W a (D.places.length + 1) c (endsL D)) ∧ Ext w w' := by
  obtain ⟨a, c, F, G, C, rfl, hg, hr, hx⟩ := h
  refine ⟨a, c, rfl, fun W hk => ?_, hx⟩
  have hg2 : Grid W w.heap.size 23 2 a (D.places.length + 1) c D.states.toNat F G C := ⟨hg.outer.keepB hk, fun k hk' => (hg.row k hk').keepB hk, hg.inj⟩
  obtain ⟨a2, c2, he, hm, _⟩ := RetEnds.matL (D := D) (w := w) (w' := w') (e := .returned (.slice a (D.places.length + 1) c)) ⟨a, c, F, G, C, rfl, hg, hr, hx⟩
  refine ⟨by simp [endsL], _, hg2.outer.sl, fun k hk2 => ⟨Option.some ⟨G k, 0, none⟩, D.states.toNat, C k, by simp [gv, hk2, slR], ?_⟩⟩
  rw [endsL_gl (by omega)]
  have h1 := (hg2.row k hk2).ints
  have h2 : rowF F D.states.toNat k = (List.range D.states.toNat).map fun (x : Nat) => endsS D (D.places.length - k) k x := by
    unfold rowF
    apply List.map_congr_left
    intro y hy
    exact hr.hi k (Nat.zero_le _) (by omega) y (List.mem_range.1 hy)
  rw [h2] at h1
  exact h1
theorem min_tries (D : Ch) (N : Nat) (h : (wordsA D).length = N) : (if (2000 : Int) < (N : Int) then (2000 : Int) else (N : Int)) = ((triesN D : Nat) : Int) := by
  unfold triesN; rw [h]; split <;> omega
set_option maxHeartbeats 4000000 in
theorem impl_trials (D : Ch) (q : Nat) (a : Option Addr) (n c : Nat) (b : Option Addr) (m d : Nat) (f : Nat) (caps : Array Value) (Inv : Nat → Nat → Nat → World → Prop) (Fin : World → Prop) (w : World) (hv : ChAt w q D a n c b m d) (hok : OkCh D)
    (he : ∀ args w', (callFunc f args).run Try.prog w' = .ok (.enter f args) w')
    (h0 : ∀ w1, Ext w w1 → Inv w.heap.size w1.heap.size 0 w1) (hst : ∀ lo hi k W W', Inv lo hi k W → Ext W W' → Inv lo hi k W') (hch : ∀ lo hi k W, Inv lo hi k W → ChAt W q D a n c b m d)
    (hs : ∀ lo hi k W, k < triesN D → Inv lo hi k W → hi ≤ W.heap.size → Calls Try.prog f (#[.string (wordR D (k + 1))] ++ caps) W fun e W' => (e = .returned (.bool true) ∧ Inv lo hi (k + 1) W' ∧ KeepB lo hi W W' ∧ W.heap.size ≤ W'.heap.size) ∨ (e = .returned (.bool false) ∧ Fin W')) :
    Calls Try.prog 75 #[.pointer (some ⟨q, 0, none⟩), .func (.func f) #[] caps] w fun e w' => e = .returned (.tuple #[]) ∧ ((∃ lo hi, Inv lo hi (triesN D) w') ∨ Fin w') := by
  have HP := Lib.hid hv.ps.len
  have HV := Lib.hid hv
  have HOK := Lib.hid hok
  have HE := Lib.hid (impl_ends D q a n c b m d w hv hok)
  have H0 := Lib.hid h0
  have HST := Lib.hid hst
  have HCH := Lib.hid hch
  have HS := Lib.hid hs
  obtain ⟨k0, k1, k2, k3, k4, k5, _, _⟩ := hv
  have p20 := hok.p20
  rw [HP.out] at p20
  have hst0 := hok.st0
  have hst1 := hok.st1
  clear h0 hst hch hs hok
  go_enter Try.func75, Try.ntmps75
  go_wp2_with fail
  refine HE.out.mono ?_
  intro e w1 he1
  obtain ⟨ge, gc, rfl, hm, hx1⟩ := he1.matK
  rw [HP.out] at hm ⊢
  have HM := Lib.hid hm
  clear he1 hm HE
  have hxw1 : Ext w w1 := hx1
  obtain ⟨bb, oo, a1, n1, c1, b2', o2, ⟨g1, g2⟩, ⟨g3, g4⟩⟩ := endsL_at (HM.out w1 (KeepB.refl _ _ _)) HP.out 118 und_grid 0 D.start (by omega) (by omega) hst0 hst1
  have hen := wordsA_ends D
  rw [HP.out] at hen
  rw [show m - (0 : Int).toNat = m from rfl] at g4
  rw [← hen] at g4
  obtain ⟨N, hN⟩ : ∃ N, N = (wordsA D).length := ⟨_, rfl⟩
  rw [← hN] at g4
  have HMin := Lib.hid (min_tries D N hN.symm)
  have HT := Lib.hid (show (triesN D : Nat) ≤ (wordsA D).length from tries_le D)
  have HT2 := Lib.hid (show triesN D ≤ 2000 from Nat.min_le_right _ _)
  have Hen := Lib.hid hen
  have HI1 := Lib.hid (H0.out w1 hx1)
  clear hen hN
  go_wp2
  (refine wp_region_from w1 (by repeat (first | (with_reducible exact Ext.refl _) | (with_reducible refine Ext.drewN ?_ _) | (with_reducible refine Ext.drew ?_) | (with_reducible refine Ext.alloc ?_ _) | ((with_reducible refine Ext.setCell ?_ ?_ _); rotate_left; focus (first | (simp; done) | (simp; omega) | omega)) | assumption | (with_reducible refine Ext.trans ?_ (by assumption)))) (by kernel_rfl) (by kernel_rfl) (seqB_of (by kernel_rfl)) ?_; (repeat (first | (refine mix_q rfl ?_; go_big_quiet_step (fail); refine wpQuiet_nil ?_; show wpMix _ _ _ _ _ _ _) | (refine mix_s rfl ?_; go_wp2_with (fail); first | refine ⟨up_of (by repeat (first | (with_reducible exact Ext.refl _) | (with_reducible refine Ext.drewN ?_ _) | (with_reducible refine Ext.drew ?_) | (with_reducible refine Ext.alloc ?_ _) | ((with_reducible refine Ext.setCell ?_ ?_ _); rotate_left; focus (first | (simp; done) | (simp; omega) | omega)) | assumption | (with_reducible refine Ext.trans ?_ (by assumption)))), ?_⟩ | refine ⟨rfl, rfl, up_of (by repeat (first | (with_reducible exact Ext.refl _) | (with_reducible refine Ext.drewN ?_ _) | (with_reducible refine Ext.drew ?_) | (with_reducible refine Ext.alloc ?_ _) | ((with_reducible refine Ext.setCell ?_ ?_ _); rotate_left; focus (first | (simp; done) | (simp; omega) | omega)) | assumption | (with_reducible refine Ext.trans ?_ (by assumption)))), ?_⟩))); refine mix_nil ?_)
  rw [HMin.out]
  have htr : triesN D ≤ 2000 := HT2.out
  have HI2 := Lib.hid (HST.out _ _ _ _ w1.drew HI1.out ((Ext.refl w1).drew))
  obtain ⟨lo, hlo⟩ : ∃ lo, lo = w.heap.size := ⟨_, rfl⟩
  obtain ⟨hi, hhi⟩ : ∃ hi, hi = w1.heap.size := ⟨_, rfl⟩
  rw [← hlo, ← hhi] at HI2 HM
  have HHi := Lib.hid hhi
  clear g1 g2 g3 g4 hlo hhi HMin HI1 H0
  obtain ⟨tn, htn⟩ : ∃ tn, tn = triesN D := ⟨_, rfl⟩
  rw [← htn] at HT HT2 HS htr ⊢
  have HTn := Lib.hid htn
  clear htn
  go_wp2
  go_loopw [5, 21] (fun _ i wr => ∃ k : Nat, k ≤ tn ∧ i = .int .i64 k ∧ Inv lo hi k wr ∧ KeepB lo hi w1 wr ∧ hi ≤ wr.heap.size) (fun _ i _ => tn - (intOf i).toNat)
  case atStart => exact ⟨0, Nat.zero_le _, rfl, HI2.out, KeepB.ext ((Ext.refl w1).drew) (by rw [HHi.out]; exact Nat.le_refl _), by rw [HHi.out]; exact Nat.le_refl _⟩
  case round =>
    obtain ⟨k, hk, rfl, hi0, hkp, hsz⟩ := hrel
    have HIk := Lib.hid hi0
    have HKp := Lib.hid hkp
    clear hi0 hkp
    by_cases hlt : k < tn
    · have hc := HCH.out _ _ _ _ HIk.out
      have HWA := Lib.hid (impl_wordAt D q a n c b m d ge gc k wr hc HOK.out (HM.out wr HKp.out) (by have h1 := Hen.out; have h2 := HT.out; omega))
      have hW : (wordsS D m 0 D.start).getD k [] = (wordsA D).getD k [] := by rw [wordsA, HP.out]
      rw [hW] at HWA
      clear hW
      obtain ⟨hl1, hl2, hl3⟩ := wordsA_mem HOK.out (getD_mem' (l := wordsA D) (d := []) (k := k) (by have := HT.out; omega))
      have HL := Lib.hid hl1
      have HD := Lib.hid hl3
      obtain ⟨e0, e1, e2, e3, e4, e5, _, _⟩ := hc
      clear hl1 hl2 hl3
      have hxrr : Ext wr wr := Ext.refl _
      go_wp2_with fail
      refine HWA.out.mono ?_
      rintro e w2 ⟨ad, cd, rfl, ho, hx2⟩
      rw [I_len, HL.out, HP.out] at ho ⊢
      have hxr2 : Ext wr w2 := hx2
      have HWo := Lib.hid (impl_wordOf ad m cd ((wordsA D).getD k []) w2 ho.ints HD.out (by omega))
      have hWR : textOf ((wordsA D).getD k []) = wordR D (k + 1) := rfl
      rw [hWR] at HWo
      clear ho hWR
      go_wp2_with fail
      refine HWo.out.mono ?_
      rintro e w3 ⟨rfl, hx3⟩
      have hx13 : Ext wr w3 := hx2.trans hx3
      have HC := Lib.hid (HS.out lo hi k w3 hlt (HST.out _ _ _ _ _ HIk.out hx13) (Nat.le_trans hsz hx13.le))
      have HK3 := Lib.hid (HKp.out.trans (KeepB.ext hx13 hsz))
      have hsz3 := Nat.le_trans hsz hx13.le
      go_wp2_with (refine HC.out.mono ?_; rintro e w4 (⟨rfl, hi4, hk4, hs4⟩ | ⟨rfl, hf4⟩))
      · exact ⟨⟨k + 1, by omega, by go_num, hi4, HK3.out.trans hk4, by omega⟩, by simp [intOf]; omega⟩
      · exact bodyPost_ret (v := .tuple #[]) (by simp [results, Try.results75, go_sem]) rfl ⟨rfl, .inr hf4⟩
    · obtain rfl : k = tn := by omega
      go_wp2
      exact bodyPost_end (v := .tuple #[]) (by simp [results, Try.results75, go_sem]) rfl ⟨rfl, .inl ⟨lo, hi, by rw [← HTn.out]; exact HIk.out⟩⟩
/-- what the trial of IsFull leaves -/
def FullPost (bl : Bool) (p : Nat) (W : World) (e : Ending) (W' : World) : Prop := e = .returned (.bool bl) ∧ ∃ W2, Ext W W2 ∧ W' = W2.setCell ⟨p, 0, none⟩ (.bool bl)
set_option maxHeartbeats 1000000 in
theorem isFull1 (D : Rg) (q p : Nat) (a : Option Addr) (n c : Nat) (b : Option Addr) (m d : Nat) (ia : Option Addr) (im ic : Nat) (ra : Option Addr) (rm rc : Nat) (s : ByteArray) (v : Value) (W : World) (hv : RgAt W q D a n c b m d ia im ic ra rm rc) (hvar : VarAt W p 4 v) (hn : im ≤ 1048576) (hl : ∀ v ∈ D.issued, v.size ≤ 64) (hs : s.size ≤ 64) :
    Calls Try.prog 76 (#[.string s] ++ #[.pointer (some ⟨q, 0, none⟩), .pointer (some ⟨p, 0, none⟩)]) W (FullPost (!freeB D s) p W) := by
  have HF := Lib.hid (impl_free D q a n c b m d ia im ic ra rm rc s W hv hn hl hs)
  have HV := Lib.hid hvar
  have hplt := hvar.lt
  clear hv hl hvar
  go_enter Try.func76, Try.ntmps76
  go_wp2_with fail
  refine HF.out.mono ?_
  rintro e W2 ⟨rfl, hx2⟩
  have hx2' : Ext W W2 := hx2
  have hv2 := HV.out.ext hx2
  have hcell := hv2.cell
  have hfr := hv2.frozen
  have hplt2 := hv2.lt
  go_wp2
  go_ret
  exact ⟨rfl, W2, hx2, rfl⟩
theorem full_no {D : Rg} (h : validRg D = false) : fullR D = false := by rw [fullR, h]; rfl
set_option maxHeartbeats 2000000 in
theorem impl_IsFull (D : Rg) (a : Option Addr) (n c : Nat) (b : Option Addr) (m d : Nat) (ia : Option Addr) (im ic : Nat) (ra : Option Addr) (rm rc : Nat) (w : World) (hv : RgIn w D a n c b m d ia im ic ra rm rc) : Calls Try.prog 33 #[.agg #[.int .i64 D.ch.base, .int .i64 D.ch.states, .int .i64 D.ch.start, .int .i64 D.ch.fin, .slice a n c, .slice b m d, .int .i64 D.apart, .slice ia im ic, .slice ra rm rc]] w (Ret (.bool (fullR D)) w) := by
  have HB := Lib.hid (hv.box 33)
  have HVal := Lib.hid (fun W h => impl_ValidRegistry D a n c b m d ia im ic ra rm rc W (RgIn.ext hv h))
  have him := hv.hi
  clear hv
  cases hval : validRg D
  · rw [hval] at HVal
    have HO := Lib.hid (full_no hval)
    clear hval
    go_enter Try.func33, Try.ntmps33
    go_wp2_with ((with_reducible refine (HVal.out _ ((Ext.refl w).alloc _)).mono ?_); rintro e w1 ⟨rfl, hx1⟩)
    go_ret
    exact ⟨rb HO.out.symm, ((Ext.refl w).alloc _).trans hx1⟩
  rw [hval] at HVal
  have hok := validRg_ok hval
  have HO := Lib.hid (show fullR D = !trialB D by rw [fullR, hval]; rfl)
  have Hhok := Lib.hid hok; clear hok
  clear hval
  go_enter Try.func33, Try.ntmps33
  go_wp2_with fail
  obtain ⟨wb, hwb⟩ : ∃ wb, wb = w.alloc (.cells #[.int .i64 D.ch.base, .int .i64 D.ch.states, .int .i64 D.ch.start, .int .i64 D.ch.fin, .slice a n c, .slice b m d, .int .i64 D.apart, .slice ia im ic, .slice ra rm rc] 33) := ⟨_, rfl⟩
  have hxb : Ext w wb := by rw [hwb]; exact (by repeat (first | (with_reducible exact Ext.refl _) | (with_reducible refine Ext.drewN ?_ _) | (with_reducible refine Ext.drew ?_) | (with_reducible refine Ext.alloc ?_ _) | ((with_reducible refine Ext.setCell ?_ ?_ _); rotate_left; focus (first | (simp; done) | (simp; omega) | omega)) | assumption | (with_reducible refine Ext.trans ?_ (by assumption))))
  rw [← hwb] at HB ⊢
  generalize w.heap.size = q at *
  clear hwb
  refine (HVal.out _ hxb).mono ?_
  rintro e w1 ⟨rfl, hx1⟩
  have hxw1 : Ext wb w1 := hx1
  have HX1 := Lib.hid hx1
  go_wp2_with fail
  obtain ⟨p, hp⟩ : ∃ p, p = w1.heap.size := ⟨_, rfl⟩
  have HVar := Lib.hid (VarAt.new w1 4 (.bool true))
  rw [← hp] at HVar ⊢
  have hpb : wb.heap.size ≤ p := by rw [hp]; exact hx1.le
  have hsz : (w1.alloc (.cells #[.bool true] 4)).heap.size = p + 1 := by rw [hp]; unfold World.alloc; exact Array.size_push ..
  have HC := Lib.hid (impl_trials D.ch q a n c b m d 76 #[.pointer (some ⟨q, 0, none⟩), .pointer (some ⟨p, 0, none⟩)]
    (fun lo _ k W => Ext wb W ∧ VarAt W p 4 (.bool true) ∧ p < lo ∧ NoFree D k) (fun W => Ext wb W ∧ VarAt W p 4 (.bool false) ∧ trialB D = true)
    (w1.alloc (.cells #[.bool true] 4)) (HB.out.ch.ext (hx1.alloc _)) Hhok.out.ch (fun _ _ => rfl)
    (fun w2 hx2 => ⟨(hx1.alloc _).trans hx2, HVar.out.ext hx2, by rw [hsz]; omega, fun j hj => by omega⟩)
    (fun lo hi k W W' h hx => ⟨h.1.trans hx, h.2.1.ext hx, h.2.2⟩)
    (fun lo hi k W h => HB.out.ch.ext h.1)
    (fun lo hi k W hk h hh => by
      obtain ⟨h1, h2, h3, h4⟩ := h
      have hkl : k < (wordsA D.ch).length := Nat.lt_of_lt_of_le hk (tries_le _)
      have hws := wordR_len Hhok.out.ch hkl
      have hp20 := Hhok.out.ch.p20
      refine (isFull1 D q p a n c b m d ia im ic ra rm rc (wordR D.ch (k + 1)) _ W (HB.out.ext h1) h2 him (fun v hv => ?_) (by omega)).mono ?_
      · obtain ⟨i, hi', rfl⟩ := List.mem_iff_getElem.1 hv
        have := Hhok.out.s20 i hi'
        rw [gs_get hi'] at this
        omega
      · rintro e W' ⟨rfl, W2, hx2, rfl⟩
        have hv2 := h2.ext hx2
        have hxw : Ext wb (W2.setCell ⟨p, 0, none⟩ (.bool (!freeB D (wordR D.ch (k + 1))))) := (h1.trans hx2).setCell hpb _
        cases hfr : freeB D (wordR D.ch (k + 1))
        · left
          rw [hfr] at hxw
          refine ⟨rfl, ⟨hxw, hv2.set _, h3, h4.step hfr⟩, fun x hl hh' => ?_, by rw [size_setCell]; exact hx2.le⟩
          rw [Below.heap_setCell _ _ _ _ (by intro he; have : x = p := he; omega)]
          exact Below.block hx2 x (by omega)
        · right
          rw [hfr] at hxw
          exact ⟨rfl, hxw, hv2.set _, by rw [trialB, trial_some hk h4 hfr]; rfl⟩))
  refine HC.out.mono ?_
  rintro e w2 ⟨rfl, hres⟩
  have hfin : ∃ bl, Ext wb w2 ∧ VarAt w2 p 4 (.bool bl) ∧ fullR D = bl := by
    rcases hres with ⟨lo, hi, h1, h2, _, h4⟩ | ⟨h1, h2, h3⟩
    · exact ⟨true, h1, h2, by rw [HO.out, trialB, trial_none h4]; rfl⟩
    · exact ⟨false, h1, h2, by rw [HO.out, h3]; rfl⟩
  obtain ⟨bl, hx2, hvar, hbl⟩ := hfin
  have hcell := hvar.cell
  have Hhbl := Lib.hid hbl; clear hbl
  clear hres HC HVar
  subst hp
  go_wp2
  go_ret
  exact ⟨rb Hhbl.out.symm, hxb.trans hx2⟩
end Go.Proofs.Ytdekplfjnkbidaa
