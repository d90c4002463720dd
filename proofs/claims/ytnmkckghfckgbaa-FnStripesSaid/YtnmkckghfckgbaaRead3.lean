/- Walks: the word of stripes, in the program. -/
import Derived.Test.YtnmkckghfckgbaaCut2
import Derived.Test.YtnmkckghfckgbaaRead2
namespace Go.Proofs.Ytnmkckghfckgbaa
set_option maxRecDepth 100000
open Go.RowKit

set_option maxHeartbeats 400000 in
theorem read1 (s : ByteArray) (part : List Int) (a2 : Option Addr) (z c2 : Nat) (q : Nat) (w : World) (hq : VarAt w q 36 (.slice a2 z c2)) (hi : Ints w a2 z c2 part) (hs : s.size ≤ 1048576) (hc : charsB s.data.toList = true) :
    Calls Try.prog 114 (#[.string s] ++ #[.pointer (some ⟨q, 0, none⟩)]) w (Ret (.bool (decide (elsL s.data.toList = part))) w) := by
  have hcell : ∀ w', Ext w w' → w'.cell? ⟨q, 0, none⟩ = some (.slice a2 z c2) := fun w' h => (hq.ext h).cell
  have HE := Lib.hid (fun W => impl_elements s W hs hc)
  have HI := Lib.hid hi
  clear hi hq
  go_enter Try.func114, Try.ntmps114
  go_wp2
  (refine wp_region_up (by kernel_rfl) (by kernel_rfl) (by kernel_rfl) ?_; (repeat (first | (refine mix_q rfl ?_; go_big_quiet_step (fail); refine wpQuiet_nil ?_; show wpMix _ _ _ _ _ _ _) | (refine mix_s rfl ?_; go_wp2_with (first | ((with_reducible refine (HE.out _).mono ?_); rintro e w1 ⟨a1, c1, rfl, ho1, hy1⟩; rw [I_len, elsL_len, size_eq] at ho1 ⊢; have hxw1 : Ext w w1 := Ext.trans (by repeat (first | (with_reducible exact Ext.refl _) | (with_reducible refine Ext.drewN ?_ _) | (with_reducible refine Ext.drew ?_) | (with_reducible refine Ext.alloc ?_ _) | ((with_reducible refine Ext.setCell ?_ ?_ _); rotate_left; focus (first | (simp; done) | (simp; omega) | omega)) | assumption | (with_reducible refine Ext.trans ?_ (by assumption)))) hy1; have HO1 := Lib.hid ho1; clear ho1; have hz1 := hy1; clear hy1) | ((with_reducible refine (equal_ints a1 a2 s.size z c1 c2 (elsL s.data.toList) part _ HO1.out.ints (HI.out.ext (by repeat (first | (with_reducible exact Ext.refl _) | (with_reducible refine Ext.drewN ?_ _) | (with_reducible refine Ext.drew ?_) | (with_reducible refine Ext.alloc ?_ _) | ((with_reducible refine Ext.setCell ?_ ?_ _); rotate_left; focus (first | (simp; done) | (simp; omega) | omega)) | assumption | (with_reducible refine Ext.trans ?_ (by assumption))))) (by omega)).mono ?_); rintro e w2 ⟨rfl, hy2⟩; have hxw2 : Ext w w2 := Ext.trans (by repeat (first | (with_reducible exact Ext.refl _) | (with_reducible refine Ext.drewN ?_ _) | (with_reducible refine Ext.drew ?_) | (with_reducible refine Ext.alloc ?_ _) | ((with_reducible refine Ext.setCell ?_ ?_ _); rotate_left; focus (first | (simp; done) | (simp; omega) | omega)) | assumption | (with_reducible refine Ext.trans ?_ (by assumption)))) hy2; have hz2 := hy2; clear hy2)); first | refine ⟨up_of (by repeat (first | (with_reducible exact Ext.refl _) | (with_reducible refine Ext.drewN ?_ _) | (with_reducible refine Ext.drew ?_) | (with_reducible refine Ext.alloc ?_ _) | ((with_reducible refine Ext.setCell ?_ ?_ _); rotate_left; focus (first | (simp; done) | (simp; omega) | omega)) | assumption | (with_reducible refine Ext.trans ?_ (by assumption)))), ?_⟩ | refine ⟨rfl, rfl, up_of (by repeat (first | (with_reducible exact Ext.refl _) | (with_reducible refine Ext.drewN ?_ _) | (with_reducible refine Ext.drew ?_) | (with_reducible refine Ext.alloc ?_ _) | ((with_reducible refine Ext.setCell ?_ ?_ _); rotate_left; focus (first | (simp; done) | (simp; omega) | omega)) | assumption | (with_reducible refine Ext.trans ?_ (by assumption)))), ?_⟩))); refine mix_nil ?_)
  go_wp2
  go_ret
  exact ⟨rfl, (by repeat (first | (with_reducible exact Ext.refl _) | (with_reducible refine Ext.drewN ?_ _) | (with_reducible refine Ext.drew ?_) | (with_reducible refine Ext.alloc ?_ _) | ((with_reducible refine Ext.setCell ?_ ?_ _); rotate_left; focus (first | (simp; done) | (simp; omega) | omega)) | assumption | (with_reducible refine Ext.trans ?_ (by assumption))))⟩
set_option maxHeartbeats 1000000 in
theorem indexFunc_strs (a : Option Addr) (n c : Nat) (l : List ByteArray) (f : Nat) (caps : Array Value) (p : ByteArray → Bool) (w : World) (hv : Strs w a n c l) (hn : n ≤ 4611686018427387904)
    (he : ∀ args w', (callFunc f args).run Try.prog w' = .ok (.enter f args) w') (hf : ∀ k, k < n → ∀ w', Ext w w' → Calls Try.prog f (#[.string (gs l k)] ++ caps) w' (Ret (.bool (p (gs l k))) w')) :
    Calls Try.prog 113 #[.slice a n c, .func (.func f) #[] caps] w (Ret (.int .i64 (idx p l)) w) := by
  have HL := Lib.hid hv.len
  obtain ⟨b, off, hix, hcell⟩ := hv.ix (P := Try.prog) 22 9 und_strings cell_string
  have Hhv := Lib.hid hv; clear hv; have Hhf := Lib.hid hf; clear hf
  go_enter Try.func113, Try.ntmps113
  go_wp2
  go_loopw [5, 8] (fun _ i wr => ∃ k : Nat, k ≤ n ∧ i = .int .i64 k ∧ NoneIn p (l.take k) ∧ Ext w wr) (fun _ i _ => n - (intOf i).toNat)
  case atStart => exact ⟨0, Nat.zero_le _, rfl, by simp [NoneIn], Ext.refl _⟩
  case round =>
    obtain ⟨k, hk, rfl, hp, hx⟩ := hrel
    have Hhp := Lib.hid hp; clear hp
    by_cases hlt : k < n
    · have HC := Lib.hid (Hhf.out k hlt wr hx)
      cases hpx : p (gs l k)
      · rw [hpx] at HC
        have Hhpx := Lib.hid hpx; clear hpx
        go_wp2_with (refine HC.out.mono ?_; rintro e w' ⟨rfl, hx2⟩)
        exact ⟨⟨k + 1, by omega, by go_num, NoneIn.stepS (by rw [HL.out]; exact hlt) Hhpx.out Hhp.out, hx.trans hx2⟩, by simp [intOf]; omega⟩
      · rw [hpx] at HC
        have Hhpx := Lib.hid hpx; clear hpx
        go_wp2_with (refine HC.out.mono ?_; rintro e w' ⟨rfl, hx2⟩)
        go_ret
        exact ⟨ri (idx_hitS (by rw [HL.out]; exact hlt) Hhp.out Hhpx.out).symm, hx.trans hx2⟩
    · go_wp2
      go_ret
      exact ⟨ri (idx_none (by have := Hhp.out; rwa [take_full (by rw [HL.out]; omega)] at this)).symm, hx⟩
/-- which pattern has these widths -/
def whichP (D : Bc) (part : List Int) : Int := idx (fun s => decide (elsL s.data.toList = part)) D.pats
theorem whichP_cases {D : Bc} (hok : OkBc D) (part : List Int) : (whichP D part = -1 ∧ matchL D part = []) ∨ (∃ k : Nat, whichP D part = k ∧ k < D.pats.length ∧ matchL D part = [(k : Int)]) := by
  unfold whichP idx
  cases h : D.pats.findIdx? (fun s => decide (elsL s.data.toList = part)) with
  | none =>
    left
    refine ⟨rfl, ?_⟩
    rw [List.findIdx?_eq_none_iff] at h
    exact matchTo_none fun k hk he => by have := h _ (gs_mem hk); simp [← he] at this
  | some k =>
    right
    rw [List.findIdx?_eq_some_iff_getElem] at h
    obtain ⟨hk, h1, _⟩ := h
    refine ⟨k, rfl, hk, matchTo_ge hok hk ?_ _ hk (Nat.le_refl _)⟩
    rw [gs_get hk]; exact (of_decide_eq_true h1).symm
/-- whether the stripes are a word's, and which -/
def ReadPost (D : Bc) (l : List Int) (w : World) (e : Ending) (w' : World) : Prop := ∃ t, e = .returned (.tuple #[.string t, .bool (readB D l)]) ∧ (readB D l = true → t = textOf (digsR D l)) ∧ Ext w w'
theorem ReadPost.no {D : Bc} {l : List Int} {w w' : World} {t : ByteArray} (h : readB D l = false) (hx : Ext w w') : ReadPost D l w (.returned (.tuple #[.string t, .bool false])) w' := ⟨t, by rw [h], (fun h' => by rw [h] at h'; cases h'), hx⟩
set_option maxHeartbeats 2000000 in
theorem impl_read (D : Bc) (p : Nat) (a : Option Addr) (n c : Nat) (b : Option Addr) (m d : Nat) (l : List Int) (w : World) (hv : BcAt w p D a n c) (hok : OkBc D) (hi : Ints w b m d l) (hm : m ≤ 1048576) :
    Calls Try.prog 79 #[.pointer (some ⟨p, 0, none⟩), .slice b m d] w (ReadPost D l w) := by
  have HN := Lib.hid hv.ps.len
  have HL := Lib.hid hi.len
  have HV := Lib.hid hv
  have HI := Lib.hid hi
  have HC := Lib.hid (impl_cut D p a n c b m d l w hv hok hi hm)
  obtain ⟨q0, q1, q2, q3, hps⟩ := hv
  have s10 := hok.s10
  have s1 := hok.s1
  have n36 := hok.n36
  rw [HN.out] at n36
  have HOK := Lib.hid hok
  have Hhps := Lib.hid hps; clear hps
  clear hi hok
  cases hcb : cutB D m
  · have HF := Lib.hid (readB_cut (l := l) (D := D) (by rw [HL.out]; exact hcb))
    have Hhcb := Lib.hid hcb; clear hcb
    go_enter Try.func79, Try.ntmps79
    go_wp2_with fail
    refine HC.out.mono ?_
    rintro e w1 ⟨hx1, hres⟩
    rw [Hhcb.out, if_neg (by decide)] at hres
    subst hres
    go_wp2
    go_ret2
    exact ReadPost.no HF.out hx1
  have HcutN := Lib.hid (cut_yes hcb s1)
  have HF := Lib.hid (show readB D l = decide (stripesL D (digsTo D l (cutN D m)) = l) by rw [readB_yes (by rw [HL.out]; exact hcb), HL.out])
  have HR := Lib.hid (show digsR D l = digsTo D l (cutN D m) by unfold digsR; rw [HL.out, hcb]; rfl)
  have HNo := Lib.hid (fun i (hi : i < cutN D m) hm => readB_no HOK.out (l := l) (i := i) (by rw [HL.out]; exact hi) hm)
  have hN20 : cutN D m ≤ 20 := HcutN.out.2
  have Hhcb := Lib.hid hcb; clear hcb
  go_enter Try.func79, Try.ntmps79
  go_wp2_with fail
  refine HC.out.mono ?_
  rintro e w1 ⟨hx1, hres⟩
  rw [Hhcb.out, if_pos rfl] at hres
  obtain ⟨a1, c1, vs, rfl, ho1, hrows⟩ := hres
  obtain ⟨N, hN⟩ : ∃ N, N = cutN D m := ⟨_, rfl⟩
  rw [← hN] at ho1 hrows HF HR HNo hN20 ⊢
  obtain ⟨n2, hn2⟩ : ∃ x, x = N + 2 := ⟨_, rfl⟩
  rw [← hn2] at ho1 ⊢
  have hsl := ho1.sl
  obtain ⟨a5, hsub, hsl5⟩ := hsl.sub (P := Try.prog) 76 36 und_rows cell_row1 (by kernel_rfl) 1 (N + 1) (by omega) (by omega)
  rw [show N + 1 - 1 = N by omega, show ((N + 1 : Nat) : Int) = (n2 : Int) - 1 by omega, show ((1 : Nat) : Int) = 1 from rfl] at hsub
  rw [show N + 1 - 1 = N by omega] at hsl5
  obtain ⟨b5, off5, hix5, hcell5⟩ := hsl5.ix (P := Try.prog) 76 36 und_rows cell_row1
  have hgv : ∀ k, k < N → gv ((vs.drop 1).take N) k = gv vs (k + 1) := fun k hk => by
    simp [gv, List.getD_eq_getElem?_getD, hk]
  have hmid : ∀ k, k < N → ∃ a2 c2, (∀ w', Ext w1 w' → w'.cell? ⟨b5, off5 + k, none⟩ = some (.slice a2 (gs D.pats 0).size c2)) ∧ Ints w a2 (gs D.pats 0).size c2 (partL D l k) := fun k hk => by
    obtain ⟨a2, c2, h1, h2⟩ := hrows.mid k hk
    exact ⟨a2, c2, fun w' hx => by rw [hcell5 k w' hk hx, hgv k hk, h1], h2⟩
  have hn20 : 1 ≤ n2 := by omega
  have hn22 : n2 ≤ 22 := by omega
  generalize c1 - 1 = c5 at *
  have Hhmid := Lib.hid hmid; clear hmid; have HhN := Lib.hid hN; clear hN; have Hhn2 := Lib.hid hn2; clear hn2
  clear hcell5 hgv hsl5 hrows hsl ho1
  go_wp2
  go_loopw [8, 10, 11, 27] (fun v _ _ i wr => ∃ (j : Nat) (ad : Option Addr) (cc : Nat), j ≤ N ∧ i = .int .i64 j ∧ v = .slice ad j cc ∧ Own wr w1.heap.size 2 ad j cc (I (digsTo D l j)) ∧ Ext w1 wr) (fun _ _ _ i _ => N - (intOf i).toNat)
  case atStart => exact ⟨0, _, 0, Nat.zero_le _, rfl, rfl, Own.lit0 w1 _, (by repeat (first | (with_reducible exact Ext.refl _) | (with_reducible refine Ext.drewN ?_ _) | (with_reducible refine Ext.drew ?_) | (with_reducible refine Ext.alloc ?_ _) | ((with_reducible refine Ext.setCell ?_ ?_ _); rotate_left; focus (first | (simp; done) | (simp; omega) | omega)) | assumption | (with_reducible refine Ext.trans ?_ (by assumption))))⟩
  case round =>
    obtain ⟨j, ad, cc, hj, rfl, rfl, ho, hx⟩ := hrel
    have Hho := Lib.hid ho; clear ho
    have hxw : Ext w wr := hx1.trans hx
    by_cases hlt : j < N
    · obtain ⟨a2, c2, hcl, hi2⟩ := Hhmid.out j hlt
      have HST := Lib.hid (digsTo_step D l j)
      have HNj := Lib.hid (HNo.out j hlt)
      have HW := Lib.hid (whichP_cases HOK.out (partL D l j))
      generalize partL D l j = part at *
      have Hhi2 := Lib.hid hi2; clear hi2
      go_wp2_with fail
      have HIF := Lib.hid (indexFunc_strs a n c D.pats 114 #[.pointer (some ⟨wr.heap.size, 0, none⟩)] (fun s => decide (elsL s.data.toList = part)) (wr.alloc (.cells #[.slice a2 (gs D.pats 0).size c2] 36)) (Hhps.out.ext (by repeat (first | (with_reducible exact Ext.refl _) | (with_reducible refine Ext.drewN ?_ _) | (with_reducible refine Ext.drew ?_) | (with_reducible refine Ext.alloc ?_ _) | ((with_reducible refine Ext.setCell ?_ ?_ _); rotate_left; focus (first | (simp; done) | (simp; omega) | omega)) | assumption | (with_reducible refine Ext.trans ?_ (by assumption))))) (by omega) (fun _ _ => rfl)
        (fun k hk w' hx' => by
          have hkl : k < D.pats.length := by rw [HN.out]; exact hk
          have := HOK.out.size k hkl
          exact read1 (gs D.pats k) part a2 _ c2 wr.heap.size w' ((VarAt.new wr _ _).ext hx') (Hhi2.out.ext (Ext.trans (by repeat (first | (with_reducible exact Ext.refl _) | (with_reducible refine Ext.drewN ?_ _) | (with_reducible refine Ext.drew ?_) | (with_reducible refine Ext.alloc ?_ _) | ((with_reducible refine Ext.setCell ?_ ?_ _); rotate_left; focus (first | (simp; done) | (simp; omega) | omega)) | assumption | (with_reducible refine Ext.trans ?_ (by assumption)))) hx')) (by omega) (HOK.out.chars k hkl)))
      refine HIF.out.mono ?_
      rintro e w2 ⟨rfl, hy2⟩
      have hxw2 : Ext w1 w2 := Ext.trans (by repeat (first | (with_reducible exact Ext.refl _) | (with_reducible refine Ext.drewN ?_ _) | (with_reducible refine Ext.drew ?_) | (with_reducible refine Ext.alloc ?_ _) | ((with_reducible refine Ext.setCell ?_ ?_ _); rotate_left; focus (first | (simp; done) | (simp; omega) | omega)) | assumption | (with_reducible refine Ext.trans ?_ (by assumption)))) hy2
      have HO2 := Lib.hid ((Hho.out.ext ((Ext.refl _).alloc _)).ext hy2)
      have hxx2 : Ext w w2 := hx1.trans hxw2
      clear hy2
      have hfold : idx (fun s => decide (elsL s.data.toList = part)) D.pats = whichP D part := rfl
      rw [hfold]
      clear hfold
      rcases HW.out with ⟨hw1, hm1⟩ | ⟨k, hw1, hk, hm1⟩
      · have HFN := Lib.hid (HNj.out hm1)
        rw [hw1]
        have Hhw1 := Lib.hid hw1; clear hw1; have Hhm1 := Lib.hid hm1; clear hm1
        go_wp2
        go_ret2
        exact ReadPost.no HFN.out hxx2
      · rw [hw1]
        have Hhw1 := Lib.hid hw1; clear hw1; have Hhm1 := Lib.hid hm1; clear hm1; have Hhk := Lib.hid hk; clear hk
        go_wp2_with (at_builtin; refine law_append1 _ rfl _ _ 36 rfl 2 (.int .i64 0) 8 und_int64s info_int64 rfl w1.heap.size ad j cc _ _ rfl rfl rfl HO2.out hxw2.le (by omega) (by omega) ?_; intro ad6 c6 w6 ho6 hb6 _; have hxw6 : Ext w1 w6 := Ext.below hxw2 hb6)
        refine ⟨⟨j + 1, ad6, c6, by omega, by go_num, rfl, ?_, hxw6⟩, by simp [intOf]; omega⟩
        rw [HST.out, Hhm1.out, I_append]
        exact ho6
    · obtain rfl : j = N := by omega
      obtain ⟨hdl, hdb⟩ := digsTo_bd HOK.out l j
      have hd36 : Dig36 (digsTo D l j) := fun x hx => by have := hdb x hx; have := HOK.out.n36; omega
      have hsl : (stripesL D (digsTo D l j)).length ≤ 1048576 := by
        have h1 := joinL_len HOK.out hdb
        have h2 := (patB_t HOK.out.stop).2.2.1
        have h3 := gapL_len D
        simp only [stripesL, List.length_append, elsL_len, size_eq]
        omega
      have Hhd36 := Lib.hid hd36; clear hd36; have Hhdb := Lib.hid hdb; clear hdb; have Hhdl := Lib.hid hdl; clear hdl; have Hhsl := Lib.hid hsl; clear hsl
      generalize digsTo D l j = ds at *
      go_wp2_with (first | ((with_reducible refine (impl_wordOf ad j cc ds _ Hho.out.ints Hhd36.out (by omega)).mono ?_); rintro e w3 ⟨rfl, hy3⟩; have hxw3 : Ext w w3 := Ext.trans hxw hy3; have HO3 := Lib.hid (Hho.out.ext hy3); clear hy3) | ((with_reducible refine (impl_stripes D p a n c ad j cc ds _ (HV.out.ext hxw3) HOK.out Hhdb.out HO3.out.ints (by omega)).mono ?_); rintro e w4 ⟨a4, c4, rfl, ho4, hy4⟩; have hxw4 : Ext w w4 := Ext.trans hxw3 hy4; have HO4 := Lib.hid ho4; clear ho4 hy4) | ((with_reducible refine (equal_ints a4 b _ m c4 d _ l _ HO4.out.ints (HI.out.ext hxw4) (by have := Hhsl.out; rw [I_len]; omega)).mono ?_); rintro e w5 ⟨rfl, hy5⟩; have hxw5 : Ext w w5 := Ext.trans hxw4 hy5; clear hy5))
      go_ret2
      refine ⟨textOf ds, ?_, fun _ => by rw [HR.out], hxw5⟩
      rw [HF.out]; rfl
theorem stripesOk1 (x : Int) (w : World) : Calls Try.prog 111 #[.int .i64 x] w (Ret (.bool (!inB x 1 100000)) w) := by
  go_enter Try.func111, Try.ntmps111
  go_wp2_with (go_at_call 87; refine (impl_in _ _ _ _).mono ?_; rintro e w' ⟨rfl, rfl⟩)
  go_ret
  exact ⟨rfl, Ext.refl _⟩
theorem any_not_all' (l : List Int) (p : Int → Bool) : (!(l.any fun x => !p x)) = l.all p := by
  simp [List.all_eq_not_any_not]
set_option maxHeartbeats 1000000 in
theorem impl_stripesOk (a : Option Addr) (n c : Nat) (l : List Int) (w : World) (hv : Ints w a n c l) (hn : n ≤ 1048576) :
    Calls Try.prog 78 #[.slice a n c] w (Ret (.bool (listB l)) w) := by
  have HL := Lib.hid hv.len
  have HC := Lib.hid (containsFunc_ints a n c l 111 #[] (fun x => !inB x 1 100000) (ofI fun x => !inB x 1 100000) w hv (by omega) (fun x => rfl)
      ⟨fun _ _ => rfl, fun v hvl w' _ => by obtain ⟨x, _, rfl⟩ := mem_I hvl; exact stripesOk1 x w'⟩)
  have HA := Lib.hid (any_not_all' l fun x => inB x 1 100000)
  have HB := Lib.hid (show listB l = ((l.all fun x => inB x 1 100000) && decide (n % 2 = 1 ∧ n ≤ 400)) by rw [listB, HL.out])
  clear hv
  by_cases h1 : n % 2 = 1
  · have h1' : ((n : Int) % 2 == 1) = true := by simp; omega
    by_cases h2 : n ≤ 400
    · go_enter Try.func78, Try.ntmps78
      go_wp2_with (refine HC.out.mono ?_; rintro e w1 ⟨rfl, hx⟩)
      go_ret
      exact ⟨rb (by rw [HB.out, ← HA.out]; simp [h1, h2]), (by repeat (first | (with_reducible exact Ext.refl _) | (with_reducible refine Ext.drewN ?_ _) | (with_reducible refine Ext.drew ?_) | (with_reducible refine Ext.alloc ?_ _) | ((with_reducible refine Ext.setCell ?_ ?_ _); rotate_left; focus (first | (simp; done) | (simp; omega) | omega)) | assumption | (with_reducible refine Ext.trans ?_ (by assumption))))⟩
    · go_enter Try.func78, Try.ntmps78
      go_wp2_with (refine HC.out.mono ?_; rintro e w1 ⟨rfl, hx⟩)
      go_ret
      exact ⟨rb (by rw [HB.out]; simp [h2]), (by repeat (first | (with_reducible exact Ext.refl _) | (with_reducible refine Ext.drewN ?_ _) | (with_reducible refine Ext.drew ?_) | (with_reducible refine Ext.alloc ?_ _) | ((with_reducible refine Ext.setCell ?_ ?_ _); rotate_left; focus (first | (simp; done) | (simp; omega) | omega)) | assumption | (with_reducible refine Ext.trans ?_ (by assumption))))⟩
  · have h1' : ((n : Int) % 2 == 1) = false := by simp; omega
    go_enter Try.func78, Try.ntmps78
    go_wp2_with (refine HC.out.mono ?_; rintro e w1 ⟨rfl, hx⟩)
    go_ret
    exact ⟨rb (by rw [HB.out]; simp [h1]), (by repeat (first | (with_reducible exact Ext.refl _) | (with_reducible refine Ext.drewN ?_ _) | (with_reducible refine Ext.drew ?_) | (with_reducible refine Ext.alloc ?_ _) | ((with_reducible refine Ext.setCell ?_ ?_ _); rotate_left; focus (first | (simp; done) | (simp; omega) | omega)) | assumption | (with_reducible refine Ext.trans ?_ (by assumption))))⟩
set_option maxHeartbeats 1000000 in
theorem impl_ReadStripes (D : Bc) (a : Option Addr) (n c : Nat) (b : Option Addr) (m d : Nat) (l : List Int) (w : World) (hv : Strs w a n c D.pats) (hn : n ≤ 1048576) (h1 : D.start.size ≤ 1048576) (h2 : D.stop.size ≤ 1048576) (h3 : ∀ p ∈ D.pats, p.size ≤ 1048576) (hi : Ints w b m d l) (hm : m ≤ 1048576) :
    Calls Try.prog 41 #[.agg #[.string D.start, .string D.stop, .slice a n c, .int .i64 D.gap], .slice b m d] w (Ret2 (.string (readOk D l)) (.bool (readOkB D l)) w) := by
  have HB := Lib.hid (bc_box w D a n c 28 hv)
  have HIs := Lib.hid (impl_ValidBarcode D a n c (w.alloc (.cells #[.string D.start, .string D.stop, .slice a n c, .int .i64 D.gap] 28)) (hv.ext ((Ext.refl w).alloc _)) hn h1 h2 h3)
  have Hhv := Lib.hid hv; clear hv; have Hh3 := Lib.hid h3; clear h3; have Hhi := Lib.hid hi; clear hi
  cases hval : validBc D
  · rw [hval] at HIs
    have HF := Lib.hid (show readOkB D l = false by rw [readOkB, hval]; rfl)
    clear hval
    go_enter Try.func41, Try.ntmps41
    go_wp2_with (refine HIs.out.mono ?_; rintro e w1 ⟨rfl, hx1⟩)
    go_ret2
    exact ⟨by rw [readOk, HF.out]; rfl, ((Ext.refl w).alloc _).trans hx1⟩
  rw [hval] at HIs
  have hok := validBc_ok hval
  have HS := Lib.hid (show readOkB D l = (listB l && readB D l) by rw [readOkB, hval]; rfl)
  have Hhok := Lib.hid hok; clear hok
  clear hval
  go_enter Try.func41, Try.ntmps41
  go_wp2_with fail
  obtain ⟨wb, hwb⟩ : ∃ wb, wb = w.alloc (.cells #[.string D.start, .string D.stop, .slice a n c, .int .i64 D.gap] 28) := ⟨_, rfl⟩
  rw [← hwb] at HB HIs ⊢
  have hxb : Ext w wb := by rw [hwb]; exact (by repeat (first | (with_reducible exact Ext.refl _) | (with_reducible refine Ext.drewN ?_ _) | (with_reducible refine Ext.drew ?_) | (with_reducible refine Ext.alloc ?_ _) | ((with_reducible refine Ext.setCell ?_ ?_ _); rotate_left; focus (first | (simp; done) | (simp; omega) | omega)) | assumption | (with_reducible refine Ext.trans ?_ (by assumption))))
  generalize w.heap.size = p at *
  clear hwb
  refine HIs.out.mono ?_
  rintro e w1 ⟨rfl, hx1⟩
  have hxw1 : Ext w w1 := hxb.trans hx1
  have HLi := Lib.hid (impl_stripesOk b m d l w1 (Hhi.out.ext hxw1) hm)
  cases hlb : listB l
  · rw [hlb] at HLi HS
    go_wp2_with (refine HLi.out.mono ?_; rintro e w2 ⟨rfl, hx2⟩)
    go_ret2
    exact ⟨by rw [readOk, HS.out]; rfl, hxw1.trans hx2⟩
  · rw [hlb, Bool.true_and] at HS
    rw [hlb] at HLi
    have HT := Lib.hid (show readOk D l = if readB D l then textOf (digsR D l) else .empty by rw [readOk, HS.out])
    cases hrb : readB D l
    · rw [hrb] at HS HT
      have Hhrb := Lib.hid hrb; clear hrb
      go_wp2_with (first | ((with_reducible refine HLi.out.mono ?_); rintro e w2 ⟨rfl, hx2⟩) | ((with_reducible refine (impl_read D p a n c b m d l w2 ((HB.out.ext hx1).ext hx2) Hhok.out ((Hhi.out.ext hxw1).ext hx2) hm).mono ?_); rintro e w3 ⟨t, rfl, _, hx3⟩; rw [Hhrb.out]))
      go_ret2
      exact ⟨by rw [HT.out, HS.out]; rfl, (hxw1.trans hx2).trans hx3⟩
    · rw [hrb] at HS HT
      have Hhrb := Lib.hid hrb; clear hrb
      go_wp2_with (first | ((with_reducible refine HLi.out.mono ?_); rintro e w2 ⟨rfl, hx2⟩) | ((with_reducible refine (impl_read D p a n c b m d l w2 ((HB.out.ext hx1).ext hx2) Hhok.out ((Hhi.out.ext hxw1).ext hx2) hm).mono ?_); rintro e w3 ⟨t, rfl, ht, hx3⟩; have HTt := Lib.hid (ht Hhrb.out); clear ht; rw [Hhrb.out]))
      go_ret2
      exact ⟨by rw [HT.out, HS.out, HTt.out]; rfl, (hxw1.trans hx2).trans hx3⟩
end Go.Proofs.Ytnmkckghfckgbaa
