/- The law on likely singles: walked. -/
import Derived.Test.YtbcfbkhbangeoaaLikI
import Derived.Test.YtbcfbkhbangeoaaR8L
import Derived.Test.YtbcfbkhbangeoaaLInts
namespace Go.Proofs.Ytbcfbkhbangeoaa
set_option maxRecDepth 100000
open Go.RowKit

theorem stepsK_comm (a b : List Int) : ∀ k, stepsK a b k = stepsK b a k
  | 0 => rfl
  | k + 1 => by unfold stepsK; rw [stepsK_comm a b k, stepD_comm]
theorem stepsL_comm {a b : List Int} (h : a.length = b.length) : stepsL a b = stepsL b a := by unfold stepsL; rw [stepsK_comm, h]
set_option maxHeartbeats 4000000 in
theorem impl_KeySteps (s x : ByteArray) (hs : wordB s.data.toList 10 20 = true) (hx : wordB x.data.toList 10 20 = true) (hl : s.size = x.size) (hd : Dig10 (digC s)) (hd' : Dig10 (digC x)) (w : World) :
    Calls Try.prog 21 #[.string s, .string x] w (Ret2 (.int .i64 (keyS' (digC s) x)) (.bool true) w) := by
  have h20 := wordB_len hs
  have HA := Lib.hid (fun W => impl_DigitsOf s 10 W (by omega))
  have HB := Lib.hid (fun W => impl_DigitsOf x 10 W (by omega))
  rw [hs] at HA
  rw [hx] at HB
  obtain ⟨n, hn⟩ : ∃ n, n = s.size := ⟨_, rfl⟩
  have HLa := Lib.hid (show (I (digs s.data.toList)).length = n by rw [I_len, show digs s.data.toList = digC s from rfl, digC_len]; exact hn.symm)
  have HLb := Lib.hid (show (I (digs x.data.toList)).length = n by rw [I_len, show digs x.data.toList = digC x from rfl, digC_len]; omega)
  have HK := Lib.hid (fun a c a' c' W (h1 : Ints W a n c (digC s)) (h2 : Ints W a' n c' (digC x)) => impl_keySteps a n c (digC s) a' c' (digC x) W h1 h2 (by omega) hd hd')
  have hn20 : n ≤ 20 := by omega
  clear hs hx hl hd hd' hn h20
  go_enter Try.func21, Try.ntmps21
  go_wp2_with (first
    | (go_at_call 59; first
      | ((with_reducible refine (HA.out _).mono ?_); rintro e w1 ⟨a1, n1, c1, rfl, hx1, ho1⟩; have ho1' := ho1 rfl; have hn1 : n1 = n := (ho1'.len.symm.trans HLa.out); rw [hn1] at ho1' ⊢; have HO1 := Lib.hid (show Ints w1 a1 n c1 (digC s) from ho1'.ints); clear ho1 ho1' hn1)
      | ((with_reducible refine (HB.out _).mono ?_); rintro e w2 ⟨a2, n2, c2, rfl, hx2, ho2⟩; have ho2' := ho2 rfl; have hn2 : n2 = n := (ho2'.len.symm.trans HLb.out); rw [hn2] at ho2' ⊢; have HO2 := Lib.hid (show Ints w2 a2 n c2 (digC x) from ho2'.ints); clear ho2 ho2' hn2))
    | (go_at_call 55; (with_reducible refine (HK.out a1 c1 a2 c2 _ (Ints.ext HO1.out (by repeat (first | (with_reducible exact Ext.refl _) | (with_reducible assumption) | (with_reducible refine Ext.drewN ?_ _) | (with_reducible refine Ext.drew ?_) | (with_reducible refine Ext.alloc ?_ _) | ((with_reducible refine Ext.setCell ?_ ?_ _); rotate_left; focus (first | (simp; done) | (simp; omega) | omega)) | (with_reducible refine Ext.trans ?_ (by with_reducible assumption))))) (Ints.ext HO2.out (by repeat (first | (with_reducible exact Ext.refl _) | (with_reducible assumption) | (with_reducible refine Ext.drewN ?_ _) | (with_reducible refine Ext.drew ?_) | (with_reducible refine Ext.alloc ?_ _) | ((with_reducible refine Ext.setCell ?_ ?_ _); rotate_left; focus (first | (simp; done) | (simp; omega) | omega)) | (with_reducible refine Ext.trans ?_ (by with_reducible assumption)))))).mono ?_); rintro e w3 ⟨rfl, hx3⟩))
  go_ret2
  exact ⟨rfl, hx1.trans (hx2.trans hx3)⟩
/-- what the law asks of the listed words -/
def LikOk (D : Ch) (s : ByteArray) (l : List ByteArray) : Prop :=
  ∀ i, i < l.length → WordQ D (gs l i) ∧ chkB D (gs l i) = true ∧ gs l i ∈ wwL 0 10 s ∧ 1 ≤ keyS' (digC s) (gs l i) ∧ keyS' (digC s) (gs l i) ≤ 5 ∧ keyS' (digC (gs l i)) s = keyS' (digC s) (gs l i) ∧ (0 < i → keyS' (digC s) (gs l (i - 1)) ≤ keyS' (digC s) (gs l i) ∧ (keyS' (digC s) (gs l (i - 1)) = keyS' (digC s) (gs l i) → lessS (gs l (i - 1)) (gs l i) = true))
theorem likC_ww (D : Ch) (s : ByteArray) : (wwL 0 10 s).filter (chkB D) = likC D s :=
  asc_eq (List.Pairwise.sublist List.filter_sublist (ordS_asc _)) (putAll_asc _) fun x => by
    unfold likC wwL
    rw [mem_putAll, List.mem_filter, List.mem_filter, mem_ordS]
theorem nodup_leL0 {α : Type} [BEq α] [LawfulBEq α] : ∀ {l l' : List α}, l.Nodup → (∀ x ∈ l, x ∈ l') → l.length ≤ l'.length
  | [], l', _, _ => Nat.zero_le _
  | x :: l, l', hn, hs => by
    rw [List.nodup_cons] at hn
    have h1 := nodup_leL0 (l' := l'.erase x) hn.2 fun y hy => (List.mem_erase_of_ne (fun e => hn.1 (by rw [← e]; exact hy))).2 (hs y (List.mem_cons_of_mem _ hy))
    rw [List.length_erase_of_mem (hs x (by simp))] at h1
    have := List.length_pos_of_mem (hs x (by simp))
    rw [List.length_cons]; omega
theorem nodup_leL {l l' : List ByteArray} (hn : l.Nodup) (hs : ∀ x ∈ l, x ∈ l') : l.length ≤ l'.length := by
  have h := nodup_leL0 (l := l.map fun b => b.data.toList) (l' := l'.map fun b => b.data.toList) (List.pairwise_map.2 (hn.imp fun hne e => hne (ba_ext e))) (fun y hy => by
    obtain ⟨z, hz, rfl⟩ := List.mem_map.1 hy
    exact List.mem_map_of_mem (hs z hz))
  simpa using h
theorem likN_len {D : Ch} {s : ByteArray} (hb : D.base = 10) (hs : runOk D s = true) : (likN D s 5).length = ((wwL 0 10 s).filter (chkB D)).length := by
  rw [likC_ww]
  have h1 : (likN D s 5).Nodup := (likN_asc D s 5).imp fun h e => by subst e; exact h.irrefl
  have h2 : (likC D s).Nodup := (putAll_asc _).imp fun h e => by subst e; rw [less_irrefl] at h; cases h
  have h3 := nodup_leL h1 (l' := likC D s) fun x hx => (likN_mem.1 hx).1
  have h4 := nodup_leL h2 (l' := likN D s 5) fun x hx => likN_mem.2 ⟨hx, (likC_mem hb hs hx).2.2.1, (likC_mem hb hs hx).2.2.2.1⟩
  omega
theorem likOk_of {D : Ch} {s : ByteArray} (hb : D.base = 10) (hs : runOk D s = true) : LikOk D s (likN D s 5) := fun i hi => by
  have hx : gs (likN D s 5) i ∈ likN D s 5 := by rw [gs_get hi]; exact List.getElem_mem hi
  obtain ⟨hc, h1, h2⟩ := likN_mem.1 hx
  obtain ⟨k1, k2, k3, k4, t, ht, he, hdt⟩ := likC_mem hb hs hc
  have hws : wordCh D s = true := by unfold runOk at hs; simp only [Bool.and_eq_true] at hs; exact hs.2
  have hl1 := (wordCh_t hws).2.1
  have hl2 := (wordCh_t k2.1).2.1
  refine ⟨k2, k1, ?_, k3, k4, ?_, fun h0 => ?_⟩
  · rw [← likC_ww] at hc; exact (List.mem_filter.1 hc).1
  · unfold keyS'; rw [stepsL_comm (by rw [digC_len, digC_len]; omega)]
  · have hR := List.pairwise_iff_getElem.1 (likN_asc D s 5) (i - 1) i (by omega) hi (by omega)
    rw [← gs_get (by omega), ← gs_get hi] at hR
    refine ⟨hR.le, fun e => ?_⟩
    rcases hR with h | h
    · omega
    · exact h.2
def cntK (D : Ch) (l : List ByteArray) (i : Nat) : Nat := ((l.take i).filter (chkB D)).length
theorem cntK_step {D : Ch} {l : List ByteArray} {i : Nat} (h : i < l.length) : cntK D l (i + 1) = cntK D l i + (if chkB D (gs l i) then 1 else 0) := by
  unfold cntK
  rw [take_snocS h, List.filter_append, List.length_append]
  cases h2 : chkB D (gs l i) <;> simp [h2]
def drawnD (l : List UInt8) (i : Nat) : List Int := (List.range i).map fun (j : Nat) => r8 l j 10
theorem drawnD_step (l : List UInt8) (i : Nat) : drawnD l (i + 1) = drawnD l i ++ [r8 l i 10] := by unfold drawnD; rw [List.range_succ, List.map_append]; rfl
theorem drawnD_len (l : List UInt8) (i : Nat) : (drawnD l i).length = i := by simp [drawnD]
theorem drawnD_dig (l : List UInt8) (i : Nat) : ∀ d ∈ drawnD l i, 0 ≤ d ∧ d < 10 := fun d hd => by
  unfold drawnD at hd
  obtain ⟨j, _, rfl⟩ := List.mem_map.1 hd
  have := r8_bd l j 10 (by omega)
  omega

set_option maxHeartbeats 16000000 in
theorem lawLikely (a : Option Addr) (n c : Nat) (l : List UInt8) (a' : Option Addr) (n' c' : Nat) (l' : List UInt8) (w : World) (hv : Bytes w a n c l) (hn : n ≤ 9223372036854775807) (hv' : Bytes w a' n' c' l') (hn' : n' ≤ 9223372036854775807) :
    Calls Try.prog 4 #[.slice a n c, .slice a' n' c'] w (Ret (.bool true) w) := by
  have HLong := Lib.hid (laws_r8Long a a' n c n' c' w hn hn')
  have HB := Lib.hid hv
  have HB' := Lib.hid hv'
  clear hv hv'
  by_cases hlong : 48 < n ∨ 48 < n'
  · rw [decide_eq_true hlong] at HLong
    clear hlong
    go_enter Try.func4, Try.ntmps4
    go_wp2_with (refine HLong.out.mono ?_; rintro e w1 ⟨rfl, rfl⟩)
    go_ret
    exact ⟨rfl, Ext.refl _⟩
  rw [decide_eq_false hlong] at HLong
  have hn48 : n ≤ 48 ∧ n' ≤ 48 := by omega
  clear hlong
  have hz := r8_bd l' 20 3 (by omega)
  have HR20 := Lib.hid (fun W (h : Ext w W) => laws_r8 a' n' c' l' 20 3 W (HB'.out.ext h) (by omega) (by omega) (by omega))
  generalize r8 l' 20 3 = z at *
  obtain ⟨p, hpz⟩ : ∃ p : Nat, (p : Int) = 1 + z := ⟨(1 + z).toNat, by omega⟩
  have hp13 : 1 ≤ p ∧ p ≤ 3 := by omega
  have HLk := Lib.hid (show Calls Try.prog 15 #[.slice a n c, .int .i64 10, .int .i64 (1 + z)] w (RetLike 10 p w) from by
    rw [← hpz]; exact spec_R8Like a n c l 10 p w HB.out (by omega) (by omega) (by omega) (by omega) (by omega))
  clear hpz
  have hww : Ext w w := Ext.refl _
  go_enter Try.func4, Try.ntmps4
  go_wp2_with (first | (go_at_call 14; refine HLong.out.mono ?_; rintro e w1 ⟨rfl, rfl⟩) | (go_at_call 16; (with_reducible refine (HR20.out _ hww).mono ?_); rintro e w1 ⟨rfl, rfl⟩) | (go_at_call 15; refine HLk.out.mono ?_; rintro e w1 ⟨D, ad, x, cc, pd, pc, rfl, hdr, hb10, hp, hs6, hx3, hch, hx1⟩; have HB10' := Lib.hid hb10; have HP := Lib.hid hp; clear hb10 hp hs6))
  have Hval := Lib.hid hdr.valid
  have Hok := Lib.hid (validCh_ok hdr.valid)
  have HB10 := Lib.hid (show D.base = 10 from HB10'.out)
  obtain ⟨wb, hwb⟩ : ∃ wb, wb = w1.alloc (.cells #[.int .i64 D.base, .int .i64 D.states, .int .i64 D.start, .int .i64 D.fin, .slice ad x cc, .slice pd p pc] 30) := ⟨_, rfl⟩
  have hx1b : Ext w1 wb := by rw [hwb]; exact (by repeat (first | (with_reducible exact Ext.refl _) | (with_reducible refine Ext.drewN ?_ _) | (with_reducible refine Ext.drew ?_) | (with_reducible refine Ext.alloc ?_ _) | ((with_reducible refine Ext.setCell ?_ ?_ _); rotate_left; focus (first | (simp; done) | (simp; omega) | omega)) | assumption | (with_reducible refine Ext.trans ?_ (by assumption))))
  have HA := Lib.hid (show ChAt wb w1.heap.size D ad x cc pd p pc by rw [hwb]; exact hch.box _)
  have hxwb : Ext w wb := hx1.trans hx1b
  have HI := Lib.hid (hch.ext hx1b)
  rw [← hwb]
  obtain ⟨q, hq⟩ : ∃ q, q = w1.heap.size := ⟨_, rfl⟩
  rw [← hq] at HA ⊢
  obtain ⟨k0, k1, k2, k3, k4, k5, _, _⟩ := HA.out
  clear hwb hq hdr hch HLong hx1 hx1b HB HLk HR20 HB10'
  have hxbb : Ext wb wb := Ext.refl _
  have HRi := Lib.hid (fun (i : Nat) (hi : i ≤ 3) W (h : Ext w W) => laws_r8 a' n' c' l' (i : Int) 10 W (HB'.out.ext h) (by omega) (by omega) (by omega))
  have HSy := Lib.hid (fun (z : Int) W (h0 : 0 ≤ z) (h1 : z < 10) => laws_r8Symbol z W h0 (by omega))
  go_wp2_with fail
  go_loopw [6, 7] (fun v6 v7 wr => ∃ (i : Nat) (s : ByteArray), i ≤ p ∧ v6 = .string s ∧ v7 = .int .i64 i ∧ Hid (s = textOf (drawnD l' i)) ∧ s.size = i ∧ Ext wb wr) (fun _ v7 _ => p - (intOf v7).toNat)
  case atStart => exact ⟨0, .empty, Nat.zero_le _, rfl, rfl, rfl, rfl, hxbb⟩
  case round =>
    obtain ⟨i, s, hi, rfl, rfl, HS, hsz, hxr⟩ := hrel
    by_cases hlt : i < p
    · have hbd := r8_bd l' (i : Int) 10 (by omega)
      have HR := Lib.hid (fun W (h : Ext w W) => HRi.out i (by omega) W h)
      have HSt := Lib.hid (drawnD_step l' i)
      have hxwr : Ext w wr := hxwb.trans hxr
      generalize r8 l' (i : Int) 10 = z1 at *
      have HSy1 := Lib.hid (fun W => HSy.out z1 W hbd.1 hbd.2)
      have hu1 : (textOf [z1]).size = 1 := textOf_size _
      have HN := Lib.hid (show s ++ textOf [z1] = textOf (drawnD l' (i + 1)) by rw [HSt.out, text_app, HS.out])
      clear hbd
      go_wp2_with (first | (go_at_call 16; (with_reducible refine (HR.out _ (by repeat (first | (with_reducible exact Ext.refl _) | (with_reducible assumption) | (with_reducible refine Ext.drewN ?_ _) | (with_reducible refine Ext.drew ?_) | (with_reducible refine Ext.alloc ?_ _) | ((with_reducible refine Ext.setCell ?_ ?_ _); rotate_left; focus (first | (simp; done) | (simp; omega) | omega)) | (with_reducible refine Ext.trans ?_ (by with_reducible assumption))))).mono ?_); rintro e w5 ⟨rfl, rfl⟩) | (go_at_call 17; (with_reducible refine (HSy1.out _).mono ?_); rintro e w8 ⟨rfl, rfl⟩))
      exact ⟨⟨i + 1, s ++ textOf [z1], hlt, rfl, by go_num, HN.out, by rw [ByteArray.size_append]; omega, hxr⟩, by simp [intOf]; omega⟩
    · obtain rfl : i = p := by omega
      have hds := drawnD_dig l' i
      have hdl := drawnD_len l' i
      obtain ⟨ds, hde⟩ : ∃ ds, ds = drawnD l' i := ⟨_, rfl⟩
      rw [← hde] at hds hdl
      have hdC : DigC D ds := fun d hd => by have := hds d hd; have := HB10.out; omega
      have hst : s = textOf ds := by rw [hde]; exact HS.out
      have h36 : Dig36 ds := fun d hd => by have := hds d hd; omega
      have hD10 : Dig10 (digC s) := by rw [hst, digC_text h36]; exact fun d hd => by have := hds d hd; omega
      have hrun : runOk D s = true := by rw [hst]; exact runOk_text Hok.out Hval.out hdC (by rw [hdl]; exact HP.out.symm)
      have hlB : likB D s = true := by unfold likB; rw [hrun, decide_eq_true HB10.out]; rfl
      have hlL : likL D s = likN D s 5 := by unfold likL; rw [hlB]; rfl
      have hwb10 : wordB s.data.toList 10 20 = true := by
        have h := runOk_text Hok.out Hval.out hdC (by rw [hdl]; exact HP.out.symm)
        rw [← hst] at h
        unfold runOk wordCh at h
        simp only [Bool.and_eq_true] at h
        rw [HB10.out] at h
        exact h.2.1
      have HLi := Lib.hid (fun W (h : Ext wb W) => impl_Likely D ad x cc pd i pc s W (HI.out.ext h) (by omega))
      rw [hlL, hlB] at HLi
      have HWw := Lib.hid (fun W => show Calls Try.prog 19 #[.string s, .int .i64 10, .int .i64 0] W (RetTS (wwV 0 10 s) (wwB 0 10 s) W) from impl_WrongWords 0 10 (by omega) (by omega) s W (by omega))
      have hwB : wwB 0 10 s = true := by unfold wwB kindB; rw [show wordB s.data.toList ((10 : Nat) : Int) 20 = true from hwb10]; rfl
      rw [show wwV 0 10 s = wwL 0 10 s by unfold wwV; rw [hwB]; rfl, hwB] at HWw
      have HOk := Lib.hid (likOk_of HB10.out hrun)
      have HLen := Lib.hid (likN_len HB10.out hrun)
      have HWl := Lib.hid (wwL_len (k := 0) (base := 10) (s := s) (by omega) (by omega))
      have HIC := Lib.hid (fun t W (hs : t.size ≤ 1048576) (h : Ext wb W) => impl_IsChecked D ad x cc pd i pc t W (HI.out.ext h) hs)
      have HWsz := Lib.hid (fun t (ht : t ∈ wwL 0 10 s) => show t.size ≤ 1048576 by
        rw [hst, wwL_mem h36] at ht
        obtain ⟨u, hu, rfl⟩ := ht
        rw [textOf_size, (wrong_dig (base := 10) (k := 0) (fun x hx => by have := hds x hx; omega) (.inl (by omega)) hu).1]; omega)
      have HKs := Lib.hid (fun t W (ht : WordQ D t) => And.intro
        (impl_KeySteps s t hwb10 (by have h := ht.1; unfold wordCh at h; simp only [Bool.and_eq_true] at h; rw [HB10.out] at h; exact h.1) (by have := (wordCh_t ht.1).2.1; have := HP.out; omega) hD10 ht.2 W)
        (impl_KeySteps t s (by have h := ht.1; unfold wordCh at h; simp only [Bool.and_eq_true] at h; rw [HB10.out] at h; exact h.1) hwb10 (by have := (wordCh_t ht.1).2.1; have := HP.out; omega) ht.2 hD10 W))
      obtain ⟨WL, hWL⟩ : ∃ L, L = wwL 0 10 s := ⟨_, rfl⟩
      obtain ⟨LL, hLL⟩ : ∃ L, L = likN D s 5 := ⟨_, rfl⟩
      rw [← hLL] at HLi HOk HLen
      unfold LikOk at HOk
      rw [← hWL] at HWw HLen HWl HWsz HOk
      clear hds hdl hde hdC hst h36 hD10 hrun hlB hlL hwb10 hwB hWL hLL HS HRi HSy
      go_wp2_with (first | (go_at_call 18; (with_reducible refine (HLi.out _ hxr).mono ?_); rintro e w2 ⟨a2, c2, rfl, ho2, hy2⟩; have hx2 : Ext wb w2 := hxr.trans hy2; have HO2 := Lib.hid (show Strs w2 a2 LL.length c2 LL from ho2.sl); clear ho2 hy2) | (go_at_call 19; (with_reducible refine (HWw.out _).mono ?_); rintro e w3 ⟨a3, c3, rfl, ho3, hy3⟩; have hx3 : Ext wb w3 := hx2.trans hy3; have hx23 : Ext w2 w3 := hy3; have HO3 := Lib.hid ho3; clear ho3 hy3))
      obtain ⟨b3, o3, hix3, hcell3⟩ := Sl.ix (P := Try.prog) HO3.out 42 9 und_strs cell_str
      obtain ⟨b2, o2, hix2, hcell2⟩ := Sl.ix (P := Try.prog) HO2.out 42 9 und_strs cell_str
      obtain ⟨N, hN⟩ : ∃ N, N = WL.length := ⟨_, rfl⟩
      obtain ⟨M, hM⟩ : ∃ M, M = LL.length := ⟨_, rfl⟩
      have HN := Lib.hid hN
      have HM := Lib.hid hM
      have hN1 : N ≤ 1000 := by rw [hN]; exact HWl.out
      have hM1 : M ≤ 1000 := by
        rw [hM, HLen.out]
        have := List.length_filter_le (chkB D) WL
        omega
      rw [← hN] at HO3 hix3 hcell3 ⊢
      rw [← hM] at HO2 hix2 hcell2 HOk ⊢
      clear hN hM
      go_loopw [12, 13] (fun v12 v13 wr => ∃ i : Nat, i ≤ N ∧ v12 = .int .i64 (cntK D WL i) ∧ v13 = .int .i64 i ∧ Ext w3 wr) (fun _ v13 _ => N - (intOf v13).toNat)
      case atStart => exact ⟨0, Nat.zero_le _, rfl, rfl, Ext.refl _⟩
      case round =>
        obtain ⟨i, hi, rfl, rfl, hxr3⟩ := hrel
        by_cases hlt : i < N
        · have hmem : gs WL i ∈ WL := by rw [gs_get (by rw [← HN.out]; exact hlt)]; exact List.getElem_mem _
          have HC1 := Lib.hid (fun W (h : Ext wb W) => HIC.out (gs WL i) W (HWsz.out _ hmem) h)
          have HSt := Lib.hid (cntK_step (D := D) (l := WL) (i := i) (by rw [← HN.out]; exact hlt))
          have hgk := gv_St (l := WL) (k := i) (by rw [← HN.out]; exact hlt)
          have hxbr : Ext wb wr := hx3.trans hxr3
          have hcb : cntK D WL i ≤ i := by unfold cntK; have := List.length_filter_le (chkB D) (WL.take i); rw [List.length_take] at this; omega
          obtain ⟨t, ht⟩ : ∃ t, t = gs WL i := ⟨_, rfl⟩
          rw [← ht] at HC1 HSt hgk
          clear ht hmem
          cases hc : chkB D t with
          | true =>
            rw [hc] at HC1
            have HS2 := Lib.hid (show cntK D WL (i + 1) = cntK D WL i + 1 by rw [HSt.out, hc]; rfl)
            clear hc HSt
            go_wp2_with fail
            (refine wp_region_from wr (by repeat (first | (with_reducible exact Ext.refl _) | (with_reducible refine Ext.drewN ?_ _) | (with_reducible refine Ext.drew ?_) | (with_reducible refine Ext.alloc ?_ _) | ((with_reducible refine Ext.setCell ?_ ?_ _); rotate_left; focus (first | (simp; done) | (simp; omega) | omega)) | assumption | (with_reducible refine Ext.trans ?_ (by assumption)))) (by kernel_rfl) (by kernel_rfl) (by kernel_rfl) ?_; (repeat (first | (refine mix_q rfl ?_; go_big_quiet_step (fail); refine wpQuiet_nil ?_; show wpMix _ _ _ _ _ _ _) | (refine mix_s rfl ?_; go_wp2_with ((go_at_call 20; (with_reducible refine (HC1.out _ (by repeat (first | (with_reducible exact Ext.refl _) | (with_reducible assumption) | (with_reducible refine Ext.drewN ?_ _) | (with_reducible refine Ext.drew ?_) | (with_reducible refine Ext.alloc ?_ _) | ((with_reducible refine Ext.setCell ?_ ?_ _); rotate_left; focus (first | (simp; done) | (simp; omega) | omega)) | (with_reducible refine Ext.trans ?_ (by with_reducible assumption))))).mono ?_); rintro e w4 ⟨rfl, hy4⟩; have hx4 : Ext wr w4 := Ext.trans (by repeat (first | (with_reducible exact Ext.refl _) | (with_reducible assumption) | (with_reducible refine Ext.drewN ?_ _) | (with_reducible refine Ext.drew ?_) | (with_reducible refine Ext.alloc ?_ _) | ((with_reducible refine Ext.setCell ?_ ?_ _); rotate_left; focus (first | (simp; done) | (simp; omega) | omega)) | (with_reducible refine Ext.trans ?_ (by with_reducible assumption)))) hy4; clear hy4)); first | refine ⟨up_of (by repeat (first | (with_reducible exact Ext.refl _) | (with_reducible refine Ext.drewN ?_ _) | (with_reducible refine Ext.drew ?_) | (with_reducible refine Ext.alloc ?_ _) | ((with_reducible refine Ext.setCell ?_ ?_ _); rotate_left; focus (first | (simp; done) | (simp; omega) | omega)) | assumption | (with_reducible refine Ext.trans ?_ (by assumption)))), ?_⟩ | refine ⟨rfl, rfl, up_of (by repeat (first | (with_reducible exact Ext.refl _) | (with_reducible refine Ext.drewN ?_ _) | (with_reducible refine Ext.drew ?_) | (with_reducible refine Ext.alloc ?_ _) | ((with_reducible refine Ext.setCell ?_ ?_ _); rotate_left; focus (first | (simp; done) | (simp; omega) | omega)) | assumption | (with_reducible refine Ext.trans ?_ (by assumption)))), ?_⟩))); refine mix_nil ?_)
            go_wp2_with fail
            exact ⟨⟨i + 1, hlt, by rw [HS2.out]; go_num, by go_num, hxr3.trans hx4⟩, by simp [intOf]; omega⟩
          | false =>
            rw [hc] at HC1
            have HS2 := Lib.hid (show cntK D WL (i + 1) = cntK D WL i by rw [HSt.out, hc]; rfl)
            clear hc HSt
            go_wp2_with fail
            (refine wp_region_from wr (by repeat (first | (with_reducible exact Ext.refl _) | (with_reducible refine Ext.drewN ?_ _) | (with_reducible refine Ext.drew ?_) | (with_reducible refine Ext.alloc ?_ _) | ((with_reducible refine Ext.setCell ?_ ?_ _); rotate_left; focus (first | (simp; done) | (simp; omega) | omega)) | assumption | (with_reducible refine Ext.trans ?_ (by assumption)))) (by kernel_rfl) (by kernel_rfl) (by kernel_rfl) ?_; (repeat (first | (refine mix_q rfl ?_; go_big_quiet_step (fail); refine wpQuiet_nil ?_; show wpMix _ _ _ _ _ _ _) | (refine mix_s rfl ?_; go_wp2_with ((go_at_call 20; (with_reducible refine (HC1.out _ (by repeat (first | (with_reducible exact Ext.refl _) | (with_reducible assumption) | (with_reducible refine Ext.drewN ?_ _) | (with_reducible refine Ext.drew ?_) | (with_reducible refine Ext.alloc ?_ _) | ((with_reducible refine Ext.setCell ?_ ?_ _); rotate_left; focus (first | (simp; done) | (simp; omega) | omega)) | (with_reducible refine Ext.trans ?_ (by with_reducible assumption))))).mono ?_); rintro e w4 ⟨rfl, hy4⟩; have hx4 : Ext wr w4 := Ext.trans (by repeat (first | (with_reducible exact Ext.refl _) | (with_reducible assumption) | (with_reducible refine Ext.drewN ?_ _) | (with_reducible refine Ext.drew ?_) | (with_reducible refine Ext.alloc ?_ _) | ((with_reducible refine Ext.setCell ?_ ?_ _); rotate_left; focus (first | (simp; done) | (simp; omega) | omega)) | (with_reducible refine Ext.trans ?_ (by with_reducible assumption)))) hy4; clear hy4)); first | refine ⟨up_of (by repeat (first | (with_reducible exact Ext.refl _) | (with_reducible refine Ext.drewN ?_ _) | (with_reducible refine Ext.drew ?_) | (with_reducible refine Ext.alloc ?_ _) | ((with_reducible refine Ext.setCell ?_ ?_ _); rotate_left; focus (first | (simp; done) | (simp; omega) | omega)) | assumption | (with_reducible refine Ext.trans ?_ (by assumption)))), ?_⟩ | refine ⟨rfl, rfl, up_of (by repeat (first | (with_reducible exact Ext.refl _) | (with_reducible refine Ext.drewN ?_ _) | (with_reducible refine Ext.drew ?_) | (with_reducible refine Ext.alloc ?_ _) | ((with_reducible refine Ext.setCell ?_ ?_ _); rotate_left; focus (first | (simp; done) | (simp; omega) | omega)) | assumption | (with_reducible refine Ext.trans ?_ (by assumption)))), ?_⟩))); refine mix_nil ?_)
            go_wp2_with fail
            exact ⟨⟨i + 1, hlt, by rw [HS2.out], by go_num, hxr3.trans hx4⟩, by simp [intOf]; omega⟩
        · obtain rfl : N = i := by omega
          have HCn := Lib.hid (show cntK D WL N = M by rw [HM.out, HLen.out]; unfold cntK; rw [HN.out, List.take_of_length_le (Nat.le_refl _)])
          rw [HCn.out]
          go_wp2_with fail
          rename World => wo
          go_loopw [14, 15] (fun v14 v15 wr => ∃ i : Nat, i ≤ M ∧ v14 = .int .i64 (if i = 0 then 0 else keyS' (digC s) (gs LL (i - 1))) ∧ v15 = .int .i64 i ∧ Ext w3 wr) (fun _ v15 _ => M - (intOf v15).toNat)
          case atStart => exact ⟨0, Nat.zero_le _, rfl, rfl, hxr3⟩
          case round =>
            clear hxr3
            obtain ⟨i, hi, rfl, rfl, hxr3⟩ := hrel
            have hxr2 : Ext w2 wr := hx23.trans hxr3
            have hww5 : Ext wr wr := Ext.refl _
            by_cases hlt : i < M
            · obtain ⟨hWQ, hchk, hmem, h1, h5, hcomm, hord⟩ := HOk.out i hlt
              have HK1 := Lib.hid (fun W => (HKs.out (gs LL i) W hWQ).1)
              have HK2 := Lib.hid (fun W => (HKs.out (gs LL i) W hWQ).2)
              rw [hcomm] at HK2
              have HC1 := Lib.hid (fun W (h : Ext wb W) => HIC.out (gs LL i) W (by have := (wordCh_t hWQ.1).2.2; omega) h)
              rw [hchk] at HC1
              have HHas := Lib.hid (fun W (h : Strs W a3 N c3 WL) => laws_hasText a3 N c3 WL (gs LL i) W h (by omega) hmem)
              have hgk := gv_St (l := LL) (k := i) (by rw [← HM.out]; exact hlt)
              have HLs := Lib.hid (show (if i + 1 = 0 then (0 : Int) else keyS' (digC s) (gs LL (i + 1 - 1))) = keyS' (digC s) (gs LL i) by rw [if_neg (by omega), Nat.add_sub_cancel])
              obtain ⟨y, hy⟩ : ∃ y, y = gs LL i := ⟨_, rfl⟩
              rw [← hy] at HK1 HK2 HC1 HHas hgk HLs h1 h5 hord
              obtain ⟨kx, hkx⟩ : ∃ k, k = keyS' (digC s) y := ⟨_, rfl⟩
              rw [← hkx] at HK1 HK2 HLs h1 h5 hord
              have hg1 : decide (kx < 1) = false := decide_eq_false (by omega)
              have hg5 : decide (5 < kx) = false := decide_eq_false (by omega)
              clear hWQ hchk hmem hcomm hy hkx
              by_cases hi0 : i = 0
              · rw [if_pos hi0]
                have HI0 := Lib.hid hi0
                clear hi0
                have hq : (kx == 0) = false := beq_eq_false_iff_ne.2 (by omega)
                have hg0 : decide (kx < 0) = false := decide_eq_false (by omega)
                clear hord
                go_wp2_with (go_at_call 21; first | ((with_reducible refine (HK1.out _).mono ?_); rintro e w4 ⟨rfl, hy4⟩; have hx4 : Ext wr w4 := Ext.trans (by repeat (first | (with_reducible exact Ext.refl _) | (with_reducible assumption) | (with_reducible refine Ext.drewN ?_ _) | (with_reducible refine Ext.drew ?_) | (with_reducible refine Ext.alloc ?_ _) | ((with_reducible refine Ext.setCell ?_ ?_ _); rotate_left; focus (first | (simp; done) | (simp; omega) | omega)) | (with_reducible refine Ext.trans ?_ (by with_reducible assumption)))) hy4; have hx24 : Ext w2 w4 := hxr2.trans hx4; clear hy4) | ((with_reducible refine (HK2.out _).mono ?_); rintro e w5 ⟨rfl, hy5⟩; have hx5 : Ext w4 w5 := Ext.trans (by repeat (first | (with_reducible exact Ext.refl _) | (with_reducible assumption) | (with_reducible refine Ext.drewN ?_ _) | (with_reducible refine Ext.drew ?_) | (with_reducible refine Ext.alloc ?_ _) | ((with_reducible refine Ext.setCell ?_ ?_ _); rotate_left; focus (first | (simp; done) | (simp; omega) | omega)) | (with_reducible refine Ext.trans ?_ (by with_reducible assumption)))) hy5; clear hy5))
                have hxr5 : Ext wr w5 := hx4.trans hx5
                have hx25 : Ext w2 w5 := hxr2.trans hxr5
                have hx35 : Ext w3 w5 := hxr3.trans hxr5
                have hxb5 : Ext wb w5 := hx3.trans hx35
                have h55 : Ext w5 w5 := Ext.refl _
                (refine wp_region_from w5 (by repeat (first | (with_reducible exact Ext.refl _) | (with_reducible refine Ext.drewN ?_ _) | (with_reducible refine Ext.drew ?_) | (with_reducible refine Ext.alloc ?_ _) | ((with_reducible refine Ext.setCell ?_ ?_ _); rotate_left; focus (first | (simp; done) | (simp; omega) | omega)) | assumption | (with_reducible refine Ext.trans ?_ (by assumption)))) (by kernel_rfl) (by kernel_rfl) (seqB_of (by kernel_rfl)) ?_; (repeat (first | (refine mix_q rfl ?_; go_big_quiet_step (fail); refine wpQuiet_nil ?_; show wpMix _ _ _ _ _ _ _) | (refine mix_s rfl ?_; go_wp2_with ((first | (go_at_call 22; (with_reducible refine (HHas.out _ (Strs.ext HO3.out (hx35.trans (by repeat (first | (with_reducible exact Ext.refl _) | (with_reducible assumption) | (with_reducible refine Ext.drewN ?_ _) | (with_reducible refine Ext.drew ?_) | (with_reducible refine Ext.alloc ?_ _) | ((with_reducible refine Ext.setCell ?_ ?_ _); rotate_left; focus (first | (simp; done) | (simp; omega) | omega)) | (with_reducible refine Ext.trans ?_ (by with_reducible assumption))))))).mono ?_); rintro e w6 ⟨rfl, hy6⟩; have hx6 : Ext w5 w6 := Ext.trans (by repeat (first | (with_reducible exact Ext.refl _) | (with_reducible assumption) | (with_reducible refine Ext.drewN ?_ _) | (with_reducible refine Ext.drew ?_) | (with_reducible refine Ext.alloc ?_ _) | ((with_reducible refine Ext.setCell ?_ ?_ _); rotate_left; focus (first | (simp; done) | (simp; omega) | omega)) | (with_reducible refine Ext.trans ?_ (by with_reducible assumption)))) hy6; clear hy6) | (go_at_call 20; (with_reducible refine (HC1.out _ (hxb5.trans (by repeat (first | (with_reducible exact Ext.refl _) | (with_reducible assumption) | (with_reducible refine Ext.drewN ?_ _) | (with_reducible refine Ext.drew ?_) | (with_reducible refine Ext.alloc ?_ _) | ((with_reducible refine Ext.setCell ?_ ?_ _); rotate_left; focus (first | (simp; done) | (simp; omega) | omega)) | (with_reducible refine Ext.trans ?_ (by with_reducible assumption)))))).mono ?_); rintro e w7 ⟨rfl, hy7⟩; have hx7 : Ext w5 w7 := Ext.trans (by repeat (first | (with_reducible exact Ext.refl _) | (with_reducible assumption) | (with_reducible refine Ext.drewN ?_ _) | (with_reducible refine Ext.drew ?_) | (with_reducible refine Ext.alloc ?_ _) | ((with_reducible refine Ext.setCell ?_ ?_ _); rotate_left; focus (first | (simp; done) | (simp; omega) | omega)) | (with_reducible refine Ext.trans ?_ (by with_reducible assumption)))) hy7; clear hy7))); first | refine ⟨up_of (by repeat (first | (with_reducible exact Ext.refl _) | (with_reducible refine Ext.drewN ?_ _) | (with_reducible refine Ext.drew ?_) | (with_reducible refine Ext.alloc ?_ _) | ((with_reducible refine Ext.setCell ?_ ?_ _); rotate_left; focus (first | (simp; done) | (simp; omega) | omega)) | assumption | (with_reducible refine Ext.trans ?_ (by assumption)))), ?_⟩ | refine ⟨rfl, rfl, up_of (by repeat (first | (with_reducible exact Ext.refl _) | (with_reducible refine Ext.drewN ?_ _) | (with_reducible refine Ext.drew ?_) | (with_reducible refine Ext.alloc ?_ _) | ((with_reducible refine Ext.setCell ?_ ?_ _); rotate_left; focus (first | (simp; done) | (simp; omega) | omega)) | assumption | (with_reducible refine Ext.trans ?_ (by assumption)))), ?_⟩))); refine mix_nil ?_)
                have hxe : Ext w3 w7 := hx35.trans hx7
                go_wp2_with fail
                exact ⟨⟨i + 1, by omega, (by rw [HLs.out]), by go_num, hxe⟩, by simp [intOf]; omega⟩
              · rw [if_neg hi0]
                obtain ⟨hle, hlx⟩ := hord (by omega)
                have HLx := Lib.hid hlx
                have hgk1 := gv_St (l := LL) (k := i - 1) (by rw [← HM.out]; omega)
                obtain ⟨u, hu⟩ : ∃ u, u = gs LL (i - 1) := ⟨_, rfl⟩
                rw [← hu] at hle HLx hgk1 ⊢
                obtain ⟨ku, hku⟩ : ∃ k, k = keyS' (digC s) u := ⟨_, rfl⟩
                rw [← hku] at hle HLx ⊢
                have hg0 : decide (kx < ku) = false := decide_eq_false (by omega)
                clear hu hku hlx hord
                by_cases hk : kx = ku
                · have hl1 : Op.bytesLess u.toList y.toList = true := HLx.out hk.symm
                  have hl2 : Op.bytesLess y.toList u.toList = false := less_asymm (a := u) (b := y) hl1
                  have hl3 : (y.toList == u.toList) = false := by
                    rw [Bool.eq_false_iff]; intro h
                    rw [bs_iff.1 h] at hl2
                    have h2 : lessS u y = true := hl1
                    rw [bs_iff.1 h, less_irrefl] at h2; cases h2
                  obtain rfl : ku = kx := hk.symm
                  have hq : (ku == ku) = true := beq_self_eq_true _
                  have hip : decide (0 < i) = true := decide_eq_true (by omega)
                  have hixm : ∀ w', (Instr.indexAt 42 (.slice a2 M c2) (.int .i64 ((i : Int) - 1))).run Try.prog w' = .ok (.pointer (some ⟨b2, o2 + (i - 1), none⟩)) w' := fun w' => by
                    have h := hix2 ((i : Int) - 1) .i64 w' (by omega) (by omega)
                    rwa [show ((i : Int) - 1).toNat = i - 1 by omega] at h
                  have hcm : ∀ w', Ext w2 w' → w'.cell? ⟨b2, o2 + (i - 1), none⟩ = some (.string u) := fun w' h => by
                    have h1 := hcell2 (i - 1) w' (by omega) h
                    rwa [hgk1] at h1
                  clear HLx hk
                  go_wp2_with (go_at_call 21; first | ((with_reducible refine (HK1.out _).mono ?_); rintro e w4 ⟨rfl, hy4⟩; have hx4 : Ext wr w4 := Ext.trans (by repeat (first | (with_reducible exact Ext.refl _) | (with_reducible assumption) | (with_reducible refine Ext.drewN ?_ _) | (with_reducible refine Ext.drew ?_) | (with_reducible refine Ext.alloc ?_ _) | ((with_reducible refine Ext.setCell ?_ ?_ _); rotate_left; focus (first | (simp; done) | (simp; omega) | omega)) | (with_reducible refine Ext.trans ?_ (by with_reducible assumption)))) hy4; have hx24 : Ext w2 w4 := hxr2.trans hx4; clear hy4) | ((with_reducible refine (HK2.out _).mono ?_); rintro e w5 ⟨rfl, hy5⟩; have hx5 : Ext w4 w5 := Ext.trans (by repeat (first | (with_reducible exact Ext.refl _) | (with_reducible assumption) | (with_reducible refine Ext.drewN ?_ _) | (with_reducible refine Ext.drew ?_) | (with_reducible refine Ext.alloc ?_ _) | ((with_reducible refine Ext.setCell ?_ ?_ _); rotate_left; focus (first | (simp; done) | (simp; omega) | omega)) | (with_reducible refine Ext.trans ?_ (by with_reducible assumption)))) hy5; clear hy5))
                  have hxr5 : Ext wr w5 := hx4.trans hx5
                  have hx25 : Ext w2 w5 := hxr2.trans hxr5
                  have hx35 : Ext w3 w5 := hxr3.trans hxr5
                  have hxb5 : Ext wb w5 := hx3.trans hx35
                  have h55 : Ext w5 w5 := Ext.refl _
                  (refine wp_region_from w5 (by repeat (first | (with_reducible exact Ext.refl _) | (with_reducible refine Ext.drewN ?_ _) | (with_reducible refine Ext.drew ?_) | (with_reducible refine Ext.alloc ?_ _) | ((with_reducible refine Ext.setCell ?_ ?_ _); rotate_left; focus (first | (simp; done) | (simp; omega) | omega)) | assumption | (with_reducible refine Ext.trans ?_ (by assumption)))) (by kernel_rfl) (by kernel_rfl) (seqB_of (by kernel_rfl)) ?_; (repeat (first | (refine mix_q rfl ?_; go_big_quiet_step (fail); refine wpQuiet_nil ?_; show wpMix _ _ _ _ _ _ _) | (refine mix_s rfl ?_; go_wp2_with ((first | (go_at_call 22; (with_reducible refine (HHas.out _ (Strs.ext HO3.out (hx35.trans (by repeat (first | (with_reducible exact Ext.refl _) | (with_reducible assumption) | (with_reducible refine Ext.drewN ?_ _) | (with_reducible refine Ext.drew ?_) | (with_reducible refine Ext.alloc ?_ _) | ((with_reducible refine Ext.setCell ?_ ?_ _); rotate_left; focus (first | (simp; done) | (simp; omega) | omega)) | (with_reducible refine Ext.trans ?_ (by with_reducible assumption))))))).mono ?_); rintro e w6 ⟨rfl, hy6⟩; have hx6 : Ext w5 w6 := Ext.trans (by repeat (first | (with_reducible exact Ext.refl _) | (with_reducible assumption) | (with_reducible refine Ext.drewN ?_ _) | (with_reducible refine Ext.drew ?_) | (with_reducible refine Ext.alloc ?_ _) | ((with_reducible refine Ext.setCell ?_ ?_ _); rotate_left; focus (first | (simp; done) | (simp; omega) | omega)) | (with_reducible refine Ext.trans ?_ (by with_reducible assumption)))) hy6; clear hy6) | (go_at_call 20; (with_reducible refine (HC1.out _ (hxb5.trans (by repeat (first | (with_reducible exact Ext.refl _) | (with_reducible assumption) | (with_reducible refine Ext.drewN ?_ _) | (with_reducible refine Ext.drew ?_) | (with_reducible refine Ext.alloc ?_ _) | ((with_reducible refine Ext.setCell ?_ ?_ _); rotate_left; focus (first | (simp; done) | (simp; omega) | omega)) | (with_reducible refine Ext.trans ?_ (by with_reducible assumption)))))).mono ?_); rintro e w7 ⟨rfl, hy7⟩; have hx7 : Ext w5 w7 := Ext.trans (by repeat (first | (with_reducible exact Ext.refl _) | (with_reducible assumption) | (with_reducible refine Ext.drewN ?_ _) | (with_reducible refine Ext.drew ?_) | (with_reducible refine Ext.alloc ?_ _) | ((with_reducible refine Ext.setCell ?_ ?_ _); rotate_left; focus (first | (simp; done) | (simp; omega) | omega)) | (with_reducible refine Ext.trans ?_ (by with_reducible assumption)))) hy7; clear hy7))); first | refine ⟨up_of (by repeat (first | (with_reducible exact Ext.refl _) | (with_reducible refine Ext.drewN ?_ _) | (with_reducible refine Ext.drew ?_) | (with_reducible refine Ext.alloc ?_ _) | ((with_reducible refine Ext.setCell ?_ ?_ _); rotate_left; focus (first | (simp; done) | (simp; omega) | omega)) | assumption | (with_reducible refine Ext.trans ?_ (by assumption)))), ?_⟩ | refine ⟨rfl, rfl, up_of (by repeat (first | (with_reducible exact Ext.refl _) | (with_reducible refine Ext.drewN ?_ _) | (with_reducible refine Ext.drew ?_) | (with_reducible refine Ext.alloc ?_ _) | ((with_reducible refine Ext.setCell ?_ ?_ _); rotate_left; focus (first | (simp; done) | (simp; omega) | omega)) | assumption | (with_reducible refine Ext.trans ?_ (by assumption)))), ?_⟩))); refine mix_nil ?_)
                  have hxe : Ext w3 w7 := hx35.trans hx7
                  go_wp2_with fail
                  exact ⟨⟨i + 1, by omega, (by rw [HLs.out]), by go_num, hxe⟩, by simp [intOf]; omega⟩
                · have hq : (kx == ku) = false := beq_eq_false_iff_ne.2 hk
                  clear HLx hk
                  go_wp2_with (go_at_call 21; first | ((with_reducible refine (HK1.out _).mono ?_); rintro e w4 ⟨rfl, hy4⟩; have hx4 : Ext wr w4 := Ext.trans (by repeat (first | (with_reducible exact Ext.refl _) | (with_reducible assumption) | (with_reducible refine Ext.drewN ?_ _) | (with_reducible refine Ext.drew ?_) | (with_reducible refine Ext.alloc ?_ _) | ((with_reducible refine Ext.setCell ?_ ?_ _); rotate_left; focus (first | (simp; done) | (simp; omega) | omega)) | (with_reducible refine Ext.trans ?_ (by with_reducible assumption)))) hy4; have hx24 : Ext w2 w4 := hxr2.trans hx4; clear hy4) | ((with_reducible refine (HK2.out _).mono ?_); rintro e w5 ⟨rfl, hy5⟩; have hx5 : Ext w4 w5 := Ext.trans (by repeat (first | (with_reducible exact Ext.refl _) | (with_reducible assumption) | (with_reducible refine Ext.drewN ?_ _) | (with_reducible refine Ext.drew ?_) | (with_reducible refine Ext.alloc ?_ _) | ((with_reducible refine Ext.setCell ?_ ?_ _); rotate_left; focus (first | (simp; done) | (simp; omega) | omega)) | (with_reducible refine Ext.trans ?_ (by with_reducible assumption)))) hy5; clear hy5))
                  have hxr5 : Ext wr w5 := hx4.trans hx5
                  have hx25 : Ext w2 w5 := hxr2.trans hxr5
                  have hx35 : Ext w3 w5 := hxr3.trans hxr5
                  have hxb5 : Ext wb w5 := hx3.trans hx35
                  have h55 : Ext w5 w5 := Ext.refl _
                  (refine wp_region_from w5 (by repeat (first | (with_reducible exact Ext.refl _) | (with_reducible refine Ext.drewN ?_ _) | (with_reducible refine Ext.drew ?_) | (with_reducible refine Ext.alloc ?_ _) | ((with_reducible refine Ext.setCell ?_ ?_ _); rotate_left; focus (first | (simp; done) | (simp; omega) | omega)) | assumption | (with_reducible refine Ext.trans ?_ (by assumption)))) (by kernel_rfl) (by kernel_rfl) (seqB_of (by kernel_rfl)) ?_; (repeat (first | (refine mix_q rfl ?_; go_big_quiet_step (fail); refine wpQuiet_nil ?_; show wpMix _ _ _ _ _ _ _) | (refine mix_s rfl ?_; go_wp2_with ((first | (go_at_call 22; (with_reducible refine (HHas.out _ (Strs.ext HO3.out (hx35.trans (by repeat (first | (with_reducible exact Ext.refl _) | (with_reducible assumption) | (with_reducible refine Ext.drewN ?_ _) | (with_reducible refine Ext.drew ?_) | (with_reducible refine Ext.alloc ?_ _) | ((with_reducible refine Ext.setCell ?_ ?_ _); rotate_left; focus (first | (simp; done) | (simp; omega) | omega)) | (with_reducible refine Ext.trans ?_ (by with_reducible assumption))))))).mono ?_); rintro e w6 ⟨rfl, hy6⟩; have hx6 : Ext w5 w6 := Ext.trans (by repeat (first | (with_reducible exact Ext.refl _) | (with_reducible assumption) | (with_reducible refine Ext.drewN ?_ _) | (with_reducible refine Ext.drew ?_) | (with_reducible refine Ext.alloc ?_ _) | ((with_reducible refine Ext.setCell ?_ ?_ _); rotate_left; focus (first | (simp; done) | (simp; omega) | omega)) | (with_reducible refine Ext.trans ?_ (by with_reducible assumption)))) hy6; clear hy6) | (go_at_call 20; (with_reducible refine (HC1.out _ (hxb5.trans (by repeat (first | (with_reducible exact Ext.refl _) | (with_reducible assumption) | (with_reducible refine Ext.drewN ?_ _) | (with_reducible refine Ext.drew ?_) | (with_reducible refine Ext.alloc ?_ _) | ((with_reducible refine Ext.setCell ?_ ?_ _); rotate_left; focus (first | (simp; done) | (simp; omega) | omega)) | (with_reducible refine Ext.trans ?_ (by with_reducible assumption)))))).mono ?_); rintro e w7 ⟨rfl, hy7⟩; have hx7 : Ext w5 w7 := Ext.trans (by repeat (first | (with_reducible exact Ext.refl _) | (with_reducible assumption) | (with_reducible refine Ext.drewN ?_ _) | (with_reducible refine Ext.drew ?_) | (with_reducible refine Ext.alloc ?_ _) | ((with_reducible refine Ext.setCell ?_ ?_ _); rotate_left; focus (first | (simp; done) | (simp; omega) | omega)) | (with_reducible refine Ext.trans ?_ (by with_reducible assumption)))) hy7; clear hy7))); first | refine ⟨up_of (by repeat (first | (with_reducible exact Ext.refl _) | (with_reducible refine Ext.drewN ?_ _) | (with_reducible refine Ext.drew ?_) | (with_reducible refine Ext.alloc ?_ _) | ((with_reducible refine Ext.setCell ?_ ?_ _); rotate_left; focus (first | (simp; done) | (simp; omega) | omega)) | assumption | (with_reducible refine Ext.trans ?_ (by assumption)))), ?_⟩ | refine ⟨rfl, rfl, up_of (by repeat (first | (with_reducible exact Ext.refl _) | (with_reducible refine Ext.drewN ?_ _) | (with_reducible refine Ext.drew ?_) | (with_reducible refine Ext.alloc ?_ _) | ((with_reducible refine Ext.setCell ?_ ?_ _); rotate_left; focus (first | (simp; done) | (simp; omega) | omega)) | assumption | (with_reducible refine Ext.trans ?_ (by assumption)))), ?_⟩))); refine mix_nil ?_)
                  have hxe : Ext w3 w7 := hx35.trans hx7
                  go_wp2_with fail
                  exact ⟨⟨i + 1, by omega, (by rw [HLs.out]), by go_num, hxe⟩, by simp [intOf]; omega⟩
            · obtain rfl : M = i := by omega
              go_wp2_with fail
              all_goals go_ret
              all_goals exact ⟨by simp, hxwb.trans (hx3.trans hxr3)⟩
end Go.Proofs.Ytbcfbkhbangeoaa
