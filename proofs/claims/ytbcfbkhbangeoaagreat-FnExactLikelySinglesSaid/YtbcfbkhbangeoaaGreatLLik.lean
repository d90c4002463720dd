/- Walks: LikelySingles of the reference. -/
import Derived.Test.YtbcfbkhbangeoaaGreatLikI
import Derived.Test.YtbcfbkhbangeoaaGreatTyZ
import Derived.Test.YtbcfbkhbangeoaaGreatLMk
import Derived.Test.YtbcfbkhbangeoaaGreatLInts
namespace Go.Proofs.YtbcfbkhbangeoaaGreat
set_option maxRecDepth 100000
open Go.RowKit

theorem spec_key (c : UInt8) (h0 : 0 ≤ dig c) (h1 : dig c ≤ 9) (w : World) : Calls Tryz.prog 94 #[.int .u8 c.toNat] w (Same (.tuple #[.int .i64 (keyY (dig c)), .int .i64 (keyX (dig c))]) w) := by
  obtain ⟨z, h48, h57, hz⟩ : ∃ z : Nat, 48 ≤ z ∧ z ≤ 57 ∧ c.toNat = z ∧ dig c = (z : Int) - 48 := by
    unfold dig at h0 h1 ⊢
    split at h0
    · rename_i h
      exact ⟨c.toNat, h.1, h.2, rfl, by rw [if_pos h]⟩
    · split at h0
      · rename_i h2 h3
        rw [if_neg h2, if_pos h3] at h1; omega
      · omega
  rw [hz.2, hz.1]
  clear h0 h1 hz
  by_cases h : z = 48
  · subst h
    go_enter Tryz.func94, Tryz.ntmps94
    go_wp2
    go_ret2
    exact ⟨rfl, rfl⟩
  · have HX := Lib.hid (show keyX ((z : Int) - 48) = 2 - ((z : Int) - 48 - 1) / 3 ∧ keyY ((z : Int) - 48) = ((z : Int) - 48 - 1) % 3 by unfold keyX keyY; rw [if_neg (by omega), if_neg (by omega)]; exact ⟨rfl, rfl⟩)
    have hq : ((z : Int) - 48 == 0) = false := beq_eq_false_iff_ne.2 (by omega)
    have hd1 : 0 ≤ (z : Int) - 48 - 1 := by omega
    have e1 : ((z : Int) - 48 - 1).tdiv 3 = ((z : Int) - 48 - 1) / 3 := Int.tdiv_eq_ediv_of_nonneg hd1
    have e2 : ((z : Int) - 48 - 1).tmod 3 = ((z : Int) - 48 - 1) % 3 := Int.tmod_eq_emod_of_nonneg hd1
    have hb : 0 ≤ ((z : Int) - 48 - 1) / 3 ∧ ((z : Int) - 48 - 1) / 3 ≤ 2 := by omega
    clear h
    go_enter Tryz.func94, Tryz.ntmps94
    go_wp2
    go_ret2
    exact ⟨by rw [HX.out.1, HX.out.2]; rfl, rfl⟩
theorem dig_gi (s : ByteArray) (k : Nat) (h : k < s.size) : gi (digC s) k = dig s[k] := by
  unfold gi digC digs
  rw [byte_at s k h, List.getD_eq_getElem?_getD, List.getElem?_map, List.getElem?_eq_getElem (by simpa using h), List.getD_eq_getElem?_getD, List.getElem?_eq_getElem (by simpa using h)]
  rfl
set_option maxHeartbeats 4000000 in
theorem spec_steps (s x : ByteArray) (hl : s.size = x.size) (hs : s.size ≤ 64) (hd : Dig10 (digC s)) (hd' : Dig10 (digC x)) (w : World) :
    Calls Tryz.prog 49 #[.string s, .string x] w (Ret (.int .i64 (keyS' (digC s) x)) w) := by
  have HD := Lib.hid hd
  have HD' := Lib.hid hd'
  have HE := Lib.hid (show keyS' (digC s) x = stepsK (digC s) (digC x) s.size by unfold keyS' stepsL; rw [digC_len])
  have HLl := Lib.hid (show (digC s).length = s.size ∧ (digC x).length = s.size from ⟨digC_len s, by rw [digC_len, hl]⟩)
  obtain ⟨n, hn⟩ : ∃ n, n = s.size := ⟨_, rfl⟩
  have hsx : s.size = n ∧ x.size = n := ⟨hn.symm, by omega⟩
  rw [← hn] at HE HLl hs
  clear hd hd' hn hl
  go_enter Tryz.func49, Tryz.ntmps49
  go_wp2
  go_loopw [5, 6] (fun v5 v6 wr => ∃ k : Nat, k ≤ n ∧ v5 = .int .i64 (stepsK (digC s) (digC x) k) ∧ v6 = .int .i64 k ∧ Ext w wr) (fun _ v6 _ => n - (intOf v6).toNat)
  case atStart => exact ⟨0, Nat.zero_le _, rfl, rfl, (by repeat (first | (with_reducible exact Ext.refl _) | (with_reducible refine Ext.drewN ?_ _) | (with_reducible refine Ext.drew ?_) | (with_reducible refine Ext.alloc ?_ _) | ((with_reducible refine Ext.setCell ?_ ?_ _); rotate_left; focus (first | (simp; done) | (simp; omega) | omega)) | assumption | (with_reducible refine Ext.trans ?_ (by assumption))))⟩
  case round =>
    obtain ⟨k, hk, rfl, rfl, hx⟩ := hrel
    by_cases hlt : k < n
    · have hbd := stepsK_bd HD.out HD'.out (HLl.out.1.trans HLl.out.2.symm) k (by rw [HLl.out.1]; exact hk)
      have d1 := HD.out _ (gi_mem (l := digC s) (k := k) (by rw [HLl.out.1]; exact hlt))
      have d2 := HD'.out _ (gi_mem (l := digC x) (k := k) (by rw [HLl.out.2]; exact hlt))
      have hks : k < s.size := by omega
      have hkx : k < x.size := by omega
      have HS := Lib.hid (show stepsK (digC s) (digC x) (k + 1) = stepsK (digC s) (digC x) k + (absI (keyX (gi (digC s) k) - keyX (gi (digC x) k)) + absI (keyY (gi (digC s) k) - keyY (gi (digC x) k))) from rfl)
      have q1 := key_bd d1.1 d1.2
      have q2 := key_bd d2.1 d2.2
      rw [dig_gi s k hks] at HS d1 q1
      rw [dig_gi x k hkx] at HS d2 q2
      have HK1 := Lib.hid (fun W => spec_key s[k] d1.1 d1.2 W)
      have HK2 := Lib.hid (fun W => spec_key x[k] d2.1 d2.2 W)
      have hk5 : 5 * (k : Int) ≤ 320 := by omega
      have HM := Lib.hid (fun a b W => spec_max a b W)
      clear d1 d2
      generalize keyX (dig s[k]) = x1 at *
      generalize keyY (dig s[k]) = y1 at *
      generalize keyX (dig x[k]) = x2 at *
      generalize keyY (dig x[k]) = y2 at *
      have HA := Lib.hid (show absI (x1 - x2) = max (x1 - x2) (x2 - x1) ∧ absI (y1 - y2) = max (y1 - y2) (y2 - y1) by unfold absI; constructor <;> congr 1 <;> omega)
      have t1 : 0 ≤ max (x1 - x2) (x2 - x1) ∧ max (x1 - x2) (x2 - x1) ≤ 3 := by omega
      have t2 : 0 ≤ max (y1 - y2) (y2 - y1) ∧ max (y1 - y2) (y2 - y1) ≤ 2 := by omega
      rw [HA.out.1, HA.out.2] at HS
      generalize stepsK (digC s) (digC x) k = z at *
      go_wp2_with (first | (go_at_call 94; first | ((with_reducible refine (HK1.out _).mono ?_); rintro e w1 ⟨rfl, rfl⟩) | ((with_reducible refine (HK2.out _).mono ?_); rintro e w1 ⟨rfl, rfl⟩)) | (go_at_call 95; ((with_reducible refine (HM.out _ _ _).mono ?_); rintro e w1 ⟨rfl, rfl⟩)))
      exact ⟨⟨k + 1, by omega, by rw [HS.out]; congr 1; omega, by go_num, (by repeat (first | (with_reducible exact Ext.refl _) | (with_reducible refine Ext.drewN ?_ _) | (with_reducible refine Ext.drew ?_) | (with_reducible refine Ext.alloc ?_ _) | ((with_reducible refine Ext.setCell ?_ ?_ _); rotate_left; focus (first | (simp; done) | (simp; omega) | omega)) | assumption | (with_reducible refine Ext.trans ?_ (by assumption))))⟩, by simp [intOf]; omega⟩
    · obtain rfl : k = n := by omega
      go_wp2
      go_ret
      exact ⟨by rw [HE.out]; rfl, hx⟩
/-! ### plain -/
def likW (s : ByteArray) : List ByteArray := putAll (wrT s (wrP 0 10 10) (lenK 0) (s.size + 1 - lenK 0))
def likQ (D : Ch) (s : ByteArray) (k : Nat) (x : ByteArray) : Bool := decide (keyS' (digC s) x = (k : Int)) && chkB D x
theorem likW_mem {D : Ch} {s x : ByteArray} (hb : D.base = 10) (hw : wordCh D s = true) : x ∈ likW s ↔ x ∈ (wrongL 0 10 (digC s)).map textOf := by
  unfold likW
  rw [mem_putAll]
  have hwb : wordB s.data.toList (10 : Nat) 20 = true := by
    unfold wordCh at hw
    simp only [Bool.and_eq_true] at hw
    rw [hb] at hw; exact hw.1
  rw [mem_kind (by omega) (fun h => by omega) hwb, List.mem_map]
  exact ⟨fun ⟨t, h1, h2⟩ => ⟨t, h1, h2.symm⟩, fun ⟨t, h1, h2⟩ => ⟨t, h1, h2.symm⟩⟩
theorem likW_C {D : Ch} {s : ByteArray} (hb : D.base = 10) (hw : wordCh D s = true) : (likW s).filter (chkB D) = likC D s :=
  asc_eq (List.Pairwise.sublist List.filter_sublist (putAll_asc _)) (putAll_asc _) fun x => by
    unfold likC
    rw [mem_putAll, List.mem_filter, List.mem_filter, likW_mem hb hw]
theorem likW_P {D : Ch} {s : ByteArray} (hb : D.base = 10) (hw : wordCh D s = true) (k : Nat) : (likW s).filter (likQ D s k) = likP D s k := by
  unfold likP likQ
  rw [← likW_C hb hw, List.filter_filter]
theorem filt_yes {p : ByteArray → Bool} {l : List ByteArray} {i : Nat} (h : i < l.length) (hp : p (gs l i) = true) : (l.take (i + 1)).filter p = (l.take i).filter p ++ [gs l i] := by rw [take_snocS h, List.filter_append, List.filter_cons, hp]; rfl
theorem filt_no {p : ByteArray → Bool} {l : List ByteArray} {i : Nat} (h : i < l.length) (hp : p (gs l i) = false) : (l.take (i + 1)).filter p = (l.take i).filter p := by rw [take_snocS h, List.filter_append, List.filter_cons, hp]; simp
theorem filt_le (p : ByteArray → Bool) (l : List ByteArray) (i : Nat) : ((l.take i).filter p).length ≤ i := by
  have := List.length_filter_le p (l.take i)
  rw [List.length_take] at this; omega
set_option maxHeartbeats 8000000 in
theorem spec_Likely (C : Ch) (a : Option Addr) (n c : Nat) (b : Option Addr) (m d : Nat) (s : ByteArray) (w : World) (hv : ChIn w C a n c b m d) (hs : s.size ≤ 1048576) :
    Calls Tryz.prog 16 #[.agg #[.int .i64 C.base, .int .i64 C.states, .int .i64 C.start, .int .i64 C.fin, .slice a n c, .slice b m d], .string s] w (RetTO (likL C s) (likB C s) w) := by
  have HB := Lib.hid (hv.box 27)
  have HI := Lib.hid hv
  obtain ⟨q, hq⟩ : ∃ q, q = w.heap.size := ⟨_, rfl⟩
  obtain ⟨wb, hwb⟩ : ∃ W, W = w.alloc (.cells #[.int .i64 C.base, .int .i64 C.states, .int .i64 C.start, .int .i64 C.fin, .slice a n c, .slice b m d] 27) := ⟨_, rfl⟩
  have hxb : Ext w wb := by rw [hwb]; exact (by repeat (first | (with_reducible exact Ext.refl _) | (with_reducible refine Ext.drewN ?_ _) | (with_reducible refine Ext.drew ?_) | (with_reducible refine Ext.alloc ?_ _) | ((with_reducible refine Ext.setCell ?_ ?_ _); rotate_left; focus (first | (simp; done) | (simp; omega) | omega)) | assumption | (with_reducible refine Ext.trans ?_ (by assumption))))
  rw [← hwb, ← hq] at HB
  have HBo := Lib.hid (spec_l02Both C q a n c b m d s wb HB.out hv.hn hv.hn' hv.sm hs)
  obtain ⟨k0, k1, k2, k3, k4, k5, _, _⟩ := HB.out
  clear hv
  cases hr : runOk C s with
  | false =>
    rw [hr] at HBo
    have HF := Lib.hid (show likB C s = false by unfold likB; rw [hr]; rfl)
    clear hr HB
    go_enter Tryz.func16, Tryz.ntmps16
    go_wp2_with fail
    rw [← hwb, ← hq]
    clear hwb hq
    go_wp2_with ((with_reducible refine HBo.out.mono ?_); rintro e w1 ⟨rfl, hx1⟩)
    go_ret2
    exact RetTO.no HF.out (likL_no HF.out) (hxb.trans hx1)
  | true =>
    rw [hr] at HBo
    by_cases hb10 : C.base = 10
    · have hvw : validCh C = true ∧ wordCh C s = true := by unfold runOk at hr; simpa using hr
      have HOk := Lib.hid (validCh_ok hvw.1)
      have HB10 := Lib.hid hb10
      have HR := Lib.hid hr
      have HBt := Lib.hid (show likB C s = true by unfold likB; rw [hr, decide_eq_true hb10]; rfl)
      have hne : (C.base != 10) = false := by rw [hb10]; rfl
      have hws := wordCh_t hvw.2
      have h20 := hws.2.2
      have HDs := Lib.hid (dig10_of hb10 hws.1)
      have HWr := Lib.hid (fun W => show Calls Tryz.prog 48 #[.string s, .int .i64 10, .int .i64 0] W (RetOs W.heap.size (likW s) W) from spec_l06Wrong s h20 10 (by omega) (by omega) 0 (by omega) rfl W)
      have HMem := Lib.hid (fun i (hi : i < (likW s).length) => by
        have hx : gs (likW s) i ∈ likW s := by rw [gs_get hi]; exact List.getElem_mem hi
        have h1 := (likW_mem hb10 hvw.2).1 hx
        obtain ⟨t, ht, he⟩ := List.mem_map.1 h1
        have htd := wrong_dig (base := 10) (k := 0) (fun x hx => by have := HDs.out x hx; omega) (.inl (by omega)) ht
        exact show (gs (likW s) i).size = s.size ∧ Dig10 (digC (gs (likW s) i)) from ⟨by rw [← he, textOf_size, htd.1, digC_len], by
          rw [← he, digC_text (fun d hd => by have := htd.2 d hd; omega)]
          exact fun d hd => by have := htd.2 d hd; omega⟩)
      have HLn := Lib.hid (show (likW s).length ≤ 1000 from by
        have hf := listK_facts (D := C) HOk.out (b := 10) (by rw [hb10]; rfl) hvw.2 (k := 0) (by omega)
        exact hf.1)
      have HSp := Lib.hid (fun i (hi : i < (likW s).length) W => spec_steps s (gs (likW s) i) (HMem.out i hi).1.symm (by omega) HDs.out (HMem.out i hi).2 W)
      have HCk := Lib.hid (fun i (hi : i < (likW s).length) W (h : Ext wb W) => spec_l02Checked C q a n c b m d (gs (likW s) i) W (HB.out.ext h) HI.out.hn HI.out.hn' HI.out.sm (by have := (HMem.out i hi).1; omega))
      have HP := Lib.hid (fun k => likW_P hb10 hvw.2 k)
      have HLk := Lib.hid (show (likN C s 5).length ≤ 1000 ∧ ∀ k, k ≤ 5 → (likN C s k).length ≤ 5000 from by
        have hP : ∀ k, (likP C s k).length ≤ 1000 := fun k => by
          have h1 := likC_len C s h20
          have h2 := List.length_filter_le (fun x => decide (keyS' (digC s) x = (k : Int))) (likC C s)
          unfold likP; omega
        have hN : ∀ k, (likN C s k).length ≤ k * 1000 := fun k => by
          induction k with
          | zero => simp [likN]
          | succ k ih => have := hP (k + 1); rw [likN_step, List.length_append]; omega
        refine ⟨?_, fun k hk => by have := hN k; omega⟩
        have h1 := likC_len C s h20
        have hnd : (likN C s 5).Nodup := (likN_asc C s 5).imp fun h e => by subst e; exact h.irrefl
        have h2 := nodup_le hnd (l' := likC C s) fun x hx => (likN_mem.1 hx).1
        omega)
      have HBb := Lib.hid HB.out
      clear hr hb10 hvw hws HB
      go_enter Tryz.func16, Tryz.ntmps16
      go_wp2_with fail
      rw [← hwb, ← hq]
      clear hwb hq
      go_wp2_with (first | (go_at_call 47; (with_reducible refine HBo.out.mono ?_); rintro e w1 ⟨rfl, hx1⟩) | (go_at_call 48; (with_reducible refine (HWr.out _).mono ?_); rintro e w2 ⟨la, lc, rfl, ho2, hy2⟩; have hx2 : Ext wb w2 := Ext.trans (by repeat (first | (with_reducible exact Ext.refl _) | (with_reducible assumption) | (with_reducible refine Ext.drewN ?_ _) | (with_reducible refine Ext.drew ?_) | (with_reducible refine Ext.alloc ?_ _) | ((with_reducible refine Ext.setCell ?_ ?_ _); rotate_left; focus (first | (simp; done) | (simp; omega) | omega)) | (with_reducible refine Ext.trans ?_ (by with_reducible assumption)))) hy2; have HL2 := Lib.hid (show Strs w2 la (likW s).length lc (likW s) from ho2.sl); clear ho2 hy2))
      obtain ⟨lb, lo, hix, hcell⟩ := Sl.ix (P := Tryz.prog) HL2.out 35 9 und_strs cell_str
      obtain ⟨N, hN⟩ : ∃ N, N = (likW s).length := ⟨_, rfl⟩
      have HN := Lib.hid hN
      rw [← hN] at HMem HLn HSp HCk HL2 hix hcell ⊢
      have hN1000 := HLn.out
      clear hN
      go_loopw [7, 8] (fun v7 v8 wr => ∃ (st : Nat) (ad : Option Addr) (cc : Nat) (L : List ByteArray), st ≤ 5 ∧ v7 = .slice ad L.length cc ∧ v8 = .int .i64 ((st : Int) + 1) ∧ Hid (L = likN C s st) ∧ Hid (Own wr w2.heap.size 9 ad L.length cc (St L)) ∧ Ext w2 wr) (fun _ v8 _ => 6 - (intOf v8).toNat)
      case atStart => exact ⟨0, _, _, [], Nat.zero_le _, rfl, rfl, rfl, Own.lit0 w2 _, (by repeat (first | (with_reducible exact Ext.refl _) | (with_reducible refine Ext.drewN ?_ _) | (with_reducible refine Ext.drew ?_) | (with_reducible refine Ext.alloc ?_ _) | ((with_reducible refine Ext.setCell ?_ ?_ _); rotate_left; focus (first | (simp; done) | (simp; omega) | omega)) | assumption | (with_reducible refine Ext.trans ?_ (by assumption))))⟩
      case round =>
        obtain ⟨st, ad, cc, L, hst, rfl, rfl, HL, HO, hxr⟩ := hrel
        by_cases hlt : st < 5
        · have hd5 : decide ((st : Int) + 1 ≤ 5) = true := decide_eq_true (by omega)
          go_wp2_with fail
          (try rw [hd5])
          clear hd5
          rename World => wo
          have hL5 : L.length ≤ 5000 := by rw [HL.out]; exact HLk.out.2 st hst
          go_loopw [7, 9] (fun v7 v9 wr => ∃ (i : Nat) (ad : Option Addr) (cc : Nat) (M : List ByteArray), i ≤ N ∧ v7 = .slice ad M.length cc ∧ v9 = .int .i64 i ∧ Hid (M = L ++ ((likW s).take i).filter (likQ C s (st + 1))) ∧ Hid (Own wr w2.heap.size 9 ad M.length cc (St M)) ∧ Ext w2 wr) (fun _ v9 _ => N - (intOf v9).toNat)
          case atStart => exact ⟨0, ad, cc, L, Nat.zero_le _, rfl, rfl, (by simp : L = L ++ ((likW s).take 0).filter (likQ C s (st + 1))), HO.out, hxr⟩
          case round =>
            clear HO
            obtain ⟨i, ad, cc, M, hi, rfl, rfl, HM, HO, hxr⟩ := hrel
            have hxbr : Ext wb wr := hx2.trans hxr
            by_cases hlt2 : i < N
            · have hlt3 : i < (likW s).length := by rw [← HN.out]; exact hlt2
              have HS1 := Lib.hid (fun W => HSp.out i hlt2 W)
              have HC1 := Lib.hid (fun W (h : Ext wb W) => HCk.out i hlt2 W h)
              have hgk := gv_St (l := likW s) hlt3
              have hML : M.length ≤ 6000 := by
                rw [HM.out, List.length_append]
                have := filt_le (likQ C s (st + 1)) (likW s) i
                omega
              have HY := Lib.hid (fun hp => filt_yes (p := likQ C s (st + 1)) (l := likW s) hlt3 hp)
              have HNo := Lib.hid (fun hp => filt_no (p := likQ C s (st + 1)) (l := likW s) hlt3 hp)
              have HQ := Lib.hid (show likQ C s (st + 1) (gs (likW s) i) = (decide (keyS' (digC s) (gs (likW s) i) = ((st + 1 : Nat) : Int)) && chkB C (gs (likW s) i)) from rfl)
              obtain ⟨x, hx⟩ : ∃ x, x = gs (likW s) i := ⟨_, rfl⟩
              rw [← hx] at HS1 HC1 hgk HY HNo HQ
              clear hx hlt3
              by_cases hk : keyS' (digC s) x = (st : Int) + 1
              · have hq : (keyS' (digC s) x == (st : Int) + 1) = true := beq_iff_eq.2 hk
                cases hc : chkB C x with
                | true =>
                  rw [hc] at HC1
                  have HF := Lib.hid (HY.out (by rw [HQ.out, hc, decide_eq_true (by omega)]; rfl))
                  clear hk hc HY HNo HQ
                  generalize keyS' (digC s) x = kx at *
                  go_wp2_with (first | (go_at_call 49; (with_reducible refine (HS1.out _).mono ?_); rintro e w3 ⟨rfl, hy3⟩; have hx3 : Ext wr w3 := Ext.trans (by repeat (first | (with_reducible exact Ext.refl _) | (with_reducible assumption) | (with_reducible refine Ext.drewN ?_ _) | (with_reducible refine Ext.drew ?_) | (with_reducible refine Ext.alloc ?_ _) | ((with_reducible refine Ext.setCell ?_ ?_ _); rotate_left; focus (first | (simp; done) | (simp; omega) | omega)) | (with_reducible refine Ext.trans ?_ (by with_reducible assumption)))) hy3; have hxb3 : Ext wb w3 := hxbr.trans hx3; have hxl3 : Ext w2 w3 := hxr.trans hx3; clear hy3) | (go_at_call 50; (with_reducible refine (HC1.out _ (by repeat (first | (with_reducible exact Ext.refl _) | (with_reducible assumption) | (with_reducible refine Ext.drewN ?_ _) | (with_reducible refine Ext.drew ?_) | (with_reducible refine Ext.alloc ?_ _) | ((with_reducible refine Ext.setCell ?_ ?_ _); rotate_left; focus (first | (simp; done) | (simp; omega) | omega)) | (with_reducible refine Ext.trans ?_ (by with_reducible assumption))))).mono ?_); rintro e w4 ⟨rfl, hy4⟩; have hx4 : Ext wr w4 := hx3.trans (Ext.trans (by repeat (first | (with_reducible exact Ext.refl _) | (with_reducible assumption) | (with_reducible refine Ext.drewN ?_ _) | (with_reducible refine Ext.drew ?_) | (with_reducible refine Ext.alloc ?_ _) | ((with_reducible refine Ext.setCell ?_ ?_ _); rotate_left; focus (first | (simp; done) | (simp; omega) | omega)) | (with_reducible refine Ext.trans ?_ (by with_reducible assumption)))) hy4); have hxl4 : Ext w2 w4 := hxr.trans hx4; clear hy4) | (at_builtin; refine law_append1 _ rfl _ _ 35 rfl 9 (.string .empty) 16 und_strs info_str rfl w2.heap.size ad M.length cc (St M) _ rfl rfl (by simp [Act.eval, go_sem]) (HO.out.ext hx4) hxl4.le (by omega) (by omega) ?_; intro ad5 c5 w5 ho5 hb5 hg5; have hxl5 : Ext w2 w5 := Ext.below hxl4 hb5; have HO5 := Lib.hid ho5; clear ho5 hb5 hg5))
                  refine ⟨⟨i + 1, ad5, c5, M ++ [x], hlt2, by rw [List.length_append, List.length_singleton], by go_num, ?_, ?_, hxl5⟩, by simp [intOf]; omega⟩
                  · show M ++ [x] = _
                    rw [HF.out, HM.out, List.append_assoc]
                  · show Own w5 w2.heap.size 9 ad5 (M ++ [x]).length c5 (St (M ++ [x]))
                    rw [List.length_append, List.length_singleton, St_append]; exact HO5.out
                | false =>
                  rw [hc] at HC1
                  have HF := Lib.hid (HNo.out (by rw [HQ.out, hc, Bool.and_false]))
                  clear hk hc HY HNo HQ
                  generalize keyS' (digC s) x = kx at *
                  go_wp2_with (first | (go_at_call 49; (with_reducible refine (HS1.out _).mono ?_); rintro e w3 ⟨rfl, hy3⟩; have hx3 : Ext wr w3 := Ext.trans (by repeat (first | (with_reducible exact Ext.refl _) | (with_reducible assumption) | (with_reducible refine Ext.drewN ?_ _) | (with_reducible refine Ext.drew ?_) | (with_reducible refine Ext.alloc ?_ _) | ((with_reducible refine Ext.setCell ?_ ?_ _); rotate_left; focus (first | (simp; done) | (simp; omega) | omega)) | (with_reducible refine Ext.trans ?_ (by with_reducible assumption)))) hy3; have hxb3 : Ext wb w3 := hxbr.trans hx3; have hxl3 : Ext w2 w3 := hxr.trans hx3; clear hy3) | (go_at_call 50; (with_reducible refine (HC1.out _ (by repeat (first | (with_reducible exact Ext.refl _) | (with_reducible assumption) | (with_reducible refine Ext.drewN ?_ _) | (with_reducible refine Ext.drew ?_) | (with_reducible refine Ext.alloc ?_ _) | ((with_reducible refine Ext.setCell ?_ ?_ _); rotate_left; focus (first | (simp; done) | (simp; omega) | omega)) | (with_reducible refine Ext.trans ?_ (by with_reducible assumption))))).mono ?_); rintro e w4 ⟨rfl, hy4⟩; have hx4 : Ext wr w4 := hx3.trans (Ext.trans (by repeat (first | (with_reducible exact Ext.refl _) | (with_reducible assumption) | (with_reducible refine Ext.drewN ?_ _) | (with_reducible refine Ext.drew ?_) | (with_reducible refine Ext.alloc ?_ _) | ((with_reducible refine Ext.setCell ?_ ?_ _); rotate_left; focus (first | (simp; done) | (simp; omega) | omega)) | (with_reducible refine Ext.trans ?_ (by with_reducible assumption)))) hy4); clear hy4))
                  exact ⟨⟨i + 1, ad, cc, M, hlt2, rfl, by go_num, (by rw [HF.out]; exact HM.out), HO.out.ext hx4, hxr.trans hx4⟩, by simp [intOf]; omega⟩
              · have hq : (keyS' (digC s) x == (st : Int) + 1) = false := beq_eq_false_iff_ne.2 hk
                have HF := Lib.hid (HNo.out (by rw [HQ.out, decide_eq_false (by omega), Bool.false_and]))
                clear hk HY HNo HQ
                generalize keyS' (digC s) x = kx at *
                go_wp2_with (first | (go_at_call 49; (with_reducible refine (HS1.out _).mono ?_); rintro e w3 ⟨rfl, hy3⟩; have hx3 : Ext wr w3 := Ext.trans (by repeat (first | (with_reducible exact Ext.refl _) | (with_reducible assumption) | (with_reducible refine Ext.drewN ?_ _) | (with_reducible refine Ext.drew ?_) | (with_reducible refine Ext.alloc ?_ _) | ((with_reducible refine Ext.setCell ?_ ?_ _); rotate_left; focus (first | (simp; done) | (simp; omega) | omega)) | (with_reducible refine Ext.trans ?_ (by with_reducible assumption)))) hy3; clear hy3))
                exact ⟨⟨i + 1, ad, cc, M, hlt2, rfl, by go_num, (by rw [HF.out]; exact HM.out), HO.out.ext hx3, hxr.trans hx3⟩, by simp [intOf]; omega⟩
            · obtain rfl : i = N := by omega
              have HE := Lib.hid (show M = likN C s (st + 1) by rw [HM.out, HL.out, likN_step, ← HP.out (st + 1), List.take_of_length_le (by rw [← HN.out]; exact Nat.le_refl _)])
              go_wp2_with fail
              exact ⟨⟨st + 1, ad, cc, M, by omega, rfl, by go_num, HE.out, HO.out, hxr⟩, by simp [intOf]; omega⟩
        · obtain rfl : st = 5 := by omega
          go_wp2_with fail
          go_ret2
          have hL := HL.out
          have e : likL C s = L := by unfold likL; rw [HBt.out, if_pos rfl, hL]
          exact ⟨ad, cc, by rw [HBt.out, e]; rfl, by rw [e]; exact Own.mono HO.out (by have := (hxb.trans hx2).le; omega), (hxb.trans hx2).trans hxr⟩
    · have hne : (C.base != 10) = true := by simpa using hb10
      have HF := Lib.hid (show likB C s = false by unfold likB; rw [decide_eq_false hb10, Bool.and_false])
      clear hr HB hb10
      go_enter Tryz.func16, Tryz.ntmps16
      go_wp2_with fail
      rw [← hwb, ← hq]
      clear hwb hq
      go_wp2_with ((with_reducible refine HBo.out.mono ?_); rintro e w1 ⟨rfl, hx1⟩)
      go_ret2
      exact RetTO.no HF.out (likL_no HF.out) (hxb.trans (by repeat (first | (with_reducible exact Ext.refl _) | (with_reducible refine Ext.drewN ?_ _) | (with_reducible refine Ext.drew ?_) | (with_reducible refine Ext.alloc ?_ _) | ((with_reducible refine Ext.setCell ?_ ?_ _); rotate_left; focus (first | (simp; done) | (simp; omega) | omega)) | assumption | (with_reducible refine Ext.trans ?_ (by assumption)))))
theorem spec_LikelyS (C : Ch) (a : Option Addr) (n c : Nat) (b : Option Addr) (m d : Nat) (s : ByteArray) (w : World) (hv : ChIn w C a n c b m d) (hs : s.size ≤ 1048576) :
    Calls Tryz.prog 16 #[.agg #[.int .i64 C.base, .int .i64 C.states, .int .i64 C.start, .int .i64 C.fin, .slice a n c, .slice b m d], .string s] w (RetTS (likL C s) (likB C s) w) := (spec_Likely C a n c b m d s w hv hs).mono fun _ _ h => h.toS
theorem tslenLikelySingles {C : Ch} {s : ByteArray} (_h : SmallCh C) (_h2 : chSize C ≤ 1048576) : (likL C s).length ≤ 1048576 := by
  by_cases h : likB C s = true
  · have hr : runOk C s = true := by unfold likB at h; simp only [Bool.and_eq_true] at h; exact h.1
    have hw : wordCh C s = true := by unfold runOk at hr; simp only [Bool.and_eq_true] at hr; exact hr.2
    have h1 := likC_len C s (wordCh_t hw).2.2
    unfold likL
    rw [h, if_pos rfl]
    have hnd : (likN C s 5).Nodup := (likN_asc C s 5).imp fun h e => by subst e; exact h.irrefl
    have h2 := nodup_le hnd (l' := likC C s) fun x hx => (likN_mem.1 hx).1
    omega
  · rw [likL_no (by simpa using h)]; simp
end Go.Proofs.YtbcfbkhbangeoaaGreat

/- Walk: FnExactLikelySingles. -/
namespace Go.Proofs.YtbcfbkhbangeoaaGreat
set_option maxRecDepth 100000
open Go.RowKit

set_option maxHeartbeats 16000000 in
theorem lawLikelySingles (D : Ch) (a : Option Addr) (n c : Nat) (b : Option Addr) (m d : Nat) (s : ByteArray) (w : World) (hv : RawCh w D a n c b m d) (hz : s.size ≤ 9223372036854775807) :
    Calls Tryz.prog 4 #[.agg #[.int .i64 D.base, .int .i64 D.states, .int .i64 D.start, .int .i64 D.fin, .slice a n c, .slice b m d], .string s] w (Ret (.bool true) w) := by
  have HRaw := Lib.hid hv
  have HSz := Lib.hid (szCh D a n c b m d 1048576 (w.alloc (.cells #[.int .i64 D.base, .int .i64 D.states, .int .i64 D.start, .int .i64 D.fin, .slice a n c, .slice b m d] 45)) (hv.ext ((Ext.refl w).alloc _)) (by omega) (by omega))
  clear hv
  by_cases hz1 : s.size ≤ 1048576
  rotate_left
  · go_enter Tryz.func4, Tryz.ntmps4
    go_wp2_with fail
    go_ret
    exact ⟨rfl, (by repeat (first | (with_reducible exact Ext.refl _) | (with_reducible refine Ext.drewN ?_ _) | (with_reducible refine Ext.drew ?_) | (with_reducible refine Ext.alloc ?_ _) | ((with_reducible refine Ext.setCell ?_ ?_ _); rotate_left; focus (first | (simp; done) | (simp; omega) | omega)) | assumption | (with_reducible refine Ext.trans ?_ (by assumption))))⟩
  by_cases hsz : chSize D ≤ 1048576
  rotate_left
  · rw [leftOf_no hsz] at HSz
    go_enter Tryz.func4, Tryz.ntmps4
    go_wp2_with (refine HSz.out.mono ?_; rintro e w1 ⟨rfl, hy1⟩)
    go_ret
    exact ⟨rfl, (by repeat (first | (with_reducible exact Ext.refl _) | (with_reducible refine Ext.drewN ?_ _) | (with_reducible refine Ext.drew ?_) | (with_reducible refine Ext.alloc ?_ _) | ((with_reducible refine Ext.setCell ?_ ?_ _); rotate_left; focus (first | (simp; done) | (simp; omega) | omega)) | assumption | (with_reducible refine Ext.trans ?_ (by assumption))))⟩
  have HI := Lib.hid (HRaw.out.inn hsz)
  rw [leftOf_yes hsz] at HSz
  have HSize := Lib.hid hsz
  have HSm := Lib.hid (show SmallCh D from HI.out.sm)
  have hn1 : n ≤ 1048576 := HI.out.hn
  have HSp := Lib.hid (fun W ax cx bx dx h => spec_LikelyS D ax n cx bx m dx s W h (by omega))
  have HIm := Lib.hid (fun W ax cx bx dx h => impl_Likely D ax n cx bx m dx s W h (by omega))
  obtain ⟨ts, hts⟩ : ∃ ts, ts = likL D s := ⟨_, rfl⟩
  have htn : ts.length ≤ 1048576 := by rw [hts]; exact tslenLikelySingles HSm.out hsz
  obtain ⟨ok, hok⟩ : ∃ ok, ok = likB D s := ⟨_, rfl⟩
  rw [← hts, ← hok] at HSp HIm
  clear hts hok
  go_enter Tryz.func4, Tryz.ntmps4
  go_wp2_with fail
  obtain ⟨wb, hwb⟩ : ∃ wb, wb = w.alloc (.cells #[.int .i64 D.base, .int .i64 D.states, .int .i64 D.start, .int .i64 D.fin, .slice a n c, .slice b m d] 45) := ⟨_, rfl⟩
  have hxb : Ext w wb := by rw [hwb]; exact (by repeat (first | (with_reducible exact Ext.refl _) | (with_reducible refine Ext.drewN ?_ _) | (with_reducible refine Ext.drew ?_) | (with_reducible refine Ext.alloc ?_ _) | ((with_reducible refine Ext.setCell ?_ ?_ _); rotate_left; focus (first | (simp; done) | (simp; omega) | omega)) | assumption | (with_reducible refine Ext.trans ?_ (by assumption))))
  have HS0 := Lib.hid (show SAt wb w.heap.size 45 #[.int .i64 D.base, .int .i64 D.states, .int .i64 D.start, .int .i64 D.fin, .slice a n c, .slice b m d] by rw [hwb]; exact SAt.new' _ _ _ rfl)
  rw [← hwb] at HSz ⊢
  have hqb : w.heap.size < wb.heap.size := HS0.out.lt
  clear hwb
  have HIb := Lib.hid (HI.out.ext hxb)
  obtain ⟨p0, p1, p2, p3, p4, p5⟩ := SAt.r6 HS0.out
  refine HSz.out.mono ?_
  rintro e w1 ⟨rfl, hy1⟩
  have hx1 : Ext wb w1 := hy1
  go_wp2_with fail
  refine (toChr D a n c b m d _ (HIb.out.ext (by repeat (first | (with_reducible exact Ext.refl _) | (with_reducible assumption) | (with_reducible refine Ext.drewN ?_ _) | (with_reducible refine Ext.drew ?_) | (with_reducible refine Ext.alloc ?_ _) | ((with_reducible refine Ext.setCell ?_ ?_ _); rotate_left; focus (first | (simp; done) | (simp; omega) | omega)) | (with_reducible refine Ext.trans ?_ (by with_reducible assumption)))))).mono ?_
  rintro e w2 ⟨a2, c2, b2, d2, rfl, hr2, hy2⟩
  have hx2 : Ext wb w2 := Ext.trans (by repeat (first | (with_reducible exact Ext.refl _) | (with_reducible assumption) | (with_reducible refine Ext.drewN ?_ _) | (with_reducible refine Ext.drew ?_) | (with_reducible refine Ext.alloc ?_ _) | ((with_reducible refine Ext.setCell ?_ ?_ _); rotate_left; focus (first | (simp; done) | (simp; omega) | omega)) | (with_reducible refine Ext.trans ?_ (by with_reducible assumption)))) hy2
  have HI2 := Lib.hid (hr2.inn HIb.out.hn HIb.out.hn' HSm.out)
  clear hr2
  go_wp2_with fail
  refine (HSp.out _ a2 c2 b2 d2 HI2.out).mono ?_
  rintro e w3 ⟨a3, c3, rfl, hs3, hy3⟩
  have hx3 : Ext wb w3 := hx2.trans hy3
  have HL3 := Lib.hid hs3
  clear hs3
  go_wp2_with fail
  refine (toChr D a n c b m d _ (HIb.out.ext (by repeat (first | (with_reducible exact Ext.refl _) | (with_reducible assumption) | (with_reducible refine Ext.drewN ?_ _) | (with_reducible refine Ext.drew ?_) | (with_reducible refine Ext.alloc ?_ _) | ((with_reducible refine Ext.setCell ?_ ?_ _); rotate_left; focus (first | (simp; done) | (simp; omega) | omega)) | (with_reducible refine Ext.trans ?_ (by with_reducible assumption)))))).mono ?_
  rintro e w4 ⟨a4, c4, b4, d4, rfl, hr4, hy4⟩
  have hx4 : Ext wb w4 := Ext.trans (by repeat (first | (with_reducible exact Ext.refl _) | (with_reducible assumption) | (with_reducible refine Ext.drewN ?_ _) | (with_reducible refine Ext.drew ?_) | (with_reducible refine Ext.alloc ?_ _) | ((with_reducible refine Ext.setCell ?_ ?_ _); rotate_left; focus (first | (simp; done) | (simp; omega) | omega)) | (with_reducible refine Ext.trans ?_ (by with_reducible assumption)))) hy4
  have hl34 : w3.heap.size ≤ w4.heap.size := hy4.le
  have hxz4 : Ext w3 w4 := hy4
  have HR4 := Lib.hid hr4
  have HI4 := Lib.hid (hr4.inn HIb.out.hn HIb.out.hn' HSm.out)
  clear hr4
  go_wp2_with fail
  have HS8 := Lib.hid (SAt.new' w4 #[.int .i64 D.base, .int .i64 D.states, .int .i64 D.start, .int .i64 D.fin, .slice a4 n c4, .slice b4 m d4] 27 rfl)
  obtain ⟨w4a, hw4a⟩ : ∃ w4a, w4a = w4.alloc (.cells #[.int .i64 D.base, .int .i64 D.states, .int .i64 D.start, .int .i64 D.fin, .slice a4 n c4, .slice b4 m d4] 27) := ⟨_, rfl⟩
  have hx4a : Ext w4 w4a := by rw [hw4a]; exact (by repeat (first | (with_reducible exact Ext.refl _) | (with_reducible refine Ext.drewN ?_ _) | (with_reducible refine Ext.drew ?_) | (with_reducible refine Ext.alloc ?_ _) | ((with_reducible refine Ext.setCell ?_ ?_ _); rotate_left; focus (first | (simp; done) | (simp; omega) | omega)) | assumption | (with_reducible refine Ext.trans ?_ (by assumption))))
  have hl4 : w4.heap.size < w4a.heap.size := by rw [hw4a]; simp
  rw [← hw4a] at HS8 ⊢
  clear hw4a
  have hxb4 : Ext wb w4a := hx4.trans hx4a
  obtain ⟨x0, x1, x2, x3, x4, x5⟩ := SAt.r6 HS8.out
  try go_wp2_with fail
  refine (HIm.out _ a4 c4 b4 d4 (HI4.out.ext hx4a)).mono ?_
  rintro e w5 ⟨a5, c5, rfl, ho5, hy5⟩
  have hx5 : Ext w4a w5 := hy5
  have hxb5 : Ext wb w5 := hxb4.trans hx5
  have hl45 : w4a.heap.size ≤ w5.heap.size := hx5.le
  have hx35 : Ext w3 w5 := hxz4.trans (hx4a.trans hx5)
  have HO5 := Lib.hid (show OwnIn w5 w4a.heap.size w5.heap.size 9 a5 ts.length c5 (St ts) from ho5.in)
  have HLg5 := Lib.hid (show Strs w5 a5 ts.length c5 ts from ho5.sl)
  have HL5 := Lib.hid (Strs.ext HL3.out hx35)
  clear ho5
  go_wp2_with (go_at_call 19; (with_reducible refine (eqTsT a5 a3 ts.length c5 c3 ts _ ((show Strs w5 a5 ts.length c5 ts from HLg5.out).ext (by repeat (first | (with_reducible exact Ext.refl _) | (with_reducible assumption) | (with_reducible refine Ext.drewN ?_ _) | (with_reducible refine Ext.drew ?_) | (with_reducible refine Ext.alloc ?_ _) | ((with_reducible refine Ext.setCell ?_ ?_ _); rotate_left; focus (first | (simp; done) | (simp; omega) | omega)) | (with_reducible refine Ext.trans ?_ (by with_reducible assumption))))) ((show Strs w5 a3 ts.length c3 ts from HL5.out).ext (by repeat (first | (with_reducible exact Ext.refl _) | (with_reducible assumption) | (with_reducible refine Ext.drewN ?_ _) | (with_reducible refine Ext.drew ?_) | (with_reducible refine Ext.alloc ?_ _) | ((with_reducible refine Ext.setCell ?_ ?_ _); rotate_left; focus (first | (simp; done) | (simp; omega) | omega)) | (with_reducible refine Ext.trans ?_ (by with_reducible assumption))))) (by omega)).mono ?_); rintro e w6 ⟨rfl, hys⟩; have hx6 : Ext w5 w6 := Ext.trans (by repeat (first | (with_reducible exact Ext.refl _) | (with_reducible assumption) | (with_reducible refine Ext.drewN ?_ _) | (with_reducible refine Ext.drew ?_) | (with_reducible refine Ext.alloc ?_ _) | ((with_reducible refine Ext.setCell ?_ ?_ _); rotate_left; focus (first | (simp; done) | (simp; omega) | omega)) | (with_reducible refine Ext.trans ?_ (by with_reducible assumption)))) hys; clear hys)
  have hxb6 : Ext wb w6 := hxb5.trans hx6
  have hx4a6 : Ext w4a w6 := hx5.trans hx6
  have HX6 := Lib.hid ((HI4.out.ext hx4a).ext (hx5.trans hx6))
  have HIb6 := Lib.hid (HIb.out.ext hxb6)
  (refine wp_region_from w6 (by repeat (first | (with_reducible exact Ext.refl _) | (with_reducible refine Ext.drewN ?_ _) | (with_reducible refine Ext.drew ?_) | (with_reducible refine Ext.alloc ?_ _) | ((with_reducible refine Ext.setCell ?_ ?_ _); rotate_left; focus (first | (simp; done) | (simp; omega) | omega)) | assumption | (with_reducible refine Ext.trans ?_ (by assumption)))) (by kernel_rfl) (by kernel_rfl) (by kernel_rfl) ?_; (repeat (first | (refine mix_q rfl ?_; go_big_quiet_step (fail); refine wpQuiet_nil ?_; show wpMix _ _ _ _ _ _ _) | (refine mix_s rfl ?_; go_wp2_with (first | (go_at_call 17; (with_reducible refine (toChr D a n c b m d _ (HIb6.out.ext (by repeat (first | (with_reducible exact Ext.refl _) | (with_reducible assumption) | (with_reducible refine Ext.drewN ?_ _) | (with_reducible refine Ext.drew ?_) | (with_reducible refine Ext.alloc ?_ _) | ((with_reducible refine Ext.setCell ?_ ?_ _); rotate_left; focus (first | (simp; done) | (simp; omega) | omega)) | (with_reducible refine Ext.trans ?_ (by with_reducible assumption)))))).mono ?_); rintro e w7 ⟨a7, c7, b7, d7, rfl, hr7, hy7⟩; have hx7 : Ext w6 w7 := Ext.trans (by repeat (first | (with_reducible exact Ext.refl _) | (with_reducible assumption) | (with_reducible refine Ext.drewN ?_ _) | (with_reducible refine Ext.drew ?_) | (with_reducible refine Ext.alloc ?_ _) | ((with_reducible refine Ext.setCell ?_ ?_ _); rotate_left; focus (first | (simp; done) | (simp; omega) | omega)) | (with_reducible refine Ext.trans ?_ (by with_reducible assumption)))) hy7; have HI7 := Lib.hid (hr7.inn HIb.out.hn HIb.out.hn' HSm.out); clear hr7 hy7) | (go_at_call 20; (with_reducible refine (eqCh D a4 n c4 b4 m d4 a7 c7 b7 d7 _ (HX6.out.ext (by repeat (first | (with_reducible exact Ext.refl _) | (with_reducible assumption) | (with_reducible refine Ext.drewN ?_ _) | (with_reducible refine Ext.drew ?_) | (with_reducible refine Ext.alloc ?_ _) | ((with_reducible refine Ext.setCell ?_ ?_ _); rotate_left; focus (first | (simp; done) | (simp; omega) | omega)) | (with_reducible refine Ext.trans ?_ (by with_reducible assumption))))) HI7.out).mono ?_); rintro e w8 ⟨rfl, hy8⟩; have hx8 : Ext w6 w8 := Ext.trans (by repeat (first | (with_reducible exact Ext.refl _) | (with_reducible assumption) | (with_reducible refine Ext.drewN ?_ _) | (with_reducible refine Ext.drew ?_) | (with_reducible refine Ext.alloc ?_ _) | ((with_reducible refine Ext.setCell ?_ ?_ _); rotate_left; focus (first | (simp; done) | (simp; omega) | omega)) | (with_reducible refine Ext.trans ?_ (by with_reducible assumption)))) hy8; clear hy8)); first | refine ⟨up_of (by repeat (first | (with_reducible exact Ext.refl _) | (with_reducible refine Ext.drewN ?_ _) | (with_reducible refine Ext.drew ?_) | (with_reducible refine Ext.alloc ?_ _) | ((with_reducible refine Ext.setCell ?_ ?_ _); rotate_left; focus (first | (simp; done) | (simp; omega) | omega)) | assumption | (with_reducible refine Ext.trans ?_ (by assumption)))), ?_⟩ | refine ⟨rfl, rfl, up_of (by repeat (first | (with_reducible exact Ext.refl _) | (with_reducible refine Ext.drewN ?_ _) | (with_reducible refine Ext.drew ?_) | (with_reducible refine Ext.alloc ?_ _) | ((with_reducible refine Ext.setCell ?_ ?_ _); rotate_left; focus (first | (simp; done) | (simp; omega) | omega)) | assumption | (with_reducible refine Ext.trans ?_ (by assumption)))), ?_⟩))); refine mix_nil ?_)
  have hx58 : Ext w5 w8 := hx6.trans hx8
  have hxb8 : Ext wb w8 := hxb6.trans hx8
  have hx4a8 : Ext w4a w8 := hx5.trans hx58
  go_wp2_with fail
  have hl8 : w5.heap.size ≤ w8.heap.size := hx58.le
  have hl8b : w4.heap.size ≤ w8.heap.size := by omega
  refine (markChR D a4 n c4 b4 m d4 1 w3.heap.size w4.heap.size _ ((HR4.out.ext hx4a).ext (hx5.trans (hx58.trans (by repeat (first | (with_reducible exact Ext.refl _) | (with_reducible assumption) | (with_reducible refine Ext.drewN ?_ _) | (with_reducible refine Ext.drew ?_) | (with_reducible refine Ext.alloc ?_ _) | ((with_reducible refine Ext.setCell ?_ ?_ _); rotate_left; focus (first | (simp; done) | (simp; omega) | omega)) | (with_reducible refine Ext.trans ?_ (by with_reducible assumption))))))) (by first | exact hl8b | (simp; omega)) hn1 (by have := szCh2_le HSize.out; omega) (small_tabs HSm.out)).mono ?_
  rintro e w9 ⟨rfl, hc9, _⟩
  have hc9 : Chg w3.heap.size w4.heap.size w5 w9 := (Chg.ext (hx58.trans (by repeat (first | (with_reducible exact Ext.refl _) | (with_reducible assumption) | (with_reducible refine Ext.drewN ?_ _) | (with_reducible refine Ext.drew ?_) | (with_reducible refine Ext.alloc ?_ _) | ((with_reducible refine Ext.setCell ?_ ?_ _); rotate_left; focus (first | (simp; done) | (simp; omega) | omega)) | (with_reducible refine Ext.trans ?_ (by with_reducible assumption))))) _ _).trans hc9
  have hl9 : w5.heap.size ≤ w9.heap.size := hc9.size
  have hlb : wb.heap.size ≤ w3.heap.size := hx3.le
  have hx39 : Ext w3 w9 := hc9.to hx35 (Nat.le_refl _)
  have hxb9 : Ext wb w9 := hx3.trans hx39
  clear x0 x1 x2 x3 x4 x5
  have HO9 := Lib.hid (HO5.out.chg hc9 (.inl (by omega)))
  have HLg9 := Lib.hid (show Strs w9 a5 ts.length c5 ts from HO9.out.1.sl)
  have HL9 := Lib.hid (Strs.ext HL3.out hx39)
  obtain ⟨z9, hz9⟩ : ∃ z, z = szCh2 D := ⟨_, rfl⟩
  rw [← hz9]
  clear hz9 hc9
  go_wp2_with (go_at_call 19; (with_reducible refine (eqTsT a5 a3 ts.length c5 c3 ts _ ((show Strs w9 a5 ts.length c5 ts from HLg9.out).ext (by repeat (first | (with_reducible exact Ext.refl _) | (with_reducible assumption) | (with_reducible refine Ext.drewN ?_ _) | (with_reducible refine Ext.drew ?_) | (with_reducible refine Ext.alloc ?_ _) | ((with_reducible refine Ext.setCell ?_ ?_ _); rotate_left; focus (first | (simp; done) | (simp; omega) | omega)) | (with_reducible refine Ext.trans ?_ (by with_reducible assumption))))) ((show Strs w9 a3 ts.length c3 ts from HL9.out).ext (by repeat (first | (with_reducible exact Ext.refl _) | (with_reducible assumption) | (with_reducible refine Ext.drewN ?_ _) | (with_reducible refine Ext.drew ?_) | (with_reducible refine Ext.alloc ?_ _) | ((with_reducible refine Ext.setCell ?_ ?_ _); rotate_left; focus (first | (simp; done) | (simp; omega) | omega)) | (with_reducible refine Ext.trans ?_ (by with_reducible assumption))))) (by omega)).mono ?_); rintro e w10 ⟨rfl, hys⟩; have hx10 : Ext w9 w10 := Ext.trans (by repeat (first | (with_reducible exact Ext.refl _) | (with_reducible assumption) | (with_reducible refine Ext.drewN ?_ _) | (with_reducible refine Ext.drew ?_) | (with_reducible refine Ext.alloc ?_ _) | ((with_reducible refine Ext.setCell ?_ ?_ _); rotate_left; focus (first | (simp; done) | (simp; omega) | omega)) | (with_reducible refine Ext.trans ?_ (by with_reducible assumption)))) hys; clear hys)
  have hl10 : w9.heap.size ≤ w10.heap.size := hx10.le
  refine (markTs1 a5 ts.length c5 (St ts) w4a.heap.size w5.heap.size _ (HO9.out.ext (hx10.trans (by repeat (first | (with_reducible exact Ext.refl _) | (with_reducible assumption) | (with_reducible refine Ext.drewN ?_ _) | (with_reducible refine Ext.drew ?_) | (with_reducible refine Ext.alloc ?_ _) | ((with_reducible refine Ext.setCell ?_ ?_ _); rotate_left; focus (first | (simp; done) | (simp; omega) | omega)) | (with_reducible refine Ext.trans ?_ (by with_reducible assumption)))))) (by first | omega | (simp; omega)) (by omega)).mono ?_
  rintro e w11 ⟨rfl, hc11, ho11⟩
  have hc11 : Chg w4a.heap.size w5.heap.size w9 w11 := (Chg.ext (hx10.trans (by repeat (first | (with_reducible exact Ext.refl _) | (with_reducible assumption) | (with_reducible refine Ext.drewN ?_ _) | (with_reducible refine Ext.drew ?_) | (with_reducible refine Ext.alloc ?_ _) | ((with_reducible refine Ext.setCell ?_ ?_ _); rotate_left; focus (first | (simp; done) | (simp; omega) | omega)) | (with_reducible refine Ext.trans ?_ (by with_reducible assumption))))) _ _).trans hc11
  have hx311 : Ext w3 w11 := hc11.to hx39 (by omega)
  have hxb11 : Ext wb w11 := hx3.trans hx311
  have HIb11 := Lib.hid (HIb.out.ext hxb11)
  have HL11 := Lib.hid (Strs.ext HL3.out hx311)
  have HHd := Lib.hid (fun W (h : Ext w11 W) => heldTs1 a5 ts.length c5 W (Strs.ext (show Strs w11 a5 ts.length c5 (markTs 1 ts.length) from ho11.1.sl) h) (by omega))
  clear hc11 ho11
  go_wp2_with (go_at_call 23; (with_reducible refine (HHd.out _ (by repeat (first | (with_reducible exact Ext.refl _) | (with_reducible assumption) | (with_reducible refine Ext.drewN ?_ _) | (with_reducible refine Ext.drew ?_) | (with_reducible refine Ext.alloc ?_ _) | ((with_reducible refine Ext.setCell ?_ ?_ _); rotate_left; focus (first | (simp; done) | (simp; omega) | omega)) | (with_reducible refine Ext.trans ?_ (by with_reducible assumption))))).mono ?_); rintro e w12 ⟨rfl, hyh⟩; have hx12 : Ext w11 w12 := Ext.trans (by repeat (first | (with_reducible exact Ext.refl _) | (with_reducible assumption) | (with_reducible refine Ext.drewN ?_ _) | (with_reducible refine Ext.drew ?_) | (with_reducible refine Ext.alloc ?_ _) | ((with_reducible refine Ext.setCell ?_ ?_ _); rotate_left; focus (first | (simp; done) | (simp; omega) | omega)) | (with_reducible refine Ext.trans ?_ (by with_reducible assumption)))) hyh; clear hyh; have hxb12 : Ext wb w12 := hxb11.trans hx12)
  refine (toChr D a n c b m d _ (HIb11.out.ext (hx12.trans (by repeat (first | (with_reducible exact Ext.refl _) | (with_reducible assumption) | (with_reducible refine Ext.drewN ?_ _) | (with_reducible refine Ext.drew ?_) | (with_reducible refine Ext.alloc ?_ _) | ((with_reducible refine Ext.setCell ?_ ?_ _); rotate_left; focus (first | (simp; done) | (simp; omega) | omega)) | (with_reducible refine Ext.trans ?_ (by with_reducible assumption))))))).mono ?_
  rintro e w13 ⟨a13, c13, b13, d13, rfl, hr13, hy13⟩
  have hx13 : Ext w11 w13 := Ext.trans (hx12.trans (by repeat (first | (with_reducible exact Ext.refl _) | (with_reducible assumption) | (with_reducible refine Ext.drewN ?_ _) | (with_reducible refine Ext.drew ?_) | (with_reducible refine Ext.alloc ?_ _) | ((with_reducible refine Ext.setCell ?_ ?_ _); rotate_left; focus (first | (simp; done) | (simp; omega) | omega)) | (with_reducible refine Ext.trans ?_ (by with_reducible assumption))))) hy13
  have HI13 := Lib.hid (hr13.inn HIb.out.hn HIb.out.hn' HSm.out)
  clear hr13 hy13
  go_wp2_with fail
  refine (HIm.out _ a13 c13 b13 d13 HI13.out).mono ?_
  rintro e w14 ⟨a14, c14, rfl, ho14, hy14⟩
  have hx14 : Ext w11 w14 := hx13.trans hy14
  have HLg14 := Lib.hid (show Strs w14 a14 ts.length c14 ts from ho14.sl)
  have HL14 := Lib.hid (Strs.ext HL11.out hx14)
  clear ho14 hy14
  go_wp2_with (first | (go_at_call 19; (with_reducible refine (eqTsT a14 a3 ts.length c14 c3 ts _ ((show Strs w14 a14 ts.length c14 ts from HLg14.out).ext (by repeat (first | (with_reducible exact Ext.refl _) | (with_reducible assumption) | (with_reducible refine Ext.drewN ?_ _) | (with_reducible refine Ext.drew ?_) | (with_reducible refine Ext.alloc ?_ _) | ((with_reducible refine Ext.setCell ?_ ?_ _); rotate_left; focus (first | (simp; done) | (simp; omega) | omega)) | (with_reducible refine Ext.trans ?_ (by with_reducible assumption))))) ((show Strs w14 a3 ts.length c3 ts from HL14.out).ext (by repeat (first | (with_reducible exact Ext.refl _) | (with_reducible assumption) | (with_reducible refine Ext.drewN ?_ _) | (with_reducible refine Ext.drew ?_) | (with_reducible refine Ext.alloc ?_ _) | ((with_reducible refine Ext.setCell ?_ ?_ _); rotate_left; focus (first | (simp; done) | (simp; omega) | omega)) | (with_reducible refine Ext.trans ?_ (by with_reducible assumption))))) (by omega)).mono ?_); rintro e w15 ⟨rfl, hys⟩; have hx15 : Ext w14 w15 := Ext.trans (by repeat (first | (with_reducible exact Ext.refl _) | (with_reducible assumption) | (with_reducible refine Ext.drewN ?_ _) | (with_reducible refine Ext.drew ?_) | (with_reducible refine Ext.alloc ?_ _) | ((with_reducible refine Ext.setCell ?_ ?_ _); rotate_left; focus (first | (simp; done) | (simp; omega) | omega)) | (with_reducible refine Ext.trans ?_ (by with_reducible assumption)))) hys; have hxy15 : Ext w11 w15 := hx14.trans hx15; clear hys) | (go_at_call 23; (with_reducible refine (HHd.out _ (by repeat (first | (with_reducible exact Ext.refl _) | (with_reducible assumption) | (with_reducible refine Ext.drewN ?_ _) | (with_reducible refine Ext.drew ?_) | (with_reducible refine Ext.alloc ?_ _) | ((with_reducible refine Ext.setCell ?_ ?_ _); rotate_left; focus (first | (simp; done) | (simp; omega) | omega)) | (with_reducible refine Ext.trans ?_ (by with_reducible assumption))))).mono ?_); rintro e w16 ⟨rfl, hyh⟩; have hx16 : Ext w11 w16 := Ext.trans (by repeat (first | (with_reducible exact Ext.refl _) | (with_reducible assumption) | (with_reducible refine Ext.drewN ?_ _) | (with_reducible refine Ext.drew ?_) | (with_reducible refine Ext.alloc ?_ _) | ((with_reducible refine Ext.setCell ?_ ?_ _); rotate_left; focus (first | (simp; done) | (simp; omega) | omega)) | (with_reducible refine Ext.trans ?_ (by with_reducible assumption)))) hyh; clear hyh))
  go_ret
  exact ⟨rfl, hxb.trans (hxb11.trans (by repeat (first | (with_reducible exact Ext.refl _) | (with_reducible assumption) | (with_reducible refine Ext.drewN ?_ _) | (with_reducible refine Ext.drew ?_) | (with_reducible refine Ext.alloc ?_ _) | ((with_reducible refine Ext.setCell ?_ ?_ _); rotate_left; focus (first | (simp; done) | (simp; omega) | omega)) | (with_reducible refine Ext.trans ?_ (by with_reducible assumption)))))⟩
end Go.Proofs.YtbcfbkhbangeoaaGreat
