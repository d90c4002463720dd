/- The law on pairs of sums: walked. -/
import Derived.Test.YtaiieodllhoelaaPrsQ
import Derived.Test.YtaiieodllhoelaaCor
import Derived.Test.YtaiieodllhoelaaCount
import Derived.Test.YtaiieodllhoelaaPair5
import Derived.Test.YtaiieodllhoelaaApa
namespace Go.Proofs.Ytaiieodllhoelaa
set_option maxRecDepth 100000
open Go.RowKit

set_option maxHeartbeats 1000000 in
theorem spec_SymbolP (d : Int) (w : World) (h0 : 0 ≤ d) (h1 : d ≤ 35) : Calls Try.prog 49 #[.int .i64 d] w (Ret2 (.string (textOf [d])) (.bool true) w) := by
  have HI := Lib.hid (fun W => spec_in d 0 35 W)
  rw [show inB d 0 35 = true from inB_t.2 (by omega)] at HI
  have HS := Lib.hid (fun W => spec_symbol d W h0 h1)
  have hr := run_bytes_text (w.alloc (.cells #[.int .u8 (sym d)] 5)) _ (some ⟨w.heap.size, 0, none⟩) 1 1 [sym d] (own_lit1 w 5 (.int .u8 (sym d)))
  go_enter Try.func49, Try.ntmps49
  go_wp2_with (first | ((with_reducible refine (HI.out _).mono ?_); rintro e w1 ⟨rfl, rfl⟩) | ((with_reducible refine (HS.out _).mono ?_); rintro e w1 ⟨rfl, rfl⟩))
  go_ret2
  exact ⟨rfl, (Ext.refl _).alloc _⟩
set_option maxHeartbeats 8000000 in
theorem lawPairs (a : Option Addr) (n c : Nat) (l : List UInt8) (a' : Option Addr) (n' c' : Nat) (l' : List UInt8) (w : World) (hv : Bytes w a n c l) (hn : n ≤ 9223372036854775807) (hv' : Bytes w a' n' c' l') (hn' : n' ≤ 9223372036854775807) :
    Calls Try.prog 12 #[.slice a n c, .slice a' n' c'] w (Ret (.bool true) w) := by
  have HLong := Lib.hid (laws_b10Long a a' n c n' c' w hn hn')
  have HB := Lib.hid hv
  have HB' := Lib.hid hv'
  clear hv hv'
  by_cases hlong : 1048576 < n ∨ 1048576 < n'
  · rw [decide_eq_true hlong] at HLong
    clear hlong
    go_enter Try.func12, Try.ntmps12
    go_wp2_with (go_at_call 47; refine HLong.out.mono ?_; rintro e w1 ⟨rfl, rfl⟩)
    go_ret
    exact ⟨rfl, Ext.refl _⟩
  rw [decide_eq_false hlong] at HLong
  have hn48 : n ≤ 1048576 ∧ n' ≤ 1048576 := by omega
  clear hlong
  have hz := b10_bd l 0 4 (by omega)
  have HZ0 := Lib.hid (laws_b10 a n c l 0 4 w HB.out (by omega) (by omega) (by omega))
  generalize b10 l 0 4 = z at HZ0 hz
  obtain ⟨z, rfl⟩ := Int.eq_ofNat_of_zero_le hz.1
  obtain ⟨p, hp⟩ : ∃ p, p = z + 2 := ⟨_, rfl⟩
  have hp2 : 2 ≤ p ∧ p ≤ 5 := by omega
  have HPp := Lib.hid (show ((z : Int) + 2) = (p : Int) ∧ (2 + (z : Int)) = (p : Int) by omega)
  go_enter Try.func12, Try.ntmps12
  go_wp2_with (first | (go_at_call 47; refine HLong.out.mono ?_; rintro e w1 ⟨rfl, rfl⟩) | (go_at_call 48; refine HZ0.out.mono ?_; rintro e w1 ⟨rfl, rfl⟩))
  first | rw [HPp.out.1] | rw [HPp.out.2]
  clear hz hp HPp HZ0 HLong
  go_loopw [6, 7, 8] (fun v6 v7 v8 wr => ∃ (k : Nat) (oa : Option Addr) (oc : Nat) (ta : Option Addr) (tc : Nat), k ≤ p ∧ v8 = .int .i64 k ∧ v6 = .slice oa k oc ∧ v7 = .slice ta k tc ∧ Hid (Own wr w.heap.size 2 oa k oc (I (onesL k))) ∧ Hid (Own wr w.heap.size 2 ta k tc (I (idxL k))) ∧ Apa oa ta ∧ Ext w wr) (fun _ _ v8 _ => p - (intOf v8).toNat)
  case atStart =>
    have h1 : Own ((w.alloc (.cells #[] 2)).alloc (.cells #[] 2)) w.heap.size 2 (some ⟨w.heap.size + 1, 0, none⟩) 0 0 [] := by
      have h := Own.lit0 (w.alloc (.cells #[] 2)) 2
      rw [show (w.alloc (.cells #[] 2)).heap.size = w.heap.size + 1 by simp] at h
      exact h.mono (Nat.le_succ _)
    refine ⟨0, _, _, _, _, Nat.zero_le _, rfl, rfl, rfl, (Own.lit0 w 2).ext ((Ext.refl _).alloc _), h1, ?_, (by repeat (first | (with_reducible exact Ext.refl _) | (with_reducible refine Ext.drewN ?_ _) | (with_reducible refine Ext.drew ?_) | (with_reducible refine Ext.alloc ?_ _) | ((with_reducible refine Ext.setCell ?_ ?_ _); rotate_left; focus (first | (simp; done) | (simp; omega) | omega)) | assumption | (with_reducible refine Ext.trans ?_ (by assumption))))⟩
    intro g g' h1 h2
    cases h1; cases h2
    simp
  case round =>
    obtain ⟨k, oa, oc, ta, tc, hk, rfl, rfl, rfl, HRa, HRb, hap, hx⟩ := hrel
    by_cases hlt : k < p
    · go_wp2_with (first | (at_builtin; refine law_append1_at _ rfl _ _ 25 rfl 2 (.int .i64 0) 8 und_int64s info_int64 rfl w.heap.size oa k oc _ _ rfl rfl rfl HRa.out hx.le (by omega) (by omega) ?_; intro oa' oc' w6 ho6 hb6 hg6 hk6; have HB6 := Lib.hid (own_apa hap HRb.out hg6); have hap6 := apa_put hap HRb.out hk6; have hx6 : Ext w w6 := Ext.below hx hb6; have HA6 := Lib.hid ho6; clear ho6 hb6 hg6 hk6) | (at_builtin; refine law_append1_at _ rfl _ _ 25 rfl 2 (.int .i64 0) 8 und_int64s info_int64 rfl w.heap.size ta k tc _ _ rfl rfl rfl HB6.out hx6.le (by omega) (by omega) ?_; intro ta' tc' w7 ho7 hb7 hg7 hk7; have HA7 := Lib.hid (own_apa hap6.symm HA6.out hg7); have hap7 := (apa_put hap6.symm HA6.out hk7).symm; have hx7 : Ext w w7 := Ext.below hx6 hb7; have HB7 := Lib.hid ho7; clear ho7 hb7 hg7 hk7))
      refine ⟨⟨k + 1, oa', oc', ta', tc', by omega, by go_num, rfl, rfl, ?_, ?_, hap7, hx7⟩, by simp [intOf]; omega⟩
      · have h := HA7.out
        rw [ones_step, I_append]
        exact h
      · have h := HB7.out
        rw [idx_step, I_append]
        exact h
    · obtain rfl : k = p := by omega
      have hpb := pr_valid hp2.1 hp2.2
      have HPb := Lib.hid hpb
      have HIa := Lib.hid HRa.out.ints
      have HIb := Lib.hid HRb.out.ints
      have HPC := Lib.hid (fun W (h : Ext wr W) => impl_PairChain 5 oa k oc (onesL k) ta k tc (idxL k) W (HIa.out.ext h) (HIb.out.ext h))
      rw [hpb] at HPC
      have HPDi := Lib.hid (fun W (h : Ext wr W) => impl_PDk 5 oa k oc (onesL k) ta k tc (idxL k) W (HIa.out.ext h) (HIb.out.ext h))
      have HPDs := Lib.hid (fun W (h : Ext wr W) => spec_PDk 5 oa k oc (onesL k) ta k tc (idxL k) W (HIa.out.ext h) (HIb.out.ext h))
      have HSm := Lib.hid (show SmallCh (pairCh 5 (onesL k) (idxL k)) from by unfold pairCh; rw [if_pos hpb]; exact (pair_fit hpb).small)
      obtain ⟨D, hD⟩ : ∃ D, D = pairCh 5 (onesL k) (idxL k) := ⟨_, rfl⟩
      have HD := Lib.hid hD
      rw [← hD] at HPC HSm
      clear hD hpb HRa HRb hap
      go_upto_region 14 with (go_at_call 38; (with_reducible refine (HPC.out _ (Ext.refl _)).mono ?_); rintro e w1 ⟨ca, cx, cc, cb, cy, cd, rfl, hcx, hcy, hcp, hy1⟩; have HI1 := Lib.hid (show ChIn w1 D ca cx cc cb cy cd from hcp.inn hcx hcy HSm.out); have hx1 : Ext wr w1 := hy1; clear hcp hy1)
      obtain ⟨wb, hwb⟩ : ∃ wb, wb = w1.alloc (.cells #[.int .i64 D.base, .int .i64 D.states, .int .i64 D.start, .int .i64 D.fin, .slice ca cx cc, .slice cb cy cd] 27) := ⟨_, rfl⟩
      obtain ⟨q, hq⟩ : ∃ q, q = w1.heap.size := ⟨_, rfl⟩
      have HA := Lib.hid (show ChAt wb q D ca cx cc cb cy cd by rw [hwb, hq]; exact HI1.out.box _)
      have hxb : Ext wr wb := by rw [hwb]; exact hx1.alloc _
      have HI := Lib.hid (show ChIn wb D ca cx cc cb cy cd by rw [hwb]; exact HI1.out.ext ((Ext.refl _).alloc _))
      rw [← hwb, ← hq]
      clear hwb hq HI1 hx1
      obtain ⟨k0, k1, k2, k3, k4, k5, _, _⟩ := HA.out
      have hbb : Ext wb wb := Ext.refl _
      have hwwb : Ext w wb := hx.trans hxb
      have HLe := Lib.hid (fun h => pr_least (p := k) hp2.1 hp2.2 h)
      have HCu := Lib.hid (fun s h => cor_unknown (b := 5) (l1 := onesL k) (l2 := idxL k) (s := s) h)
      have HCw := Lib.hid (fun ds h1 h2 => cor_word (b := 5) (l1 := onesL k) (l2 := idxL k) (m := 5) (n := k) (ds := ds) HPb.out rfl (ones_len k) h1 (by omega) h2)
      have HCb := Lib.hid (fun ds h1 h2 h3 h4 h5 (i : Nat) e h6 h7 h8 h9 => cor_back (b := 5) (l1 := onesL k) (l2 := idxL k) (m := 5) (n := k) (ds := ds) HPb.out rfl (ones_len k) h1 h2 h3 h4 h5 (i := i) (e := e) h6 h7 h8 h9)
      have HWk := Lib.hid (fun r h => pair_wordsA (b := 5) (l1 := onesL k) (l2 := idxL k) (m := 5) (n := k) HPb.out rfl (ones_len k) (r := r) h)
      have hN1 := pair_words1 (b := 5) (l1 := onesL k) (l2 := idxL k) (m := 5) (n := k) HPb.out rfl (ones_len k)
      have HCor := Lib.hid (fun t W (h : Ext wb W) (ht : t.size ≤ 1048576) => impl_Cor 5 oa k oc (onesL k) ta k tc (idxL k) t W (HIa.out.ext (hxb.trans h)) (HIb.out.ext (hxb.trans h)) ht)
      have Hval := Lib.hid (show validCh D = true by rw [HD.out]; exact (pair_facts HPb.out).1)
      have HPDi2 := Lib.hid (fun W (h : Ext wb W) => HPDi.out W (hxb.trans h))
      have HPDs2 := Lib.hid (fun W (h : Ext wb W) => HPDs.out W (hxb.trans h))
      rw [← HD.out] at HWk hN1
      clear HPDi HPDs HPC
      generalize hkv : (leastD (PairD 5 (onesL k) (idxL k))).1 = v at HPDi2 HPDs2 HLe HCb
      generalize hkf : (leastD (PairD 5 (onesL k) (idxL k))).2 = f at HPDi2 HPDs2 HLe HCb HCu
      clear hkv hkf
      have HWA := Lib.hid (fun r W (h : Ext wb W) => impl_WordAt D ca cx cc cb cy cd r W (HI.out.ext h) Hval.out)
      have HCt := Lib.hid (fun W (h : Ext wb W) => impl_CountWords D ca cx cc cb cy cd W (HI.out.ext h) Hval.out)
      obtain ⟨N, hNe⟩ : ∃ N, N = (wordsA D).length := ⟨_, rfl⟩
      rw [← hNe] at HCt hN1 HWk
      have HNe := Lib.hid hNe
      clear hNe
      have hN0 : ¬ (N : Int) < 1 := by omega
      -- the word
      have hr := b10_bd l' 0 (N : Int) (by omega)
      have HR0 := Lib.hid (fun W (h : Ext wb W) => laws_b10 a' n' c' l' 0 (N : Int) W (HB'.out.ext (hwwb.trans h)) (by omega) (by omega) (by omega))
      generalize b10 l' 0 (N : Int) = r at HR0 hr
      obtain ⟨r, rfl⟩ := Int.eq_ofNat_of_zero_le hr.1
      have hrN : r < N := by omega
      obtain ⟨hds1, hds2, hds3⟩ := HWk.out r hrN
      have HWt := Lib.hid (show watB D (r : Int) = true ∧ watT D (r : Int) = textOf ((wordsA D).getD r []) from by
        have h1 : watB D (r : Int) = true := by unfold watB; rw [decide_eq_true_iff, ← HNe.out]; omega
        exact ⟨h1, by rw [watT, h1]; rfl⟩)
      generalize (wordsA D).getD r [] = ds at hds1 hds2 hds3 HWt
      have HWr := Lib.hid (HWA.out (r : Int))
      rw [HWt.out.1, HWt.out.2] at HWr
      have HDg := Lib.hid hds2
      have HdL := Lib.hid hds1
      have HOf := Lib.hid hds3
      clear hds1 hds2 hds3 HWA hr
      -- the place and the symbol
      have hi := b10_bd l' 1 (k : Int) (by omega)
      have HI0 := Lib.hid (fun W (h : Ext wb W) => laws_b10 a' n' c' l' 1 (k : Int) W (HB'.out.ext (hwwb.trans h)) (by omega) (by omega) (by omega))
      generalize b10 l' 1 (k : Int) = i at HI0 hi
      obtain ⟨i, rfl⟩ := Int.eq_ofNat_of_zero_le hi.1
      have hik : i < k := by omega
      have he := b10_bd l' 2 5 (by omega)
      have HE0 := Lib.hid (fun W (h : Ext wb W) => laws_b10 a' n' c' l' 2 5 W (HB'.out.ext (hwwb.trans h)) (by omega) (by omega) (by omega))
      generalize b10 l' 2 5 = e at HE0 he
      have HSy := Lib.hid (fun W => spec_SymbolP e W he.1 (by omega))
      have hts : (textOf [e]).size = 1 := textOf_size _
      have htd : (textOf ds).size = k := by rw [textOf_size]; exact HdL.out
      have HBt := Lib.hid (show (textOf ds).extract 0 i ++ textOf [e] ++ (textOf ds).extract (i + 1) k = textOf (ds.set i e) from by
        have h := set_textC (xs := ds) (pl := i) (d := e) (by rw [HdL.out]; exact hik)
        rw [htd] at h
        exact h)
      have hbl : (textOf (ds.set i e)).size = k := by rw [textOf_size, List.length_set]; exact HdL.out
      have HCo := Lib.hid (fun W (h : Ext wb W) => HCor.out (textOf (ds.set i e)) W h (by omega))
      clear HCor hi
      -- base and size
      have hu := b10_bd l' 3 2 (by omega)
      have HU0 := Lib.hid (fun W (h : Ext wb W) => laws_b10 a' n' c' l' 3 2 W (HB'.out.ext (hwwb.trans h)) (by omega) (by omega) (by omega))
      generalize b10 l' 3 2 = u at HU0 hu
      obtain ⟨u, rfl⟩ := Int.eq_ofNat_of_zero_le hu.1
      have hy := b10_bd l' 4 3 (by omega)
      have HY0 := Lib.hid (fun W (h : Ext wb W) => laws_b10 a' n' c' l' 4 3 W (HB'.out.ext (hwwb.trans h)) (by omega) (by omega) (by omega))
      generalize b10 l' 4 3 = y at HY0 hy
      obtain ⟨y, rfl⟩ := Int.eq_ofNat_of_zero_le hy.1
      obtain ⟨m, hm⟩ : ∃ m, m = 2 + u := ⟨_, rfl⟩
      obtain ⟨np, hnp⟩ : ∃ np, np = 2 + y := ⟨_, rfl⟩
      have HUm := Lib.hid (show ((u : Int) + 2) = (m : Int) ∧ (2 + (u : Int)) = (m : Int) by omega)
      have HYn := Lib.hid (show ((y : Int) + 2) = (np : Int) ∧ (2 + (y : Int)) = (np : Int) by omega)
      have HBI := Lib.hid (fun W => impl_BP (m : Int) (np : Int) W)
      have HBS := Lib.hid (fun W => spec_BP (m : Int) (np : Int) W)
      have HBd := Lib.hid (fun h => bp_dist (m := m) (np := np) (by omega) (by omega) h)
      have HPu := Lib.hid (fun ua un uc va vn vc W (h1 : Ints W ua un uc (bpL1 m np)) (h2 : Ints W va vn vc (bpL2 m np)) => impl_PDk (m : Int) ua un uc (bpL1 m np) va vn vc (bpL2 m np) W h1 h2)
      have hu5 : u ≤ 5 := by omega
      have hy5 : y ≤ 5 := by omega
      clear hu hy hm hnp
      -- the ways
      have HCu' := Lib.hid (HCu.out (textOf (ds.set i e)))
      have HCw' := Lib.hid (HCw.out ds HDg.out HOf.out)
      have HCb' := Lib.hid (fun h1 h2 h3 => HCb.out ds HDg.out HdL.out HOf.out h1 h2 i e hik he.1 he.2 h3)
      clear HCu HCw HCb HPb HWk HD
      have hfv : f = true → ¬ v < 3 := fun h => by have := HLe.out h; omega
      clear HLe
      have hself : ((textOf ds).toList == (textOf ds).toList) = true := beq_self_eq_true _
      have hway : ∃ (bb : Bool) (ct : ByteArray) (ci : Int) (cr : Bool), ((textOf (ds.set i e)).toList == (textOf ds).toList) = bb ∧ corV 5 (onesL k) (idxL k) (textOf (ds.set i e)) = (ct, ci, cr) ∧
          ((f = false ∧ cr = false) ∨ (bb = true ∧ cr = false) ∨ (f = true ∧ bb = false ∧ ct = textOf ds ∧ ci = (i : Int) ∧ cr = true)) := by
        cases hbb : ((textOf (ds.set i e)).toList == (textOf ds).toList)
        · cases f
          · exact ⟨false, _, _, _, rfl, rfl, .inl ⟨rfl, HCu'.out rfl⟩⟩
          · refine ⟨false, _, _, _, rfl, HCb'.out rfl (by have := hfv rfl; omega) (fun h => ?_), .inr (.inr ⟨rfl, rfl, rfl, rfl, rfl⟩)⟩
            rw [h, set_same ds (by rw [HdL.out]; exact hik), hself] at hbb
            cases hbb
        · have h1 := ba_eqC (beq_iff_eq.1 hbb)
          refine ⟨true, _, _, _, rfl, rfl, .inr (.inl ⟨rfl, ?_⟩)⟩
          rw [h1]; exact HCw'.out
      obtain ⟨bb, ct, ci, cr, hbb, hcv, hway⟩ := hway
      rw [hcv] at HCo
      clear hcv HCu' HCw' HCb'
      have way2 : (f = false ∧ bb = false ∧ cr = false) ∨ (f = false ∧ bb = true ∧ cr = false) ∨ (f = true ∧ bb = true ∧ cr = false) ∨ (f = true ∧ bb = false ∧ ct = textOf ds ∧ ci = (i : Int) ∧ cr = true) := by
        rcases hway with ⟨rfl, rfl⟩ | ⟨rfl, rfl⟩ | ⟨rfl, rfl, rfl, rfl, rfl⟩
        · cases bb <;> simp
        · cases f <;> simp
        · simp
      clear hway
      rcases way2 with ⟨rfl, rfl, rfl⟩ | ⟨rfl, rfl, rfl⟩ | ⟨rfl, rfl, rfl⟩ | ⟨rfl, rfl, rfl, rfl, rfl⟩
      all_goals (try have hnv := hfv rfl)
      all_goals clear hfv
      all_goals go_upto_region 21 with (first | (go_at_call 44; (with_reducible refine (HPDi2.out _ (by repeat (first | (with_reducible exact Ext.refl _) | (with_reducible assumption) | (with_reducible refine Ext.drewN ?_ _) | (with_reducible refine Ext.drew ?_) | (with_reducible refine Ext.alloc ?_ _) | ((with_reducible refine Ext.setCell ?_ ?_ _); rotate_left; focus (first | (simp; done) | (simp; omega) | omega)) | (with_reducible refine Ext.trans ?_ (by with_reducible assumption))))).mono ?_); rintro e w2 ⟨rfl, hy2⟩; have hx2 : Ext wb w2 := Ext.trans (by repeat (first | (with_reducible exact Ext.refl _) | (with_reducible assumption) | (with_reducible refine Ext.drewN ?_ _) | (with_reducible refine Ext.drew ?_) | (with_reducible refine Ext.alloc ?_ _) | ((with_reducible refine Ext.setCell ?_ ?_ _); rotate_left; focus (first | (simp; done) | (simp; omega) | omega)) | (with_reducible refine Ext.trans ?_ (by with_reducible assumption)))) hy2; clear hy2) | (go_at_call 43; (with_reducible refine (HPDs2.out _ (by repeat (first | (with_reducible exact Ext.refl _) | (with_reducible assumption) | (with_reducible refine Ext.drewN ?_ _) | (with_reducible refine Ext.drew ?_) | (with_reducible refine Ext.alloc ?_ _) | ((with_reducible refine Ext.setCell ?_ ?_ _); rotate_left; focus (first | (simp; done) | (simp; omega) | omega)) | (with_reducible refine Ext.trans ?_ (by with_reducible assumption))))).mono ?_); rintro e w3 ⟨rfl, hy3⟩; have hx3 : Ext wb w3 := Ext.trans (by repeat (first | (with_reducible exact Ext.refl _) | (with_reducible assumption) | (with_reducible refine Ext.drewN ?_ _) | (with_reducible refine Ext.drew ?_) | (with_reducible refine Ext.alloc ?_ _) | ((with_reducible refine Ext.setCell ?_ ?_ _); rotate_left; focus (first | (simp; done) | (simp; omega) | omega)) | (with_reducible refine Ext.trans ?_ (by with_reducible assumption)))) hy3; clear hy3) | (go_at_call 17; (with_reducible refine (HCt.out _ (by repeat (first | (with_reducible exact Ext.refl _) | (with_reducible assumption) | (with_reducible refine Ext.drewN ?_ _) | (with_reducible refine Ext.drew ?_) | (with_reducible refine Ext.alloc ?_ _) | ((with_reducible refine Ext.setCell ?_ ?_ _); rotate_left; focus (first | (simp; done) | (simp; omega) | omega)) | (with_reducible refine Ext.trans ?_ (by with_reducible assumption))))).mono ?_); rintro e w4 ⟨rfl, hy4⟩; have hx4 : Ext wb w4 := Ext.trans (by repeat (first | (with_reducible exact Ext.refl _) | (with_reducible assumption) | (with_reducible refine Ext.drewN ?_ _) | (with_reducible refine Ext.drew ?_) | (with_reducible refine Ext.alloc ?_ _) | ((with_reducible refine Ext.setCell ?_ ?_ _); rotate_left; focus (first | (simp; done) | (simp; omega) | omega)) | (with_reducible refine Ext.trans ?_ (by with_reducible assumption)))) hy4; clear hy4))
      all_goals (refine wp_region_from w4 (by repeat (first | (with_reducible exact Ext.refl _) | (with_reducible refine Ext.drewN ?_ _) | (with_reducible refine Ext.drew ?_) | (with_reducible refine Ext.alloc ?_ _) | ((with_reducible refine Ext.setCell ?_ ?_ _); rotate_left; focus (first | (simp; done) | (simp; omega) | omega)) | assumption | (with_reducible refine Ext.trans ?_ (by assumption)))) (by kernel_rfl) (by kernel_rfl) (by kernel_rfl) ?_; (repeat (first | (refine mix_q rfl ?_; go_big_quiet_step (fail); refine wpQuiet_nil ?_; show wpMix _ _ _ _ _ _ _) | (refine mix_s rfl ?_; go_wp2_with (first | (go_at_call 48; (with_reducible refine (HR0.out _ (Ext.trans hx4 (by repeat (first | (with_reducible exact Ext.refl _) | (with_reducible refine Ext.drewN ?_ _) | (with_reducible refine Ext.drew ?_) | (with_reducible refine Ext.alloc ?_ _) | ((with_reducible refine Ext.setCell ?_ ?_ _); rotate_left; focus (first | (simp; done) | (simp; omega) | omega)) | assumption | (with_reducible refine Ext.trans ?_ (by assumption)))))).mono ?_); rintro e w5 ⟨rfl, rfl⟩) | (go_at_call 19; (with_reducible refine (HWr.out _ (Ext.trans hx4 (by repeat (first | (with_reducible exact Ext.refl _) | (with_reducible refine Ext.drewN ?_ _) | (with_reducible refine Ext.drew ?_) | (with_reducible refine Ext.alloc ?_ _) | ((with_reducible refine Ext.setCell ?_ ?_ _); rotate_left; focus (first | (simp; done) | (simp; omega) | omega)) | assumption | (with_reducible refine Ext.trans ?_ (by assumption)))))).mono ?_); rintro e w6 ⟨rfl, hy6⟩; have hx6 : Ext w4 w6 := Ext.trans (by repeat (first | (with_reducible exact Ext.refl _) | (with_reducible refine Ext.drewN ?_ _) | (with_reducible refine Ext.drew ?_) | (with_reducible refine Ext.alloc ?_ _) | ((with_reducible refine Ext.setCell ?_ ?_ _); rotate_left; focus (first | (simp; done) | (simp; omega) | omega)) | assumption | (with_reducible refine Ext.trans ?_ (by assumption)))) hy6; clear hy6)); first | refine ⟨up_of (by repeat (first | (with_reducible exact Ext.refl _) | (with_reducible refine Ext.drewN ?_ _) | (with_reducible refine Ext.drew ?_) | (with_reducible refine Ext.alloc ?_ _) | ((with_reducible refine Ext.setCell ?_ ?_ _); rotate_left; focus (first | (simp; done) | (simp; omega) | omega)) | assumption | (with_reducible refine Ext.trans ?_ (by assumption)))), ?_⟩ | refine ⟨rfl, rfl, up_of (by repeat (first | (with_reducible exact Ext.refl _) | (with_reducible refine Ext.drewN ?_ _) | (with_reducible refine Ext.drew ?_) | (with_reducible refine Ext.alloc ?_ _) | ((with_reducible refine Ext.setCell ?_ ?_ _); rotate_left; focus (first | (simp; done) | (simp; omega) | omega)) | assumption | (with_reducible refine Ext.trans ?_ (by assumption)))), ?_⟩))); refine mix_nil ?_)
      all_goals have hx6' : Ext wb w6 := hx4.trans hx6
      all_goals go_upto_region 28 with (first | (go_at_call 48; first | ((with_reducible refine (HI0.out _ (by repeat (first | (with_reducible exact Ext.refl _) | (with_reducible assumption) | (with_reducible refine Ext.drewN ?_ _) | (with_reducible refine Ext.drew ?_) | (with_reducible refine Ext.alloc ?_ _) | ((with_reducible refine Ext.setCell ?_ ?_ _); rotate_left; focus (first | (simp; done) | (simp; omega) | omega)) | (with_reducible refine Ext.trans ?_ (by with_reducible assumption))))).mono ?_); rintro e w7 ⟨rfl, rfl⟩) | ((with_reducible refine (HE0.out _ (by repeat (first | (with_reducible exact Ext.refl _) | (with_reducible assumption) | (with_reducible refine Ext.drewN ?_ _) | (with_reducible refine Ext.drew ?_) | (with_reducible refine Ext.alloc ?_ _) | ((with_reducible refine Ext.setCell ?_ ?_ _); rotate_left; focus (first | (simp; done) | (simp; omega) | omega)) | (with_reducible refine Ext.trans ?_ (by with_reducible assumption))))).mono ?_); rintro e w7 ⟨rfl, rfl⟩)) | (go_at_call 49; (with_reducible refine (HSy.out _).mono ?_); rintro e w8 ⟨rfl, hy8⟩; have hx8 : Ext wb w8 := hx6'.trans (Ext.trans (by repeat (first | (with_reducible exact Ext.refl _) | (with_reducible assumption) | (with_reducible refine Ext.drewN ?_ _) | (with_reducible refine Ext.drew ?_) | (with_reducible refine Ext.alloc ?_ _) | ((with_reducible refine Ext.setCell ?_ ?_ _); rotate_left; focus (first | (simp; done) | (simp; omega) | omega)) | (with_reducible refine Ext.trans ?_ (by with_reducible assumption)))) hy8); clear hy8))
      all_goals (refine wp_region_from w8 (by repeat (first | (with_reducible exact Ext.refl _) | (with_reducible refine Ext.drewN ?_ _) | (with_reducible refine Ext.drew ?_) | (with_reducible refine Ext.alloc ?_ _) | ((with_reducible refine Ext.setCell ?_ ?_ _); rotate_left; focus (first | (simp; done) | (simp; omega) | omega)) | assumption | (with_reducible refine Ext.trans ?_ (by assumption)))) (by kernel_rfl) (by kernel_rfl) (by kernel_rfl) ?_; (repeat (first | (refine mix_q rfl ?_; go_big_quiet_step (fail); refine wpQuiet_nil ?_; show wpMix _ _ _ _ _ _ _) | (refine mix_s rfl ?_; go_wp2_with (fail); first | refine ⟨up_of (by repeat (first | (with_reducible exact Ext.refl _) | (with_reducible refine Ext.drewN ?_ _) | (with_reducible refine Ext.drew ?_) | (with_reducible refine Ext.alloc ?_ _) | ((with_reducible refine Ext.setCell ?_ ?_ _); rotate_left; focus (first | (simp; done) | (simp; omega) | omega)) | assumption | (with_reducible refine Ext.trans ?_ (by assumption)))), ?_⟩ | refine ⟨rfl, rfl, up_of (by repeat (first | (with_reducible exact Ext.refl _) | (with_reducible refine Ext.drewN ?_ _) | (with_reducible refine Ext.drew ?_) | (with_reducible refine Ext.alloc ?_ _) | ((with_reducible refine Ext.setCell ?_ ?_ _); rotate_left; focus (first | (simp; done) | (simp; omega) | omega)) | assumption | (with_reducible refine Ext.trans ?_ (by assumption)))), ?_⟩))); refine mix_nil ?_)
      all_goals rw [HBt.out]
      all_goals go_upto_region 34 with (first | (go_at_call 48; first | ((with_reducible refine (HU0.out _ (by repeat (first | (with_reducible exact Ext.refl _) | (with_reducible assumption) | (with_reducible refine Ext.drewN ?_ _) | (with_reducible refine Ext.drew ?_) | (with_reducible refine Ext.alloc ?_ _) | ((with_reducible refine Ext.setCell ?_ ?_ _); rotate_left; focus (first | (simp; done) | (simp; omega) | omega)) | (with_reducible refine Ext.trans ?_ (by with_reducible assumption))))).mono ?_); rintro e w7 ⟨rfl, rfl⟩) | ((with_reducible refine (HY0.out _ (by repeat (first | (with_reducible exact Ext.refl _) | (with_reducible assumption) | (with_reducible refine Ext.drewN ?_ _) | (with_reducible refine Ext.drew ?_) | (with_reducible refine Ext.alloc ?_ _) | ((with_reducible refine Ext.setCell ?_ ?_ _); rotate_left; focus (first | (simp; done) | (simp; omega) | omega)) | (with_reducible refine Ext.trans ?_ (by with_reducible assumption))))).mono ?_); rintro e w7 ⟨rfl, rfl⟩)) | (go_at_call 46; (with_reducible refine (HCo.out _ (by repeat (first | (with_reducible exact Ext.refl _) | (with_reducible assumption) | (with_reducible refine Ext.drewN ?_ _) | (with_reducible refine Ext.drew ?_) | (with_reducible refine Ext.alloc ?_ _) | ((with_reducible refine Ext.setCell ?_ ?_ _); rotate_left; focus (first | (simp; done) | (simp; omega) | omega)) | (with_reducible refine Ext.trans ?_ (by with_reducible assumption))))).mono ?_); rintro e w9 ⟨rfl, hy9⟩; have hx9 : Ext wb w9 := Ext.trans (by repeat (first | (with_reducible exact Ext.refl _) | (with_reducible assumption) | (with_reducible refine Ext.drewN ?_ _) | (with_reducible refine Ext.drew ?_) | (with_reducible refine Ext.alloc ?_ _) | ((with_reducible refine Ext.setCell ?_ ?_ _); rotate_left; focus (first | (simp; done) | (simp; omega) | omega)) | (with_reducible refine Ext.trans ?_ (by with_reducible assumption)))) hy9; clear hy9))
      all_goals first | rw [HUm.out.1] | rw [HUm.out.2]
      all_goals first | rw [HYn.out.1] | rw [HYn.out.2]
      all_goals
        cases hbp : bpB (m : Int) (np : Int)
        all_goals rw [hbp] at HBI HBS
        rotate_left
        obtain ⟨hv1, hv2, hv3⟩ := HBd.out hbp
        rw [hv2, hv3] at HPu
        clear hv1 hv2 hv3
        rotate_left
        all_goals clear hbp
        all_goals go_wp2_with (first | (go_at_call 50; (with_reducible refine (HBI.out _).mono ?_); rintro e w10 ⟨ua, un, uc, va, vn, vc, rfl, hy10, hou, hov, _⟩; have hx10 : Ext wb w10 := Ext.trans (by repeat (first | (with_reducible exact Ext.refl _) | (with_reducible assumption) | (with_reducible refine Ext.drewN ?_ _) | (with_reducible refine Ext.drew ?_) | (with_reducible refine Ext.alloc ?_ _) | ((with_reducible refine Ext.setCell ?_ ?_ _); rotate_left; focus (first | (simp; done) | (simp; omega) | omega)) | (with_reducible refine Ext.trans ?_ (by with_reducible assumption)))) hy10; have HOu := Lib.hid hou.ints; have HOv := Lib.hid hov.ints; clear hy10 hou hov) | (go_at_call 51; (with_reducible refine (HBS.out _).mono ?_); rintro e w11 ⟨ua2, un2, uc2, va2, vn2, vc2, rfl, hy11, _, _, _⟩; have hxz11 : Ext w10 w11 := Ext.trans (by repeat (first | (with_reducible exact Ext.refl _) | (with_reducible assumption) | (with_reducible refine Ext.drewN ?_ _) | (with_reducible refine Ext.drew ?_) | (with_reducible refine Ext.alloc ?_ _) | ((with_reducible refine Ext.setCell ?_ ?_ _); rotate_left; focus (first | (simp; done) | (simp; omega) | omega)) | (with_reducible refine Ext.trans ?_ (by with_reducible assumption)))) hy11; have hx11 : Ext wb w11 := hx10.trans hxz11; clear hy11) | (go_at_call 44; (with_reducible refine (HPu.out _ _ _ _ _ _ _ (HOu.out.ext (Ext.trans hxz11 (by repeat (first | (with_reducible exact Ext.refl _) | (with_reducible assumption) | (with_reducible refine Ext.drewN ?_ _) | (with_reducible refine Ext.drew ?_) | (with_reducible refine Ext.alloc ?_ _) | ((with_reducible refine Ext.setCell ?_ ?_ _); rotate_left; focus (first | (simp; done) | (simp; omega) | omega)) | (with_reducible refine Ext.trans ?_ (by with_reducible assumption)))))) (HOv.out.ext (Ext.trans hxz11 (by repeat (first | (with_reducible exact Ext.refl _) | (with_reducible assumption) | (with_reducible refine Ext.drewN ?_ _) | (with_reducible refine Ext.drew ?_) | (with_reducible refine Ext.alloc ?_ _) | ((with_reducible refine Ext.setCell ?_ ?_ _); rotate_left; focus (first | (simp; done) | (simp; omega) | omega)) | (with_reducible refine Ext.trans ?_ (by with_reducible assumption))))))).mono ?_); rintro e w12 ⟨rfl, hy12⟩; have hx12 : Ext wb w12 := hx11.trans (Ext.trans (by repeat (first | (with_reducible exact Ext.refl _) | (with_reducible assumption) | (with_reducible refine Ext.drewN ?_ _) | (with_reducible refine Ext.drew ?_) | (with_reducible refine Ext.alloc ?_ _) | ((with_reducible refine Ext.setCell ?_ ?_ _); rotate_left; focus (first | (simp; done) | (simp; omega) | omega)) | (with_reducible refine Ext.trans ?_ (by with_reducible assumption)))) hy12); clear hy12))
  
        all_goals go_ret
        all_goals first | exact ⟨rfl, hwwb.trans hx12⟩ | exact ⟨rfl, hwwb.trans hx11⟩
end Go.Proofs.Ytaiieodllhoelaa
