/- Walks: the chain of a weighting, in the reference: its keys and what they add. -/
import Derived.Test.YtaiieodllhoelaaSpA
import Derived.Test.YtaiieodllhoelaaApa
namespace Go.Proofs.Ytaiieodllhoelaa
set_option maxRecDepth 100000
open Go.RowKit

/-- the keys of a weighting -/
def keyL (ws : List Int) : List (List Int) := ws.map fun x => [x]
theorem keyL_len (ws : List Int) : (keyL ws).length = ws.length := by simp [keyL]
theorem keyL_gl {ws : List Int} {i : Nat} (h : i < ws.length) : gl (keyL ws) i = [gi ws i] := by
  rw [gl_get (by rw [keyL_len]; exact h)]; simp [keyL, gi_get h]
theorem keyL_step {ws : List Int} {k : Nat} (h : k < ws.length) : (keyL ws).take (k + 1) = (keyL ws).take k ++ [[gi ws k]] := by
  rw [List.take_succ_eq_append_getElem (by rw [keyL_len]; exact h)]; simp [keyL, gi_get h]
def addsL (base : Nat) (m : Int) (ws : List Int) : List (List Int) := ws.map (adL base m)
theorem addsL_len (base : Nat) (m : Int) (ws : List Int) : (addsL base m ws).length = ws.length := by simp [addsL]
theorem addsL_step {base : Nat} {m : Int} {ws : List Int} {k : Nat} (h : k < ws.length) : (addsL base m ws).take (k + 1) = (addsL base m ws).take k ++ [adL base m (gi ws k)] := by
  rw [List.take_succ_eq_append_getElem (by rw [addsL_len]; exact h)]; simp [addsL, gi_get h]
theorem addsL_gl {base : Nat} {m : Int} {ws : List Int} {i : Nat} (h : i < ws.length) : gl (addsL base m ws) i = adL base m ((gl (keyL ws) i).headD 0) := by
  rw [keyL_gl h, gl_get (by rw [addsL_len]; exact h)]; simp [addsL, gi_get h]
/-- both chains of a weighting are one -/
theorem key_wt {X : Wt} (h : validB X = true) : keyCh X.base X.modulus X.target (keyL X.weights) (fun k => adL X.base.toNat X.modulus (k.headD 0)) = wtCh X := by
  have hok := validB_addOk h
  have hb := hok.b2
  have hinj : ∀ x ∈ keyL X.weights, ∀ y ∈ keyL X.weights, wgL X.base.toNat (x.headD 0) = wgL X.base.toNat (y.headD 0) → x = y := by
    intro x hx y hy he
    obtain ⟨a, _, rfl⟩ := List.mem_map.1 hx
    obtain ⟨b, _, rfl⟩ := List.mem_map.1 hy
    simp only [List.headD_cons] at he
    have h1 : gi (wgL X.base.toNat a) 1 = gi (wgL X.base.toNat b) 1 := by rw [he]
    rw [gi_get (by rw [wgL_len]; omega), gi_get (by rw [wgL_len]; omega)] at h1
    simp [wgL] at h1
    rw [h1]
  have hmap : X.weights.map (wgL X.base.toNat) = (keyL X.weights).map fun k => wgL X.base.toNat (k.headD 0) := by simp [keyL]
  have hf := addF_map (g := fun k => wgL X.base.toNat (k.headD 0)) (keyL X.weights) hinj (keyL X.weights).length (Nat.le_refl _)
  unfold wtCh addCh keyCh
  rw [hmap, List.length_map, hf]
  simp only [List.map_map]
  congr 1
  refine List.map_congr_left fun k _ => ?_
  show tabA X.modulus (adL X.base.toNat X.modulus (k.headD 0)) = tabA X.modulus (wgL X.base.toNat (k.headD 0))
  unfold tabA
  refine List.map_congr_left fun s _ => ?_
  unfold rowA adL wgL
  rw [List.map_map, List.map_map]
  refine List.map_congr_left fun d _ => ?_
  simp only [Function.comp, Int.add_emod_emod]
set_option maxHeartbeats 4000000 in
theorem spec_l03Weights (q : Nat) (X : Wt) (a : Option Addr) (n c : Nat) (w : World) (h : IsWt w q X a n c) (hval : validB X = true) :
    Calls Try.prog 96 #[.pointer (some ⟨q, 0, none⟩)] w (RetChO (wtCh X) w) := by
  have HOK := Lib.hid (validB_addOk hval)
  have HLn := Lib.hid h.ws.len
  have hb := validB_base hval
  have hmo := validB_mod hval
  have hl := validB_len hval
  rw [HLn.out] at hl
  have HSm := Lib.hid (show ∀ x ∈ X.weights, 0 ≤ x ∧ x ≤ 36 from validB_small hval)
  obtain ⟨bs, hbs⟩ := Int.eq_ofNat_of_zero_le (show 0 ≤ X.base by omega)
  obtain ⟨M, hM⟩ := Int.eq_ofNat_of_zero_le (show 0 ≤ X.modulus by omega)
  have hbs36 : 2 ≤ bs ∧ bs ≤ 36 := by omega
  have hM36 : 2 ≤ M ∧ M ≤ 36 := by omega
  obtain ⟨bW, oW, hixW, hcellW⟩ := h.ws.ix (P := Try.prog) 25 2 und_int64s cell_int64
  have c0 : ∀ w', Ext w w' → w'.cell? ⟨q, 0, none⟩ = some (.int .i64 bs) := fun w' hx => hbs ▸ hx.cell h.c0
  have c1 : ∀ w', Ext w w' → w'.cell? ⟨q, 1, none⟩ = some (.int .i64 M) := fun w' hx => hM ▸ hx.cell h.c1
  have c2 : ∀ w', Ext w w' → w'.cell? ⟨q, 2, none⟩ = some (.int .i64 X.target) := fun w' hx => hx.cell h.c2
  have c3 : ∀ w', Ext w w' → w'.cell? ⟨q, 3, none⟩ = some (.slice a n c) := fun w' hx => hx.cell h.c3
  have HWe := Lib.hid (fun x (hx : x ∈ X.weights) W => spec_l03Adds bs x M W (by omega) (HSm.out x hx).1 (HSm.out x hx).2 (by omega))
  have HD := Lib.hid (show wtCh X = keyCh bs M X.target (keyL X.weights) (fun k => adL bs M (k.headD 0)) by rw [← key_wt hval, hbs, hM, Int.toNat_natCast])
  have HSmall := Lib.hid (show SmallCh (wtCh X) from addCh_small HOK.out)
  rw [HD.out] at HSmall
  have HLc := Lib.hid (fun ka kc aa ac W (hk : Mat W ka n kc (keyL X.weights)) (ha : Mat W aa n ac (addsL bs M X.weights)) => spec_l03Chain bs X.target M ka n kc (keyL X.weights) aa ac (addsL bs M X.weights) (fun k => adL bs M (k.headD 0)) W hk ha
    (fun i hi => addsL_gl (by rw [HLn.out]; exact hi)) (by omega) (by omega) (by omega)
    (fun l hl => by obtain ⟨x, _, rfl⟩ := List.mem_map.1 hl; simp)
    (fun l hl => by obtain ⟨x, _, rfl⟩ := List.mem_map.1 hl; rw [adL_len]; omega)
    (fun l hl y hy => by
      obtain ⟨x, _, rfl⟩ := List.mem_map.1 hl
      obtain ⟨d, _, rfl⟩ := List.mem_map.1 hy
      have h1 := Int.emod_nonneg (x * (d : Int)) (show (M : Int) ≠ 0 by omega)
      have h2 := Int.emod_lt_of_pos (x * (d : Int)) (show 0 < (M : Int) by omega)
      omega) HSmall.out)
  have e0 := c0 w (Ext.refl _)
  have e1 := c1 w (Ext.refl _)
  have e2 := c2 w (Ext.refl _)
  have e3 := c3 w (Ext.refl _)
  clear h hval hbs hM
  rw [HD.out]
  go_enter Try.func96, Try.ntmps96
  go_wp2_with fail
  obtain ⟨g, hg⟩ : ∃ g, g = w.heap.size := ⟨_, rfl⟩
  obtain ⟨wz, hwz⟩ : ∃ W, W = ((w.alloc (.cells #[.int .i64 0, .int .i64 0, .int .i64 0, .int .i64 0, .slice none 0 0, .slice none 0 0] 27)).alloc (.cells #[] 25)).alloc (.cells #[] 25) := ⟨_, rfl⟩
  have hxz : Ext w wz := by rw [hwz]; exact (by repeat (first | (with_reducible exact Ext.refl _) | (with_reducible refine Ext.drewN ?_ _) | (with_reducible refine Ext.drew ?_) | (with_reducible refine Ext.alloc ?_ _) | ((with_reducible refine Ext.setCell ?_ ?_ _); rotate_left; focus (first | (simp; done) | (simp; omega) | omega)) | assumption | (with_reducible refine Ext.trans ?_ (by assumption))))
  have HZ := Lib.hid (show SAt wz g 27 #[.int .i64 0, .int .i64 0, .int .i64 0, .int .i64 0, .slice none 0 0, .slice none 0 0] from by rw [hwz, hg]; exact ((SAt.new' w #[.int .i64 0, .int .i64 0, .int .i64 0, .int .i64 0, .slice none 0 0, .slice none 0 0] 27 rfl).alloc _).alloc _)
  have hgw : w.heap.size ≤ g := by omega
  have HK0 := Lib.hid (show OwnMat wz w.heap.size 25 2 (some ⟨g + 1, 0, none⟩) 0 0 [] from by
    rw [hwz, hg]
    refine ⟨rfl, [], ?_, fun k hk => by omega⟩
    exact (Own.lit0' (w.alloc (.cells #[.int .i64 0, .int .i64 0, .int .i64 0, .int .i64 0, .slice none 0 0, .slice none 0 0] 27)) 25 (by omega) (by simp)).alloc' _)
  have HA0 := Lib.hid (show OwnMat wz w.heap.size 25 2 (some ⟨g + 1 + 1, 0, none⟩) 0 0 [] from by
    rw [hwz, hg]
    exact ⟨rfl, [], Own.lit0' _ 25 (by omega) (by simp), fun k hk => by omega⟩)
  have hap0 : Apa (some ⟨g + 1, 0, none⟩) (some ⟨g + 1 + 1, 0, none⟩) := fun x y hx hy => by cases hx; cases hy; simp only; omega
  rw [← hwz, ← hg]
  clear hwz hg
  go_loopw [3, 4, 5] (fun v3 v4 v5 wr => ∃ (k : Nat) (ka : Option Addr) (kc : Nat) (aa : Option Addr) (ac : Nat), k ≤ n ∧ v5 = .int .i64 k ∧ v3 = .slice ka k kc ∧ v4 = .slice aa k ac ∧ Hid (OwnMat wr w.heap.size 25 2 ka k kc ((keyL X.weights).take k)) ∧ Hid (OwnMat wr w.heap.size 25 2 aa k ac ((addsL bs M X.weights).take k)) ∧ Hid (Apa ka aa) ∧ Hid (SAt wr g 27 #[.int .i64 0, .int .i64 0, .int .i64 0, .int .i64 0, .slice none 0 0, .slice none 0 0]) ∧ Ext w wr) (fun _ _ v5 _ => n - (intOf v5).toNat)
  case atStart => exact ⟨0, _, _, _, _, Nat.zero_le _, rfl, rfl, rfl, HK0.out, HA0.out, hap0, HZ.out, hxz⟩
  case round =>
    obtain ⟨k, ka, kc, aa, ac, hk, rfl, rfl, rfl, HK, HA, HP, HZr, hxr⟩ := hrel
    have hle : w.heap.size ≤ wr.heap.size := hxr.le
    by_cases hlt : k < n
    · have hkl : k < X.weights.length := by rw [HLn.out]; exact hlt
      have HMem := Lib.hid (gi_mem hkl)
      have HN1 := Lib.hid (keyL_step hkl)
      have HN2 := Lib.hid (addsL_step (base := bs) (m := (M : Int)) hkl)
      have hxx : Ext wr wr := Ext.refl _
      obtain ⟨kvs, hkv, hkp⟩ := (HK.out.ext ((Ext.refl wr).alloc (.cells #[.int .i64 (gi X.weights k)] 2))).rows
      have HKV := Lib.hid hkv
      have HKP := Lib.hid hkp
      have HKl := Lib.hid HK.out.len
      have HAv := Lib.hid (HA.out.ext ((Ext.refl wr).alloc (.cells #[.int .i64 (gi X.weights k)] 2)))
      have HZv := Lib.hid (HZr.out.alloc (.cells #[.int .i64 (gi X.weights k)] 2))
      have HNew := Lib.hid (show Own (wr.alloc (.cells #[.int .i64 (gi X.weights k)] 2)) w.heap.size 2 (some ⟨wr.heap.size, 0, none⟩) 1 1 (I [gi X.weights k]) from (own_lit1 wr 2 _).mono hle)
      have hxv : Ext w (wr.alloc (.cells #[.int .i64 (gi X.weights k)] 2)) := hxr.alloc _
      clear hkv hkp
      go_upto_region 7 with (at_builtin; refine law_append1_at _ rfl _ _ 43 rfl 25 (.slice none 0 0) 24 und_rows info_row2 rfl w.heap.size ka k kc kvs _ rfl rfl (by simp [Act.eval, go_sem]) HKV.out hxv.le (by omega) (by omega) ?_; intro ka' kc' w5 ho5 hb5 hg5 hk5; have HK5 := Lib.hid (OwnMat.push HKl.out HKP.out HKV.out HNew.out ho5 hg5 (by decide)); have HA5 := Lib.hid (mat_apa HP.out HKV.out HAv.out hg5 (by decide)); have HZ5 := Lib.hid (HZv.out.grown hg5 (row_ne_s (HKV.out.ne_s HZv.out (by decide)))); have hx5 : Ext w w5 := Ext.below hxv hb5; have HP5 := Lib.hid (show Apa ka' aa from by obtain ⟨us, hu, _⟩ := HAv.out.rows; exact apa_put HP.out hu hk5); clear ho5 hb5 hg5 hk5)
      clear HK HA HP HZr HKV HKP HAv HZv HNew HKl
      obtain ⟨avs, hav, hapr⟩ := HA5.out.rows
      have HAl := Lib.hid HA5.out.len
      have HAV := Lib.hid hav
      have HAP := Lib.hid hapr
      clear hav hapr
      have hh : hixW = hixW := rfl
      clear hh
      have hww5 : Ext w w5 := hx5
      (refine wp_region_from w (by repeat (first | (with_reducible exact Ext.refl _) | (with_reducible refine Ext.drewN ?_ _) | (with_reducible refine Ext.drew ?_) | (with_reducible refine Ext.alloc ?_ _) | ((with_reducible refine Ext.setCell ?_ ?_ _); rotate_left; focus (first | (simp; done) | (simp; omega) | omega)) | assumption | (with_reducible refine Ext.trans ?_ (by assumption)))) (by kernel_rfl) (by kernel_rfl) (by kernel_rfl) ?_; (repeat (first | (refine mix_q rfl ?_; go_big_quiet_step (fail); refine wpQuiet_nil ?_; show wpMix _ _ _ _ _ _ _) | (refine mix_s rfl ?_; go_wp2_with (first | (go_at_call 145; (with_reducible refine (HWe.out _ HMem.out _).mono ?_); rintro e w6 ⟨ra, rc, rfl, ho6, hy6⟩; rw [I_len, adL_len] at ho6 ⊢; have hx56 : Ext w5 w6 := Ext.trans ((Ext.refl w5).drew) hy6; have HR6 := Lib.hid (ho6.mono (show w.heap.size ≤ w5.drew.heap.size from hx5.le)); have HAV6 := Lib.hid (HAV.out.ext hx56); have HAP6 := Lib.hid (fun j hj => by obtain ⟨a', n', c', h1, h2⟩ := HAP.out j hj; exact (⟨a', n', c', h1, h2.ext hx56⟩ : ∃ a' n' c', gv avs j = .slice a' n' c' ∧ Own w6 w.heap.size 2 a' n' c' (I (gl ((addsL bs (M : Int) X.weights).take k) j)))); have HK6 := Lib.hid (HK5.out.ext hx56); have HZ6 := Lib.hid (HZ5.out.ext hx56); have hx6 : Ext w w6 := hx5.trans hx56; clear ho6 hy6) | (at_builtin; refine law_append1_at w6 rfl _ _ 43 rfl 25 (.slice none 0 0) 24 und_rows info_row2 rfl w.heap.size aa k ac avs _ rfl rfl (by simp [Act.eval, go_sem]) HAV6.out hx6.le (by omega) (by omega) ?_; intro aa' ac' w8 ho8 hb8 hg8 hk8; have HA8 := Lib.hid (OwnMat.push HAl.out HAP6.out HAV6.out HR6.out ho8 hg8 (by decide)); have HK8 := Lib.hid (mat_apa HP5.out.symm HAV6.out HK6.out hg8 (by decide)); have HZ8 := Lib.hid (HZ6.out.grown hg8 (row_ne_s (HAV6.out.ne_s HZ6.out (by decide)))); have hx8 : Ext w w8 := Ext.below hx6 hb8; have HP8 := Lib.hid (show Apa ka' aa' from by obtain ⟨us, hu, _⟩ := HK6.out.rows; exact (apa_put HP5.out.symm hu hk8).symm); clear ho8 hb8 hg8 hk8)); first | refine ⟨up_of (by repeat (first | (with_reducible exact Ext.refl _) | (with_reducible refine Ext.drewN ?_ _) | (with_reducible refine Ext.drew ?_) | (with_reducible refine Ext.alloc ?_ _) | ((with_reducible refine Ext.setCell ?_ ?_ _); rotate_left; focus (first | (simp; done) | (simp; omega) | omega)) | assumption | (with_reducible refine Ext.trans ?_ (by assumption)))), ?_⟩ | refine ⟨rfl, rfl, up_of (by repeat (first | (with_reducible exact Ext.refl _) | (with_reducible refine Ext.drewN ?_ _) | (with_reducible refine Ext.drew ?_) | (with_reducible refine Ext.alloc ?_ _) | ((with_reducible refine Ext.setCell ?_ ?_ _); rotate_left; focus (first | (simp; done) | (simp; omega) | omega)) | assumption | (with_reducible refine Ext.trans ?_ (by assumption)))), ?_⟩))); refine mix_nil ?_)
      go_wp2_with fail
      exact ⟨⟨k + 1, ka', kc', aa', ac', by omega, by go_num, rfl, rfl, by rw [Hid, HN1.out]; exact HK8.out, by rw [Hid, HN2.out]; exact HA8.out, HP8.out, HZ8.out, hx8⟩, by simp [intOf]; omega⟩
    · obtain rfl : k = n := by omega
      have HKm := Lib.hid (show Mat wr ka k kc (keyL X.weights) from by have h := HK.out.mat; rwa [take_full (by rw [keyL_len, HLn.out]; exact Nat.le_refl _)] at h)
      have HAm := Lib.hid (show Mat wr aa k ac (addsL bs M X.weights) from by have h := HA.out.mat; rwa [take_full (by rw [addsL_len, HLn.out]; exact Nat.le_refl _)] at h)
      have hgr := HZr.out.lt
      generalize hDD : keyCh (bs : Int) (M : Int) X.target (keyL X.weights) (fun k => adL bs (M : Int) (k.headD 0)) = DD at *
      go_wp2_with fail
      go_region_held3 (fun w' => Ext w w') ((exact (by repeat (first | (with_reducible exact Ext.refl _) | (with_reducible assumption) | (with_reducible refine Ext.drewN ?_ _) | (with_reducible refine Ext.drew ?_) | (with_reducible refine Ext.alloc ?_ _) | ((with_reducible refine Ext.setCell ?_ ?_ _); rotate_left; focus (first | (simp; done) | (simp; omega) | omega)) | (with_reducible refine Ext.trans ?_ (by with_reducible assumption)))))) ((go_at_call 146; (with_reducible refine (HLc.out _ _ _ _ _ (HKm.out.ext (by repeat (first | (with_reducible exact Ext.refl _) | (with_reducible assumption) | (with_reducible refine Ext.drewN ?_ _) | (with_reducible refine Ext.drew ?_) | (with_reducible refine Ext.alloc ?_ _) | ((with_reducible refine Ext.setCell ?_ ?_ _); rotate_left; focus (first | (simp; done) | (simp; omega) | omega)) | (with_reducible refine Ext.trans ?_ (by with_reducible assumption))))) (HAm.out.ext (by repeat (first | (with_reducible exact Ext.refl _) | (with_reducible assumption) | (with_reducible refine Ext.drewN ?_ _) | (with_reducible refine Ext.drew ?_) | (with_reducible refine Ext.alloc ?_ _) | ((with_reducible refine Ext.setCell ?_ ?_ _); rotate_left; focus (first | (simp; done) | (simp; omega) | omega)) | (with_reducible refine Ext.trans ?_ (by with_reducible assumption)))))).mono ?_); rintro e w8 ⟨a8, x8, d8, b8, y8, g8, rfl, hch, hy8⟩; have hx8 : Ext w w8 := Ext.trans hxr (Ext.trans (by repeat (first | (with_reducible exact Ext.refl _) | (with_reducible assumption) | (with_reducible refine Ext.drewN ?_ _) | (with_reducible refine Ext.drew ?_) | (with_reducible refine Ext.alloc ?_ _) | ((with_reducible refine Ext.setCell ?_ ?_ _); rotate_left; focus (first | (simp; done) | (simp; omega) | omega)) | (with_reducible refine Ext.trans ?_ (by with_reducible assumption)))) hy8); have HCh := Lib.hid hch; have HZ8 := Lib.hid (HZr.out.ext (Ext.trans (by repeat (first | (with_reducible exact Ext.refl _) | (with_reducible assumption) | (with_reducible refine Ext.drewN ?_ _) | (with_reducible refine Ext.drew ?_) | (with_reducible refine Ext.alloc ?_ _) | ((with_reducible refine Ext.setCell ?_ ?_ _); rotate_left; focus (first | (simp; done) | (simp; omega) | omega)) | (with_reducible refine Ext.trans ?_ (by with_reducible assumption)))) hy8)); have z0 := HZ8.out.cell 0 (by simp); have z1 := HZ8.out.cell 1 (by simp); have z2 := HZ8.out.cell 2 (by simp); have z3 := HZ8.out.cell 3 (by simp); have z4 := HZ8.out.cell 4 (by simp); have z5 := HZ8.out.cell 5 (by simp); have fr := fun j => HZ8.out.frozen j; have hltz := HZ8.out.lt; (try simp only [List.getElem_toArray, List.getElem_cons_succ, List.getElem_cons_zero] at z0 z1 z2 z3 z4 z5); clear hch))
      go_wp2_with fail
      refine bodyPost_ret (v := .agg #[.int .i64 DD.base, .int .i64 DD.states, .int .i64 DD.start, .int .i64 DD.fin, .slice a8 x8 d8, .slice b8 y8 g8]) ?_ rfl ?_
      · simp [results, Try.results96, go_sem, z0, z1, z2, z3, z4, z5]
      · rw [hDD]
        refine ⟨a8, x8, d8, b8, y8, g8, rfl, fun V hV => HCh.out V (KeepB.trans ?_ (hV.mono ?_ ?_)), ?_⟩
        · repeat (first | with_reducible exact KeepB.refl _ _ _ | (with_reducible refine KeepB.setB ?_ _ _ (Or.inl ?_); rotate_left; (focus (simp <;> omega))))
        · simp <;> omega
        · simp
        · assumption
end Go.Proofs.Ytaiieodllhoelaa
