/- Walks: the chain with two moduli, in the program: its two tables. -/
import Derived.Test.YtaiieodllhoelaaKnE
import Derived.Test.YtaiieodllhoelaaEvenB
import Derived.Test.YtaiieodllhoelaaJoinI
import Derived.Deep.RegionLaw
namespace Go.Proofs.Ytaiieodllhoelaa
set_option maxRecDepth 100000
open Go.RowKit

/-- two rows lie apart -/
def Apa (a b : Option Addr) : Prop := ∀ g g', a = some g → b = some g' → g.block ≠ g'.block
theorem Apa.symm {a b : Option Addr} (h : Apa a b) : Apa b a := fun g g' h1 h2 => (h g' g h2 h1).symm
theorem apa_put {w : World} {B : Nat} {E : TypeId} {a a' b : Option Addr} {n c : Nat} {us : List Value} (h : Apa a b) (hb : Own w B E b n c us) (hk : ∀ g, a' = some g → (∃ g', a = some g' ∧ g'.block = g.block) ∨ w.heap.size ≤ g.block) : Apa a' b := fun g g' h1 h2 => by
  rcases hk g h1 with ⟨x, hx, he⟩ | hl
  · rw [← he]; exact h x g' hx h2
  · have := (hb.blk g' h2).2; omega
theorem own_apa {w w' : World} {B : Nat} {E : TypeId} {a b : Option Addr} {n c m d : Nat} {us : List Value} (h : Apa a b) (hb : Own w B E b m d us) (hg : w.grownBy w' (Value.slice a n c).ownBlock) : Own w' B E b m d us :=
  hb.grown hg fun g' h2 => row_ne fun g h1 => h g g' h1 h2
theorem mat_apa {w w' : World} {B B' : Nat} {E1 E0 : TypeId} {a b : Option Addr} {n c m d : Nat} {vs : List Value} {ll : List (List Int)} (h : Apa a b) (ha : Own w B' E1 a n c vs) (hb : OwnMat w B E1 E0 b m d ll) (hg : w.grownBy w' (Value.slice a n c).ownBlock) (hE : E0 ≠ E1) : OwnMat w' B E1 E0 b m d ll := by
  obtain ⟨us, hu, hr⟩ := hb.rows
  refine ⟨hb.len, us, own_apa h hu hg, fun k hk => ?_⟩
  obtain ⟨a', n', c', h1, h2⟩ := hr k hk
  exact ⟨a', n', c', h1, h2.grownT ha hg hE⟩
theorem hybB_len (s : Nat) : (hybB s).length = 10 := by simp [hybB]
theorem hybI_len (s : Nat) : (hybI s).length = 10 := by simp [hybI]
theorem hybB_step {s d : Nat} (h : d < 10) : (hybB s).take (d + 1) = (hybB s).take d ++ [(((s + d) % 10 : Nat) : Int)] := by
  rw [List.take_succ_eq_append_getElem (by rw [hybB_len]; exact h)]
  simp [hybB]
theorem hybI_step {s d : Nat} (h : d < 10) : (hybI s).take (d + 1) = (hybI s).take d ++ [((2 * hybY s d % 11 : Nat) : Int)] := by
  rw [List.take_succ_eq_append_getElem (by rw [hybI_len]; exact h)]
  simp [hybI]
set_option maxHeartbeats 8000000 in
theorem impl_hybrid (n : Nat) (w : World) (h0 : 2 ≤ n) (h1 : n ≤ 6) : Calls Try.prog 131 #[.int .i64 n] w (RetChO (hybCh n) w) := by
  go_enter Try.func131, Try.ntmps131
  go_wp2_with fail
  obtain ⟨g, hg⟩ : ∃ g, g = w.heap.size := ⟨_, rfl⟩
  obtain ⟨p, hp⟩ : ∃ p, p = w.heap.size + 1 := ⟨_, rfl⟩
  obtain ⟨wc, hwc⟩ : ∃ W, W = (w.alloc (.cells #[.int .i64 0, .int .i64 0, .int .i64 0, .int .i64 0, .slice none 0 0, .slice none 0 0] 27)).alloc (.cells #[.int .i64 10, .int .i64 11, .int .i64 10, .int .i64 1, .slice none 0 0, .slice none 0 0] 27) := ⟨_, rfl⟩
  have hsz : wc.heap.size = p + 1 := by rw [hwc, hp]; simp
  have hxc : Ext w wc := by rw [hwc]; exact (by repeat (first | (with_reducible exact Ext.refl _) | (with_reducible refine Ext.drewN ?_ _) | (with_reducible refine Ext.drew ?_) | (with_reducible refine Ext.alloc ?_ _) | ((with_reducible refine Ext.setCell ?_ ?_ _); rotate_left; focus (first | (simp; done) | (simp; omega) | omega)) | assumption | (with_reducible refine Ext.trans ?_ (by assumption))))
  have HZc := Lib.hid (show SAt wc g 27 #[.int .i64 0, .int .i64 0, .int .i64 0, .int .i64 0, .slice none 0 0, .slice none 0 0] from by rw [hwc, hg]; exact (SAt.new' w #[.int .i64 0, .int .i64 0, .int .i64 0, .int .i64 0, .slice none 0 0, .slice none 0 0] 27 rfl).alloc _)
  have HPc := Lib.hid (show SAt wc p 27 #[.int .i64 10, .int .i64 11, .int .i64 10, .int .i64 1, .slice none 0 0, .slice none 0 0] from by rw [hwc, hp]; exact SAt.new' _ _ _ (by simp))
  obtain ⟨wz, hwz⟩ : ∃ W, W = (wc.alloc (.cells #[] 25)).alloc (.cells #[] 25) := ⟨_, rfl⟩
  have hxz : Ext w wz := by rw [hwz]; exact (by repeat (first | (with_reducible exact Ext.refl _) | (with_reducible refine Ext.drewN ?_ _) | (with_reducible refine Ext.drew ?_) | (with_reducible refine Ext.alloc ?_ _) | ((with_reducible refine Ext.setCell ?_ ?_ _); rotate_left; focus (first | (simp; done) | (simp; omega) | omega)) | assumption | (with_reducible refine Ext.trans ?_ (by assumption))))
  have HZ := Lib.hid (show SAt wz g 27 #[.int .i64 0, .int .i64 0, .int .i64 0, .int .i64 0, .slice none 0 0, .slice none 0 0] from by rw [hwz]; exact (HZc.out.alloc _).alloc _)
  have HP := Lib.hid (show SAt wz p 27 #[.int .i64 10, .int .i64 11, .int .i64 10, .int .i64 1, .slice none 0 0, .slice none 0 0] from by rw [hwz]; exact (HPc.out.alloc _).alloc _)
  have HM4 := Lib.hid (show OwnMat wz (p + 1) 25 2 (some ⟨p + 1, 0, none⟩) 0 0 [] from by rw [hwz, ← hsz]; exact (OwnMat.lit0 wc _ _).ext ((Ext.refl _).alloc _))
  have HM5 := Lib.hid (show OwnMat wz (p + 1) 25 2 (some ⟨p + 1 + 1, 0, none⟩) 0 0 [] from by
    rw [hwz]
    have h := OwnMat.lit0 (wc.alloc (.cells #[] 25)) 25 2
    rw [show (wc.alloc (.cells #[] 25)).heap.size = p + 1 + 1 by simp [hsz]] at h
    exact h.mono (by omega))
  have hgw : w.heap.size ≤ g := by omega
  have hgp : g < p := by omega
  rw [← hwc, ← hwz, show w.heap.size + 1 + 1 + 1 = p + 1 + 1 by omega, show w.heap.size + 1 + 1 = p + 1 by omega, ← hp, ← hg]
  clear hwz hwc hg hsz hp
  go_loopw [4, 5, 7, 8, 10, 14, 19] (fun v4 v5 _ _ _ v14 _ wr => ∃ (s : Nat) (ta : Option Addr) (tc : Nat) (la : Option Addr) (lc : Nat), s ≤ 11 ∧ v14 = .int .i64 s ∧ v4 = .slice ta s tc ∧ v5 = .slice la s lc ∧ Hid (OwnMat wr (p + 1) 25 2 ta s tc (hybIn.take s)) ∧ Hid (OwnMat wr (p + 1) 25 2 la s lc (hybLa.take s)) ∧ Apa ta la ∧
      Hid (SAt wr g 27 #[.int .i64 0, .int .i64 0, .int .i64 0, .int .i64 0, .slice none 0 0, .slice none 0 0]) ∧ Hid (SAt wr p 27 #[.int .i64 10, .int .i64 11, .int .i64 10, .int .i64 1, .slice none 0 0, .slice none 0 0]) ∧ Ext w wr) (fun _ _ _ _ _ v14 _ _ => 11 - (intOf v14).toNat)
  case atStart => exact ⟨0, _, _, _, _, by omega, rfl, rfl, rfl, HM4.out, HM5.out, (by intro x y h1 h2; cases h1; cases h2; simp), HZ.out, HP.out, hxz⟩
  case round =>
    obtain ⟨s, ta, tc, la, lc, hs, rfl, rfl, rfl, HT, HL, hal, HZr, HPr, hxw⟩ := hrel
    have hplt : p < wr.heap.size := HPr.out.lt
    by_cases hls : s < 11
    · obtain ⟨wo, hwo⟩ : ∃ W, W = wr := ⟨_, rfl⟩
      rw [← hwo] at HT HL HZr HPr hxw hplt ⊢
      clear hwo
      have hd11 : decide ((s : Int) < 11) = true := decide_eq_true (by omega)
      have hd12 : ((s : Int) < 11) := by omega
      go_wp2_with fail
      (try rw [hd11])
      go_loopw [7, 8, 10, 19] (fun v7 v8 _ v19 wr => ∃ (d : Nat) (aa : Option Addr) (ac : Nat) (ba : Option Addr) (bc : Nat), d ≤ 10 ∧ v19 = .int .i64 d ∧ v7 = .slice aa d ac ∧ v8 = .slice ba d bc ∧ Hid (Own wr wo.heap.size 2 aa d ac (I ((hybI s).take d))) ∧ Hid (Own wr wo.heap.size 2 ba d bc (I ((hybB s).take d))) ∧ Apa aa ba ∧ Ext wo wr) (fun _ _ _ v19 _ => 10 - (intOf v19).toNat)
      case atStart =>
        refine ⟨0, _, _, _, _, by omega, rfl, rfl, rfl, ?_, ?_, ?_, ?_⟩
        · exact (Own.lit0 wo 2).ext ((Ext.refl _).alloc _)
        · exact Own.lit0' _ 2 (by omega) (by simp)
        · intro x y h1 h2; cases h1; cases h2; simp
        · exact ((Ext.refl _).alloc _).alloc _
      case round =>
        obtain ⟨d, aa, ac, ba, bc, hd, rfl, rfl, rfl, HRa, HRb, hap, hx⟩ := hrel
        by_cases hld : d < 10
        · have e1 : ((s : Int) + d) % 10 = (((s + d) % 10 : Nat) : Int) := by omega
          have HNb := Lib.hid (show (hybB s).take (d + 1) = (hybB s).take d ++ [((s : Int) + d) % 10] by rw [hybB_step hld, e1])
          by_cases hz : (s + d) % 10 = 0
          · have hzi : ((s : Int) + d) % 10 = 0 := by omega
            have HNa := Lib.hid (show (hybI s).take (d + 1) = (hybI s).take d ++ [9] by rw [hybI_step hld, hybY, if_pos hz]; rfl)
            rw [hzi] at HNb
            clear e1
            go_wp2_with (first | (at_builtin; refine law_append1_at _ rfl _ _ 25 rfl 2 (.int .i64 0) 8 und_int64s info_int64 rfl wo.heap.size ba d bc _ _ rfl rfl rfl HRb.out hx.le (by omega) (by omega) ?_; intro ba' bc' w6 ho6 hb6 hg6 hk6; have HA6 := Lib.hid (own_apa hap.symm HRa.out hg6); have hap6 := (apa_put hap.symm HRa.out hk6).symm; have hx6 : Ext wo w6 := Ext.below hx hb6; have HB6 := Lib.hid ho6; clear ho6 hb6 hg6 hk6) | (at_builtin; refine law_append1_at _ rfl _ _ 25 rfl 2 (.int .i64 0) 8 und_int64s info_int64 rfl wo.heap.size aa d ac _ _ rfl rfl rfl HA6.out hx6.le (by omega) (by omega) ?_; intro aa' ac' w7 ho7 hb7 hg7 hk7; have HB7 := Lib.hid (own_apa hap6 HB6.out hg7); have hap7 := apa_put hap6 HB6.out hk7; have hx7 : Ext wo w7 := Ext.below hx6 hb7; have HA7 := Lib.hid ho7; clear ho7 hb7 hg7 hk7))
            exact ⟨⟨d + 1, aa', ac', ba', bc', by omega, by go_num, rfl, rfl, by rw [Hid, HNa.out, I_append]; exact HA7.out, by rw [Hid, HNb.out, I_append]; exact HB7.out, hap7, hx7⟩, by simp [intOf] <;> omega⟩
          · have hzi : (((s : Int) + d) % 10 == 0) = false := by simp; omega
            have HNa := Lib.hid (show (hybI s).take (d + 1) = (hybI s).take d ++ [2 * (((s : Int) + d) % 10) % 11] by rw [hybI_step hld, hybY, if_neg hz, e1]; rfl)
            have hzb : 0 ≤ ((s : Int) + d) % 10 ∧ ((s : Int) + d) % 10 < 10 := by omega
            clear e1
            go_wp2_with (first | (at_builtin; refine law_append1_at _ rfl _ _ 25 rfl 2 (.int .i64 0) 8 und_int64s info_int64 rfl wo.heap.size ba d bc _ _ rfl rfl rfl HRb.out hx.le (by omega) (by omega) ?_; intro ba' bc' w6 ho6 hb6 hg6 hk6; have HA6 := Lib.hid (own_apa hap.symm HRa.out hg6); have hap6 := (apa_put hap.symm HRa.out hk6).symm; have hx6 : Ext wo w6 := Ext.below hx hb6; have HB6 := Lib.hid ho6; clear ho6 hb6 hg6 hk6) | (at_builtin; refine law_append1_at _ rfl _ _ 25 rfl 2 (.int .i64 0) 8 und_int64s info_int64 rfl wo.heap.size aa d ac _ _ rfl rfl rfl HA6.out hx6.le (by omega) (by omega) ?_; intro aa' ac' w7 ho7 hb7 hg7 hk7; have HB7 := Lib.hid (own_apa hap6 HB6.out hg7); have hap7 := apa_put hap6 HB6.out hk7; have hx7 : Ext wo w7 := Ext.below hx6 hb7; have HA7 := Lib.hid ho7; clear ho7 hb7 hg7 hk7))
            exact ⟨⟨d + 1, aa', ac', ba', bc', by omega, by go_num, rfl, rfl, by rw [Hid, HNa.out, I_append]; exact HA7.out, by rw [Hid, HNb.out, I_append]; exact HB7.out, hap7, hx7⟩, by simp [intOf] <;> omega⟩
        · obtain rfl : d = 10 := by omega
          have HA1 := Lib.hid (show Own wr (p + 1) 2 aa 10 ac (I (hybI s)) from by have h := HRa.out; rw [take_full (by rw [hybI_len]; exact Nat.le_refl _)] at h; exact h.mono (by omega))
          have HB1 := Lib.hid (show Own wr (p + 1) 2 ba 10 bc (I (hybB s)) from by have h := HRb.out; rw [take_full (by rw [hybB_len]; exact Nat.le_refl _)] at h; exact h.mono (by omega))
          have HT1 := Lib.hid (HT.out.ext hx)
          have HL1 := Lib.hid (HL.out.ext hx)
          have HZ1 := Lib.hid (HZr.out.ext hx)
          have HP1 := Lib.hid (HPr.out.ext hx)
          have hxw1 : Ext w wr := hxw.trans hx
          have hle1 : p + 1 ≤ wr.heap.size := HP1.out.lt
          have HNi := Lib.hid (show hybIn.take (s + 1) = hybIn.take s ++ [hybI s] from by rw [List.take_succ_eq_append_getElem (by simp [hybIn]; omega)]; simp [hybIn])
          have HNl := Lib.hid (show hybLa.take (s + 1) = hybLa.take s ++ [hybB s] from by rw [List.take_succ_eq_append_getElem (by simp [hybLa]; omega)]; simp [hybLa])
          obtain ⟨tvs, htv, htp⟩ := HT1.out.rows
          have HTV := Lib.hid htv
          have HTP := Lib.hid htp
          clear htv htp HRa HRb hap HT HL
          go_wp2_with (first | (at_builtin; refine law_append1_at _ rfl _ _ 43 rfl 25 (.slice none 0 0) 24 und_rows info_row2 rfl (p + 1) ta s tc _ _ rfl rfl rfl HTV.out hle1 (by omega) (by omega) ?_; intro ta' tc' w6 ho6 hb6 hg6 hk6; have hx6 : Ext w w6 := Ext.below hxw1 (hb6.mono (by omega)); have HT6 := Lib.hid (OwnMat.push HT1.out.len HTP.out HTV.out HA1.out ho6 hg6 (by decide)); have HL6 := Lib.hid (mat_apa hal HTV.out HL1.out hg6 (by decide)); have hal6 : Apa ta' la := (by obtain ⟨us, hu, _⟩ := HL1.out.rows; exact apa_put hal hu hk6); have HB6 := Lib.hid (HB1.out.grownT HTV.out hg6 (by decide)); have HZ6 := Lib.hid (HZ1.out.grown hg6 (row_ne_s (HTV.out.ne_s HZ1.out (by decide)))); have HP6 := Lib.hid (HP1.out.grown hg6 (row_ne_s (HTV.out.ne_s HP1.out (by decide)))); have hle6 : p + 1 ≤ w6.heap.size := HP6.out.lt; obtain ⟨tvs6, htv6, htp6⟩ := HL6.out.rows; have HTV6 := Lib.hid htv6; have HTP6 := Lib.hid htp6; clear htv6 htp6 ho6 hb6 hg6 hk6) | (at_builtin; refine law_append1_at _ rfl _ _ 43 rfl 25 (.slice none 0 0) 24 und_rows info_row2 rfl (p + 1) la s lc _ _ rfl rfl rfl HTV6.out hle6 (by omega) (by omega) ?_; intro la' lc' w7 ho7 hb7 hg7 hk7; have hx7 : Ext w w7 := Ext.below hx6 (hb7.mono (by omega)); have HL7 := Lib.hid (OwnMat.push HL6.out.len HTP6.out HTV6.out HB6.out ho7 hg7 (by decide)); have HT7 := Lib.hid (mat_apa hal6.symm HTV6.out HT6.out hg7 (by decide)); have hal7 : Apa ta' la' := (by obtain ⟨us, hu, _⟩ := HT6.out.rows; exact (apa_put hal6.symm hu hk7).symm); have HZ7 := Lib.hid (HZ6.out.grown hg7 (row_ne_s (HTV6.out.ne_s HZ6.out (by decide)))); have HP7 := Lib.hid (HP6.out.grown hg7 (row_ne_s (HTV6.out.ne_s HP6.out (by decide)))); clear ho7 hb7 hg7 hk7))
          exact ⟨⟨s + 1, ta', tc', la', lc', by omega, by go_num, rfl, rfl, by rw [Hid, HNi.out]; exact HT7.out, by rw [Hid, HNl.out]; exact HL7.out, hal7, HZ7.out, HP7.out, hx7⟩, by simp [intOf] <;> omega⟩
    · obtain rfl : s = 11 := by omega
      have HT1 := Lib.hid (show OwnMat wr (p + 1) 25 2 ta 11 tc hybIn from by have h := HT.out; rwa [take_full (by simp [hybIn])] at h)
      have HL1 := Lib.hid (show OwnMat wr (p + 1) 25 2 la 11 lc hybLa from by have h := HL.out; rwa [take_full (by simp [hybLa])] at h)
      have hle : p + 1 ≤ wr.heap.size := hplt
      have hn1 : ((1 : Int) < (n : Int)) := by omega
      have c4 := HPr.out.cell 4 (by simp)
      have fp := fun j => HPr.out.frozen j
      (try simp only [List.getElem_toArray, List.getElem_cons_succ, List.getElem_cons_zero] at c4)
      clear HT HL hls
      go_wp2_with (first | (at_builtin; refine law_append1_at _ rfl _ _ 24 rfl 43 (.slice none 0 0) 24 und_cub2 info_tab2 rfl (p + 1) none 0 0 [] _ rfl rfl rfl (Own.nil _ _ _) hle (by omega) (by omega) ?_; intro ad ac w6 ho6 hb6 hg6 hk6; have hx6 : Ext w w6 := Ext.below hxw (hb6.mono (by omega)); have HO6 := Lib.hid ho6; have HG6 := Lib.hid hg6; have HZ6 := Lib.hid (HZr.out.grown hg6 (by simp [Value.ownBlock])); have HP6 := Lib.hid (HPr.out.grown hg6 (by simp [Value.ownBlock])); have hp6 : p < w6.heap.size := HP6.out.lt; have c46 := HP6.out.cell 4 (by simp); have fp6 := fun j => HP6.out.frozen j; (try simp only [List.getElem_toArray, List.getElem_cons_succ, List.getElem_cons_zero] at c46); have HO6b := Lib.hid (show Own (w6.setCell ⟨p, 4, none⟩ (.slice ad 1 ac)) (p + 1) 43 ad 1 ac [.slice ta 11 tc] from HO6.out.other _ (fun x hx => by have := (HO6.out.blk x hx).1; simp only; omega)); have HP6b := Lib.hid (show SAt (w6.setCell ⟨p, 4, none⟩ (.slice ad 1 ac)) p 27 #[.int .i64 10, .int .i64 11, .int .i64 10, .int .i64 1, .slice ad 1 ac, .slice none 0 0] from HP6.out.set 4 _); have HZ6b := Lib.hid (HZ6.out.other (p := ⟨p, 4, none⟩) (.slice ad 1 ac) (by simp; omega)); have hx6b : Ext w (w6.setCell ⟨p, 4, none⟩ (.slice ad 1 ac)) := hx6.setCell (p := ⟨p, 4, none⟩) (show w.heap.size ≤ p by omega) _; have hle6b : p + 1 ≤ (w6.setCell ⟨p, 4, none⟩ (.slice ad 1 ac)).heap.size := (by simp; omega); clear ho6 hb6 hg6 hk6) | (at_builtin; refine law_append1_at _ rfl _ _ 24 rfl 43 (.slice none 0 0) 24 und_cub2 info_tab2 rfl (p + 1) ad 1 ac _ _ rfl rfl (by simp [Act.eval, go_sem]) HO6b.out hle6b (by omega) (by omega) ?_; intro ad7 ac7 w7 ho7 hb7 hg7 hk7; have hx7 : Ext w w7 := Ext.below hx6b (hb7.mono (by omega)); have HO7 := Lib.hid ho7; have HG7 := Lib.hid hg7; have HZ7 := Lib.hid (HZ6b.out.grown hg7 (row_ne_s (HO6b.out.ne_s HZ6b.out (by decide)))); have HP7 := Lib.hid (HP6b.out.grown hg7 (row_ne_s (HO6b.out.ne_s HP6b.out (by decide)))); have hp7 : p < w7.heap.size := HP7.out.lt; have c47 := HP7.out.cell 4 (by simp); have c57 := HP7.out.cell 5 (by simp); have fp7 := fun j => HP7.out.frozen j; (try simp only [List.getElem_toArray, List.getElem_cons_succ, List.getElem_cons_zero] at c47 c57); clear ho7 hb7 hg7 hk7))
      obtain ⟨v8, hv8⟩ : ∃ W, W = w7.setCell ⟨p, 4, none⟩ (.slice ad7 (1 + 1) ac7) := ⟨_, rfl⟩
      have HP8 := Lib.hid (show SAt v8 p 27 #[.int .i64 10, .int .i64 11, .int .i64 10, .int .i64 1, .slice ad7 2 ac7, .slice none 0 0] from by rw [hv8]; exact HP7.out.set 4 _)
      have hp8 : p < v8.heap.size := HP8.out.lt
      have c48 : ∀ w', Ext v8 w' → w'.cell? ⟨p, 4, none⟩ = some (.slice ad7 2 ac7) := fun w' h => (HP8.out.ext h).cell 4 (by simp)
      have d48 := c48 v8 (Ext.refl _)
      obtain ⟨MC, hmk, hmo⟩ := made_ints (n - 1) (by omega)
      rw [show ((n - 1 : Nat) : Int) = (n : Int) - 1 by omega] at hmk
      have HMo := Lib.hid (show ∀ (W : World) (B g : Nat), B ≤ g → g = W.heap.size → Own (W.alloc (.cells MC 2)) B 2 (some ⟨g, 0, none⟩) (n - 1) (n - 1) (I (List.replicate (n - 1) 0)) from fun W B g h1 h2 => by subst h2; exact (hmo W).mono h1)
      clear hmo
      have HV8 := Lib.hid hv8
      have HT8 := Lib.hid (show OwnMat v8 (p + 1) 25 2 ta 11 tc hybIn from by
        rw [hv8]
        exact ((((HT1.out.grownT (Own.nil wr (p + 1) 43) HG6.out (by decide) (by decide)).setS HP6.out (by decide) (by decide) 4 (.slice ad 1 ac)).grownT HO6b.out HG7.out (by decide) (by decide)).setS HP7.out (by decide) (by decide) 4 (.slice ad7 2 ac7)))
      have HL8 := Lib.hid (show OwnMat v8 (p + 1) 25 2 la 11 lc hybLa from by
        rw [hv8]
        exact ((((HL1.out.grownT (Own.nil wr (p + 1) 43) HG6.out (by decide) (by decide)).setS HP6.out (by decide) (by decide) 4 (.slice ad 1 ac)).grownT HO6b.out HG7.out (by decide) (by decide)).setS HP7.out (by decide) (by decide) 4 (.slice ad7 2 ac7)))
      have HO8 := Lib.hid (show Own v8 (p + 1) 43 ad7 2 ac7 [.slice ta 11 tc, .slice la 11 lc] from by
        rw [hv8]
        exact HO7.out.other _ (fun x hx => by have := (HO7.out.blk x hx).1; simp only; omega))
      have HZ8 := Lib.hid (show SAt v8 g 27 #[.int .i64 0, .int .i64 0, .int .i64 0, .int .i64 0, .slice none 0 0, .slice none 0 0] from by rw [hv8]; exact HZ7.out.other _ (by simp; omega))
      have hx8 : Ext w v8 := by rw [hv8]; exact hx7.setCell (p := ⟨p, 4, none⟩) (show w.heap.size ≤ p by omega) _
      rw [show w7.setCell ⟨p, 4, none⟩ (.slice ad7 2 ac7) = v8 from hv8.symm]
      clear hv8
      have hwn : IntKind.i64.wrap ((n : Int) - 1) = (n : Int) - 1 := by unfold IntKind.wrap; simp [IntKind.bits, IntKind.signed]; omega
      have hw21 : IntKind.i64.wrap ((2 : Int) - 1) = 1 := by decide
      have hw1 : IntKind.i64.wrap 1 = 1 := by decide
      go_region_law (first | ((refine step_append1j rfl _ _ 25 rfl 2 (.int .i64 0) 8 und_int64s info_int64 rfl v8.heap.size (some ⟨v8.heap.size, 0, none⟩) (n - 1) (n - 1) (I (List.replicate (n - 1) 0)) (.int .i64 1) (v8.heap.size + 1) ?_ ?_ ?_ ?_ rfl ?_ (by omega) (by omega) ?_); (focus (first | (simp [Act.eval]; done) | (simp [Act.eval, go_sem]; done))); (focus (first | (simp [Act.eval]; done) | (simp [Act.eval, Act.put]; done) | (simp [Act.eval, Act.put, go_sem]; done))); (focus (go_simp; done)); (focus (repeat (first | ((with_reducible refine HMo.out _ _ _ ?_ ?_) <;> (first | (simp; done) | omega | (simp; omega))) | (with_reducible refine Own.alloc' ?_ _) | (with_reducible refine Own.drew ?_)))); (focus (first | omega | (simp; omega))); intro ad9 ac9 w9 ho9 hb9 hg9 hk9; have hx9 : Ext v8 w9 := Ext.below (by repeat (first | (with_reducible exact Ext.refl _) | (with_reducible assumption) | (with_reducible refine Ext.drewN ?_ _) | (with_reducible refine Ext.drew ?_) | (with_reducible refine Ext.alloc ?_ _) | ((with_reducible refine Ext.setCell ?_ ?_ _); rotate_left; focus (first | (simp; done) | (simp; omega) | omega)) | (with_reducible refine Ext.trans ?_ (by with_reducible assumption)))) hb9; have HO9 := Lib.hid ho9; have HP9 := Lib.hid (HP8.out.ext hx9); have hp9 : p < w9.heap.size := HP9.out.lt; have c59 := HP9.out.cell 5 (by simp); have fp9 := fun j => HP9.out.frozen j; (try simp only [List.getElem_toArray, List.getElem_cons_succ, List.getElem_cons_zero] at c59); clear ho9 hb9 hg9 hk9) | ((refine step_append1j rfl _ _ 25 rfl 2 (.int .i64 0) 8 und_int64s info_int64 rfl v8.heap.size (some ⟨v8.heap.size + 1, 0, none⟩) (n - 1) (n - 1) (I (List.replicate (n - 1) 0)) (.int .i64 1) (v8.heap.size) ?_ ?_ ?_ ?_ rfl ?_ (by omega) (by omega) ?_); (focus (first | (simp [Act.eval]; done) | (simp [Act.eval, Act.put]; done) | (simp [Act.eval, Act.put, go_sem]; done))); (focus (first | (simp [Act.eval]; done) | (simp [Act.eval, Act.put]; done) | (simp [Act.eval, Act.put, go_sem]; done))); (focus (go_simp; done)); (focus (repeat (first | ((with_reducible refine HMo.out _ _ _ ?_ ?_) <;> (first | (simp; done) | omega | (simp; omega))) | (with_reducible refine Own.alloc' ?_ _) | (with_reducible refine Own.drew ?_)))); (focus (first | omega | (simp; omega))); intro ad9 ac9 w9 ho9 hb9 hg9 hk9; have hx9 : Ext v8 w9 := Ext.below (by repeat (first | (with_reducible exact Ext.refl _) | (with_reducible assumption) | (with_reducible refine Ext.drewN ?_ _) | (with_reducible refine Ext.drew ?_) | (with_reducible refine Ext.alloc ?_ _) | ((with_reducible refine Ext.setCell ?_ ?_ _); rotate_left; focus (first | (simp; done) | (simp; omega) | omega)) | (with_reducible refine Ext.trans ?_ (by with_reducible assumption)))) hb9; have HO9 := Lib.hid ho9; have HP9 := Lib.hid (HP8.out.ext hx9); have hp9 : p < w9.heap.size := HP9.out.lt; have c59 := HP9.out.cell 5 (by simp); have fp9 := fun j => HP9.out.frozen j; (try simp only [List.getElem_toArray, List.getElem_cons_succ, List.getElem_cons_zero] at c59); clear ho9 hb9 hg9 hk9))
      all_goals
        have HPb := Lib.hid (show SAt (w9.setCell ⟨p, 5, none⟩ (.slice ad9 (n - 1 + 1) ac9)) p 27 #[.int .i64 10, .int .i64 11, .int .i64 10, .int .i64 1, .slice ad7 2 ac7, .slice ad9 (n - 1 + 1) ac9] from HP9.out.set 5 _)
        have HZb := Lib.hid ((HZ8.out.ext hx9).other (p := ⟨p, 5, none⟩) (.slice ad9 (n - 1 + 1) ac9) (by simp; omega))
        obtain ⟨wy, hwy⟩ : ∃ W, W = w9.setCell ⟨p, 5, none⟩ (.slice ad9 (n - 1 + 1) ac9) := ⟨_, rfl⟩
        have KY := Lib.hid (show KeepB (p + 1) w9.heap.size w9 wy from by rw [hwy]; exact KeepB.setB (KeepB.refl _ _ _) _ _ (Or.inl (show p < p + 1 by omega)))
        have hszy : wy.heap.size = w9.heap.size := by rw [hwy]; simp
        have HSY := Lib.hid hszy
        have hxy : Ext w wy := by rw [hwy]; exact (hx8.trans hx9).setCell (p := ⟨p, 5, none⟩) (show w.heap.size ≤ p by omega) _
        rw [← hwy] at HPb HZb ⊢
        clear hwy hszy
        have y0 := HPb.out.cell 0 (by simp)
        have y1 := HPb.out.cell 1 (by simp)
        have y2 := HPb.out.cell 2 (by simp)
        have y3 := HPb.out.cell 3 (by simp)
        have y4 := HPb.out.cell 4 (by simp)
        have y5 := HPb.out.cell 5 (by simp)
        have z0 := HZb.out.cell 0 (by simp)
        have z1 := HZb.out.cell 1 (by simp)
        have z2 := HZb.out.cell 2 (by simp)
        have z3 := HZb.out.cell 3 (by simp)
        have z4 := HZb.out.cell 4 (by simp)
        have z5 := HZb.out.cell 5 (by simp)
        have fr := fun j => HZb.out.frozen j
        have hltz := HZb.out.lt
        have hlty := HPb.out.lt
        (try simp only [List.getElem_toArray, List.getElem_cons_succ, List.getElem_cons_zero] at y0 y1 y2 y3 y4 y5 z0 z1 z2 z3 z4 z5)
        have HT9 := Lib.hid (HT8.out.ext hx9)
        have HL9 := Lib.hid (HL8.out.ext hx9)
        have HOt := Lib.hid (HO8.out.ext hx9)
        have HO9b := Lib.hid (HO9.out.mono (show p + 1 ≤ v8.heap.size by omega))
        go_wp2_with fail
        refine bodyPost_ret (v := .agg #[.int .i64 10, .int .i64 11, .int .i64 10, .int .i64 1, .slice ad7 2 ac7, .slice ad9 (n - 1 + 1) ac9]) ?_ rfl ?_
        · simp [results, Try.results131, go_sem, z0, z1, z2, z3, z4, z5]
        · refine ⟨ad7, 2, ac7, ad9, n - 1 + 1, ac9, rfl, fun V hV => ?_, ?_⟩
          · have hs := HSY.out
            have hk : KeepB (p + 1) w9.heap.size w9 V := by
              refine KY.out.trans (KeepB.trans ?_ (hV.mono (by omega) (by simp [hs])))
              repeat (first | with_reducible exact KeepB.refl _ _ _ | (with_reducible refine KeepB.setB ?_ _ _ (Or.inl ?_); rotate_left; (focus (show g < p + 1; omega))))
            have hO := Own.keepB HOt.out hk
            have hT := OwnMat.keepB HT9.out hk
            have hL := OwnMat.keepB HL9.out hk
            have hI := Own.keepB HO9b.out hk
            refine ⟨⟨rfl, _, hO.sl, fun k hk => ?_⟩, ?_, by omega, by omega, ?_⟩
            · have h : k = 0 ∨ k = 1 := by omega
              rcases h with rfl | rfl
              · exact ⟨_, _, _, rfl, hT.mat⟩
              · exact ⟨_, _, _, rfl, hL.mat⟩
            · have h := hI.sl
              show Sl V ad9 (n - 1 + 1) ac9 (I (List.replicate (n - 1) 0 ++ [1]))
              rw [I_append]; exact h
            · intro t ht
              simp only [hybCh, List.mem_cons, List.not_mem_nil, or_false] at ht
              rcases ht with rfl | rfl
              · exact ⟨by decide, by decide +kernel⟩
              · exact ⟨by decide, by decide +kernel⟩
          · repeat (first | with_reducible exact hxy | with_reducible refine Ext.setCell ?_ hgw _)
end Go.Proofs.Ytaiieodllhoelaa
