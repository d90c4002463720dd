/- Walks: a table of a chain is chosen. -/
import Derived.Test.YtcdoanookiimaaaDrawM
namespace Go.Proofs.Ytcdoanookiimaaa
set_option maxRecDepth 100000
open Go.RowKit

/-- a table, chosen -/
def RetTab (g : Nat) (a : Option Addr) (n c : Nat) (l : List UInt8) (k : Int) (S b : Nat) (w : World) (e : Ending) (w' : World) : Prop :=
  ∃ (ad : Option Addr) (cc : Nat) (t : List (List Int)) (k' : Int), e = .returned (.slice ad S cc) ∧ TabOk S b t ∧ OwnMat w' w.heap.size 25 2 ad S cc t ∧ SrcB w' g a n c l k' ∧ k ≤ k' ∧ k' ≤ k + 300 ∧ Touch g w w'
theorem all_snoc {α : Type} {p : α → Prop} {l : List α} {x : α} (h : ∀ y ∈ l, p y) (hx : p x) : ∀ y ∈ l ++ [x], p y := fun y hy => by
  rcases List.mem_append.1 hy with hy | hy
  · exact h y hy
  · obtain rfl := List.mem_singleton.1 hy; exact hx
theorem mul_bd {x y a b : Int} (h1 : 0 ≤ x) (h2 : x ≤ a) (h3 : 0 ≤ y) (h4 : y ≤ b) : 0 ≤ x * y ∧ x * y ≤ a * b :=
  ⟨Int.mul_nonneg h1 h3, Int.mul_le_mul h2 h4 h3 (by omega)⟩
theorem mod_bd {x S : Int} (hS : 1 ≤ S) : 0 ≤ x % S ∧ x % S < S := ⟨Int.emod_nonneg _ (by omega), Int.emod_lt_of_pos _ (by omega)⟩
set_option maxHeartbeats 2000000 in
theorem spec_drawTable (g : Nat) (a : Option Addr) (n c : Nat) (l : List UInt8) (k : Int) (S b : Nat) (w : World) (h : SrcB w g a n c l k) (hk : 0 ≤ k) (hk2 : k ≤ 999000000) (hS : 1 ≤ S) (hS2 : S ≤ 10) (hb : b ≤ 10) :
    Calls Try.prog 109 #[.pointer (some ⟨g, 0, none⟩), .int .i64 S, .int .i64 b] w (RetTab g a n c l k S b w) := by
  have hgw := h.g
  have HP := Lib.hid (pick_b g a n c l k 4 w h hk (by omega) (by omega))
  clear h
  go_enter Try.func109, Try.ntmps109
  go_wp2_with (refine HP.out.mono ?_)
  rintro e w1 ⟨kind, k1, rfl, hkd, _, hs1, hk1, hk1', ht1⟩
  have HP1 := Lib.hid (pick_b g a n c l k1 (S : Int) w1 hs1 (by omega) (by omega) (by omega))
  have HT1 := Lib.hid ht1
  clear hs1 ht1
  go_wp2_with (refine HP1.out.mono ?_)
  rintro e w2 ⟨y0, k2, rfl, hy0, hy1, hs2, hk2', hk2'', ht2⟩
  have HT2 := Lib.hid (HT1.out.trans ht2)
  have HS2 := Lib.hid hs2
  have hw2 : w.heap.size ≤ w2.heap.size := HT2.out.size
  have hby : 1 ≤ 1 + y0 ∧ 1 + y0 ≤ 10 := by omega
  obtain ⟨y, hyy⟩ : ∃ y : Nat, 1 + y0 = (y : Int) := Int.eq_ofNat_of_zero_le (by omega)
  have hyb : y ≤ 10 := by omega
  clear hs2 ht2
  go_wp2
  clear hyy hby hy0 hy1
  go_loopw [9, 10, 11, 12, 13] (fun tb xi _ _ _ wr => ∃ (x : Nat) (ad : Option Addr) (cc : Nat) (tt : List (List Int)) (kk : Int), x ≤ S ∧ xi = .int .i64 x ∧ tb = .slice ad x cc ∧ Hid (∀ r ∈ tt, (r.length : Int) = b ∧ ∀ d ∈ r, 0 ≤ d ∧ d < (S : Int)) ∧
      Hid (OwnMat wr w.heap.size 25 2 ad x cc tt) ∧ Hid (SrcB wr g a n c l kk) ∧ k ≤ kk ∧ kk ≤ k + 4 + 20 * x ∧ Hid (Touch g w wr)) (fun _ xi _ _ _ _ => S - (intOf xi).toNat)
  case atStart => exact ⟨0, _, _, [], k2, Nat.zero_le _, rfl, rfl, (fun r hr => by cases hr), (OwnMat.lit0 w2 _ _).mono hw2, HS2.out.ext ((Ext.refl _).alloc _), by omega, by omega, HT2.out.ext ((Ext.refl _).alloc _)⟩
  case round =>
    obtain ⟨x, ad, cc, tt, kk, hx, rfl, rfl, HR, HM, HS, hka, hkb, HT⟩ := hrel
    have hwr : w.heap.size ≤ wr.heap.size := HT.out.size
    by_cases hlt : x < S
    · obtain ⟨wo, hwo⟩ : ∃ wo, wo = wr := ⟨_, rfl⟩
      subst hwo
      go_wp2
      go_loopw [11, 12, 13] (fun rw di _ wr => ∃ (d : Nat) (ar : Option Addr) (cr : Nat) (rr : List Int) (kq : Int), d ≤ b ∧ di = .int .i64 d ∧ rw = .slice ar d cr ∧ Hid (rr.length = d) ∧ Hid (∀ z ∈ rr, 0 ≤ z ∧ z < (S : Int)) ∧
        Hid (Own wr wo.heap.size 2 ar d cr (I rr)) ∧ Hid (SrcB wr g a n c l kq) ∧ k ≤ kq ∧ kq ≤ kk + 2 * d ∧ Hid (Touch g wo wr)) (fun _ di _ _ => b - (intOf di).toNat)
      case atStart => exact ⟨0, _, _, [], kk, Nat.zero_le _, rfl, rfl, rfl, (fun z hz => by cases hz), (Own.lit0 _ _), HS.out.ext ((Ext.refl _).alloc _), hka, by omega, (Touch.refl _ _).ext ((Ext.refl _).alloc _)⟩
      case round =>
        obtain ⟨d, ar, cr, rr, kq, hd, rfl, rfl, HLr, HZ, HOr, HS, hkc, hkd', HT2⟩ := hrel
        have hwr2 : wo.heap.size ≤ wr.heap.size := HT2.out.size
        have hgo : g < wo.heap.size := by omega
        by_cases hld : d < b
        · have hm1 : 0 ≤ (y : Int) * (d : Int) ∧ (y : Int) * (d : Int) ≤ 10 * 10 := mul_bd (by omega) (by omega) (by omega) (by omega)
          have hm2 : 0 ≤ (y : Int) * (x : Int) ∧ (y : Int) * (x : Int) ≤ 10 * 10 := mul_bd (by omega) (by omega) (by omega) (by omega)
          have HPk := Lib.hid (pick_b g a n c l kq (S : Int) wr HS.out (by omega) (by omega) (by omega))
          have hS' : 1 ≤ (S : Int) := by omega
          by_cases h0 : kind = 0
          · subst h0
            go_wp2_with (refine HPk.out.mono ?_)
            rintro e w3 ⟨z, k3, rfl, hz0, hz1, hs3, hk3, hk3', ht3⟩
            have HT3 := Lib.hid (HT2.out.trans ht3)
            have HOr3 := Lib.hid (HOr.out.touchNe ht3 hgo)
            have HS3 := Lib.hid hs3
            have hw3 : wo.heap.size ≤ w3.heap.size := HT3.out.size
            have hzz : 0 ≤ z ∧ z < (S : Int) := by omega
            clear hs3 ht3 hz0 hz1 HOr HS HPk
            go_wp2_with (at_builtin; refine law_append1 _ rfl _ _ 25 rfl 2 (.int .i64 0) 8 und_int64s info_int64 rfl wo.heap.size ar d cr _ _ rfl rfl rfl HOr3.out hw3 (by omega) (by omega) ?_; intro ar' cr' w4 ho4 hb4 hg4)
            exact ⟨⟨d + 1, ar', cr', rr ++ [z], k3, by omega, by go_num, rfl, by rw [Hid, List.length_append, HLr.out]; rfl, by rw [Hid]; exact all_snoc HZ.out hzz, by rw [Hid, I_append]; exact ho4, HS3.out.below hb4 hgo, by omega, by omega, HT3.out.below hb4 (Nat.le_refl _)⟩, by simp [intOf]; omega⟩
          · have hz1 := mod_bd (x := (y : Int) * (x : Int) + (d : Int)) hS'
            have hz2 := mod_bd (x := (x : Int) + (y : Int) * (d : Int)) hS'
            by_cases h1 : kind = 1
            · subst h1
              go_wp2_with (at_builtin; refine law_append1 _ rfl _ _ 25 rfl 2 (.int .i64 0) 8 und_int64s info_int64 rfl wo.heap.size ar d cr _ _ rfl rfl rfl HOr.out hwr2 (by omega) (by omega) ?_; intro ar' cr' w4 ho4 hb4 hg4)
              exact ⟨⟨d + 1, ar', cr', rr ++ [_], kq, by omega, by go_num, rfl, by rw [Hid, List.length_append, HLr.out]; rfl, by rw [Hid]; exact all_snoc HZ.out hz1, by rw [Hid, I_append]; exact ho4, HS.out.below hb4 hgo, by omega, by omega, HT2.out.below hb4 (Nat.le_refl _)⟩, by simp [intOf]; omega⟩
            · go_wp2_with (at_builtin; refine law_append1 _ rfl _ _ 25 rfl 2 (.int .i64 0) 8 und_int64s info_int64 rfl wo.heap.size ar d cr _ _ rfl rfl rfl HOr.out hwr2 (by omega) (by omega) ?_; intro ar' cr' w4 ho4 hb4 hg4)
              exact ⟨⟨d + 1, ar', cr', rr ++ [_], kq, by omega, by go_num, rfl, by rw [Hid, List.length_append, HLr.out]; rfl, by rw [Hid]; exact all_snoc HZ.out hz2, by rw [Hid, I_append]; exact ho4, HS.out.below hb4 hgo, by omega, by omega, HT2.out.below hb4 (Nat.le_refl _)⟩, by simp [intOf]; omega⟩
        · obtain rfl : d = b := by omega
          have HT4 := Lib.hid (HT.out.trans HT2.out)
          have HM4 := Lib.hid (HM.out.touchNe HT2.out hgw)
          have HO4 := Lib.hid (HOr.out.mono hwr)
          have hw4 : w.heap.size ≤ wr.heap.size := HT4.out.size
          obtain ⟨vs, hvs, hps⟩ := HM4.out.rows
          have HV := Lib.hid hvs
          have HPS := Lib.hid hps
          clear hvs hps HOr HT2 HT HM
          go_wp2_with (at_builtin; refine law_append1 _ rfl _ _ 88 rfl 25 (.slice none 0 0) 24 und_rows info_row1 rfl w.heap.size ad x cc _ _ rfl rfl rfl HV.out hw4 (by omega) (by omega) ?_; intro ad' cc' w5 ho5 hb5 hg5)
          exact ⟨⟨x + 1, ad', cc', tt ++ [rr], kq, by omega, by go_num, rfl, by rw [Hid]; exact all_snoc HR.out ⟨by rw [HLr.out], HZ.out⟩, OwnMat.push HM4.out.len HPS.out HV.out HO4.out ho5 hg5 (by decide), HS.out.below hb5 hgw, by omega, by omega, HT4.out.below hb5 (Nat.le_refl _)⟩, by simp [intOf]; omega⟩
    · obtain rfl : x = S := by omega
      go_wp2
      go_ret
      exact ⟨ad, cc, tt, kk, rfl, ⟨by rw [HM.out.len], HR.out⟩, HM.out, HS.out, hka, by omega, HT.out⟩
end Go.Proofs.Ytcdoanookiimaaa
