/- Walks: how far apart a pair's words are, in the reference. -/
import Derived.Test.YtlpbflmgkopklaaPair3
import Derived.Test.YtlpbflmgkopklaaNext
namespace Go.Proofs.Ytlpbflmgkopklaa
set_option maxRecDepth 100000
open Go.RowKit

theorem nz_rep (n : Nat) : nz (List.replicate n 0) n = 0 := by
  unfold nz
  refine (S_congr (g := fun _ => 0) fun i hi => ?_).trans (S_zero n)
  rw [if_pos]
  simp [gi, List.getD_eq_getElem?_getD, hi]
theorem apF_one (m n : Nat) (one two : List Int) : apF m n one two 1 = 0 := by
  have h : nz (tupAt m n 0) n = 0 := by rw [tupAt_zero]; exact nz_rep n
  rw [apF, h, if_neg (by simp)]
  rfl
theorem apF_next {m n t : Nat} {one two : List Int} (hm : 0 < m) (ht : t < m ^ n) (h0 : 0 < t) : apF m n one two (t + 1) = if (ofP m one two (tupAt m n t) n && (decide (apF m n one two t = 0) || decide (nz (tupAt m n t) n < apF m n one two t))) = true then nz (tupAt m n t) n else apF m n one two t := by
  rw [apF, decide_eq_true (nz_pos hm ht h0), Bool.true_and]
set_option maxHeartbeats 4000000 in
theorem spec_apart (m n : Nat) (a1 a2 : Option Addr) (c1 c2 : Nat) (one two : List Int) (w : World) (h1 : Ints w a1 n c1 one) (h2 : Ints w a2 n c2 two) (hn : n ≤ 20) (hm : 1 ≤ m) (hm2 : m ≤ 36) (s1 : Small one) (s2 : Small two) :
    Calls Try.prog 40 #[.int .i64 m, .slice a1 n c1, .slice a2 n c2] w (Ret (.int .i64 (apF m n one two (m ^ n))) w) := by
  have H1 := Lib.hid h1
  have H2 := Lib.hid h2
  have HS1 := Lib.hid (fun k (hk : k < n) => s1.at k (by rw [h1.len]; exact hk))
  have HS2 := Lib.hid (fun k (hk : k < n) => s2.at k (by rw [h2.len]; exact hk))
  have HB1 := Lib.hid (fun (d : List Int) (hd : Small d) (hl : d.length = n) k (hk : k ≤ n) => dt_bd hd s1 k (by omega) (by rw [h1.len]; exact hk))
  have HB2 := Lib.hid (fun (d : List Int) (hd : Small d) (hl : d.length = n) k (hk : k ≤ n) => dt_bd hd s2 k (by omega) (by rw [h2.len]; exact hk))
  have hNp : 0 < m ^ n := Nat.pow_pos (by omega)
  obtain ⟨N, hN⟩ : ∃ N, N = m ^ n := ⟨_, rfl⟩
  have HN := Lib.hid hN
  have hNN : 0 < N := by omega
  have hA0 := apF_one m n one two
  have HA0 := Lib.hid hA0
  clear h1 h2 s1 s2 hA0 hNp
  go_enter Try.func40, Try.ntmps40
  rw [← hN]
  clear hN
  go_wp2_with (at_make; refine law_make _ rfl _ _ 22 rfl 2 (.int .i64 0) 8 und_int64s info_int64 rfl _ _ n rfl rfl (by omega) (by unfold maxLen; omega) ?_; intro w1 hown hx hsz)
  have HO0 := Lib.hid (show Own w1 w.heap.size 2 (some ⟨w.heap.size, 0, none⟩) n n (I (tupAt m n 0)) by rw [tupAt_zero, I_replicate]; exact hown)
  clear hown hsz
  go_loopg [8, 9, 10, 11, 12] N (fun gk s8 _ _ _ _ wr => ∃ (t : Nat) (z : Int), t < N ∧ gk = N - t ∧ s8 = .int .i64 z ∧ 0 ≤ z ∧ z ≤ n ∧ Hid (z = apF m n one two (t + 1)) ∧ Hid (Own wr w.heap.size 2 (some ⟨w.heap.size, 0, none⟩) n n (I (tupAt m n t))) ∧ Ext w wr)
  case atStart => exact ⟨0, 0, hNN, rfl, rfl, by omega, by omega, HA0.out.symm, HO0, hx⟩
  case round =>
    obtain ⟨t, z, ht, rfl, rfl, hz0, hzn, HZ, HO, hxr⟩ := hrel
    obtain ⟨wr0, rfl⟩ : ∃ x, x = wr := ⟨_, rfl⟩
    have htN : t < m ^ n := by rw [← HN.out]; exact ht
    have HNx := Lib.hid (spec_next m n t w.heap.size w.heap.size n wr0 hm (by omega) (by omega) htN HO.out)
    have htw := HO.out.lt
    rw [← HN.out] at htN
    by_cases hlt : t + 1 < N
    · have hdl : decide (t + 1 < m ^ n) = true := by rw [← HN.out]; exact decide_eq_true hlt
      have hml : (t + 1) % m ^ n = t + 1 := by rw [← HN.out]; exact Nat.mod_eq_of_lt hlt
      have HD := Lib.hid hdl
      have HM := Lib.hid hml
      clear hdl hml
      go_wp2_with ((with_reducible refine HNx.out.mono ?_); rintro e w7 ⟨rfl, ht7, ho7⟩; rw [HM.out] at ho7; rw [HD.out]; have hx7 : Ext w w7 := ext_touch hxr ht7; have HO7 := Lib.hid ho7; clear ht7 ho7)
      have hsd := tup_small (m := m) (n := n) (t := t + 1) (by omega) hm2 (by rw [← HN.out]; exact hlt)
      have hsl := tupAt_len m n (t + 1)
      have HDB := Lib.hid (fun k (hk : k < n) => hsd.at k (by rw [hsl]; exact hk))
      have HX1 := Lib.hid (HB1.out _ hsd hsl)
      have HX2 := Lib.hid (HB2.out _ hsd hsl)
      have HAn := Lib.hid (apF_next (m := m) (n := n) (t := t + 1) (one := one) (two := two) (by omega) (by rw [← HN.out]; exact hlt) (by omega))
      have HNz := Lib.hid (fun k => nz_bd (tupAt m n (t + 1)) k)
      rw [← HZ.out] at HAn
      clear hsd hsl
      have HID := Lib.hid HO7.out.ints
      generalize hd : tupAt m n (t + 1) = d at *
      go_loopw [9, 10, 11, 12] (fun s9 s10 s11 s12 wr => ∃ (k : Nat) (x y f : Int), k ≤ n ∧ s12 = .int .i64 k ∧ s9 = .int .i64 x ∧ s10 = .int .i64 y ∧ s11 = .int .i64 f ∧ Hid (x = dt d one k) ∧ Hid (y = dt d two k) ∧ Hid (f = nz d k) ∧ ∃ q, wr = w7.drewN q) (fun _ _ _ s12 _ => n - (intOf s12).toNat)
      case atStart => exact ⟨0, 0, 0, 0, Nat.zero_le _, rfl, rfl, rfl, rfl, rfl, rfl, rfl, 0, rfl⟩
      case round =>
        obtain ⟨k, x, y, f, hk, rfl, rfl, rfl, rfl, HX, HY, HF, q, rfl⟩ := hrel
        have hx := HX1.out k hk
        have hy := HX2.out k hk
        have hf := HNz.out k
        rw [← HX.out] at hx
        rw [← HY.out] at hy
        rw [← HF.out] at hf
        by_cases hkn : k < n
        · obtain ⟨b1, o1, i1, e1⟩ := (H1.out.ext hx7).at 22 2 und_int64s cell_int64 k hkn .i64
          obtain ⟨b2, o2, i2, e2⟩ := (H2.out.ext hx7).at 22 2 und_int64s cell_int64 k hkn .i64
          obtain ⟨b3, o3, i3, e3⟩ := HID.out.at 22 2 und_int64s cell_int64 k hkn .i64
          have hdk := HDB.out k hkn
          have ho := HS1.out k hkn
          have htk := HS2.out k hkn
          have HNX := Lib.hid (show dt d one (k + 1) = x + one.getD k 0 * d.getD k 0 by rw [HX.out, Int.mul_comm (one.getD k 0)]; rfl)
          have HNY := Lib.hid (show dt d two (k + 1) = y + two.getD k 0 * d.getD k 0 by rw [HY.out, Int.mul_comm (two.getD k 0)]; rfl)
          have HNF := Lib.hid (show nz d (k + 1) = f + (if d.getD k 0 = 0 then 0 else 1) by rw [HF.out]; rfl)
          generalize one.getD k 0 = u at *
          generalize two.getD k 0 = v at *
          generalize d.getD k 0 = s at *
          have hus := mul_bd ho.1 ho.2 hdk.1 hdk.2
          have hvs := mul_bd htk.1 htk.2 hdk.1 hdk.2
          by_cases hs0 : 0 < s
          · have HNF1 := Lib.hid (show nz d (k + 1) = f + 1 by rw [HNF.out, if_neg (by omega)])
            go_wp2
            go_quiet (fail)
            go_wp2
            go_quiet (fail)
            go_wp2
            exact ⟨⟨k + 1, _, _, _, by omega, by go_num, rfl, rfl, rfl, HNX.out.symm, HNY.out.symm, HNF1.out.symm, (by first | exact ⟨_, rfl⟩ | exact ⟨_, World.drewN_drewN _ _ _⟩)⟩, by simp [intOf]; omega⟩
          · have HNF1 := Lib.hid (show nz d (k + 1) = f by rw [HNF.out, if_pos (by omega), Int.add_zero])
            go_wp2
            go_quiet (fail)
            go_wp2
            go_quiet (fail)
            go_wp2
            exact ⟨⟨k + 1, _, _, f, by omega, by go_num, rfl, rfl, rfl, HNX.out.symm, HNY.out.symm, HNF1.out.symm, (by first | exact ⟨_, rfl⟩ | exact ⟨_, World.drewN_drewN _ _ _⟩)⟩, by simp [intOf]; omega⟩
        · obtain rfl : n = k := by omega
          have hhx := hit_tmod x m
          have hhy := hit_tmod y m
          have ex : x.tmod m = x % m := Int.tmod_eq_emod_of_nonneg hx.1
          have ey : y.tmod m = y % m := Int.tmod_eq_emod_of_nonneg hy.1
          rw [ex] at hhx
          rw [ey] at hhy
          rw [show ofP m one two d n = (hit x m && hit y m) by rw [ofP, HX.out, HY.out], ← HF.out] at HAn
          clear ex ey HX HY
          have HO8 := Lib.hid (fun q => Own.ext HO7.out ((Ext.refl w7).drewN q))
          have hx8 : ∀ q, Ext w (w7.drewN q) := fun q => hx7.drewN q
          have hmz : (m : Int) ≠ 0 := by omega
          have no : (hit x m && hit y m && (decide (z = 0) || decide (f < z))) = false → apF m n one two (t + 1 + 1) = z := fun h => by rw [HAn.out, if_neg (by rw [h]; simp)]
          have yes : (hit x m && hit y m && (decide (z = 0) || decide (f < z))) = true → apF m n one two (t + 1 + 1) = f := fun h => by rw [HAn.out, if_pos h]
          cases hbx : hit x m
          · have HRn := Lib.hid (no (by rw [hbx]; rfl))
            rw [hbx] at hhx
            clear no yes hbx hhy
            go_wp2
            go_roundg (N - (t + 1))
            case measure => omega
            case rel => exact ⟨t + 1, z, hlt, rfl, rfl, hz0, hzn, HRn.out.symm, by rw [hd]; exact HO8.out _, hx8 _⟩
          rw [hbx] at hhx
          cases hby : hit y m
          · have HRn := Lib.hid (no (by rw [hby]; simp))
            rw [hby] at hhy
            clear no yes hbx hby
            go_wp2
            go_roundg (N - (t + 1))
            case measure => omega
            case rel => exact ⟨t + 1, z, hlt, rfl, rfl, hz0, hzn, HRn.out.symm, by rw [hd]; exact HO8.out _, hx8 _⟩
          rw [hby] at hhy
          by_cases hz : z = 0
          · have HRy := Lib.hid (yes (by rw [hbx, hby, decide_eq_true hz]; rfl))
            clear no yes hbx hby HZ HAn
            subst hz
            go_wp2
            go_roundg (N - (t + 1))
            case measure => omega
            case rel => exact ⟨t + 1, f, hlt, rfl, rfl, hf.1, hf.2, HRy.out.symm, by rw [hd]; exact HO8.out _, hx8 _⟩
          by_cases hfz : f < z
          · have HRy := Lib.hid (yes (by rw [hbx, hby, decide_eq_true hfz]; simp))
            clear no yes hbx hby
            go_wp2
            go_roundg (N - (t + 1))
            case measure => omega
            case rel => exact ⟨t + 1, f, hlt, rfl, rfl, hf.1, hf.2, HRy.out.symm, by rw [hd]; exact HO8.out _, hx8 _⟩
          · have HRn := Lib.hid (no (by rw [decide_eq_false hz, decide_eq_false hfz]; simp))
            clear no yes hbx hby
            go_wp2
            go_roundg (N - (t + 1))
            case measure => omega
            case rel => exact ⟨t + 1, z, hlt, rfl, rfl, hz0, hzn, HRn.out.symm, by rw [hd]; exact HO8.out _, hx8 _⟩
    · obtain rfl : N = t + 1 := by omega
      have HD := Lib.hid (show decide (t + 1 < m ^ n) = false by rw [← HN.out]; simp)
      go_wp2_with ((with_reducible refine HNx.out.mono ?_); rintro e w7 ⟨rfl, ht7, ho7⟩; rw [HD.out]; have hx7 : Ext w w7 := ext_touch hxr ht7; clear ht7 ho7)
      go_ret
      exact ⟨by rw [← HZ.out]; rfl, hx7⟩
end Go.Proofs.Ytlpbflmgkopklaa
