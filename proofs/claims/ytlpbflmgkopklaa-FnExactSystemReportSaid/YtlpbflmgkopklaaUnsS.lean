/- Walks: unseen pairs in the reference. -/
import Derived.Test.YtlpbflmgkopklaaMath1
namespace Go.Proofs.Ytlpbflmgkopklaa
set_option maxRecDepth 100000
open Go.RowKit

theorem prod_bd2 {v d : Int} (h1 : -72 ≤ v) (h2 : v ≤ 72) (h3 : -36 ≤ d) (h4 : d ≤ 36) : -2592 ≤ v * d ∧ v * d ≤ 2592 := by
  rcases Int.le_total 0 d with h | h
  · constructor
    · have : (-72) * d ≤ v * d := Int.mul_le_mul_of_nonneg_right h1 h
      omega
    · have : v * d ≤ 72 * d := Int.mul_le_mul_of_nonneg_right h2 h
      omega
  · have e : v * d = -(v * (-d)) := by rw [Int.mul_neg, Int.neg_neg]
    have h5 : 0 ≤ -d := by omega
    have a1 : (-72) * (-d) ≤ v * (-d) := Int.mul_le_mul_of_nonneg_right h1 h5
    have a2 : v * (-d) ≤ 72 * (-d) := Int.mul_le_mul_of_nonneg_right h2 h5
    omega

set_option maxHeartbeats 1000000 in
theorem spec_unseen_0 (b : Nat) (W : Wt) (a : Option Addr) (n c : Nat) (p : Nat) (w : World) (h : IsWt w b W a n c) (hp : p + 1 ≤ n) (_hn : n ≤ 20) (hs : Small W.weights) (hm : 2 ≤ W.modulus) (hm2 : W.modulus ≤ 36) (hb1 : 2 ≤ W.base) (hb2 : W.base ≤ 36) :
    Calls Try.prog 83 #[.pointer (some ⟨b, 0, none⟩), .int .i64 0, .int .i64 p] w (Same (.int .i64 (unseenF W 0 p)) w) := by
  obtain ⟨base, modulus, target, l⟩ := W
  obtain ⟨c0, c1, c2, c3, hw⟩ := h
  simp only at c0 c1 c2 c3 hw hs hm hm2 hb1 hb2
  have HL := Lib.hid hw.len
  obtain ⟨b1, off1, hia1, k1⟩ := hw.at 22 2 und_int64s cell_int64 p (by omega) .i64
  obtain ⟨b2, off2, hia2, k2⟩ := hw.at 22 2 und_int64s cell_int64 (p + 0) (by omega) .i64
  clear hw
  rw [show ((p + 0 : Nat) : Int) = (p : Int) + 0 by omega] at hia2
  obtain ⟨x, hx⟩ : ∃ x, x = l.getD p 0 := ⟨_, rfl⟩
  obtain ⟨y, hy⟩ : ∃ y, y = l.getD (p + 0) 0 := ⟨_, rfl⟩
  have hxb := hs.at p (by rw [HL.out]; omega)
  have hyb := hs.at (p + 0) (by rw [HL.out]; omega)
  rw [← hx] at hxb k1
  rw [← hy] at hyb k2
  obtain ⟨v, hv⟩ : ∃ v, v = x := ⟨_, rfl⟩
  have hvb : -72 ≤ v ∧ v ≤ 72 := by omega
  have HU := Lib.hid (show unseenF ⟨base, modulus, target, l⟩ 0 p = pairs v modulus base.toNat by
    rw [unseenF, if_neg (by omega), pairs_eq]
    simp only
    rw [show p + elen 0 - 1 = p + 0 by simp [elen], ← hx, ← hy, hv]; simp [byOf])
  have HV := Lib.hid hv
  clear hx hy hv
  obtain ⟨nb, rfl⟩ := Int.eq_ofNat_of_zero_le (show 0 ≤ base by omega)
  go_enter Try.func83, Try.ntmps83
  go_wp2
  rw [← HV.out]
  go_loop [8, 12, 13] (fun o i _ => ∃ (k : Nat) (z : Int), k ≤ nb ∧ i = .int .i64 k ∧ o = .int .i64 z ∧ 0 ≤ z ∧ z ≤ 36 * k ∧ Hid (z = S k fun x => S nb fun y => one (decide (x ≠ y) && hit (v * ((x : Int) - y)) modulus))) (fun _ i _ => nb - (intOf i).toNat)
  case atStart => exact ⟨0, 0, Nat.zero_le _, rfl, rfl, by omega, by omega, rfl⟩
  case round =>
    obtain ⟨k, z, hk, rfl, rfl, hz1, hz2, HZ⟩ := hrel
    by_cases hlt : k < nb
    · go_wp2
      go_loop [8, 13] (fun o i => ∃ (j : Nat) (z2 : Int), j ≤ nb ∧ i = .int .i64 j ∧ o = .int .i64 z2 ∧ z ≤ z2 ∧ z2 ≤ z + j ∧ Hid (z2 = z + S j fun y => one (decide (k ≠ y) && hit (v * ((k : Int) - y)) modulus))) (fun _ i => nb - (intOf i).toNat)
      case atStart => exact ⟨0, z, Nat.zero_le _, rfl, rfl, by omega, by omega, by rw [Hid]; simp [S]⟩
      case round =>
        obtain ⟨j, z2, hj, rfl, rfl, hy1, hy2, HY⟩ := hrel
        by_cases hjt : j < nb
        · have hpr := prod_bd2 hvb.1 hvb.2 (show (-36 : Int) ≤ (k : Int) - j by omega) (show (k : Int) - j ≤ 36 by omega)
          have HN := Lib.hid (show z + (S (j + 1) fun y => one (decide (k ≠ y) && hit (v * ((k : Int) - y)) modulus)) = z2 + one (decide (k ≠ j) && hit (v * ((k : Int) - j)) modulus) by simp only [S]; rw [HY.out]; omega)
          by_cases hkj : k = j
          · have HN2 := Lib.hid (show z + (S (j + 1) fun y => one (decide (k ≠ y) && hit (v * ((k : Int) - y)) modulus)) = z2 by rw [HN.out]; simp [hkj, one])
            have hb : ((k : Int) != (j : Int)) = false := by simp [hkj]
            clear hkj HN HY
            go_wp2
            exact ⟨⟨j + 1, z2, by omega, by go_num, rfl, by omega, by omega, HN2.out.symm⟩, by simp [intOf]; omega⟩
          · have hb : ((k : Int) != (j : Int)) = true := by simp; omega
            have HN2 := Lib.hid (show z + (S (j + 1) fun y => one (decide (k ≠ y) && hit (v * ((k : Int) - y)) modulus)) = z2 + one (hit (v * ((k : Int) - j)) modulus) by rw [HN.out]; simp [hkj])
            clear hkj HN HY
            go_wp2_with (go_at_call 94; refine (spec_mod _ _ _ (by omega) (by omega) (by omega) (by omega)).mono ?_; rintro e w' ⟨rfl, rfl⟩)
            · have ht : (v * ((k : Int) - j) % modulus == 0) = true := by assumption
              exact ⟨⟨j + 1, z2 + 1, by omega, by go_num, rfl, by omega, by omega, by rw [Hid, HN2.out, show hit (v * ((k : Int) - j)) modulus = true from ht]; rfl⟩, by simp [intOf]; omega⟩
            · have ht : (v * ((k : Int) - j) % modulus == 0) = false := by assumption
              exact ⟨⟨j + 1, z2, by omega, by go_num, rfl, by omega, by omega, by rw [Hid, HN2.out, show hit (v * ((k : Int) - j)) modulus = false from ht]; simp [one]⟩, by simp [intOf]; omega⟩
        · have HF := Lib.hid (show z2 = S (k + 1) fun x => S nb fun y => one (decide (x ≠ y) && hit (v * ((x : Int) - y)) modulus) by
            rw [HY.out, HZ.out, show j = nb by omega]; rfl)
          clear HY HZ
          go_wp2
          exact ⟨⟨k + 1, z2, by omega, by go_num, rfl, by omega, by omega, HF.out⟩, by simp [intOf]; omega⟩
    · have HF := Lib.hid (show pairs v modulus ((nb : Int).toNat) = z by rw [HZ.out, pairs, Int.toNat_natCast, show k = nb by omega])
      clear HZ
      go_wp2
      go_ret
      exact ⟨ri (by rw [HU.out, HF.out]), rfl⟩
set_option maxHeartbeats 1000000 in
theorem spec_unseen_1 (b : Nat) (W : Wt) (a : Option Addr) (n c : Nat) (p : Nat) (w : World) (h : IsWt w b W a n c) (hp : p + 2 ≤ n) (_hn : n ≤ 20) (hs : Small W.weights) (hm : 2 ≤ W.modulus) (hm2 : W.modulus ≤ 36) (hb1 : 2 ≤ W.base) (hb2 : W.base ≤ 36) :
    Calls Try.prog 83 #[.pointer (some ⟨b, 0, none⟩), .int .i64 1, .int .i64 p] w (Same (.int .i64 (unseenF W 1 p)) w) := by
  obtain ⟨base, modulus, target, l⟩ := W
  obtain ⟨c0, c1, c2, c3, hw⟩ := h
  simp only at c0 c1 c2 c3 hw hs hm hm2 hb1 hb2
  have HL := Lib.hid hw.len
  obtain ⟨b1, off1, hia1, k1⟩ := hw.at 22 2 und_int64s cell_int64 p (by omega) .i64
  obtain ⟨b2, off2, hia2, k2⟩ := hw.at 22 2 und_int64s cell_int64 (p + 1) (by omega) .i64
  clear hw
  rw [show ((p + 1 : Nat) : Int) = (p : Int) + 1 by omega] at hia2
  obtain ⟨x, hx⟩ : ∃ x, x = l.getD p 0 := ⟨_, rfl⟩
  obtain ⟨y, hy⟩ : ∃ y, y = l.getD (p + 1) 0 := ⟨_, rfl⟩
  have hxb := hs.at p (by rw [HL.out]; omega)
  have hyb := hs.at (p + 1) (by rw [HL.out]; omega)
  rw [← hx] at hxb k1
  rw [← hy] at hyb k2
  obtain ⟨v, hv⟩ : ∃ v, v = x - y := ⟨_, rfl⟩
  have hvb : -72 ≤ v ∧ v ≤ 72 := by omega
  have HU := Lib.hid (show unseenF ⟨base, modulus, target, l⟩ 1 p = pairs v modulus base.toNat by
    rw [unseenF, if_neg (by omega), pairs_eq]
    simp only
    rw [show p + elen 1 - 1 = p + 1 by simp [elen], ← hx, ← hy, hv]; simp [byOf])
  have HV := Lib.hid hv
  clear hx hy hv
  obtain ⟨nb, rfl⟩ := Int.eq_ofNat_of_zero_le (show 0 ≤ base by omega)
  go_enter Try.func83, Try.ntmps83
  go_wp2
  rw [← HV.out]
  go_loop [8, 12, 13] (fun o i _ => ∃ (k : Nat) (z : Int), k ≤ nb ∧ i = .int .i64 k ∧ o = .int .i64 z ∧ 0 ≤ z ∧ z ≤ 36 * k ∧ Hid (z = S k fun x => S nb fun y => one (decide (x ≠ y) && hit (v * ((x : Int) - y)) modulus))) (fun _ i _ => nb - (intOf i).toNat)
  case atStart => exact ⟨0, 0, Nat.zero_le _, rfl, rfl, by omega, by omega, rfl⟩
  case round =>
    obtain ⟨k, z, hk, rfl, rfl, hz1, hz2, HZ⟩ := hrel
    by_cases hlt : k < nb
    · go_wp2
      go_loop [8, 13] (fun o i => ∃ (j : Nat) (z2 : Int), j ≤ nb ∧ i = .int .i64 j ∧ o = .int .i64 z2 ∧ z ≤ z2 ∧ z2 ≤ z + j ∧ Hid (z2 = z + S j fun y => one (decide (k ≠ y) && hit (v * ((k : Int) - y)) modulus))) (fun _ i => nb - (intOf i).toNat)
      case atStart => exact ⟨0, z, Nat.zero_le _, rfl, rfl, by omega, by omega, by rw [Hid]; simp [S]⟩
      case round =>
        obtain ⟨j, z2, hj, rfl, rfl, hy1, hy2, HY⟩ := hrel
        by_cases hjt : j < nb
        · have hpr := prod_bd2 hvb.1 hvb.2 (show (-36 : Int) ≤ (k : Int) - j by omega) (show (k : Int) - j ≤ 36 by omega)
          have HN := Lib.hid (show z + (S (j + 1) fun y => one (decide (k ≠ y) && hit (v * ((k : Int) - y)) modulus)) = z2 + one (decide (k ≠ j) && hit (v * ((k : Int) - j)) modulus) by simp only [S]; rw [HY.out]; omega)
          by_cases hkj : k = j
          · have HN2 := Lib.hid (show z + (S (j + 1) fun y => one (decide (k ≠ y) && hit (v * ((k : Int) - y)) modulus)) = z2 by rw [HN.out]; simp [hkj, one])
            have hb : ((k : Int) != (j : Int)) = false := by simp [hkj]
            clear hkj HN HY
            go_wp2
            exact ⟨⟨j + 1, z2, by omega, by go_num, rfl, by omega, by omega, HN2.out.symm⟩, by simp [intOf]; omega⟩
          · have hb : ((k : Int) != (j : Int)) = true := by simp; omega
            have HN2 := Lib.hid (show z + (S (j + 1) fun y => one (decide (k ≠ y) && hit (v * ((k : Int) - y)) modulus)) = z2 + one (hit (v * ((k : Int) - j)) modulus) by rw [HN.out]; simp [hkj])
            clear hkj HN HY
            go_wp2_with (go_at_call 94; refine (spec_mod _ _ _ (by omega) (by omega) (by omega) (by omega)).mono ?_; rintro e w' ⟨rfl, rfl⟩)
            · have ht : (v * ((k : Int) - j) % modulus == 0) = true := by assumption
              exact ⟨⟨j + 1, z2 + 1, by omega, by go_num, rfl, by omega, by omega, by rw [Hid, HN2.out, show hit (v * ((k : Int) - j)) modulus = true from ht]; rfl⟩, by simp [intOf]; omega⟩
            · have ht : (v * ((k : Int) - j) % modulus == 0) = false := by assumption
              exact ⟨⟨j + 1, z2, by omega, by go_num, rfl, by omega, by omega, by rw [Hid, HN2.out, show hit (v * ((k : Int) - j)) modulus = false from ht]; simp [one]⟩, by simp [intOf]; omega⟩
        · have HF := Lib.hid (show z2 = S (k + 1) fun x => S nb fun y => one (decide (x ≠ y) && hit (v * ((x : Int) - y)) modulus) by
            rw [HY.out, HZ.out, show j = nb by omega]; rfl)
          clear HY HZ
          go_wp2
          exact ⟨⟨k + 1, z2, by omega, by go_num, rfl, by omega, by omega, HF.out⟩, by simp [intOf]; omega⟩
    · have HF := Lib.hid (show pairs v modulus ((nb : Int).toNat) = z by rw [HZ.out, pairs, Int.toNat_natCast, show k = nb by omega])
      clear HZ
      go_wp2
      go_ret
      exact ⟨ri (by rw [HU.out, HF.out]), rfl⟩
set_option maxHeartbeats 1000000 in
theorem spec_unseen_2 (b : Nat) (W : Wt) (a : Option Addr) (n c : Nat) (p : Nat) (w : World) (h : IsWt w b W a n c) (hp : p + 3 ≤ n) (_hn : n ≤ 20) (hs : Small W.weights) (hm : 2 ≤ W.modulus) (hm2 : W.modulus ≤ 36) (hb1 : 2 ≤ W.base) (hb2 : W.base ≤ 36) :
    Calls Try.prog 83 #[.pointer (some ⟨b, 0, none⟩), .int .i64 2, .int .i64 p] w (Same (.int .i64 (unseenF W 2 p)) w) := by
  obtain ⟨base, modulus, target, l⟩ := W
  obtain ⟨c0, c1, c2, c3, hw⟩ := h
  simp only at c0 c1 c2 c3 hw hs hm hm2 hb1 hb2
  have HL := Lib.hid hw.len
  obtain ⟨b1, off1, hia1, k1⟩ := hw.at 22 2 und_int64s cell_int64 p (by omega) .i64
  obtain ⟨b2, off2, hia2, k2⟩ := hw.at 22 2 und_int64s cell_int64 (p + 2) (by omega) .i64
  clear hw
  rw [show ((p + 2 : Nat) : Int) = (p : Int) + 2 by omega] at hia2
  obtain ⟨x, hx⟩ : ∃ x, x = l.getD p 0 := ⟨_, rfl⟩
  obtain ⟨y, hy⟩ : ∃ y, y = l.getD (p + 2) 0 := ⟨_, rfl⟩
  have hxb := hs.at p (by rw [HL.out]; omega)
  have hyb := hs.at (p + 2) (by rw [HL.out]; omega)
  rw [← hx] at hxb k1
  rw [← hy] at hyb k2
  obtain ⟨v, hv⟩ : ∃ v, v = x - y := ⟨_, rfl⟩
  have hvb : -72 ≤ v ∧ v ≤ 72 := by omega
  have HU := Lib.hid (show unseenF ⟨base, modulus, target, l⟩ 2 p = pairs v modulus base.toNat by
    rw [unseenF, if_neg (by omega), pairs_eq]
    simp only
    rw [show p + elen 2 - 1 = p + 2 by simp [elen], ← hx, ← hy, hv]; simp [byOf])
  have HV := Lib.hid hv
  clear hx hy hv
  obtain ⟨nb, rfl⟩ := Int.eq_ofNat_of_zero_le (show 0 ≤ base by omega)
  go_enter Try.func83, Try.ntmps83
  go_wp2
  rw [← HV.out]
  go_loop [8, 12, 13] (fun o i _ => ∃ (k : Nat) (z : Int), k ≤ nb ∧ i = .int .i64 k ∧ o = .int .i64 z ∧ 0 ≤ z ∧ z ≤ 36 * k ∧ Hid (z = S k fun x => S nb fun y => one (decide (x ≠ y) && hit (v * ((x : Int) - y)) modulus))) (fun _ i _ => nb - (intOf i).toNat)
  case atStart => exact ⟨0, 0, Nat.zero_le _, rfl, rfl, by omega, by omega, rfl⟩
  case round =>
    obtain ⟨k, z, hk, rfl, rfl, hz1, hz2, HZ⟩ := hrel
    by_cases hlt : k < nb
    · go_wp2
      go_loop [8, 13] (fun o i => ∃ (j : Nat) (z2 : Int), j ≤ nb ∧ i = .int .i64 j ∧ o = .int .i64 z2 ∧ z ≤ z2 ∧ z2 ≤ z + j ∧ Hid (z2 = z + S j fun y => one (decide (k ≠ y) && hit (v * ((k : Int) - y)) modulus))) (fun _ i => nb - (intOf i).toNat)
      case atStart => exact ⟨0, z, Nat.zero_le _, rfl, rfl, by omega, by omega, by rw [Hid]; simp [S]⟩
      case round =>
        obtain ⟨j, z2, hj, rfl, rfl, hy1, hy2, HY⟩ := hrel
        by_cases hjt : j < nb
        · have hpr := prod_bd2 hvb.1 hvb.2 (show (-36 : Int) ≤ (k : Int) - j by omega) (show (k : Int) - j ≤ 36 by omega)
          have HN := Lib.hid (show z + (S (j + 1) fun y => one (decide (k ≠ y) && hit (v * ((k : Int) - y)) modulus)) = z2 + one (decide (k ≠ j) && hit (v * ((k : Int) - j)) modulus) by simp only [S]; rw [HY.out]; omega)
          by_cases hkj : k = j
          · have HN2 := Lib.hid (show z + (S (j + 1) fun y => one (decide (k ≠ y) && hit (v * ((k : Int) - y)) modulus)) = z2 by rw [HN.out]; simp [hkj, one])
            have hb : ((k : Int) != (j : Int)) = false := by simp [hkj]
            clear hkj HN HY
            go_wp2
            exact ⟨⟨j + 1, z2, by omega, by go_num, rfl, by omega, by omega, HN2.out.symm⟩, by simp [intOf]; omega⟩
          · have hb : ((k : Int) != (j : Int)) = true := by simp; omega
            have HN2 := Lib.hid (show z + (S (j + 1) fun y => one (decide (k ≠ y) && hit (v * ((k : Int) - y)) modulus)) = z2 + one (hit (v * ((k : Int) - j)) modulus) by rw [HN.out]; simp [hkj])
            clear hkj HN HY
            go_wp2_with (go_at_call 94; refine (spec_mod _ _ _ (by omega) (by omega) (by omega) (by omega)).mono ?_; rintro e w' ⟨rfl, rfl⟩)
            · have ht : (v * ((k : Int) - j) % modulus == 0) = true := by assumption
              exact ⟨⟨j + 1, z2 + 1, by omega, by go_num, rfl, by omega, by omega, by rw [Hid, HN2.out, show hit (v * ((k : Int) - j)) modulus = true from ht]; rfl⟩, by simp [intOf]; omega⟩
            · have ht : (v * ((k : Int) - j) % modulus == 0) = false := by assumption
              exact ⟨⟨j + 1, z2, by omega, by go_num, rfl, by omega, by omega, by rw [Hid, HN2.out, show hit (v * ((k : Int) - j)) modulus = false from ht]; simp [one]⟩, by simp [intOf]; omega⟩
        · have HF := Lib.hid (show z2 = S (k + 1) fun x => S nb fun y => one (decide (x ≠ y) && hit (v * ((x : Int) - y)) modulus) by
            rw [HY.out, HZ.out, show j = nb by omega]; rfl)
          clear HY HZ
          go_wp2
          exact ⟨⟨k + 1, z2, by omega, by go_num, rfl, by omega, by omega, HF.out⟩, by simp [intOf]; omega⟩
    · have HF := Lib.hid (show pairs v modulus ((nb : Int).toNat) = z by rw [HZ.out, pairs, Int.toNat_natCast, show k = nb by omega])
      clear HZ
      go_wp2
      go_ret
      exact ⟨ri (by rw [HU.out, HF.out]), rfl⟩
set_option maxHeartbeats 1000000 in
theorem spec_unseen_3 (b : Nat) (W : Wt) (a : Option Addr) (n c : Nat) (p : Nat) (w : World) (h : IsWt w b W a n c) (hp : p + 2 ≤ n) (_hn : n ≤ 20) (hs : Small W.weights) (hm : 2 ≤ W.modulus) (hm2 : W.modulus ≤ 36) (hb1 : 2 ≤ W.base) (hb2 : W.base ≤ 36) :
    Calls Try.prog 83 #[.pointer (some ⟨b, 0, none⟩), .int .i64 3, .int .i64 p] w (Same (.int .i64 (unseenF W 3 p)) w) := by
  obtain ⟨base, modulus, target, l⟩ := W
  obtain ⟨c0, c1, c2, c3, hw⟩ := h
  simp only at c0 c1 c2 c3 hw hs hm hm2 hb1 hb2
  have HL := Lib.hid hw.len
  obtain ⟨b1, off1, hia1, k1⟩ := hw.at 22 2 und_int64s cell_int64 p (by omega) .i64
  obtain ⟨b2, off2, hia2, k2⟩ := hw.at 22 2 und_int64s cell_int64 (p + 1) (by omega) .i64
  clear hw
  rw [show ((p + 1 : Nat) : Int) = (p : Int) + 1 by omega] at hia2
  obtain ⟨x, hx⟩ : ∃ x, x = l.getD p 0 := ⟨_, rfl⟩
  obtain ⟨y, hy⟩ : ∃ y, y = l.getD (p + 1) 0 := ⟨_, rfl⟩
  have hxb := hs.at p (by rw [HL.out]; omega)
  have hyb := hs.at (p + 1) (by rw [HL.out]; omega)
  rw [← hx] at hxb k1
  rw [← hy] at hyb k2
  obtain ⟨v, hv⟩ : ∃ v, v = x + y := ⟨_, rfl⟩
  have hvb : -72 ≤ v ∧ v ≤ 72 := by omega
  have HU := Lib.hid (show unseenF ⟨base, modulus, target, l⟩ 3 p = pairs v modulus base.toNat by
    rw [unseenF, if_neg (by omega), pairs_eq]
    simp only
    rw [show p + elen 3 - 1 = p + 1 by simp [elen], ← hx, ← hy, hv]; simp [byOf])
  have HV := Lib.hid hv
  clear hx hy hv
  obtain ⟨nb, rfl⟩ := Int.eq_ofNat_of_zero_le (show 0 ≤ base by omega)
  go_enter Try.func83, Try.ntmps83
  go_wp2
  rw [← HV.out]
  go_loop [8, 12, 13] (fun o i _ => ∃ (k : Nat) (z : Int), k ≤ nb ∧ i = .int .i64 k ∧ o = .int .i64 z ∧ 0 ≤ z ∧ z ≤ 36 * k ∧ Hid (z = S k fun x => S nb fun y => one (decide (x ≠ y) && hit (v * ((x : Int) - y)) modulus))) (fun _ i _ => nb - (intOf i).toNat)
  case atStart => exact ⟨0, 0, Nat.zero_le _, rfl, rfl, by omega, by omega, rfl⟩
  case round =>
    obtain ⟨k, z, hk, rfl, rfl, hz1, hz2, HZ⟩ := hrel
    by_cases hlt : k < nb
    · go_wp2
      go_loop [8, 13] (fun o i => ∃ (j : Nat) (z2 : Int), j ≤ nb ∧ i = .int .i64 j ∧ o = .int .i64 z2 ∧ z ≤ z2 ∧ z2 ≤ z + j ∧ Hid (z2 = z + S j fun y => one (decide (k ≠ y) && hit (v * ((k : Int) - y)) modulus))) (fun _ i => nb - (intOf i).toNat)
      case atStart => exact ⟨0, z, Nat.zero_le _, rfl, rfl, by omega, by omega, by rw [Hid]; simp [S]⟩
      case round =>
        obtain ⟨j, z2, hj, rfl, rfl, hy1, hy2, HY⟩ := hrel
        by_cases hjt : j < nb
        · have hpr := prod_bd2 hvb.1 hvb.2 (show (-36 : Int) ≤ (k : Int) - j by omega) (show (k : Int) - j ≤ 36 by omega)
          have HN := Lib.hid (show z + (S (j + 1) fun y => one (decide (k ≠ y) && hit (v * ((k : Int) - y)) modulus)) = z2 + one (decide (k ≠ j) && hit (v * ((k : Int) - j)) modulus) by simp only [S]; rw [HY.out]; omega)
          by_cases hkj : k = j
          · have HN2 := Lib.hid (show z + (S (j + 1) fun y => one (decide (k ≠ y) && hit (v * ((k : Int) - y)) modulus)) = z2 by rw [HN.out]; simp [hkj, one])
            have hb : ((k : Int) != (j : Int)) = false := by simp [hkj]
            clear hkj HN HY
            go_wp2
            exact ⟨⟨j + 1, z2, by omega, by go_num, rfl, by omega, by omega, HN2.out.symm⟩, by simp [intOf]; omega⟩
          · have hb : ((k : Int) != (j : Int)) = true := by simp; omega
            have HN2 := Lib.hid (show z + (S (j + 1) fun y => one (decide (k ≠ y) && hit (v * ((k : Int) - y)) modulus)) = z2 + one (hit (v * ((k : Int) - j)) modulus) by rw [HN.out]; simp [hkj])
            clear hkj HN HY
            go_wp2_with (go_at_call 94; refine (spec_mod _ _ _ (by omega) (by omega) (by omega) (by omega)).mono ?_; rintro e w' ⟨rfl, rfl⟩)
            · have ht : (v * ((k : Int) - j) % modulus == 0) = true := by assumption
              exact ⟨⟨j + 1, z2 + 1, by omega, by go_num, rfl, by omega, by omega, by rw [Hid, HN2.out, show hit (v * ((k : Int) - j)) modulus = true from ht]; rfl⟩, by simp [intOf]; omega⟩
            · have ht : (v * ((k : Int) - j) % modulus == 0) = false := by assumption
              exact ⟨⟨j + 1, z2, by omega, by go_num, rfl, by omega, by omega, by rw [Hid, HN2.out, show hit (v * ((k : Int) - j)) modulus = false from ht]; simp [one]⟩, by simp [intOf]; omega⟩
        · have HF := Lib.hid (show z2 = S (k + 1) fun x => S nb fun y => one (decide (x ≠ y) && hit (v * ((x : Int) - y)) modulus) by
            rw [HY.out, HZ.out, show j = nb by omega]; rfl)
          clear HY HZ
          go_wp2
          exact ⟨⟨k + 1, z2, by omega, by go_num, rfl, by omega, by omega, HF.out⟩, by simp [intOf]; omega⟩
    · have HF := Lib.hid (show pairs v modulus ((nb : Int).toNat) = z by rw [HZ.out, pairs, Int.toNat_natCast, show k = nb by omega])
      clear HZ
      go_wp2
      go_ret
      exact ⟨ri (by rw [HU.out, HF.out]), rfl⟩
set_option maxHeartbeats 1000000 in
theorem spec_unseen_4 (b : Nat) (W : Wt) (a : Option Addr) (n c : Nat) (p : Nat) (w : World) (h : IsWt w b W a n c) (hp : p + 3 ≤ n) (_hn : n ≤ 20) (hs : Small W.weights) (hm : 2 ≤ W.modulus) (hm2 : W.modulus ≤ 36) (hb1 : 2 ≤ W.base) (hb2 : W.base ≤ 36) :
    Calls Try.prog 83 #[.pointer (some ⟨b, 0, none⟩), .int .i64 4, .int .i64 p] w (Same (.int .i64 (unseenF W 4 p)) w) := by
  obtain ⟨base, modulus, target, l⟩ := W
  obtain ⟨c0, c1, c2, c3, hw⟩ := h
  simp only at c0 c1 c2 c3 hw hs hm hm2 hb1 hb2
  have HL := Lib.hid hw.len
  obtain ⟨b1, off1, hia1, k1⟩ := hw.at 22 2 und_int64s cell_int64 p (by omega) .i64
  obtain ⟨b2, off2, hia2, k2⟩ := hw.at 22 2 und_int64s cell_int64 (p + 2) (by omega) .i64
  clear hw
  rw [show ((p + 2 : Nat) : Int) = (p : Int) + 2 by omega] at hia2
  obtain ⟨x, hx⟩ : ∃ x, x = l.getD p 0 := ⟨_, rfl⟩
  obtain ⟨y, hy⟩ : ∃ y, y = l.getD (p + 2) 0 := ⟨_, rfl⟩
  have hxb := hs.at p (by rw [HL.out]; omega)
  have hyb := hs.at (p + 2) (by rw [HL.out]; omega)
  rw [← hx] at hxb k1
  rw [← hy] at hyb k2
  obtain ⟨v, hv⟩ : ∃ v, v = x + y := ⟨_, rfl⟩
  have hvb : -72 ≤ v ∧ v ≤ 72 := by omega
  have HU := Lib.hid (show unseenF ⟨base, modulus, target, l⟩ 4 p = pairs v modulus base.toNat by
    rw [unseenF, if_neg (by omega), pairs_eq]
    simp only
    rw [show p + elen 4 - 1 = p + 2 by simp [elen], ← hx, ← hy, hv]; simp [byOf])
  have HV := Lib.hid hv
  clear hx hy hv
  obtain ⟨nb, rfl⟩ := Int.eq_ofNat_of_zero_le (show 0 ≤ base by omega)
  go_enter Try.func83, Try.ntmps83
  go_wp2
  rw [← HV.out]
  go_loop [8, 12, 13] (fun o i _ => ∃ (k : Nat) (z : Int), k ≤ nb ∧ i = .int .i64 k ∧ o = .int .i64 z ∧ 0 ≤ z ∧ z ≤ 36 * k ∧ Hid (z = S k fun x => S nb fun y => one (decide (x ≠ y) && hit (v * ((x : Int) - y)) modulus))) (fun _ i _ => nb - (intOf i).toNat)
  case atStart => exact ⟨0, 0, Nat.zero_le _, rfl, rfl, by omega, by omega, rfl⟩
  case round =>
    obtain ⟨k, z, hk, rfl, rfl, hz1, hz2, HZ⟩ := hrel
    by_cases hlt : k < nb
    · go_wp2
      go_loop [8, 13] (fun o i => ∃ (j : Nat) (z2 : Int), j ≤ nb ∧ i = .int .i64 j ∧ o = .int .i64 z2 ∧ z ≤ z2 ∧ z2 ≤ z + j ∧ Hid (z2 = z + S j fun y => one (decide (k ≠ y) && hit (v * ((k : Int) - y)) modulus))) (fun _ i => nb - (intOf i).toNat)
      case atStart => exact ⟨0, z, Nat.zero_le _, rfl, rfl, by omega, by omega, by rw [Hid]; simp [S]⟩
      case round =>
        obtain ⟨j, z2, hj, rfl, rfl, hy1, hy2, HY⟩ := hrel
        by_cases hjt : j < nb
        · have hpr := prod_bd2 hvb.1 hvb.2 (show (-36 : Int) ≤ (k : Int) - j by omega) (show (k : Int) - j ≤ 36 by omega)
          have HN := Lib.hid (show z + (S (j + 1) fun y => one (decide (k ≠ y) && hit (v * ((k : Int) - y)) modulus)) = z2 + one (decide (k ≠ j) && hit (v * ((k : Int) - j)) modulus) by simp only [S]; rw [HY.out]; omega)
          by_cases hkj : k = j
          · have HN2 := Lib.hid (show z + (S (j + 1) fun y => one (decide (k ≠ y) && hit (v * ((k : Int) - y)) modulus)) = z2 by rw [HN.out]; simp [hkj, one])
            have hb : ((k : Int) != (j : Int)) = false := by simp [hkj]
            clear hkj HN HY
            go_wp2
            exact ⟨⟨j + 1, z2, by omega, by go_num, rfl, by omega, by omega, HN2.out.symm⟩, by simp [intOf]; omega⟩
          · have hb : ((k : Int) != (j : Int)) = true := by simp; omega
            have HN2 := Lib.hid (show z + (S (j + 1) fun y => one (decide (k ≠ y) && hit (v * ((k : Int) - y)) modulus)) = z2 + one (hit (v * ((k : Int) - j)) modulus) by rw [HN.out]; simp [hkj])
            clear hkj HN HY
            go_wp2_with (go_at_call 94; refine (spec_mod _ _ _ (by omega) (by omega) (by omega) (by omega)).mono ?_; rintro e w' ⟨rfl, rfl⟩)
            · have ht : (v * ((k : Int) - j) % modulus == 0) = true := by assumption
              exact ⟨⟨j + 1, z2 + 1, by omega, by go_num, rfl, by omega, by omega, by rw [Hid, HN2.out, show hit (v * ((k : Int) - j)) modulus = true from ht]; rfl⟩, by simp [intOf]; omega⟩
            · have ht : (v * ((k : Int) - j) % modulus == 0) = false := by assumption
              exact ⟨⟨j + 1, z2, by omega, by go_num, rfl, by omega, by omega, by rw [Hid, HN2.out, show hit (v * ((k : Int) - j)) modulus = false from ht]; simp [one]⟩, by simp [intOf]; omega⟩
        · have HF := Lib.hid (show z2 = S (k + 1) fun x => S nb fun y => one (decide (x ≠ y) && hit (v * ((x : Int) - y)) modulus) by
            rw [HY.out, HZ.out, show j = nb by omega]; rfl)
          clear HY HZ
          go_wp2
          exact ⟨⟨k + 1, z2, by omega, by go_num, rfl, by omega, by omega, HF.out⟩, by simp [intOf]; omega⟩
    · have HF := Lib.hid (show pairs v modulus ((nb : Int).toNat) = z by rw [HZ.out, pairs, Int.toNat_natCast, show k = nb by omega])
      clear HZ
      go_wp2
      go_ret
      exact ⟨ri (by rw [HU.out, HF.out]), rfl⟩

set_option maxHeartbeats 1000000 in
theorem spec_unseen_5 (b : Nat) (W : Wt) (a : Option Addr) (n c : Nat) (p : Nat) (w : World) (h : IsWt w b W a n c) (hp : p + 2 ≤ n) (_hn : n ≤ 20) (hs : Small W.weights) (hm : 2 ≤ W.modulus) (hm2 : W.modulus ≤ 36) :
    Calls Try.prog 83 #[.pointer (some ⟨b, 0, none⟩), .int .i64 5, .int .i64 p] w (Same (.int .i64 (unseenF W 5 p)) w) := by
  obtain ⟨base, modulus, target, l⟩ := W
  obtain ⟨c0, c1, c2, c3, hw⟩ := h
  simp only at c0 c1 c2 c3 hw hs hm hm2
  have HL := Lib.hid hw.len
  obtain ⟨b1, off1, hia1, k1⟩ := hw.at 22 2 und_int64s cell_int64 p (by omega) .i64
  obtain ⟨b2, off2, hia2, k2⟩ := hw.at 22 2 und_int64s cell_int64 (p + 1) (by omega) .i64
  clear hw
  rw [show ((p + 1 : Nat) : Int) = (p : Int) + 1 by omega] at hia2
  obtain ⟨x, hx⟩ : ∃ x, x = l.getD p 0 := ⟨_, rfl⟩
  obtain ⟨y, hy⟩ : ∃ y, y = l.getD (p + 1) 0 := ⟨_, rfl⟩
  have hxb := hs.at p (by rw [HL.out]; omega)
  have hyb := hs.at (p + 1) (by rw [HL.out]; omega)
  rw [← hx] at hxb k1
  rw [← hy] at hyb k2
  have HU := Lib.hid (show unseenF ⟨base, modulus, target, l⟩ 5 p = phon x y modulus by rw [unseenF, if_pos rfl, ← hx, ← hy])
  clear hx hy
  go_enter Try.func83, Try.ntmps83
  go_wp2
  go_loop [8, 10] (fun o i => ∃ (k : Nat) (z : Int), k ≤ 8 ∧ i = .int .i64 ((k : Int) + 2) ∧ o = .int .i64 z ∧ 0 ≤ z ∧ z ≤ 2 * k ∧ Hid (z = S k fun i => if hit (x * ((i : Int) + 2) - x - y * ((i : Int) + 2)) modulus = true then 2 else 0)) (fun _ i => 20 - (intOf i).toNat)
  case atStart => exact ⟨0, 0, Nat.zero_le _, rfl, rfl, by omega, by omega, rfl⟩
  case round =>
    obtain ⟨k, z, hk, rfl, rfl, hz1, hz2, HZ⟩ := hrel
    by_cases hlt : k < 8
    · have hpr := mul_bd hxb.1 hxb.2 (show (0 : Int) ≤ (k : Int) + 2 by omega) (show (k : Int) + 2 ≤ 36 by omega)
      have hpr' := mul_bd hyb.1 hyb.2 (show (0 : Int) ≤ (k : Int) + 2 by omega) (show (k : Int) + 2 ≤ 36 by omega)
      have HN := Lib.hid (show (S (k + 1) fun i => if hit (x * ((i : Int) + 2) - x - y * ((i : Int) + 2)) modulus = true then 2 else 0) = z + (if hit (x * ((k : Int) + 2) - x - y * ((k : Int) + 2)) modulus = true then 2 else 0) by rw [HZ.out]; rfl)
      clear HZ
      go_wp2_with (go_at_call 94; refine (spec_mod _ _ _ (by omega) (by omega) (by omega) (by omega)).mono ?_; rintro e w' ⟨rfl, rfl⟩)
      · have ht : ((x * ((k : Int) + 2) - x - y * ((k : Int) + 2)) % modulus == 0) = true := by assumption
        exact ⟨⟨k + 1, _, by omega, by go_num, rfl, by omega, by omega, by rw [Hid, HN.out, if_pos (show hit (x * ((k : Int) + 2) - x - y * ((k : Int) + 2)) modulus = true from ht)]⟩, by simp [intOf]; omega⟩
      · have ht : ((x * ((k : Int) + 2) - x - y * ((k : Int) + 2)) % modulus == 0) = false := by assumption
        exact ⟨⟨k + 1, _, by omega, by go_num, rfl, by omega, by omega, by rw [Hid, HN.out, if_neg (by rw [show hit (x * ((k : Int) + 2) - x - y * ((k : Int) + 2)) modulus = false from ht]; simp)]; omega⟩, by simp [intOf]; omega⟩
    · have HF := Lib.hid (show phon x y modulus = z by rw [HZ.out, phon, show k = 8 by omega])
      clear HZ
      go_wp2
      go_ret
      exact ⟨ri (by rw [HU.out, HF.out]), rfl⟩

theorem spec_unseen (b : Nat) (W : Wt) (a : Option Addr) (n c : Nat) (k : Int) (p : Nat) (w : World) (h : IsWt w b W a n c) (hk0 : 0 ≤ k) (hk5 : k ≤ 5) (hp : p + elen k ≤ n) (hn : n ≤ 20) (hs : Small W.weights) (hm : 2 ≤ W.modulus) (hm2 : W.modulus ≤ 36) (hb1 : 2 ≤ W.base) (hb2 : W.base ≤ 36) :
    Calls Try.prog 83 #[.pointer (some ⟨b, 0, none⟩), .int .i64 k, .int .i64 p] w (Same (.int .i64 (unseenF W k p)) w) := by
  have hc : k = 0 ∨ k = 1 ∨ k = 2 ∨ k = 3 ∨ k = 4 ∨ k = 5 := by omega
  rcases hc with rfl | rfl | rfl | rfl | rfl | rfl
  · exact spec_unseen_0 b W a n c p w h hp hn hs hm hm2 hb1 hb2
  · exact spec_unseen_1 b W a n c p w h hp hn hs hm hm2 hb1 hb2
  · exact spec_unseen_2 b W a n c p w h hp hn hs hm hm2 hb1 hb2
  · exact spec_unseen_3 b W a n c p w h hp hn hs hm hm2 hb1 hb2
  · exact spec_unseen_4 b W a n c p w h hp hn hs hm hm2 hb1 hb2
  · exact spec_unseen_5 b W a n c p w h hp hn hs hm hm2
end Go.Proofs.Ytlpbflmgkopklaa
