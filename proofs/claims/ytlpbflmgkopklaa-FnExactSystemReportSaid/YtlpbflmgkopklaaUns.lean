/- Walks: unseen pairs, in the program and in the reference. -/
import Derived.Test.YtlpbflmgkopklaaMath1
namespace Go.Proofs.Ytlpbflmgkopklaa
set_option maxRecDepth 100000
open Go.RowKit

theorem prod_bd {v d : Int} (h1 : -72 ≤ v) (h2 : v ≤ 72) (h3 : 0 ≤ d) (h4 : d ≤ 36) : -2592 ≤ v * d ∧ v * d ≤ 2592 := by
  constructor
  · have : (-72) * d ≤ v * d := Int.mul_le_mul_of_nonneg_right h1 h3
    omega
  · have : v * d ≤ 72 * d := Int.mul_le_mul_of_nonneg_right h2 h3
    omega

set_option maxHeartbeats 1000000 in
theorem impl_unseen_0 (b : Nat) (W : Wt) (a : Option Addr) (n c : Nat) (p : Nat) (w : World) (h : IsWt w b W a n c) (hp : p + 1 ≤ n) (hn : n ≤ 20) (hs : Small W.weights) (hm : 2 ≤ W.modulus) (hm2 : W.modulus ≤ 36) (hb1 : 2 ≤ W.base) (hb2 : W.base ≤ 36) :
    Calls Try.prog 81 #[.pointer (some ⟨b, 0, none⟩), .int .i64 0, .int .i64 p] w (Qt (.int .i64 (unseenF W 0 p)) w) := by
  obtain ⟨base, modulus, target, l⟩ := W
  obtain ⟨c0, c1, c2, c3, hw⟩ := h
  simp only at c0 c1 c2 c3 hw hs hm hm2 hb1 hb2
  have HL := Lib.hid hw.len
  obtain ⟨a2, hsl0, hi2⟩ := hw.sub 22 2 und_int64s cell_int64 elem_int64s p (p + 1) (by omega) hp
  rw [show p + 1 - p = 1 by omega] at hsl0 hi2
  obtain ⟨b1, off1, hia1, hcell1⟩ := hi2.at 22 2 und_int64s cell_int64 0 (by omega) .i64
  obtain ⟨b2, off2, hia2, hcell2⟩ := hi2.at 22 2 und_int64s cell_int64 (1 - 1) (by omega) .i64
  clear hw hi2
  have hsum : IntKind.i64.wrap ((p : Int) + 1) = (p : Int) + 1 := IntWalk.i64_in _ (by omega)
  have hsl := fun w' => hsl0 w' .i64 .i64
  rw [show ((p + 1 : Nat) : Int) = (p : Int) + 1 by omega] at hsl
  have HE := Lib.hid (fun w => (show Calls Try.prog 92 #[.int .i64 0] w (Same (.int .i64 1) w) from impl_elen 0 w))
  have i1 : ∀ w', (Instr.indexAt 22 (.slice a2 1 (c - p)) (.int .i64 0)).run Try.prog w' = .ok (.pointer (some ⟨b1, off1, none⟩)) w' := hia1
  have i2 : ∀ w', (Instr.indexAt 22 (.slice a2 1 (c - p)) (.int .i64 (1 - 1))).run Try.prog w' = .ok (.pointer (some ⟨b2, off2, none⟩)) w' := hia2
  simp only [Int.reduceSub] at i2
  obtain ⟨x, hx⟩ : ∃ x, x = l.getD p 0 := ⟨_, rfl⟩
  obtain ⟨y, hy⟩ : ∃ y, y = l.getD (p + (1 - 1)) 0 := ⟨_, rfl⟩
  have hxb := hs.at p (by rw [HL.out]; omega)
  have hyb := hs.at (p + (1 - 1)) (by rw [HL.out]; omega)
  rw [← hx] at hxb
  rw [← hy] at hyb
  have k1 : w.cell? ⟨b1, off1, none⟩ = some (.int .i64 x) := by rw [hcell1, hx]; simp [List.getD_eq_getElem?_getD]
  have k2 : w.cell? ⟨b2, off2, none⟩ = some (.int .i64 y) := by rw [hcell2, hy]; simp [List.getD_eq_getElem?_getD]
  obtain ⟨v, hv⟩ : ∃ v, v = x := ⟨_, rfl⟩
  have hvb : -72 ≤ v ∧ v ≤ 72 := by omega
  have HU := Lib.hid (show unseenF ⟨base, modulus, target, l⟩ 0 p = uns v modulus base.toNat by
    rw [unseenF, if_neg (by omega)]
    simp only
    rw [show p + elen 0 - 1 = p + (1 - 1) by simp [elen], ← hx, ← hy, hv]; simp [byOf])
  have HV := Lib.hid hv
  clear hia1 hia2 hcell1 hcell2 hx hy hv hsl0
  obtain ⟨nb, rfl⟩ := Int.eq_ofNat_of_zero_le (show 0 ≤ base by omega)
  go_enter Try.func81, Try.ntmps81
  go_wp2
  go_quiet ((go_at_call 92; exact quietS (HE.out _)))
  go_wp2
  go_quiet (fail)
  go_wp2
  rw [← HV.out]
  go_loop [11, 13] (fun o i => ∃ (k : Nat) (z : Int), k ≤ nb - 1 ∧ i = .int .i64 ((k : Int) + 1) ∧ o = .int .i64 z ∧ 0 ≤ z ∧ z ≤ 72 * k ∧ Hid (z = S k fun i => if hit (v * ((i : Int) + 1)) modulus = true then 2 * ((nb : Int) - ((i : Int) + 1)) else 0)) (fun _ i => nb - (intOf i).toNat)
  case atStart => exact ⟨0, 0, Nat.zero_le _, rfl, rfl, by omega, by omega, rfl⟩
  case round =>
    obtain ⟨k, z, hk, rfl, rfl, hz1, hz2, HZ⟩ := hrel
    by_cases hlt : k < nb - 1
    · have hpr := prod_bd hvb.1 hvb.2 (show (0 : Int) ≤ (k : Int) + 1 by omega) (show (k : Int) + 1 ≤ 36 by omega)
      have HT := Lib.hid (hit_tmod (v * ((k : Int) + 1)) modulus)
      have HN := Lib.hid (show (S (k + 1) fun i => if hit (v * ((i : Int) + 1)) modulus = true then 2 * ((nb : Int) - ((i : Int) + 1)) else 0) = z + (if hit (v * ((k : Int) + 1)) modulus = true then 2 * ((nb : Int) - ((k : Int) + 1)) else 0) by rw [HZ.out]; rfl)
      clear HZ
      go_wp2
      · have ht : ((v * ((k : Int) + 1)).tmod modulus == 0) = true := by assumption
        rw [HT.out] at ht
        exact ⟨⟨k + 1, _, by omega, by go_num, rfl, by omega, by omega, by rw [Hid, HN.out, if_pos ht]⟩, by simp [intOf]; omega⟩
      · have ht : ((v * ((k : Int) + 1)).tmod modulus == 0) = false := by assumption
        rw [HT.out] at ht
        exact ⟨⟨k + 1, _, by omega, by go_num, rfl, by omega, by omega, by rw [Hid, HN.out, if_neg (by rw [ht]; simp)]; omega⟩, by simp [intOf]; omega⟩
    · have HF := Lib.hid (show uns v modulus ((nb : Int).toNat) = z by rw [HZ.out, uns, Int.toNat_natCast, show k = nb - 1 by omega])
      clear HZ
      go_wp2
      go_ret
      exact ⟨ri (by rw [HU.out, HF.out]), _, rfl⟩
set_option maxHeartbeats 1000000 in
theorem impl_unseen_1 (b : Nat) (W : Wt) (a : Option Addr) (n c : Nat) (p : Nat) (w : World) (h : IsWt w b W a n c) (hp : p + 2 ≤ n) (hn : n ≤ 20) (hs : Small W.weights) (hm : 2 ≤ W.modulus) (hm2 : W.modulus ≤ 36) (hb1 : 2 ≤ W.base) (hb2 : W.base ≤ 36) :
    Calls Try.prog 81 #[.pointer (some ⟨b, 0, none⟩), .int .i64 1, .int .i64 p] w (Qt (.int .i64 (unseenF W 1 p)) w) := by
  obtain ⟨base, modulus, target, l⟩ := W
  obtain ⟨c0, c1, c2, c3, hw⟩ := h
  simp only at c0 c1 c2 c3 hw hs hm hm2 hb1 hb2
  have HL := Lib.hid hw.len
  obtain ⟨a2, hsl0, hi2⟩ := hw.sub 22 2 und_int64s cell_int64 elem_int64s p (p + 2) (by omega) hp
  rw [show p + 2 - p = 2 by omega] at hsl0 hi2
  obtain ⟨b1, off1, hia1, hcell1⟩ := hi2.at 22 2 und_int64s cell_int64 0 (by omega) .i64
  obtain ⟨b2, off2, hia2, hcell2⟩ := hi2.at 22 2 und_int64s cell_int64 (2 - 1) (by omega) .i64
  clear hw hi2
  have hsum : IntKind.i64.wrap ((p : Int) + 2) = (p : Int) + 2 := IntWalk.i64_in _ (by omega)
  have hsl := fun w' => hsl0 w' .i64 .i64
  rw [show ((p + 2 : Nat) : Int) = (p : Int) + 2 by omega] at hsl
  have HE := Lib.hid (fun w => (show Calls Try.prog 92 #[.int .i64 1] w (Same (.int .i64 2) w) from impl_elen 1 w))
  have i1 : ∀ w', (Instr.indexAt 22 (.slice a2 2 (c - p)) (.int .i64 0)).run Try.prog w' = .ok (.pointer (some ⟨b1, off1, none⟩)) w' := hia1
  have i2 : ∀ w', (Instr.indexAt 22 (.slice a2 2 (c - p)) (.int .i64 (2 - 1))).run Try.prog w' = .ok (.pointer (some ⟨b2, off2, none⟩)) w' := hia2
  simp only [Int.reduceSub] at i2
  obtain ⟨x, hx⟩ : ∃ x, x = l.getD p 0 := ⟨_, rfl⟩
  obtain ⟨y, hy⟩ : ∃ y, y = l.getD (p + (2 - 1)) 0 := ⟨_, rfl⟩
  have hxb := hs.at p (by rw [HL.out]; omega)
  have hyb := hs.at (p + (2 - 1)) (by rw [HL.out]; omega)
  rw [← hx] at hxb
  rw [← hy] at hyb
  have k1 : w.cell? ⟨b1, off1, none⟩ = some (.int .i64 x) := by rw [hcell1, hx]; simp [List.getD_eq_getElem?_getD]
  have k2 : w.cell? ⟨b2, off2, none⟩ = some (.int .i64 y) := by rw [hcell2, hy]; simp [List.getD_eq_getElem?_getD]
  obtain ⟨v, hv⟩ : ∃ v, v = x - y := ⟨_, rfl⟩
  have hvb : -72 ≤ v ∧ v ≤ 72 := by omega
  have HU := Lib.hid (show unseenF ⟨base, modulus, target, l⟩ 1 p = uns v modulus base.toNat by
    rw [unseenF, if_neg (by omega)]
    simp only
    rw [show p + elen 1 - 1 = p + (2 - 1) by simp [elen], ← hx, ← hy, hv]; simp [byOf])
  have HV := Lib.hid hv
  clear hia1 hia2 hcell1 hcell2 hx hy hv hsl0
  obtain ⟨nb, rfl⟩ := Int.eq_ofNat_of_zero_le (show 0 ≤ base by omega)
  go_enter Try.func81, Try.ntmps81
  go_wp2
  go_quiet ((go_at_call 92; exact quietS (HE.out _)))
  go_wp2
  go_quiet (fail)
  go_wp2
  rw [← HV.out]
  go_loop [11, 13] (fun o i => ∃ (k : Nat) (z : Int), k ≤ nb - 1 ∧ i = .int .i64 ((k : Int) + 1) ∧ o = .int .i64 z ∧ 0 ≤ z ∧ z ≤ 72 * k ∧ Hid (z = S k fun i => if hit (v * ((i : Int) + 1)) modulus = true then 2 * ((nb : Int) - ((i : Int) + 1)) else 0)) (fun _ i => nb - (intOf i).toNat)
  case atStart => exact ⟨0, 0, Nat.zero_le _, rfl, rfl, by omega, by omega, rfl⟩
  case round =>
    obtain ⟨k, z, hk, rfl, rfl, hz1, hz2, HZ⟩ := hrel
    by_cases hlt : k < nb - 1
    · have hpr := prod_bd hvb.1 hvb.2 (show (0 : Int) ≤ (k : Int) + 1 by omega) (show (k : Int) + 1 ≤ 36 by omega)
      have HT := Lib.hid (hit_tmod (v * ((k : Int) + 1)) modulus)
      have HN := Lib.hid (show (S (k + 1) fun i => if hit (v * ((i : Int) + 1)) modulus = true then 2 * ((nb : Int) - ((i : Int) + 1)) else 0) = z + (if hit (v * ((k : Int) + 1)) modulus = true then 2 * ((nb : Int) - ((k : Int) + 1)) else 0) by rw [HZ.out]; rfl)
      clear HZ
      go_wp2
      · have ht : ((v * ((k : Int) + 1)).tmod modulus == 0) = true := by assumption
        rw [HT.out] at ht
        exact ⟨⟨k + 1, _, by omega, by go_num, rfl, by omega, by omega, by rw [Hid, HN.out, if_pos ht]⟩, by simp [intOf]; omega⟩
      · have ht : ((v * ((k : Int) + 1)).tmod modulus == 0) = false := by assumption
        rw [HT.out] at ht
        exact ⟨⟨k + 1, _, by omega, by go_num, rfl, by omega, by omega, by rw [Hid, HN.out, if_neg (by rw [ht]; simp)]; omega⟩, by simp [intOf]; omega⟩
    · have HF := Lib.hid (show uns v modulus ((nb : Int).toNat) = z by rw [HZ.out, uns, Int.toNat_natCast, show k = nb - 1 by omega])
      clear HZ
      go_wp2
      go_ret
      exact ⟨ri (by rw [HU.out, HF.out]), _, rfl⟩
set_option maxHeartbeats 1000000 in
theorem impl_unseen_2 (b : Nat) (W : Wt) (a : Option Addr) (n c : Nat) (p : Nat) (w : World) (h : IsWt w b W a n c) (hp : p + 3 ≤ n) (hn : n ≤ 20) (hs : Small W.weights) (hm : 2 ≤ W.modulus) (hm2 : W.modulus ≤ 36) (hb1 : 2 ≤ W.base) (hb2 : W.base ≤ 36) :
    Calls Try.prog 81 #[.pointer (some ⟨b, 0, none⟩), .int .i64 2, .int .i64 p] w (Qt (.int .i64 (unseenF W 2 p)) w) := by
  obtain ⟨base, modulus, target, l⟩ := W
  obtain ⟨c0, c1, c2, c3, hw⟩ := h
  simp only at c0 c1 c2 c3 hw hs hm hm2 hb1 hb2
  have HL := Lib.hid hw.len
  obtain ⟨a2, hsl0, hi2⟩ := hw.sub 22 2 und_int64s cell_int64 elem_int64s p (p + 3) (by omega) hp
  rw [show p + 3 - p = 3 by omega] at hsl0 hi2
  obtain ⟨b1, off1, hia1, hcell1⟩ := hi2.at 22 2 und_int64s cell_int64 0 (by omega) .i64
  obtain ⟨b2, off2, hia2, hcell2⟩ := hi2.at 22 2 und_int64s cell_int64 (3 - 1) (by omega) .i64
  clear hw hi2
  have hsum : IntKind.i64.wrap ((p : Int) + 3) = (p : Int) + 3 := IntWalk.i64_in _ (by omega)
  have hsl := fun w' => hsl0 w' .i64 .i64
  rw [show ((p + 3 : Nat) : Int) = (p : Int) + 3 by omega] at hsl
  have HE := Lib.hid (fun w => (show Calls Try.prog 92 #[.int .i64 2] w (Same (.int .i64 3) w) from impl_elen 2 w))
  have i1 : ∀ w', (Instr.indexAt 22 (.slice a2 3 (c - p)) (.int .i64 0)).run Try.prog w' = .ok (.pointer (some ⟨b1, off1, none⟩)) w' := hia1
  have i2 : ∀ w', (Instr.indexAt 22 (.slice a2 3 (c - p)) (.int .i64 (3 - 1))).run Try.prog w' = .ok (.pointer (some ⟨b2, off2, none⟩)) w' := hia2
  simp only [Int.reduceSub] at i2
  obtain ⟨x, hx⟩ : ∃ x, x = l.getD p 0 := ⟨_, rfl⟩
  obtain ⟨y, hy⟩ : ∃ y, y = l.getD (p + (3 - 1)) 0 := ⟨_, rfl⟩
  have hxb := hs.at p (by rw [HL.out]; omega)
  have hyb := hs.at (p + (3 - 1)) (by rw [HL.out]; omega)
  rw [← hx] at hxb
  rw [← hy] at hyb
  have k1 : w.cell? ⟨b1, off1, none⟩ = some (.int .i64 x) := by rw [hcell1, hx]; simp [List.getD_eq_getElem?_getD]
  have k2 : w.cell? ⟨b2, off2, none⟩ = some (.int .i64 y) := by rw [hcell2, hy]; simp [List.getD_eq_getElem?_getD]
  obtain ⟨v, hv⟩ : ∃ v, v = x - y := ⟨_, rfl⟩
  have hvb : -72 ≤ v ∧ v ≤ 72 := by omega
  have HU := Lib.hid (show unseenF ⟨base, modulus, target, l⟩ 2 p = uns v modulus base.toNat by
    rw [unseenF, if_neg (by omega)]
    simp only
    rw [show p + elen 2 - 1 = p + (3 - 1) by simp [elen], ← hx, ← hy, hv]; simp [byOf])
  have HV := Lib.hid hv
  clear hia1 hia2 hcell1 hcell2 hx hy hv hsl0
  obtain ⟨nb, rfl⟩ := Int.eq_ofNat_of_zero_le (show 0 ≤ base by omega)
  go_enter Try.func81, Try.ntmps81
  go_wp2
  go_quiet ((go_at_call 92; exact quietS (HE.out _)))
  go_wp2
  go_quiet (fail)
  go_wp2
  rw [← HV.out]
  go_loop [11, 13] (fun o i => ∃ (k : Nat) (z : Int), k ≤ nb - 1 ∧ i = .int .i64 ((k : Int) + 1) ∧ o = .int .i64 z ∧ 0 ≤ z ∧ z ≤ 72 * k ∧ Hid (z = S k fun i => if hit (v * ((i : Int) + 1)) modulus = true then 2 * ((nb : Int) - ((i : Int) + 1)) else 0)) (fun _ i => nb - (intOf i).toNat)
  case atStart => exact ⟨0, 0, Nat.zero_le _, rfl, rfl, by omega, by omega, rfl⟩
  case round =>
    obtain ⟨k, z, hk, rfl, rfl, hz1, hz2, HZ⟩ := hrel
    by_cases hlt : k < nb - 1
    · have hpr := prod_bd hvb.1 hvb.2 (show (0 : Int) ≤ (k : Int) + 1 by omega) (show (k : Int) + 1 ≤ 36 by omega)
      have HT := Lib.hid (hit_tmod (v * ((k : Int) + 1)) modulus)
      have HN := Lib.hid (show (S (k + 1) fun i => if hit (v * ((i : Int) + 1)) modulus = true then 2 * ((nb : Int) - ((i : Int) + 1)) else 0) = z + (if hit (v * ((k : Int) + 1)) modulus = true then 2 * ((nb : Int) - ((k : Int) + 1)) else 0) by rw [HZ.out]; rfl)
      clear HZ
      go_wp2
      · have ht : ((v * ((k : Int) + 1)).tmod modulus == 0) = true := by assumption
        rw [HT.out] at ht
        exact ⟨⟨k + 1, _, by omega, by go_num, rfl, by omega, by omega, by rw [Hid, HN.out, if_pos ht]⟩, by simp [intOf]; omega⟩
      · have ht : ((v * ((k : Int) + 1)).tmod modulus == 0) = false := by assumption
        rw [HT.out] at ht
        exact ⟨⟨k + 1, _, by omega, by go_num, rfl, by omega, by omega, by rw [Hid, HN.out, if_neg (by rw [ht]; simp)]; omega⟩, by simp [intOf]; omega⟩
    · have HF := Lib.hid (show uns v modulus ((nb : Int).toNat) = z by rw [HZ.out, uns, Int.toNat_natCast, show k = nb - 1 by omega])
      clear HZ
      go_wp2
      go_ret
      exact ⟨ri (by rw [HU.out, HF.out]), _, rfl⟩
set_option maxHeartbeats 1000000 in
theorem impl_unseen_3 (b : Nat) (W : Wt) (a : Option Addr) (n c : Nat) (p : Nat) (w : World) (h : IsWt w b W a n c) (hp : p + 2 ≤ n) (hn : n ≤ 20) (hs : Small W.weights) (hm : 2 ≤ W.modulus) (hm2 : W.modulus ≤ 36) (hb1 : 2 ≤ W.base) (hb2 : W.base ≤ 36) :
    Calls Try.prog 81 #[.pointer (some ⟨b, 0, none⟩), .int .i64 3, .int .i64 p] w (Qt (.int .i64 (unseenF W 3 p)) w) := by
  obtain ⟨base, modulus, target, l⟩ := W
  obtain ⟨c0, c1, c2, c3, hw⟩ := h
  simp only at c0 c1 c2 c3 hw hs hm hm2 hb1 hb2
  have HL := Lib.hid hw.len
  obtain ⟨a2, hsl0, hi2⟩ := hw.sub 22 2 und_int64s cell_int64 elem_int64s p (p + 2) (by omega) hp
  rw [show p + 2 - p = 2 by omega] at hsl0 hi2
  obtain ⟨b1, off1, hia1, hcell1⟩ := hi2.at 22 2 und_int64s cell_int64 0 (by omega) .i64
  obtain ⟨b2, off2, hia2, hcell2⟩ := hi2.at 22 2 und_int64s cell_int64 (2 - 1) (by omega) .i64
  clear hw hi2
  have hsum : IntKind.i64.wrap ((p : Int) + 2) = (p : Int) + 2 := IntWalk.i64_in _ (by omega)
  have hsl := fun w' => hsl0 w' .i64 .i64
  rw [show ((p + 2 : Nat) : Int) = (p : Int) + 2 by omega] at hsl
  have HE := Lib.hid (fun w => (show Calls Try.prog 92 #[.int .i64 3] w (Same (.int .i64 2) w) from impl_elen 3 w))
  have i1 : ∀ w', (Instr.indexAt 22 (.slice a2 2 (c - p)) (.int .i64 0)).run Try.prog w' = .ok (.pointer (some ⟨b1, off1, none⟩)) w' := hia1
  have i2 : ∀ w', (Instr.indexAt 22 (.slice a2 2 (c - p)) (.int .i64 (2 - 1))).run Try.prog w' = .ok (.pointer (some ⟨b2, off2, none⟩)) w' := hia2
  simp only [Int.reduceSub] at i2
  obtain ⟨x, hx⟩ : ∃ x, x = l.getD p 0 := ⟨_, rfl⟩
  obtain ⟨y, hy⟩ : ∃ y, y = l.getD (p + (2 - 1)) 0 := ⟨_, rfl⟩
  have hxb := hs.at p (by rw [HL.out]; omega)
  have hyb := hs.at (p + (2 - 1)) (by rw [HL.out]; omega)
  rw [← hx] at hxb
  rw [← hy] at hyb
  have k1 : w.cell? ⟨b1, off1, none⟩ = some (.int .i64 x) := by rw [hcell1, hx]; simp [List.getD_eq_getElem?_getD]
  have k2 : w.cell? ⟨b2, off2, none⟩ = some (.int .i64 y) := by rw [hcell2, hy]; simp [List.getD_eq_getElem?_getD]
  obtain ⟨v, hv⟩ : ∃ v, v = x + y := ⟨_, rfl⟩
  have hvb : -72 ≤ v ∧ v ≤ 72 := by omega
  have HU := Lib.hid (show unseenF ⟨base, modulus, target, l⟩ 3 p = uns v modulus base.toNat by
    rw [unseenF, if_neg (by omega)]
    simp only
    rw [show p + elen 3 - 1 = p + (2 - 1) by simp [elen], ← hx, ← hy, hv]; simp [byOf])
  have HV := Lib.hid hv
  clear hia1 hia2 hcell1 hcell2 hx hy hv hsl0
  obtain ⟨nb, rfl⟩ := Int.eq_ofNat_of_zero_le (show 0 ≤ base by omega)
  go_enter Try.func81, Try.ntmps81
  go_wp2
  go_quiet ((go_at_call 92; exact quietS (HE.out _)))
  go_wp2
  go_quiet (fail)
  go_wp2
  rw [← HV.out]
  go_loop [11, 13] (fun o i => ∃ (k : Nat) (z : Int), k ≤ nb - 1 ∧ i = .int .i64 ((k : Int) + 1) ∧ o = .int .i64 z ∧ 0 ≤ z ∧ z ≤ 72 * k ∧ Hid (z = S k fun i => if hit (v * ((i : Int) + 1)) modulus = true then 2 * ((nb : Int) - ((i : Int) + 1)) else 0)) (fun _ i => nb - (intOf i).toNat)
  case atStart => exact ⟨0, 0, Nat.zero_le _, rfl, rfl, by omega, by omega, rfl⟩
  case round =>
    obtain ⟨k, z, hk, rfl, rfl, hz1, hz2, HZ⟩ := hrel
    by_cases hlt : k < nb - 1
    · have hpr := prod_bd hvb.1 hvb.2 (show (0 : Int) ≤ (k : Int) + 1 by omega) (show (k : Int) + 1 ≤ 36 by omega)
      have HT := Lib.hid (hit_tmod (v * ((k : Int) + 1)) modulus)
      have HN := Lib.hid (show (S (k + 1) fun i => if hit (v * ((i : Int) + 1)) modulus = true then 2 * ((nb : Int) - ((i : Int) + 1)) else 0) = z + (if hit (v * ((k : Int) + 1)) modulus = true then 2 * ((nb : Int) - ((k : Int) + 1)) else 0) by rw [HZ.out]; rfl)
      clear HZ
      go_wp2
      · have ht : ((v * ((k : Int) + 1)).tmod modulus == 0) = true := by assumption
        rw [HT.out] at ht
        exact ⟨⟨k + 1, _, by omega, by go_num, rfl, by omega, by omega, by rw [Hid, HN.out, if_pos ht]⟩, by simp [intOf]; omega⟩
      · have ht : ((v * ((k : Int) + 1)).tmod modulus == 0) = false := by assumption
        rw [HT.out] at ht
        exact ⟨⟨k + 1, _, by omega, by go_num, rfl, by omega, by omega, by rw [Hid, HN.out, if_neg (by rw [ht]; simp)]; omega⟩, by simp [intOf]; omega⟩
    · have HF := Lib.hid (show uns v modulus ((nb : Int).toNat) = z by rw [HZ.out, uns, Int.toNat_natCast, show k = nb - 1 by omega])
      clear HZ
      go_wp2
      go_ret
      exact ⟨ri (by rw [HU.out, HF.out]), _, rfl⟩
set_option maxHeartbeats 1000000 in
theorem impl_unseen_4 (b : Nat) (W : Wt) (a : Option Addr) (n c : Nat) (p : Nat) (w : World) (h : IsWt w b W a n c) (hp : p + 3 ≤ n) (hn : n ≤ 20) (hs : Small W.weights) (hm : 2 ≤ W.modulus) (hm2 : W.modulus ≤ 36) (hb1 : 2 ≤ W.base) (hb2 : W.base ≤ 36) :
    Calls Try.prog 81 #[.pointer (some ⟨b, 0, none⟩), .int .i64 4, .int .i64 p] w (Qt (.int .i64 (unseenF W 4 p)) w) := by
  obtain ⟨base, modulus, target, l⟩ := W
  obtain ⟨c0, c1, c2, c3, hw⟩ := h
  simp only at c0 c1 c2 c3 hw hs hm hm2 hb1 hb2
  have HL := Lib.hid hw.len
  obtain ⟨a2, hsl0, hi2⟩ := hw.sub 22 2 und_int64s cell_int64 elem_int64s p (p + 3) (by omega) hp
  rw [show p + 3 - p = 3 by omega] at hsl0 hi2
  obtain ⟨b1, off1, hia1, hcell1⟩ := hi2.at 22 2 und_int64s cell_int64 0 (by omega) .i64
  obtain ⟨b2, off2, hia2, hcell2⟩ := hi2.at 22 2 und_int64s cell_int64 (3 - 1) (by omega) .i64
  clear hw hi2
  have hsum : IntKind.i64.wrap ((p : Int) + 3) = (p : Int) + 3 := IntWalk.i64_in _ (by omega)
  have hsl := fun w' => hsl0 w' .i64 .i64
  rw [show ((p + 3 : Nat) : Int) = (p : Int) + 3 by omega] at hsl
  have HE := Lib.hid (fun w => (show Calls Try.prog 92 #[.int .i64 4] w (Same (.int .i64 3) w) from impl_elen 4 w))
  have i1 : ∀ w', (Instr.indexAt 22 (.slice a2 3 (c - p)) (.int .i64 0)).run Try.prog w' = .ok (.pointer (some ⟨b1, off1, none⟩)) w' := hia1
  have i2 : ∀ w', (Instr.indexAt 22 (.slice a2 3 (c - p)) (.int .i64 (3 - 1))).run Try.prog w' = .ok (.pointer (some ⟨b2, off2, none⟩)) w' := hia2
  simp only [Int.reduceSub] at i2
  obtain ⟨x, hx⟩ : ∃ x, x = l.getD p 0 := ⟨_, rfl⟩
  obtain ⟨y, hy⟩ : ∃ y, y = l.getD (p + (3 - 1)) 0 := ⟨_, rfl⟩
  have hxb := hs.at p (by rw [HL.out]; omega)
  have hyb := hs.at (p + (3 - 1)) (by rw [HL.out]; omega)
  rw [← hx] at hxb
  rw [← hy] at hyb
  have k1 : w.cell? ⟨b1, off1, none⟩ = some (.int .i64 x) := by rw [hcell1, hx]; simp [List.getD_eq_getElem?_getD]
  have k2 : w.cell? ⟨b2, off2, none⟩ = some (.int .i64 y) := by rw [hcell2, hy]; simp [List.getD_eq_getElem?_getD]
  obtain ⟨v, hv⟩ : ∃ v, v = x + y := ⟨_, rfl⟩
  have hvb : -72 ≤ v ∧ v ≤ 72 := by omega
  have HU := Lib.hid (show unseenF ⟨base, modulus, target, l⟩ 4 p = uns v modulus base.toNat by
    rw [unseenF, if_neg (by omega)]
    simp only
    rw [show p + elen 4 - 1 = p + (3 - 1) by simp [elen], ← hx, ← hy, hv]; simp [byOf])
  have HV := Lib.hid hv
  clear hia1 hia2 hcell1 hcell2 hx hy hv hsl0
  obtain ⟨nb, rfl⟩ := Int.eq_ofNat_of_zero_le (show 0 ≤ base by omega)
  go_enter Try.func81, Try.ntmps81
  go_wp2
  go_quiet ((go_at_call 92; exact quietS (HE.out _)))
  go_wp2
  go_quiet (fail)
  go_wp2
  rw [← HV.out]
  go_loop [11, 13] (fun o i => ∃ (k : Nat) (z : Int), k ≤ nb - 1 ∧ i = .int .i64 ((k : Int) + 1) ∧ o = .int .i64 z ∧ 0 ≤ z ∧ z ≤ 72 * k ∧ Hid (z = S k fun i => if hit (v * ((i : Int) + 1)) modulus = true then 2 * ((nb : Int) - ((i : Int) + 1)) else 0)) (fun _ i => nb - (intOf i).toNat)
  case atStart => exact ⟨0, 0, Nat.zero_le _, rfl, rfl, by omega, by omega, rfl⟩
  case round =>
    obtain ⟨k, z, hk, rfl, rfl, hz1, hz2, HZ⟩ := hrel
    by_cases hlt : k < nb - 1
    · have hpr := prod_bd hvb.1 hvb.2 (show (0 : Int) ≤ (k : Int) + 1 by omega) (show (k : Int) + 1 ≤ 36 by omega)
      have HT := Lib.hid (hit_tmod (v * ((k : Int) + 1)) modulus)
      have HN := Lib.hid (show (S (k + 1) fun i => if hit (v * ((i : Int) + 1)) modulus = true then 2 * ((nb : Int) - ((i : Int) + 1)) else 0) = z + (if hit (v * ((k : Int) + 1)) modulus = true then 2 * ((nb : Int) - ((k : Int) + 1)) else 0) by rw [HZ.out]; rfl)
      clear HZ
      go_wp2
      · have ht : ((v * ((k : Int) + 1)).tmod modulus == 0) = true := by assumption
        rw [HT.out] at ht
        exact ⟨⟨k + 1, _, by omega, by go_num, rfl, by omega, by omega, by rw [Hid, HN.out, if_pos ht]⟩, by simp [intOf]; omega⟩
      · have ht : ((v * ((k : Int) + 1)).tmod modulus == 0) = false := by assumption
        rw [HT.out] at ht
        exact ⟨⟨k + 1, _, by omega, by go_num, rfl, by omega, by omega, by rw [Hid, HN.out, if_neg (by rw [ht]; simp)]; omega⟩, by simp [intOf]; omega⟩
    · have HF := Lib.hid (show uns v modulus ((nb : Int).toNat) = z by rw [HZ.out, uns, Int.toNat_natCast, show k = nb - 1 by omega])
      clear HZ
      go_wp2
      go_ret
      exact ⟨ri (by rw [HU.out, HF.out]), _, rfl⟩

set_option maxHeartbeats 1000000 in
theorem impl_unseen_5 (b : Nat) (W : Wt) (a : Option Addr) (n c : Nat) (p : Nat) (w : World) (h : IsWt w b W a n c) (hp : p + 2 ≤ n) (hn : n ≤ 20) (hs : Small W.weights) (hm : 2 ≤ W.modulus) (hm2 : W.modulus ≤ 36) (hb1 : 2 ≤ W.base) (hb2 : W.base ≤ 36) :
    Calls Try.prog 81 #[.pointer (some ⟨b, 0, none⟩), .int .i64 5, .int .i64 p] w (Qt (.int .i64 (unseenF W 5 p)) w) := by
  obtain ⟨base, modulus, target, l⟩ := W
  obtain ⟨c0, c1, c2, c3, hw⟩ := h
  simp only at c0 c1 c2 c3 hw hs hm hm2 hb1 hb2
  have HL := Lib.hid hw.len
  obtain ⟨a2, hsl0, hi2⟩ := hw.sub 22 2 und_int64s cell_int64 elem_int64s p (p + 2) (by omega) hp
  rw [show p + 2 - p = 2 by omega] at hsl0 hi2
  obtain ⟨b1, off1, hia1, hcell1⟩ := hi2.at 22 2 und_int64s cell_int64 0 (by omega) .i64
  obtain ⟨b2, off2, hia2, hcell2⟩ := hi2.at 22 2 und_int64s cell_int64 (2 - 1) (by omega) .i64
  clear hw hi2
  have hsum : IntKind.i64.wrap ((p : Int) + 2) = (p : Int) + 2 := IntWalk.i64_in _ (by omega)
  have hsl := fun w' => hsl0 w' .i64 .i64
  rw [show ((p + 2 : Nat) : Int) = (p : Int) + 2 by omega] at hsl
  have HE := Lib.hid (fun w => (show Calls Try.prog 92 #[.int .i64 5] w (Same (.int .i64 2) w) from impl_elen 5 w))
  have i1 : ∀ w', (Instr.indexAt 22 (.slice a2 2 (c - p)) (.int .i64 0)).run Try.prog w' = .ok (.pointer (some ⟨b1, off1, none⟩)) w' := hia1
  have i2 : ∀ w', (Instr.indexAt 22 (.slice a2 2 (c - p)) (.int .i64 1)).run Try.prog w' = .ok (.pointer (some ⟨b2, off2, none⟩)) w' := hia2
  obtain ⟨x, hx⟩ : ∃ x, x = l.getD p 0 := ⟨_, rfl⟩
  obtain ⟨y, hy⟩ : ∃ y, y = l.getD (p + 1) 0 := ⟨_, rfl⟩
  have hxb := hs.at p (by rw [HL.out]; omega)
  have hyb := hs.at (p + 1) (by rw [HL.out]; omega)
  rw [← hx] at hxb
  rw [← hy] at hyb
  have k1 : w.cell? ⟨b1, off1, none⟩ = some (.int .i64 x) := by rw [hcell1, hx]; simp [List.getD_eq_getElem?_getD]
  have k2 : w.cell? ⟨b2, off2, none⟩ = some (.int .i64 y) := by rw [hcell2, hy]; simp [List.getD_eq_getElem?_getD]
  have HU := Lib.hid (show unseenF ⟨base, modulus, target, l⟩ 5 p = phon x y modulus by rw [unseenF, if_pos rfl, ← hx, ← hy])
  clear hia1 hia2 hcell1 hcell2 hx hy hsl0
  go_enter Try.func81, Try.ntmps81
  go_wp2
  go_quiet ((go_at_call 92; exact quietS (HE.out _)))
  go_wp2
  go_quiet (fail)
  go_wp2
  go_loop [11, 12] (fun o i => ∃ (k : Nat) (z : Int), k ≤ 8 ∧ i = .int .i64 ((k : Int) + 2) ∧ o = .int .i64 z ∧ 0 ≤ z ∧ z ≤ 2 * k ∧ Hid (z = S k fun i => if hit (x * ((i : Int) + 2) - x - y * ((i : Int) + 2)) modulus = true then 2 else 0)) (fun _ i => 20 - (intOf i).toNat)
  case atStart => exact ⟨0, 0, Nat.zero_le _, rfl, rfl, by omega, by omega, rfl⟩
  case round =>
    obtain ⟨k, z, hk, rfl, rfl, hz1, hz2, HZ⟩ := hrel
    by_cases hlt : k < 8
    · have hpr := mul_bd hxb.1 hxb.2 (show (0 : Int) ≤ (k : Int) + 2 by omega) (show (k : Int) + 2 ≤ 36 by omega)
      have hpr' := mul_bd hyb.1 hyb.2 (show (0 : Int) ≤ (k : Int) + 2 by omega) (show (k : Int) + 2 ≤ 36 by omega)
      have HT := Lib.hid (hit_tmod (x * ((k : Int) + 2) - x - y * ((k : Int) + 2)) modulus)
      have HN := Lib.hid (show (S (k + 1) fun i => if hit (x * ((i : Int) + 2) - x - y * ((i : Int) + 2)) modulus = true then 2 else 0) = z + (if hit (x * ((k : Int) + 2) - x - y * ((k : Int) + 2)) modulus = true then 2 else 0) by rw [HZ.out]; rfl)
      clear HZ
      go_wp2
      · have ht : ((x * ((k : Int) + 2) - x - y * ((k : Int) + 2)).tmod modulus == 0) = true := by assumption
        rw [HT.out] at ht
        exact ⟨⟨k + 1, _, by omega, by go_num, rfl, by omega, by omega, by rw [Hid, HN.out, if_pos ht]⟩, by simp [intOf]; omega⟩
      · have ht : ((x * ((k : Int) + 2) - x - y * ((k : Int) + 2)).tmod modulus == 0) = false := by assumption
        rw [HT.out] at ht
        exact ⟨⟨k + 1, _, by omega, by go_num, rfl, by omega, by omega, by rw [Hid, HN.out, if_neg (by rw [ht]; simp)]; omega⟩, by simp [intOf]; omega⟩
    · have HF := Lib.hid (show phon x y modulus = z by rw [HZ.out, phon, show k = 8 by omega])
      clear HZ
      go_wp2
      go_ret
      exact ⟨ri (by rw [HU.out, HF.out]), _, rfl⟩

theorem impl_unseen (b : Nat) (W : Wt) (a : Option Addr) (n c : Nat) (k : Int) (p : Nat) (w : World) (h : IsWt w b W a n c) (hk0 : 0 ≤ k) (hk5 : k ≤ 5) (hp : p + elen k ≤ n) (hn : n ≤ 20) (hs : Small W.weights) (hm : 2 ≤ W.modulus) (hm2 : W.modulus ≤ 36) (hb1 : 2 ≤ W.base) (hb2 : W.base ≤ 36) :
    Calls Try.prog 81 #[.pointer (some ⟨b, 0, none⟩), .int .i64 k, .int .i64 p] w (Qt (.int .i64 (unseenF W k p)) w) := by
  have hc : k = 0 ∨ k = 1 ∨ k = 2 ∨ k = 3 ∨ k = 4 ∨ k = 5 := by omega
  rcases hc with rfl | rfl | rfl | rfl | rfl | rfl
  · exact impl_unseen_0 b W a n c p w h hp hn hs hm hm2 hb1 hb2
  · exact impl_unseen_1 b W a n c p w h hp hn hs hm hm2 hb1 hb2
  · exact impl_unseen_2 b W a n c p w h hp hn hs hm hm2 hb1 hb2
  · exact impl_unseen_3 b W a n c p w h hp hn hs hm hm2 hb1 hb2
  · exact impl_unseen_4 b W a n c p w h hp hn hs hm hm2 hb1 hb2
  · exact impl_unseen_5 b W a n c p w h hp hn hs hm hm2 hb1 hb2
end Go.Proofs.Ytlpbflmgkopklaa
