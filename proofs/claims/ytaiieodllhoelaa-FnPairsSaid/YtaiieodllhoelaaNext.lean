/- Walks: the reference's way through all lists of digits. -/
import Derived.Test.YtaiieodllhoelaaDraw
namespace Go.Proofs.Ytaiieodllhoelaa
set_option maxRecDepth 100000
open Go.RowKit

set_option maxHeartbeats 400000 in
theorem spec_few (n k : Nat) (w : World) (hn : 1 ≤ n) (hn2 : n ≤ 1000) (hk : k ≤ 1000) :
    Calls Try.prog 110 #[.int .i64 n, .int .i64 k] w (Same (.bool (decide ((n : Int) ^ k ≤ 20000))) w) := by
  have HP := Lib.hid (fun (p : Nat) (h : p < k) => show n ^ (k - p) ≤ n ^ k from Nat.pow_le_pow_right hn (by omega))
  have HE := Lib.hid (show ((n : Int) ^ k ≤ 20000) ↔ n ^ k ≤ 20000 by rw [← Int.natCast_pow]; omega)
  go_enter Try.func110, Try.ntmps110
  go_wp2
  go_loopw [1, 5] (fun s1 s5 wr => ∃ (p x : Nat), p ≤ k ∧ s1 = .int .i64 p ∧ s5 = .int .i64 x ∧ Hid (x = n ^ (k - p)) ∧ 1 ≤ x ∧ x ≤ 20000 ∧ wr = w) (fun s1 _ _ => (intOf s1).toNat)
  case atStart => exact ⟨k, 1, Nat.le_refl _, rfl, rfl, by rw [Hid, Nat.sub_self]; rfl, by omega, by omega, rfl⟩
  case round =>
    obtain ⟨p, x, hp, rfl, rfl, HX, hx1, hx2, rfl⟩ := hrel
    cases p with
    | zero =>
      have hr : decide ((n : Int) ^ k ≤ 20000) = true := by
        rw [decide_eq_true_eq, HE.out]; have := HX.out; rw [Nat.sub_zero] at this; omega
      have HR := Lib.hid hr
      clear hr
      go_wp2
      go_ret
      exact ⟨rb HR.out.symm, rfl⟩
    | succ p =>
      have hm : x * n ≤ 20000 * 1000 := Nat.mul_le_mul hx2 hn2
      have hm1 : 1 ≤ x * n := Nat.mul_pos hx1 hn
      have HN := Lib.hid (show x * n = n ^ (k - p) by rw [HX.out, ← Nat.pow_succ]; congr 1; omega)
      have HC := Lib.hid (show ((x : Int) * n) = ((x * n : Nat) : Int) by rw [Int.natCast_mul])
      have HPp := Lib.hid (HP.out p (by omega))
      rw [← HN.out] at HPp
      generalize x * n = y at *
      have hw : IntKind.i64.wrap ((x : Int) * n) = y := by rw [HC.out]; exact IntWalk.i64_in _ (by omega)
      by_cases hy : y ≤ 20000
      · go_wp2
        exact ⟨⟨p, y, by omega, by go_num, rfl, HN, by omega, hy, by first | trivial | rfl⟩, by simp [intOf]⟩
      · have hr : decide ((n : Int) ^ k ≤ 20000) = false := by
          rw [decide_eq_false_iff_not, HE.out]; have := HPp.out; omega
        have HR := Lib.hid hr
        clear hr
        go_wp2
        go_ret
        exact ⟨rb HR.out.symm, rfl⟩

/-- the next list stands in the row; whether there is one -/
def RetNext9 (m n t B g c : Nat) (w : World) (e : Ending) (w' : World) : Prop :=
  e = .returned (.bool (decide (t + 1 < m ^ n))) ∧ Touch g w w' ∧ Own w' B 2 (some ⟨g, 0, none⟩) n c (I (tupAt m n ((t + 1) % m ^ n)))
set_option maxHeartbeats 1000000 in
theorem spec_nextT (m n t B g c : Nat) (w : World) (hm : 1 ≤ m) (hm2 : m ≤ 1048576) (hn : n ≤ 1048576) (ht : t < m ^ n) (ho : Own w B 2 (some ⟨g, 0, none⟩) n c (I (tupAt m n t))) :
    Calls Try.prog 111 #[.slice (some ⟨g, 0, none⟩) n c, .int .i64 m] w (RetNext9 m n t B g c w) := by
  have HT := Lib.hid ht
  have HO := Lib.hid ho
  clear ht ho
  go_enter Try.func111, Try.ntmps111
  go_wp2
  go_loopg [5] n (fun gk s5 wr => ∃ (j : Nat) (x : Int), j ≤ n ∧ j = gk ∧ s5 = .int .i64 x ∧ Hid (x = (j : Int) - 1) ∧ Hid (Own wr B 2 (some ⟨g, 0, none⟩) n c (I ((tupAt m n t).take j ++ List.replicate (n - j) 0))) ∧ Hid (∀ y ∈ (tupAt m n t).drop j, y = (m : Int) - 1) ∧ Hid (Touch g w wr))
  case atStart =>
    refine ⟨n, (n : Int) - 1, Nat.le_refl _, rfl, rfl, rfl, ?_, ?_, Touch.refl _ _⟩
    · rw [Hid, take_full (by rw [tupAt_len]; exact Nat.le_refl _), Nat.sub_self]; simpa using HO.out
    · rw [Hid, List.drop_of_length_le (by rw [tupAt_len]; exact Nat.le_refl _)]; intro y hy; cases hy
  case round =>
    obtain ⟨j, x, hj, rfl, rfl, HX, HO3, HQ, HI3⟩ := hrel
    clear HO
    cases j with
    | zero =>
      obtain rfl : x = -1 := by rw [HX.out]; rfl
      have HE := Lib.hid (tup_end (by omega) HT.out (by simpa using HQ.out))
      go_wp2
      go_ret
      refine ⟨rb (by rw [HE.out]; simp), HI3.out, ?_⟩
      rw [HE.out, Nat.mod_self, tupAt_zero]
      have := HO3.out
      simpa using this
    | succ j =>
      obtain rfl : x = (j : Int) := by rw [HX.out]; omega
      obtain ⟨hia, hcell, hfr⟩ := HO3.out.at 25 und_int64s cell_int64 j (by omega) .i64
      rw [I_getD _ _ (by simp [tupAt_len]; omega), tup_get _ j n (tupAt_len m n t) (by omega)] at hcell
      have hdb := tupAt_bd (by omega) HT.out _ (getD_mem (tupAt m n t) 0 j (by rw [tupAt_len]; omega))
      have HS2 := Lib.hid (fun x => tup_set (tupAt m n t) j n x (tupAt_len m n t) (by omega))
      by_cases hd : (tupAt m n t).getD j 0 = (m : Int) - 1
      · have HQ2 := Lib.hid (show ∀ y ∈ (tupAt m n t).drop j, y = (m : Int) - 1 by
          rw [tup_drop _ j (by rw [tupAt_len]; omega), hd]; intro y hy; rcases List.mem_cons.1 hy with rfl | hy; rfl; exact HQ.out y hy)
        rw [hd] at hcell hdb
        clear hd
        go_wp2
        go_roundg j
        case measure => omega
        case rel =>
          refine ⟨j, (j : Int) - 1, by omega, rfl, rfl, rfl, ?_, HQ2, (HI3.out.trans (Touch.set g _ _ _)).trans (Touch.set g _ _ _)⟩
          have := (HO3.out.set j (.int .i64 ((m : Int) - 1 + 1))).set j (.int .i64 0)
          rw [I_set, I_set, List.set_set, HS2.out, tup_zero _ j n (by omega)] at this
          have e : ((m : Int) - 1 + 1) = m := by omega
          rw [e] at this
          exact this
      · obtain ⟨ht1, ht2⟩ := tup_next (by omega) HT.out (by omega) HQ.out hd
        have HT2 := Lib.hid ht2
        have HTN := Lib.hid ht1
        generalize (tupAt m n t).getD j 0 = d at *
        have hb : d + 1 < (m : Int) := by omega
        clear hd ht2 ht1
        go_wp2
        go_ret
        refine ⟨rb (by simpa using HTN.out), HI3.out.trans (Touch.set g _ _ _), ?_⟩
        rw [Nat.mod_eq_of_lt HTN.out]
        have := HO3.out.set j (.int .i64 (d + 1))
        rw [I_set, HS2.out, ← HT2.out] at this
        exact this
end Go.Proofs.Ytaiieodllhoelaa
