/- Walks: a function is called with all lists of digits, one after another. -/
import Derived.Test.YtaiieodllhoelaaTup
import Derived.Test.YtaiieodllhoelaaW1
import Derived.Deep.LoopGhost
namespace Go.Proofs.Ytaiieodllhoelaa
set_option maxRecDepth 100000
open Go.RowKit

/-- block g apart, nothing that was there has changed -/
structure Touch (g : Nat) (w w' : World) : Prop where
  os : w'.os = w.os
  tape : w'.tape = w.tape
  output : w'.output = w.output
  size : w.heap.size ≤ w'.heap.size
  block : ∀ k, k < w.heap.size → k ≠ g → w'.heap[k]? = w.heap[k]?
theorem Touch.set (g : Nat) (w : World) (k : Nat) (u : Value) : Touch g w (w.setCell ⟨g, k, none⟩ u) :=
  ⟨rfl, rfl, rfl, by simp [World.setCell], fun i _ hi => Below.heap_setCell _ _ _ _ hi⟩
theorem Own.same {w w' : World} {B : Nat} {E : TypeId} {g n c : Nat} {vs : List Value} (h : Own w B E (some ⟨g, 0, none⟩) n c vs) (hb : w'.heap[g]? = w.heap[g]?) : Own w' B E (some ⟨g, 0, none⟩) n c vs := by
  refine ⟨h.1, ?_⟩
  rcases h.2 with h2 | ⟨g', cap, cur, hv, hB, hg, r⟩
  · exact .inl h2
  · simp only [Value.slice.injEq, Option.some.injEq, Addr.mk.injEq, and_true, true_and] at hv
    obtain ⟨rfl, rfl⟩ := hv
    exact .inr ⟨g, c, cur, rfl, hB, by rw [hb]; exact hg, r⟩

def Tuples (m n g : Nat) (f : Nat) (caps : Array Value) (Inv : Nat → World → Prop) (Fin : World → Prop) : Prop :=
  ∀ t wr, t < m ^ n → Inv t wr → Own wr g 2 (some ⟨g, 0, none⟩) n n (I (tupAt m n t)) →
    Calls Try.prog f (#[.slice (some ⟨g, 0, none⟩) n n] ++ caps) wr fun e w' => (e = .returned (.bool true) ∧ Inv (t + 1) w' ∧ w'.heap[g]? = wr.heap[g]?) ∨ (e = .returned (.bool false) ∧ Fin w')

theorem tup_set (l : List Int) (j n : Nat) (x : Int) (hl : l.length = n) (hj : j < n) : (l.take (j + 1) ++ List.replicate (n - (j + 1)) 0).set j x = l.take j ++ x :: List.replicate (n - (j + 1)) 0 := by
  have : l.take (j + 1) = l.take j ++ [l.getD j 0] := take_snoc l 0 j (by omega)
  rw [this, List.append_assoc, List.set_append_right _ _ (by simp; omega)]
  simp [List.length_take, show min j l.length = j by omega]

theorem tup_get (l : List Int) (j n : Nat) (hl : l.length = n) (hj : j < n) : (l.take (j + 1) ++ List.replicate (n - (j + 1)) 0).getD j 0 = l.getD j 0 := by
  rw [List.getD_eq_getElem?_getD, List.getElem?_append_left (by simp; omega), List.getElem?_take, if_pos (by omega), List.getD_eq_getElem?_getD]
theorem tup_zero (l : List Int) (j n : Nat) (hj : j < n) : l.take j ++ (0 : Int) :: List.replicate (n - (j + 1)) 0 = l.take j ++ List.replicate (n - j) 0 := by
  rw [show n - j = (n - (j + 1)) + 1 by omega, List.replicate_succ]
theorem tup_drop (l : List Int) (j : Nat) (hj : j < l.length) : l.drop j = l.getD j 0 :: l.drop (j + 1) := by
  rw [List.drop_eq_getElem_cons hj, List.getD_eq_getElem?_getD, List.getElem?_eq_getElem hj]; rfl
theorem tup_next {m n t j : Nat} (hm : 0 < m) (ht : t < m ^ n) (hj : j < n) (hq : ∀ y ∈ (tupAt m n t).drop (j + 1), y = (m : Int) - 1) (hd : (tupAt m n t).getD j 0 ≠ (m : Int) - 1) :
    t + 1 < m ^ n ∧ tupAt m n (t + 1) = (tupAt m n t).take j ++ ((tupAt m n t).getD j 0 + 1) :: List.replicate (n - (j + 1)) 0 := by
  have hl := tupAt_len m n t
  have hb := tupAt_bd hm ht _ (getD_mem (tupAt m n t) 0 j (by omega))
  have h1 := succT_step (m := m) ((tupAt m n t).take j) (x := (tupAt m n t).getD j 0) hq (by omega)
  rw [← tup_drop _ j (by omega), List.take_append_drop, succT_at hm ht] at h1
  split at h1
  · rename_i h
    refine ⟨h, ?_⟩
    simp only [Option.some.injEq] at h1
    rw [h1, List.length_drop, hl]
  · cases h1
theorem tup_end {m n t : Nat} (hm : 0 < m) (ht : t < m ^ n) (hq : ∀ y ∈ tupAt m n t, y = (m : Int) - 1) : t + 1 = m ^ n := by
  have h1 := succT_full hq
  rw [succT_at hm ht] at h1
  split at h1
  · cases h1
  · omega

set_option maxHeartbeats 2000000 in
theorem impl_tuples (m n : Nat) (f : Nat) (caps : Array Value) (Inv : Nat → World → Prop) (Fin : World → Prop) (w : World) (hm : 1 ≤ m) (hm2 : m ≤ 1048576) (hn : n ≤ 1048576)
    (he : ∀ args w', (callFunc f args).run Try.prog w' = .ok (.enter f args) w')
    (h0 : ∀ wr, Touch w.heap.size w wr → Inv 0 wr) (hst : ∀ t wr wr', Inv t wr → Touch w.heap.size wr wr' → Inv t wr')
    (hs : Tuples m n w.heap.size f caps Inv Fin) :
    Calls Try.prog 106 #[.int .i64 m, .int .i64 n, .func (.func f) #[] caps] w fun e w' => e = .returned (.tuple #[]) ∧ (Inv (m ^ n) w' ∨ Fin w') := by
  have HS := Lib.hid hs
  have HST := Lib.hid hst
  have H0 := Lib.hid h0
  obtain ⟨g, hg⟩ : ∃ g, g = w.heap.size := ⟨_, rfl⟩
  clear hs hst h0
  go_enter Try.func106, Try.ntmps106
  go_wp2_with (at_make; refine law_make _ rfl _ _ 25 rfl 2 (.int .i64 0) 8 und_int64s info_int64 rfl _ _ n rfl rfl (by omega) (by unfold maxLen; omega) ?_; intro w1 hown hx hsz)
  have HI1 := Lib.hid (H0.out w1 ⟨hx.os, hx.tape, hx.output, hx.size, fun k hk _ => hx.block k hk⟩)
  rw [← hg] at HST HS hown
  rw [← hg]
  have HO1 := Lib.hid hown
  clear hown hx hsz hg H0
  go_wp2
  go_loopg [7] (m ^ n) (fun gk _ wr => ∃ t, t < m ^ n ∧ gk = m ^ n - t ∧ Inv t wr ∧ Own wr g 2 (some ⟨g, 0, none⟩) n n (I (tupAt m n t)))
  case atStart =>
    exact ⟨0, Nat.pow_pos (by omega), by omega, HI1.out, by rw [tupAt_zero, I_replicate]; exact HO1.out⟩
  case round =>
    obtain ⟨t, ht, rfl, hi, ho⟩ := hrel
    have HC := Lib.hid (HS.out t _ ht hi ho)
    have HO := Lib.hid ho
    have HT := Lib.hid ht
    clear hi ho HI1 HO1 ht
    go_wp2_with (refine HC.out.mono ?_; rintro e w2 (⟨rfl, hi2, hb2⟩ | ⟨rfl, hf2⟩))
    · have HI2 := Lib.hid hi2
      have HO2 := Lib.hid (HO.out.same hb2)
      clear hi2 hb2
      go_wp2
      go_loopg [7] n (fun gk s7 wr => ∃ (j : Nat) (x : Int), j ≤ n ∧ j = gk ∧ s7 = .int .i64 x ∧ Hid (x = (j : Int) - 1) ∧ Hid (Own wr g 2 (some ⟨g, 0, none⟩) n n (I ((tupAt m n t).take j ++ List.replicate (n - j) 0))) ∧ Hid (∀ y ∈ (tupAt m n t).drop j, y = (m : Int) - 1) ∧ Hid (Inv (t + 1) wr))
      case atStart =>
        refine ⟨n, (n : Int) - 1, Nat.le_refl _, rfl, rfl, rfl, ?_, ?_, HI2⟩
        · rw [Hid, take_full (by rw [tupAt_len]; exact Nat.le_refl _), Nat.sub_self]; simpa using HO2.out
        · rw [Hid, List.drop_of_length_le (by rw [tupAt_len]; exact Nat.le_refl _)]; intro y hy; cases hy
      case round =>
        rename_i wr3
        obtain ⟨j, x, hj, rfl, rfl, HX, HO3, HQ, HI3⟩ := hrel
        clear HO2 HI2 HO HC
        cases j with
        | zero =>
          obtain rfl : x = -1 := by rw [HX.out]; rfl
          have HE := Lib.hid (tup_end (by omega) HT.out (by simpa using HQ.out))
          go_wp2
          exact bodyPost_ret (v := .tuple #[]) (by simp [results, Try.results106, go_sem]) rfl ⟨rfl, .inl (by rw [← HE.out]; exact HI3.out)⟩
        | succ j =>
          obtain rfl : x = (j : Int) := by rw [HX.out]; omega
          obtain ⟨hia, hcell, hfr⟩ := HO3.out.at 25 und_int64s cell_int64 j (by omega) .i64
          rw [I_getD _ _ (by simp [tupAt_len]; omega), tup_get _ j n (tupAt_len m n t) (by omega)] at hcell
          have hdb := tupAt_bd (by omega) HT.out _ (getD_mem (tupAt m n t) 0 j (by rw [tupAt_len]; omega))
          have HS2 := Lib.hid (fun x => tup_set (tupAt m n t) j n x (tupAt_len m n t) (by omega))
          by_cases hd : (tupAt m n t).getD j 0 = (m : Int) - 1
          · have HQ2 := Lib.hid (show ∀ y ∈ (tupAt m n t).drop j, y = (m : Int) - 1 by
              rw [tup_drop _ j (by rw [tupAt_len]; omega), hd]; intro y hy; rcases List.mem_cons.1 hy with rfl | hy; rfl; exact HQ.out y hy)
            rw [hd] at hcell hdb
            clear hd
            go_wp2
            go_roundg j
            case measure => omega
            case rel =>
              refine ⟨j, (j : Int) - 1, by omega, rfl, rfl, rfl, ?_, HQ2, HST.out _ _ _ HI3.out (Touch.set g _ _ _)⟩
              have := HO3.out.set j (.int .i64 0)
              rw [I_set, HS2.out, tup_zero _ j n (by omega)] at this
              exact this
          · obtain ⟨ht1, ht2⟩ := tup_next (by omega) HT.out (by omega) HQ.out hd
            have HT2 := Lib.hid ht2
            have HTN := Lib.hid ht1
            generalize (tupAt m n t).getD j 0 = d at *
            have hb : (d == (m : Int) - 1) = false := by simpa using hd
            clear hd ht2 ht1
            go_wp2
            go_roundg (m ^ n - (t + 1))
            case measure => have := HTN.out; omega
            case rel =>
              refine ⟨t + 1, HTN.out, rfl, HST.out _ _ _ HI3.out (Touch.set g _ _ _), ?_⟩
              have := HO3.out.set j (.int .i64 (d + 1))
              rw [I_set, HS2.out, ← HT2.out] at this
              exact this
    · go_wp2
      exact bodyPost_ret (v := .tuple #[]) (by simp [results, Try.results106, go_sem]) rfl ⟨rfl, .inr hf2⟩
end Go.Proofs.Ytaiieodllhoelaa
