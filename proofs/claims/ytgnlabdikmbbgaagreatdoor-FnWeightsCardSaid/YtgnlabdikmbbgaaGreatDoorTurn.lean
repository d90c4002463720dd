/- Walks: a list turned round, in the program and in the reference. -/
import Derived.Test.YtgnlabdikmbbgaaGreatDoorMark
import Derived.RegionTactic
import Derived.ChangeAlike
namespace Go.Proofs.YtgnlabdikmbbgaaGreatDoor
set_option maxRecDepth 100000
open Go.RowKit

/-- the first k and the last k numbers have changed places -/
def revTo (l : List Int) (k : Nat) : List Int := (List.range l.length).map fun i => if i < k ∨ l.length ≤ i + k then gi l (l.length - 1 - i) else gi l i
theorem revTo_len (l : List Int) (k : Nat) : (revTo l k).length = l.length := by simp [revTo]
theorem revTo_gi {l : List Int} {k i : Nat} (h : i < l.length) : gi (revTo l k) i = if i < k ∨ l.length ≤ i + k then gi l (l.length - 1 - i) else gi l i := by
  rw [gi_get (by rw [revTo_len]; exact h)]; simp [revTo]
theorem revTo_zero (l : List Int) : revTo l 0 = l := by
  apply List.ext_getElem
  · exact revTo_len l 0
  · intro i h1 h2
    rw [← gi_get h1, ← gi_get h2, revTo_gi h2, if_neg (by omega)]
theorem revTo_full {l : List Int} {k j : Nat} (h : k + j + 1 = l.length) (hk : ¬ k < j) (hkj : k ≤ j + 1) : revTo l k = l.reverse := by
  apply List.ext_getElem
  · rw [revTo_len, List.length_reverse]
  · intro i h1 h2
    rw [revTo_len] at h1
    have h3 : (l.reverse)[i] = gi l (l.length - 1 - i) := by rw [gi_get (by omega), List.getElem_reverse]
    rw [← gi_get (by rw [revTo_len]; exact h1), h3, revTo_gi h1]
    split
    · rfl
    · rw [show l.length - 1 - i = i by omega]
theorem revTo_step {l : List Int} {k j : Nat} (h : k + j + 1 = l.length) (hk : k < j) : ((revTo l k).set k (gi l j)).set j (gi l k) = revTo l (k + 1) := by
  apply List.ext_getElem
  · simp [revTo_len]
  · intro i h1 h2
    rw [revTo_len] at h2
    rw [← gi_get (l := revTo l (k + 1)) (by rw [revTo_len]; exact h2), revTo_gi h2, List.getElem_set, List.getElem_set]
    have h3 : (revTo l k)[i]'(by rw [revTo_len]; exact h2) = gi (revTo l k) i := (gi_get _).symm
    rw [h3, revTo_gi h2]
    by_cases e1 : j = i
    · subst e1; rw [if_pos rfl, if_pos (by omega)]; congr 1; omega
    · rw [if_neg e1]
      by_cases e2 : k = i
      · subst e2; rw [if_pos rfl, if_pos (by omega)]; congr 1; omega
      · rw [if_neg e2]
        by_cases e3 : i < k ∨ l.length ≤ i + k
        · rw [if_pos e3, if_pos (by omega)]
        · rw [if_neg e3, if_neg (by omega)]

theorem Mk.drew {B : Nat} {a : Option Addr} {w w' : World} (h : Mk B a w w') : Mk B a w w'.drew := ⟨h.below.drew, h.size, h.block⟩
def RevPost (B : Nat) (a : Option Addr) (n c : Nat) (l : List Int) (w : World) (e : Ending) (w' : World) : Prop := e = .returned (.tuple #[]) ∧ Mk B a w w' ∧ Own w' B 2 a n c (I l.reverse)
set_option maxHeartbeats 1000000 in
theorem reverse_ints (a : Option Addr) (n c : Nat) (l : List Int) (B : Nat) (w : World) (ho : Own w B 2 a n c (I l)) (_hB : B ≤ w.heap.size) (hn : n ≤ 4194304) :
    Calls Tryz.prog 40 #[.slice a n c] w (RevPost B a n c l w) := by
  have HL := Lib.hid ((I_len l).symm.trans ho.len)
  have HO := Lib.hid ho
  rcases Nat.eq_zero_or_pos n with h0 | h0
  · subst h0
    have HE := Lib.hid (List.eq_nil_of_length_eq_zero HL.out)
    clear ho
    go_enter Tryz.func40, Tryz.ntmps40
    go_wp2
    go_loop [2, 3] (fun i j => i = .int .i64 0 ∧ j = .int .i64 (-1)) (fun _ _ => 0)
    case atStart => exact ⟨rfl, rfl⟩
    case round =>
    obtain ⟨rfl, rfl⟩ := hrel
    go_wp2
    refine bodyPost_ret (v := .tuple #[]) (by simp [results, Tryz.results40, go_sem]) rfl ?_
    exact ⟨rfl, Mk.refl _ _ _, by rw [HE.out]; have := HO.out; rw [HE.out] at this; exact this⟩
  obtain ⟨g, rfl⟩ := ho.some h0
  have hg := ho.lt
  clear ho
  go_enter Tryz.func40, Tryz.ntmps40
  go_wp2
  go_loopw [2, 3] (fun i j wr => ∃ (k m : Nat), i = .int .i64 k ∧ j = .int .i64 m ∧ k + m + 1 = n ∧ k ≤ m + 1 ∧ Mk B (some ⟨g, 0, none⟩) w wr ∧ Own wr B 2 (some ⟨g, 0, none⟩) n c (I (revTo l k))) (fun i _ _ => n - (intOf i).toNat)
  case atStart => exact ⟨0, n - 1, rfl, (by congr 1; omega), by omega, by omega, Mk.refl _ _ _, by rw [revTo_zero]; exact HO.out⟩
  case round =>
    obtain ⟨k, m, rfl, rfl, hkm, hk1, hm, hor⟩ := hrel
    have HM := Lib.hid hm
    have HR := Lib.hid hor
    by_cases hlt : k < m
    · obtain ⟨i1, c1, f1⟩ := hor.at (P := Tryz.prog) 24 und_int64s cell_int64 k (by omega) .i64
      obtain ⟨i2, c2, f2⟩ := hor.at (P := Tryz.prog) 24 und_int64s cell_int64 m (by omega) .i64
      have v1 : (I (revTo l k)).getD k undef = .int .i64 (gi l k) := by rw [I_getD _ _ (by rw [revTo_len, HL.out]; omega), show (revTo l k).getD k 0 = gi (revTo l k) k from rfl, revTo_gi (by rw [HL.out]; omega), if_neg (by rw [HL.out]; omega)]
      have v2 : (I (revTo l k)).getD m undef = .int .i64 (gi l m) := by rw [I_getD _ _ (by rw [revTo_len, HL.out]; omega), show (revTo l k).getD m 0 = gi (revTo l k) m from rfl, revTo_gi (by rw [HL.out]; omega), if_neg (by rw [HL.out]; omega)]
      rw [v1] at c1
      rw [v2] at c2
      have HS := Lib.hid (revTo_step (l := l) (k := k) (j := m) (by rw [HL.out]; omega) hlt)
      clear hm hor v1 v2
      have hkmn : k ≠ m := by omega
      have hmkn : m ≠ k := by omega
      go_wp2_with fail
      go_region
      go_wp2
      refine ⟨⟨k + 1, m - 1, by go_num, (by congr 1; omega), by omega, by omega, ?_, ?_⟩, by simp [intOf]; omega⟩
      · exact (HM.out.trans ((Mk.set wr k _ hg.1).trans (Mk.set _ m _ hg.1))).drew
      · have h9 := ((HR.out.set k (.int .i64 (gi l m))).set m (.int .i64 (gi l k))).drew
        rw [I_set, I_set, HS.out] at h9
        exact h9
    · go_wp2
      refine bodyPost_ret (v := .tuple #[]) (by simp [results, Tryz.results40, go_sem]) rfl ?_
      refine ⟨rfl, HM.out, ?_⟩
      rw [← revTo_full (l := l) (k := k) (j := m) (by rw [HL.out]; exact hkm) hlt hk1]
      exact HR.out
end Go.Proofs.YtgnlabdikmbbgaaGreatDoor
