/- Walks: the laws' own helpers on lists of numbers. -/
import Derived.Test.YtbcfbkhbangeoaaW1
namespace Go.Proofs.Ytbcfbkhbangeoaa
set_option maxRecDepth 100000
open Go.RowKit

set_option maxHeartbeats 400000 in
theorem toInts (a : Option Addr) (len c : Nat) (l : List Int) (w : World) (hv : Ints w a len c l) (hlen : len ≤ 4194304) :
    Calls Try.prog 32 #[.slice a len c] w (RetOwn 2 (I l) w) := by
  have HV := Lib.hid hv
  have HL := Lib.hid hv.len
  clear hv
  go_enter Try.func32, Try.ntmps32
  go_wp2_with (at_make; refine law_make _ rfl _ _ 23 rfl 2 (.int .i64 0) 8 und_int64s info_int64 rfl _ _ len rfl rfl (by omega) (by unfold maxLen; omega) ?_; intro w1 hown hx hsz)
  obtain ⟨g, hg⟩ : ∃ g, g = w.heap.size := ⟨_, rfl⟩
  rw [← hg] at hown
  rw [← hg]
  have HG := Lib.hid hg
  clear hg
  go_wp2
  go_loopw [4] (fun i wr => ∃ k : Nat, k ≤ len ∧ i = .int .i64 k ∧ Own wr w.heap.size 2 (some ⟨g, 0, none⟩) len len (I (fillTo l k)) ∧ Ext w wr) (fun i _ => len - (intOf i).toNat)
  case atStart => exact ⟨0, Nat.zero_le _, rfl, by rw [fillTo_zero, I_replicate, HL.out]; exact hown.mono (by rw [HG.out]; exact Nat.le_refl _), hx⟩
  case round =>
    obtain ⟨k, hk, rfl, ho, hxr⟩ := hrel
    have HO := Lib.hid ho
    clear ho hown
    by_cases hlt : k < len
    · obtain ⟨b, off, hia, hcell⟩ := (HV.out.ext hxr).at 23 2 und_int64s cell_int64 k hlt .i64
      obtain ⟨hia', hcell', hfr⟩ := HO.out.at 23 und_int64s cell_int64 k hlt .i64
      obtain ⟨x, hxx⟩ : ∃ x, x = l.getD k 0 := ⟨_, rfl⟩
      rw [← hxx] at hcell
      obtain ⟨y, hyy⟩ : ∃ y, y = (I (fillTo l k)).getD k undef := ⟨_, rfl⟩
      rw [← hyy] at hcell'
      have HX := Lib.hid hxx
      clear hxx hyy
      go_wp2
      exact ⟨⟨k + 1, by omega, by go_num, by rw [← fillTo_set l k x (by rw [HL.out]; exact hlt) HX.out, ← I_set]; exact HO.out.set k _, hxr.setCell HO.out.lt.1 _⟩, by simp [intOf]; omega⟩
    · go_wp2
      go_ret
      exact ⟨_, _, by rw [I_len, HL.out]; rfl, by have := HO.out; rw [show k = l.length from by rw [HL.out]; omega, fillTo_full] at this; rw [I_len, HL.out]; exact this, hxr⟩

set_option maxHeartbeats 400000 in
theorem eqInts (a a' : Option Addr) (len len' c c' : Nat) (l l' : List Int) (w : World) (hv : Ints w a len c l) (hv' : Ints w a' len' c' l') (hlen : len ≤ 4611686018427387904) (hlen' : len' ≤ 4611686018427387904) :
    Calls Try.prog 45 #[.slice a len c, .slice a' len' c'] w (Qt (.bool (decide (l = l'))) w) := by
  have HL := Lib.hid hv.len
  have HL' := Lib.hid hv'.len
  by_cases he : len = len'
  · subst he
    have HV := Lib.hid hv
    have HV' := Lib.hid hv'
    clear hv hv'
    go_enter Try.func45, Try.ntmps45
    go_wp2
    go_loopw [5] (fun i wr => ∃ k : Nat, k ≤ len ∧ i = .int .i64 k ∧ l.take k = l'.take k ∧ ∃ m, wr = w.drewN m) (fun i _ => len - (intOf i).toNat)
    case atStart => exact ⟨0, Nat.zero_le _, rfl, rfl, 0, rfl⟩
    case round =>
      obtain ⟨k, hk, rfl, hp, m, rfl⟩ := hrel
      have HP := Lib.hid hp
      clear hp
      by_cases hlt : k < len
      · obtain ⟨b, off, hia, hcell⟩ := HV.out.at 23 2 und_int64s cell_int64 k hlt .i64
        obtain ⟨b', off', hia', hcell'⟩ := HV'.out.at 23 2 und_int64s cell_int64 k hlt .i64
        obtain ⟨x, hxx⟩ : ∃ x, x = l.getD k 0 := ⟨_, rfl⟩
        obtain ⟨y, hyy⟩ : ∃ x, x = l'.getD k 0 := ⟨_, rfl⟩
        rw [← hxx] at hcell
        rw [← hyy] at hcell'
        have HX := Lib.hid hxx
        have HY := Lib.hid hyy
        clear hxx hyy
        go_wp2
        go_quiet (fail)
        go_wp2
        · have h1 : (x != y) = true := by assumption
          go_ret
          refine ⟨rb ?_, _, World.drewN_drewN _ _ _⟩
          simp only [bne_iff_ne] at h1
          have hne : ¬ l = l' := fun h => h1 (by rw [HX.out, HY.out, h])
          simp [hne]
        · have h1 : (x != y) = false := by assumption
          refine ⟨⟨k + 1, by omega, by go_num, ?_, _, rfl⟩, by simp [intOf]; omega⟩
          have h2 : x = y := by simpa using h1
          rw [take_snoc l 0 k (by rw [HL.out]; exact hlt), take_snoc l' 0 k (by rw [HL'.out]; exact hlt), HP.out, ← HX.out, ← HY.out, h2]
      · go_wp2
        go_ret
        refine ⟨rb ?_, _, rfl⟩
        have := HP.out
        rw [take_full (by rw [HL.out]; omega), take_full (by rw [HL'.out]; omega)] at this
        simp [this]
  · have hne : l ≠ l' := fun h => he (by rw [← HL.out, ← HL'.out, h])
    have HN := Lib.hid hne
    have hb : ((len : Int) != (len' : Int)) = true := by simp; omega
    clear hne hv hv' he
    go_enter Try.func45, Try.ntmps45
    go_wp2
    go_ret
    exact ⟨rb (by simp [HN.out]), 0, rfl⟩

set_option maxHeartbeats 400000 in
theorem szInts (a : Option Addr) (len c : Nat) (left : Int) (w : World) (hlen : len ≤ 9223372036854775807) (h0 : 0 ≤ left) (h1 : left ≤ 4611686018427387904) :
    Calls Try.prog 24 #[.slice a len c, .int .i64 left] w (Same (.int .i64 (if left < len then -1 else left - len)) w) := by
  by_cases h : left < len
  · go_enter Try.func24, Try.ntmps24
    go_wp2
    go_ret
    exact ⟨rfl, rfl⟩
  · go_enter Try.func24, Try.ntmps24
    go_wp2
    go_ret
    exact ⟨rfl, rfl⟩
end Go.Proofs.Ytbcfbkhbangeoaa
