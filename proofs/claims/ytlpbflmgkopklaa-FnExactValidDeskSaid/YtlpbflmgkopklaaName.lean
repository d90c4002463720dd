/- Walks: names, on both sides. -/
import Derived.Test.YtlpbflmgkopklaaWords
import Derived.Test.YtlpbflmgkopklaaMix
namespace Go.Proofs.Ytlpbflmgkopklaa
set_option maxRecDepth 100000
open Go.RowKit

def nameC (x : UInt8) : Bool := decide (97 ≤ x.toNat) && decide (x.toNat ≤ 122)
def nameB (s : ByteArray) : Bool := s.data.toList.all nameC && (decide (1 ≤ s.size) && decide (s.size ≤ 8))
theorem nameC_bd {c : UInt8} (h : nameC c = true) : 97 ≤ c.toNat ∧ c.toNat ≤ 122 := by simpa [nameC] using h

set_option maxHeartbeats 1000000 in
theorem spec_IsName (s : ByteArray) (w : World) (hs : s.size ≤ 9223372036854775807) :
    Calls Try.prog 90 #[.string s] w (Same (.bool (nameB s)) w) := by
  go_enter Try.func90, Try.ntmps90
  go_wp2_with fail
  go_loop [3] (fun i => ∃ k : Nat, k ≤ s.size ∧ i = .int .i64 k ∧ (s.data.toList.take k).all nameC = true) (fun i => s.size - (intOf i).toNat)
  case atStart => exact ⟨0, Nat.zero_le _, rfl, rfl⟩
  case round =>
    obtain ⟨k, hk, rfl, hp⟩ := hrel
    have Hhp := Lib.hid hp; clear hp
    by_cases hlt : k < s.size
    · have HS := Lib.hid (fun h => allc_step (p := nameC) hlt h Hhp.out)
      have HF := Lib.hid (fun h => allc_no (p := nameC) hlt h)
      cases hg : nameC s[k]
      · have HNo := Lib.hid (HF.out hg)
        have hb : ¬ 97 ≤ s[k].toNat ∨ ¬ s[k].toNat ≤ 122 := by unfold nameC at hg; simp at hg; omega
        clear HS HF hg
        by_cases h1 : 97 ≤ s[k].toNat
        all_goals
          go_wp2
          go_ret
          exact ⟨rb (by rw [show nameB s = false by unfold nameB; rw [HNo.out]; rfl]), rfl⟩
      · have hb := nameC_bd hg
        have HNo := Lib.hid (HS.out hg)
        obtain ⟨b1, b2⟩ := hb
        clear HS HF hg
        go_wp2
        exact ⟨⟨k + 1, by omega, by go_num, HNo.out⟩, by simp [intOf]; omega⟩
    · obtain rfl : k = s.size := by omega
      have hc : s.data.toList.all nameC = true := by have := Hhp.out; rwa [take_full (by simp)] at this
      by_cases h1 : (1 : Int) ≤ s.size
      · have HQ := Lib.hid (show nameB s = decide ((s.size : Int) ≤ 8) by unfold nameB; rw [hc]; have : 1 ≤ s.size := by omega
                                                                          simp [this]; omega)
        clear hc
        go_wp2
        go_ret
        exact ⟨rb HQ.out.symm, rfl⟩
      · have HQ := Lib.hid (show nameB s = false by unfold nameB; rw [hc]; simp; omega)
        clear hc
        go_wp2
        go_ret
        exact ⟨rb HQ.out.symm, rfl⟩
set_option maxHeartbeats 1000000 in
theorem impl_IsName (s : ByteArray) (w : World) (hs : s.size ≤ 9223372036854775807) :
    Calls Try.prog 70 #[.string s] w (Same (.bool (nameB s)) w) := by
  go_enter Try.func70, Try.ntmps70
  go_wp2_with fail
  go_loop [3, 6] (fun _ i => ∃ k : Nat, k ≤ s.size ∧ i = .int .i64 k ∧ (s.data.toList.take k).all nameC = true) (fun _ i => s.size - (intOf i).toNat)
  case atStart => exact ⟨0, Nat.zero_le _, rfl, rfl⟩
  case round =>
    obtain ⟨k, hk, rfl, hp⟩ := hrel
    have Hhp := Lib.hid hp; clear hp
    by_cases hlt : k < s.size
    · have HS := Lib.hid (fun h => allc_step (p := nameC) hlt h Hhp.out)
      have HF := Lib.hid (fun h => allc_no (p := nameC) hlt h)
      cases hg : nameC s[k]
      · have HNo := Lib.hid (HF.out hg)
        have hb : ¬ 97 ≤ s[k].toNat ∨ ¬ s[k].toNat ≤ 122 := by unfold nameC at hg; simp at hg; omega
        clear HS HF hg
        by_cases h1 : 97 ≤ s[k].toNat
        all_goals
          go_wp2
          go_ret
          exact ⟨rb (by rw [show nameB s = false by unfold nameB; rw [HNo.out]; rfl]), rfl⟩
      · have hb := nameC_bd hg
        have HNo := Lib.hid (HS.out hg)
        obtain ⟨b1, b2⟩ := hb
        clear HS HF hg
        go_wp2
        exact ⟨⟨k + 1, by omega, by go_num, HNo.out⟩, by simp [intOf]; omega⟩
    · obtain rfl : k = s.size := by omega
      have hc : s.data.toList.all nameC = true := by have := Hhp.out; rwa [take_full (by simp)] at this
      by_cases h1 : (1 : Int) ≤ s.size
      · have HQ := Lib.hid (show nameB s = decide ((s.size : Int) ≤ 8) by unfold nameB; rw [hc]; have : 1 ≤ s.size := by omega
                                                                          simp [this]; omega)
        clear hc
        go_wp2
        go_ret
        exact ⟨rb HQ.out.symm, rfl⟩
      · have HQ := Lib.hid (show nameB s = false by unfold nameB; rw [hc]; simp; omega)
        clear hc
        go_wp2
        go_ret
        exact ⟨rb HQ.out.symm, rfl⟩
end Go.Proofs.Ytlpbflmgkopklaa
