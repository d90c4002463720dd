/- Walks: slices.Index, IndexFunc, ContainsFunc, Contains over texts and numbers. -/
import Derived.Test.YtbcfbkhbangeoaaStrs
import Derived.Test.YtbcfbkhbangeoaaVar
namespace Go.Proofs.Ytbcfbkhbangeoaa
set_option maxRecDepth 100000
open Go.RowKit

theorem NoneIn.stepT {p : ByteArray → Bool} {l : List ByteArray} {k : Nat} (hk : k < l.length) (h : p (gs l k) = false) (hp : NoneIn p (l.take k)) : NoneIn p (l.take (k + 1)) := NoneIn.step (d := .empty) hk rfl h hp
theorem idx_hitT {p : ByteArray → Bool} {l : List ByteArray} {k : Nat} (hk : k < l.length) (hp : NoneIn p (l.take k)) (h : p (gs l k) = true) : idx p l = k := idx_hit (d := .empty) hk rfl h hp
set_option maxHeartbeats 1000000 in
theorem indexFuncT (a : Option Addr) (n c : Nat) (l : List ByteArray) (f : Nat) (caps : Array Value) (p : ByteArray → Bool) (w : World) (hv : Strs w a n c l) (hn : n ≤ 4611686018427387904)
    (he : ∀ args w', (callFunc f args).run Try.prog w' = .ok (.enter f args) w') (hf : ∀ k, k < n → ∀ w', Ext w w' → Calls Try.prog f (#[.string (gs l k)] ++ caps) w' (Ret (.bool (p (gs l k))) w')) :
    Calls Try.prog 124 #[.slice a n c, .func (.func f) #[] caps] w (Ret (.int .i64 (idx p l)) w) := by
  have HL := Lib.hid hv.len
  obtain ⟨b, off, hix, hcell⟩ := hv.ix (P := Try.prog) 42 9 und_strs cell_str
  have Hhv := Lib.hid hv; clear hv; have Hhf := Lib.hid hf; clear hf
  go_enter Try.func124, Try.ntmps124
  go_wp2
  go_loopw [5, 8] (fun _ i wr => ∃ k : Nat, k ≤ n ∧ i = .int .i64 k ∧ NoneIn p (l.take k) ∧ Ext w wr) (fun _ i _ => n - (intOf i).toNat)
  case atStart => exact ⟨0, Nat.zero_le _, rfl, by simp [NoneIn], Ext.refl _⟩
  case round =>
    obtain ⟨k, hk, rfl, hp, hx⟩ := hrel
    have Hhp := Lib.hid hp; clear hp
    by_cases hlt : k < n
    · have HC := Lib.hid (Hhf.out k hlt wr hx)
      cases hpx : p (gs l k)
      · rw [hpx] at HC
        have Hhpx := Lib.hid hpx; clear hpx
        go_wp2_with (refine HC.out.mono ?_; rintro e w' ⟨rfl, hx2⟩)
        exact ⟨⟨k + 1, by omega, by go_num, NoneIn.stepT (by rw [HL.out]; exact hlt) Hhpx.out Hhp.out, hx.trans hx2⟩, by simp [intOf]; omega⟩
      · rw [hpx] at HC
        have Hhpx := Lib.hid hpx; clear hpx
        go_wp2_with (refine HC.out.mono ?_; rintro e w' ⟨rfl, hx2⟩)
        go_ret
        exact ⟨ri (idx_hitT (by rw [HL.out]; exact hlt) Hhp.out Hhpx.out).symm, hx.trans hx2⟩
    · go_wp2
      go_ret
      exact ⟨ri (idx_none (by have := Hhp.out; rwa [take_full (by rw [HL.out]; omega)] at this)).symm, hx⟩
end Go.Proofs.Ytbcfbkhbangeoaa
