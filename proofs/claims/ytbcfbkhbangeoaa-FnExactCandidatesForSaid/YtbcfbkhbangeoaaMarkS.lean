/- Walks: the laws write marks into texts. -/
import Derived.Test.YtbcfbkhbangeoaaMark
import Derived.Laws.BytesArg
namespace Go.Proofs.Ytbcfbkhbangeoaa
set_option maxRecDepth 100000
open Go.RowKit

theorem und_strings' : Try.prog.underlying 42 = some (.slice 9) := Try.underlying42
theorem cell_string' : Try.prog.cellsOf 9 = 1 := by kernel_rfl
def SomeText (w : World) (e : Ending) (w' : World) : Prop := ∃ s, e = .returned (.string s) ∧ Ext w w'
set_option maxHeartbeats 1000000 in
theorem markText_any (k : Nat) (w : World) (hk : k ≤ 1099511627776) : Calls Try.prog 48 #[.int .i64 k] w (SomeText w) := by
  by_cases h0 : 0 < k
  · go_enter Try.func48, Try.ntmps48
    go_wp2
    go_loopw [0, 3] (fun x v wr => ∃ (j : Nat) (s : ByteArray), j + s.size ≤ k ∧ x = .int .i64 j ∧ v = .string s ∧ Ext w wr) (fun x _ _ => (intOf x).toNat)
    case atStart => exact ⟨k, .empty, by show k + 0 ≤ k; omega, rfl, rfl, Ext.refl _⟩
    case round =>
      obtain ⟨j, s, hj, rfl, rfl, hx⟩ := hrel
      by_cases hlt : 0 < j
      · have hcv : (convert 37 9 (.slice (some ⟨wr.heap.size, 0, none⟩) 1 1)).run Try.prog (wr.alloc (.cells #[.int .u8 (48 + (j : Int) % 10)] 5)) = .ok (.string (strOfNums [48 + (j : Int) % 10])) (wr.alloc (.cells #[.int .u8 (48 + (j : Int) % 10)] 5)) :=
          run_convert_bytes_arg _ 37 5 (by kernel_rfl) (by kernel_rfl) wr.heap.size 0 1 1 [48 + (j : Int) % 10] rfl (fun i hi => by
            obtain rfl : i = 0 := by omega
            exact cell_of_row _ _ 0 _ _ (0, 0) (heap_alloc_new wr _)) 9 (by kernel_rfl)
        obtain ⟨z, hz⟩ : ∃ z, z = strOfNums [48 + (j : Int) % 10] := ⟨_, rfl⟩
        rw [← hz] at hcv
        have hz1 : z.size = 1 := by rw [hz]; rfl
        have hza : (z ++ s).size = 1 + s.size := by rw [ByteArray.size_append, hz1]
        clear hz
        go_wp2
        refine ⟨⟨j / 10, z ++ s, by rw [hza]; omega, by go_num, rfl, (by repeat (first | (with_reducible exact Ext.refl _) | (with_reducible refine Ext.drewN ?_ _) | (with_reducible refine Ext.drew ?_) | (with_reducible refine Ext.alloc ?_ _) | ((with_reducible refine Ext.setCell ?_ ?_ _); rotate_left; focus (first | (simp; done) | (simp; omega) | omega)) | assumption | (with_reducible refine Ext.trans ?_ (by assumption))))⟩, by simp [intOf]; omega⟩
      · go_wp2
        go_ret
        exact ⟨_, rfl, (by repeat (first | (with_reducible exact Ext.refl _) | (with_reducible refine Ext.drewN ?_ _) | (with_reducible refine Ext.drew ?_) | (with_reducible refine Ext.alloc ?_ _) | ((with_reducible refine Ext.setCell ?_ ?_ _); rotate_left; focus (first | (simp; done) | (simp; omega) | omega)) | assumption | (with_reducible refine Ext.trans ?_ (by assumption))))⟩
  · go_enter Try.func48, Try.ntmps48
    go_wp2
    go_ret
    exact ⟨_, rfl, (by repeat (first | (with_reducible exact Ext.refl _) | (with_reducible refine Ext.drewN ?_ _) | (with_reducible refine Ext.drew ?_) | (with_reducible refine Ext.alloc ?_ _) | ((with_reducible refine Ext.setCell ?_ ?_ _); rotate_left; focus (first | (simp; done) | (simp; omega) | omega)) | assumption | (with_reducible refine Ext.trans ?_ (by assumption))))⟩


end Go.Proofs.Ytbcfbkhbangeoaa
