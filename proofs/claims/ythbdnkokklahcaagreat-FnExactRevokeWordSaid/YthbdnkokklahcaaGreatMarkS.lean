/- Walks: the laws write marks into texts. -/
import Derived.Test.YthbdnkokklahcaaGreatMark
import Derived.Laws.BytesArg
namespace Go.Proofs.YthbdnkokklahcaaGreat
set_option maxRecDepth 100000
open Go.RowKit

theorem und_strings' : Tryz.prog.underlying 26 = some (.slice 9) := Tryz.underlying26
theorem cell_string' : Tryz.prog.cellsOf 9 = 1 := by kernel_rfl
def SomeText (w : World) (e : Ending) (w' : World) : Prop := ∃ s, e = .returned (.string s) ∧ Ext w w'
set_option maxHeartbeats 1000000 in
theorem markText_any (k : Nat) (w : World) (hk : k ≤ 1099511627776) : Calls Tryz.prog 61 #[.int .i64 k] w (SomeText w) := by
  by_cases h0 : 0 < k
  · go_enter Tryz.func61, Tryz.ntmps61
    go_wp2
    go_loopw [0, 3] (fun x v wr => ∃ (j : Nat) (s : ByteArray), j + s.size ≤ k ∧ x = .int .i64 j ∧ v = .string s ∧ Ext w wr) (fun x _ _ => (intOf x).toNat)
    case atStart => exact ⟨k, .empty, by show k + 0 ≤ k; omega, rfl, rfl, Ext.refl _⟩
    case round =>
      obtain ⟨j, s, hj, rfl, rfl, hx⟩ := hrel
      by_cases hlt : 0 < j
      · have hcv : (convert 97 9 (.slice (some ⟨wr.heap.size, 0, none⟩) 1 1)).run Tryz.prog (wr.alloc (.cells #[.int .u8 (48 + (j : Int) % 10)] 5)) = .ok (.string (strOfNums [48 + (j : Int) % 10])) (wr.alloc (.cells #[.int .u8 (48 + (j : Int) % 10)] 5)) :=
          run_convert_bytes_arg _ 97 5 (by kernel_rfl) (by kernel_rfl) wr.heap.size 0 1 1 [48 + (j : Int) % 10] rfl (fun i hi => by
            obtain rfl : i = 0 := by omega
            exact cell_of_row _ _ 0 _ _ (0, 0) (heap_alloc_new wr _)) 9 (by kernel_rfl)
        obtain ⟨z, hz⟩ : ∃ z, z = strOfNums [48 + (j : Int) % 10] := ⟨_, rfl⟩
        rw [← hz] at hcv
        have hz1 : z.size = 1 := by rw [hz]; rfl
        have hza : (z ++ s).size = 1 + s.size := by rw [ByteArray.size_append, hz1]
        clear hz
        go_wp2
        refine ⟨⟨j / 10, z ++ s, by rw [hza]; omega, by go_num, rfl, (by repeat (first | (with_reducible exact Ext.refl _) | (with_reducible refine Ext.drewN ?_ _) | (with_reducible refine Ext.drew ?_) | (with_reducible refine Ext.alloc ?_ _) | ((with_reducible refine Ext.setCell ?_ ?_ _); rotate_left; focus (first | (simp; done) | (simp; omega) | omega)) | assumption | (with_reducible refine Ext.trans ?_ (by assumption))))⟩, by simp [intOf]; omega⟩
      · go_wp2
        go_ret
        exact ⟨_, rfl, (by repeat (first | (with_reducible exact Ext.refl _) | (with_reducible refine Ext.drewN ?_ _) | (with_reducible refine Ext.drew ?_) | (with_reducible refine Ext.alloc ?_ _) | ((with_reducible refine Ext.setCell ?_ ?_ _); rotate_left; focus (first | (simp; done) | (simp; omega) | omega)) | assumption | (with_reducible refine Ext.trans ?_ (by assumption))))⟩
  · go_enter Tryz.func61, Tryz.ntmps61
    go_wp2
    go_ret
    exact ⟨_, rfl, (by repeat (first | (with_reducible exact Ext.refl _) | (with_reducible refine Ext.drewN ?_ _) | (with_reducible refine Ext.drew ?_) | (with_reducible refine Ext.alloc ?_ _) | ((with_reducible refine Ext.setCell ?_ ?_ _); rotate_left; focus (first | (simp; done) | (simp; omega) | omega)) | assumption | (with_reducible refine Ext.trans ?_ (by assumption))))⟩

set_option maxHeartbeats 1000000 in
theorem markStrs (a : Option Addr) (n c : Nat) (vs : List Value) (k B : Nat) (w : World) (ho : Own w B 9 a n c vs) (hB : B ≤ w.heap.size) (hn : n ≤ 549755813888) (hk : k ≤ 549755813888) :
    Calls Tryz.prog 32 #[.slice a n c, .int .i64 k] w (MarkPost ((k + n : Nat) : Int) B a w fun _ => True) := by
  have HO0 := Lib.hid ho
  have HB := Lib.hid hB
  clear ho hB
  go_enter Tryz.func32, Tryz.ntmps32
  go_wp2
  go_loopw [1, 5] (fun x i wr => ∃ (j : Nat) (us : List Value), j ≤ n ∧ i = .int .i64 j ∧ x = .int .i64 ((k : Int) + j) ∧ Mk B a w wr ∧ Own wr B 9 a n c us) (fun _ i _ => n - (intOf i).toNat)
  case atStart => exact ⟨0, vs, Nat.zero_le _, rfl, by simp, Mk.refl _ _ _, HO0.out⟩
  case round =>
    obtain ⟨j, us, hj, rfl, rfl, hm, ho⟩ := hrel
    have HO := Lib.hid ho
    have HM := Lib.hid hm
    clear ho hm
    by_cases hlt : j < n
    · obtain ⟨g, rfl⟩ := HO.out.some (by omega)
      obtain ⟨hia', _, _⟩ := HO.out.at 26 und_strings' cell_string' j hlt .i64
      have hmt : ∀ w, Calls Tryz.prog 61 #[.int .i64 ((k : Int) + j)] w (SomeText w) := fun w => by
        rw [show ((k : Int) + j) = ((k + j : Nat) : Int) by omega]; exact markText_any (k + j) w (by omega)
      have Hhmt := Lib.hid hmt; clear hmt
      go_wp2_with (go_at_call 61; refine (Hhmt.out _).mono ?_; rintro e w1 ⟨z, rfl, hx1⟩; obtain ⟨_, hcell', hfr⟩ := (HO.out.ext hx1).at 26 und_strings' cell_string' j hlt .i64; obtain ⟨y, hyy⟩ : ∃ y, y = us.getD j undef := ⟨_, rfl⟩; rw [← hyy] at hcell'; clear hyy)
      refine ⟨⟨j + 1, us.set j (.string z), by omega, by go_num, by go_num, (HM.out.trans (Mk.ext hx1 (Nat.le_trans HB.out HM.out.size))).trans (Mk.set _ j _ HO.out.lt.1), (HO.out.ext hx1).set j _⟩, by simp [intOf]; omega⟩
    · go_wp2
      go_ret
      exact ⟨ri (by omega), HM.out, trivial⟩

end Go.Proofs.YthbdnkokklahcaaGreat
