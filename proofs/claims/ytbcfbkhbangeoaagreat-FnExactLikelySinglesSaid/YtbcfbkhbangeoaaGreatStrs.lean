/- Walks: the laws' own helpers on lists of texts. -/
import Derived.Test.YtbcfbkhbangeoaaGreatMix
import Derived.Test.YtbcfbkhbangeoaaGreatW2
namespace Go.Proofs.YtbcfbkhbangeoaaGreat
set_option maxRecDepth 100000
open Go.RowKit

theorem und_strs : Tryz.prog.underlying 35 = some (.slice 9) := Tryz.underlying35
theorem elem_strs : Tryz.prog.elem 35 = 9 := by kernel_rfl
theorem cell_str : Tryz.prog.cellsOf 9 = 1 := by kernel_rfl
theorem info_str : (Tryz.prog.info? 9).map (fun i => (i.zero, i.size, i.bytes)) = some (some (.string .empty), 1, 16) := by kernel_rfl
theorem bs_eq {a b : ByteArray} (h : a.toList = b.toList) : a = b := by
  rw [ByteArray.toList_eq, ByteArray.toList_eq] at h
  exact ByteArray.ext (Array.toList_inj.1 h)
theorem bs_iff {a b : ByteArray} : (a.toList == b.toList) = true ↔ a = b := ⟨fun h => bs_eq (by simpa using h), fun h => by subst h; simp⟩
theorem St_set (l : List ByteArray) (k : Nat) (x : ByteArray) : (St l).set k (.string x) = St (l.set k x) := by simp [St, List.map_set]
theorem St_replicate (n : Nat) : St (List.replicate n .empty) = List.replicate n (.string .empty) := by simp [St]
theorem St_append (l m : List ByteArray) : St (l ++ m) = St l ++ St m := by simp [St]
theorem RetOwn.mkS {E : TypeId} {l : List ByteArray} {w w' : World} {a : Option Addr} {n c : Nat} (ho : Own w' w.heap.size E a n c (St l)) (hn : l.length = n) (hx : Ext w w') :
    RetOwn E (St l) w (.returned (.slice a n c)) w' := by
  have hl : (St l).length = n := by rw [St_len]; exact hn
  exact ⟨a, c, by rw [hl], by rw [hl]; exact ho, hx⟩
/-- the first k texts of l, empty ones behind them -/
def fillS (l : List ByteArray) (k : Nat) : List ByteArray := l.take k ++ List.replicate (l.length - k) .empty
theorem fillS_zero (l : List ByteArray) : fillS l 0 = List.replicate l.length .empty := by simp [fillS]
theorem fillS_full (l : List ByteArray) : fillS l l.length = l := by simp [fillS]
theorem fillS_set (l : List ByteArray) (k : Nat) (h : k < l.length) : (fillS l k).set k (gs l k) = fillS l (k + 1) := by
  unfold fillS
  rw [set_fill (l.take k) k l.length ByteArray.empty (gs l k) h (by simp; omega), take_gs h]

set_option maxHeartbeats 1000000 in
theorem eqStrs (a a' : Option Addr) (n n' c c' : Nat) (l l' : List ByteArray) (w : World) (hv : Strs w a n c l) (hv' : Strs w a' n' c' l') (hn : n ≤ 4611686018427387904) (hn' : n' ≤ 4611686018427387904) :
    Calls Tryz.prog 19 #[.slice a n c, .slice a' n' c'] w (Ret (.bool (decide (l = l'))) w) := by
  have HL := Lib.hid hv.len
  have HL' := Lib.hid hv'.len
  by_cases he : n = n'
  · subst he
    obtain ⟨b, off, hix, hcell⟩ := hv.ix (P := Tryz.prog) 35 9 und_strs cell_str
    obtain ⟨b', off', hix', hcell'⟩ := hv'.ix (P := Tryz.prog) 35 9 und_strs cell_str
    have Hhv := Lib.hid hv; clear hv; have Hhv' := Lib.hid hv'; clear hv'
    go_enter Tryz.func19, Tryz.ntmps19
    go_wp2
    go_loopw [5] (fun i wr => ∃ k : Nat, k ≤ n ∧ i = .int .i64 k ∧ l.take k = l'.take k ∧ Ext w wr) (fun i _ => n - (intOf i).toNat)
    case atStart => exact ⟨0, Nat.zero_le _, rfl, rfl, Ext.refl _⟩
    case round =>
      obtain ⟨k, hk, rfl, hp, hx⟩ := hrel
      have Hhp := Lib.hid hp; clear hp
      by_cases hlt : k < n
      · have HT := Lib.hid (take_gs (l := l) (k := k) (by rw [HL.out]; exact hlt))
        have HT' := Lib.hid (take_gs (l := l') (k := k) (by rw [HL'.out]; exact hlt))
        go_wp2
        (refine wp_region_up (by kernel_rfl) (by kernel_rfl) (by kernel_rfl) ?_; (repeat (first | (refine mix_q rfl ?_; go_big_quiet_step (fail); refine wpQuiet_nil ?_; show wpMix _ _ _ _ _ _ _) | (refine mix_s rfl ?_; go_wp2_with (fail); first | refine ⟨up_of (by repeat (first | (with_reducible exact Ext.refl _) | (with_reducible refine Ext.drewN ?_ _) | (with_reducible refine Ext.drew ?_) | (with_reducible refine Ext.alloc ?_ _) | ((with_reducible refine Ext.setCell ?_ ?_ _); rotate_left; focus (first | (simp; done) | (simp; omega) | omega)) | assumption | (with_reducible refine Ext.trans ?_ (by assumption)))), ?_⟩ | refine ⟨rfl, rfl, up_of (by repeat (first | (with_reducible exact Ext.refl _) | (with_reducible refine Ext.drewN ?_ _) | (with_reducible refine Ext.drew ?_) | (with_reducible refine Ext.alloc ?_ _) | ((with_reducible refine Ext.setCell ?_ ?_ _); rotate_left; focus (first | (simp; done) | (simp; omega) | omega)) | assumption | (with_reducible refine Ext.trans ?_ (by assumption)))), ?_⟩))); refine mix_nil ?_)
        go_wp2
        · have h1 : (!((gs l k).toList == (gs l' k).toList)) = true := by assumption
          go_ret
          refine ⟨rb ?_, (by repeat (first | (with_reducible exact Ext.refl _) | (with_reducible refine Ext.drewN ?_ _) | (with_reducible refine Ext.drew ?_) | (with_reducible refine Ext.alloc ?_ _) | ((with_reducible refine Ext.setCell ?_ ?_ _); rotate_left; focus (first | (simp; done) | (simp; omega) | omega)) | assumption | (with_reducible refine Ext.trans ?_ (by assumption))))⟩
          have hne : ¬ l = l' := fun h => by subst h; simp at h1
          simp [hne]
        · have h1 : (!((gs l k).toList == (gs l' k).toList)) = false := by assumption
          have h2 : gs l k = gs l' k := by
            exact bs_eq (by simpa using h1)
          exact ⟨⟨k + 1, by omega, by go_num, by rw [HT.out, HT'.out, Hhp.out, h2], (by repeat (first | (with_reducible exact Ext.refl _) | (with_reducible refine Ext.drewN ?_ _) | (with_reducible refine Ext.drew ?_) | (with_reducible refine Ext.alloc ?_ _) | ((with_reducible refine Ext.setCell ?_ ?_ _); rotate_left; focus (first | (simp; done) | (simp; omega) | omega)) | assumption | (with_reducible refine Ext.trans ?_ (by assumption))))⟩, by simp [intOf]; omega⟩
      · go_wp2
        go_ret
        refine ⟨rb ?_, hx⟩
        have := Hhp.out
        rw [take_full (by rw [HL.out]; omega), take_full (by rw [HL'.out]; omega)] at this
        simp [this]
  · have hne : l ≠ l' := fun h => he (by rw [← HL.out, ← HL'.out, h])
    have HN := Lib.hid hne
    have hb : ((n : Int) != (n' : Int)) = true := by simp; omega
    clear hne hv hv' he
    go_enter Tryz.func19, Tryz.ntmps19
    go_wp2
    go_ret
    exact ⟨rb (by simp [HN.out]), Ext.refl _⟩
/-- how great a list of texts counts -/
def sizeS : List ByteArray → Nat
  | [] => 0
  | x :: xs => x.size + sizeS xs
theorem sizeS_step {l : List ByteArray} {k : Nat} (h : k < l.length) : sizeS (l.take (k + 1)) = sizeS (l.take k) + (gs l k).size := by
  rw [take_gs h]
  have : ∀ (x : List ByteArray) y, sizeS (x ++ [y]) = sizeS x + y.size := by
    intro x y; induction x with
    | nil => simp [sizeS]
    | cons a x ih => simp only [List.cons_append, sizeS, ih]; omega
  exact this _ _
theorem sizeS_le : ∀ (l : List ByteArray) (k : Nat), sizeS (l.take k) ≤ sizeS l
  | [], k => by simp [sizeS]
  | x :: xs, 0 => by simp [sizeS]
  | x :: xs, k + 1 => by have := sizeS_le xs k; simp only [List.take_succ_cons, sizeS]; omega
theorem sizeS_mem {l : List ByteArray} {x : ByteArray} (h : x ∈ l) : x.size ≤ sizeS l := by
  induction l with
  | nil => cases h
  | cons a l ih => rcases List.mem_cons.1 h with rfl | h
                   · simp only [sizeS]; omega
                   · have := ih h; simp only [sizeS]; omega
/-- what is left of a bound; -1 if nothing is -/
def leftOf (left : Int) (n : Nat) : Int := if left < n then -1 else left - n
end Go.Proofs.YtbcfbkhbangeoaaGreat
