/- Walks: the distance of two words as the program gives it; whether a list has a text. -/
import Derived.Test.YtcdoanookiimaaaEdit
import Derived.Test.YtcdoanookiimaaaCmp
namespace Go.Proofs.Ytcdoanookiimaaa
set_option maxRecDepth 100000
open Go.RowKit

set_option maxHeartbeats 400000 in
theorem impl_wordOk20 (s : ByteArray) (w : World) (hs : s.size ≤ 1048576) :
    Calls Try.prog 65 #[.string s, .int .i64 20] w (Ret (.bool (wordB s.data.toList 36 20)) w) := by
  have HD := Lib.hid (impl_digitsOf s 36 20 w (by omega) (by omega) (by omega))
  go_enter Try.func65, Try.ntmps65
  go_wp2_with (refine HD.out.mono ?_; rintro e w1 ⟨a1, n1, c1, rfl, hx1, _⟩)
  go_ret
  exact ⟨rfl, hx1⟩
set_option maxHeartbeats 400000 in
theorem impl_EditDistance (a b : ByteArray) (w : World) (ha : a.size ≤ 64) (hb : b.size ≤ 64) (h1 : wordB a.data.toList 36 20 = true) (h2 : wordB b.data.toList 36 20 = true) :
    Calls Try.prog 26 #[.string a, .string b] w (Ret2 (.int .i64 (distS a b)) (.bool true) w) := by
  have HA := Lib.hid (fun W => impl_wordOk20 a W (by omega))
  have HBw := Lib.hid (fun W => impl_wordOk20 b W (by omega))
  rw [h1] at HA
  rw [h2] at HBw
  have HD := Lib.hid (fun W => impl_distance a b W ha hb)
  clear h1 h2
  go_enter Try.func26, Try.ntmps26
  go_wp2_with (first | (go_at_call 65; first | ((with_reducible refine (HA.out _).mono ?_); rintro e w1 ⟨rfl, hy1⟩; have hx1 : Ext w w1 := Ext.trans (by repeat (first | (with_reducible exact Ext.refl _) | (with_reducible refine Ext.drewN ?_ _) | (with_reducible refine Ext.drew ?_) | (with_reducible refine Ext.alloc ?_ _) | ((with_reducible refine Ext.setCell ?_ ?_ _); rotate_left; focus (first | (simp; done) | (simp; omega) | omega)) | assumption | (with_reducible refine Ext.trans ?_ (by assumption)))) hy1; clear hy1) | ((with_reducible refine (HBw.out _).mono ?_); rintro e w2 ⟨rfl, hy2⟩; have hx2 : Ext w w2 := Ext.trans (by repeat (first | (with_reducible exact Ext.refl _) | (with_reducible refine Ext.drewN ?_ _) | (with_reducible refine Ext.drew ?_) | (with_reducible refine Ext.alloc ?_ _) | ((with_reducible refine Ext.setCell ?_ ?_ _); rotate_left; focus (first | (simp; done) | (simp; omega) | omega)) | assumption | (with_reducible refine Ext.trans ?_ (by assumption)))) hy2; clear hy2)) | (go_at_call 63; (with_reducible refine (HD.out _).mono ?_); rintro e w3 ⟨rfl, hy3⟩; have hx3 : Ext w w3 := Ext.trans (by repeat (first | (with_reducible exact Ext.refl _) | (with_reducible refine Ext.drewN ?_ _) | (with_reducible refine Ext.drew ?_) | (with_reducible refine Ext.alloc ?_ _) | ((with_reducible refine Ext.setCell ?_ ?_ _); rotate_left; focus (first | (simp; done) | (simp; omega) | omega)) | assumption | (with_reducible refine Ext.trans ?_ (by assumption)))) hy3; clear hy3))
  go_ret2
  exact ⟨rfl, (by repeat (first | (with_reducible exact Ext.refl _) | (with_reducible refine Ext.drewN ?_ _) | (with_reducible refine Ext.drew ?_) | (with_reducible refine Ext.alloc ?_ _) | ((with_reducible refine Ext.setCell ?_ ?_ _); rotate_left; focus (first | (simp; done) | (simp; omega) | omega)) | assumption | (with_reducible refine Ext.trans ?_ (by assumption))))⟩
set_option maxHeartbeats 1000000 in
theorem laws_hasText (a : Option Addr) (n c : Nat) (l : List ByteArray) (t : ByteArray) (w : World) (h : Strs w a n c l) (hn : n ≤ 1048576) (hm : t ∈ l) :
    Calls Try.prog 33 #[.slice a n c, .string t] w (Ret (.bool true) w) := by
  have hl : l.length = n := h.len
  obtain ⟨b, off, hix, hcell⟩ := h.ix (P := Try.prog) 28 9 und_strs cell_str
  have HM := Lib.hid hm
  clear h hm
  go_enter Try.func33, Try.ntmps33
  go_wp2_with fail
  go_loopw [5] (fun ii wr => ∃ i : Nat, i ≤ n ∧ ii = .int .i64 i ∧ Hid (∀ j, j < i → ¬ gs l j = t) ∧ Ext w wr) (fun ii _ => n - (intOf ii).toNat)
  case atStart => exact ⟨0, Nat.zero_le _, rfl, Lib.hid (fun j hj => absurd hj (by omega)), (by repeat (first | (with_reducible exact Ext.refl _) | (with_reducible refine Ext.drewN ?_ _) | (with_reducible refine Ext.drew ?_) | (with_reducible refine Ext.alloc ?_ _) | ((with_reducible refine Ext.setCell ?_ ?_ _); rotate_left; focus (first | (simp; done) | (simp; omega) | omega)) | assumption | (with_reducible refine Ext.trans ?_ (by assumption))))⟩
  case round =>
    obtain ⟨i, hi, rfl, HNo, hx⟩ := hrel
    have hxr : Ext w wr := hx
    by_cases hlt : i < n
    · by_cases he : gs l i = t
      · have he2 : ((gs l i).toList == t.toList) = true := by rw [he]; simp
        go_wp2
        go_ret
        exact ⟨rfl, (by repeat (first | (with_reducible exact Ext.refl _) | (with_reducible refine Ext.drewN ?_ _) | (with_reducible refine Ext.drew ?_) | (with_reducible refine Ext.alloc ?_ _) | ((with_reducible refine Ext.setCell ?_ ?_ _); rotate_left; focus (first | (simp; done) | (simp; omega) | omega)) | assumption | (with_reducible refine Ext.trans ?_ (by assumption))))⟩
      · have he2 : ((gs l i).toList == t.toList) = false := by
          cases hq : ((gs l i).toList == t.toList) with
          | false => rfl
          | true =>
            have h2 := beq_iff_eq.1 hq
            simp only [ByteArray.toList_eq] at h2
            exact absurd (ba_ext' h2) he
        go_wp2
        exact ⟨⟨i + 1, hlt, by go_num, Lib.hid (fun j hj => by rcases Nat.lt_succ_iff_lt_or_eq.1 hj with h1 | rfl; exact HNo.out j h1; exact he), (by repeat (first | (with_reducible exact Ext.refl _) | (with_reducible refine Ext.drewN ?_ _) | (with_reducible refine Ext.drew ?_) | (with_reducible refine Ext.alloc ?_ _) | ((with_reducible refine Ext.setCell ?_ ?_ _); rotate_left; focus (first | (simp; done) | (simp; omega) | omega)) | assumption | (with_reducible refine Ext.trans ?_ (by assumption))))⟩, by simp [intOf]; omega⟩
    · exfalso
      obtain ⟨j, hj, hje⟩ := List.getElem_of_mem HM.out
      exact HNo.out j (by omega) (by rw [gs_get hj]; exact hje)
end Go.Proofs.Ytcdoanookiimaaa
