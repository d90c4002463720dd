/- Walks: registries: RadiusOf, StatusOf, LeastApart, on both sides. -/
import Derived.Test.YtdekplfjnkbidaaGreatRgV
namespace Go.Proofs.YtdekplfjnkbidaaGreat
set_option maxRecDepth 100000
open Go.RowKit

theorem NoneIn.stepI {p : Int → Bool} {l : List Int} {k : Nat} (hk : k < l.length) (h : p (gi l k) = false) (hp : NoneIn p (l.take k)) : NoneIn p (l.take (k + 1)) := NoneIn.step (d := 0) hk rfl h hp
theorem idx_hitI {p : Int → Bool} {l : List Int} {k : Nat} (hk : k < l.length) (hp : NoneIn p (l.take k)) (h : p (gi l k) = true) : idx p l = k := idx_hit (d := 0) hk rfl h hp
set_option maxHeartbeats 400000 in
theorem indexI (a : Option Addr) (n c : Nat) (l : List Int) (x : Int) (w : World) (hv : Ints w a n c l) (hn : n ≤ 4294967296) :
    Calls Tryz.prog 60 #[.slice a n c, .int .i64 x] w (Same (.int .i64 (idx (fun y => x == y) l)) w) := by
  have HL := Lib.hid hv.len
  obtain ⟨b, off, hix, hcell⟩ := hv.ix (P := Tryz.prog) 23 2 und_int64s cell_int64
  have Hhv := Lib.hid hv; clear hv
  go_enter Tryz.func60, Tryz.ntmps60
  go_wp2
  go_loop [5, 8] (fun _ i => ∃ k : Nat, k ≤ n ∧ i = .int .i64 k ∧ NoneIn (fun y => x == y) (l.take k)) (fun _ i => n - (intOf i).toNat)
  case atStart => exact ⟨0, Nat.zero_le _, rfl, by simp [NoneIn]⟩
  case round =>
    obtain ⟨k, hk, rfl, hp⟩ := hrel
    have Hhp := Lib.hid hp; clear hp
    by_cases hlt : k < n
    · have hkl : k < l.length := by rw [HL.out]; exact hlt
      have HS := Lib.hid (fun h => NoneIn.stepI (p := fun y => x == y) hkl h Hhp.out)
      have HT := Lib.hid (idx_hitI (p := fun y => x == y) hkl Hhp.out)
      clear hkl
      go_wp2
      · go_ret
        exact ⟨ri (HT.out (by assumption)).symm, rfl⟩
      · exact ⟨⟨k + 1, by omega, by go_num, HS.out (by assumption)⟩, by simp [intOf]; omega⟩
    · go_wp2
      go_ret
      exact ⟨ri (idx_none (by have := Hhp.out; rwa [take_full (by rw [HL.out]; omega)] at this)).symm, rfl⟩
theorem any_flip (l : List Int) (x : Int) : (l.any fun y => x == y) = l.any fun y => y == x := by
  congr 1; funext y; rw [Bool.eq_iff_iff, beq_iff_eq, beq_iff_eq]; exact ⟨Eq.symm, Eq.symm⟩
set_option maxHeartbeats 400000 in
theorem containsI (a : Option Addr) (n c : Nat) (l : List Int) (x : Int) (w : World) (hv : Ints w a n c l) (hn : n ≤ 4294967296) :
    Calls Tryz.prog 30 #[.slice a n c, .int .i64 x] w (Same (.bool (l.any fun y => y == x)) w) := by
  have HC := Lib.hid (indexI a n c l x w hv hn)
  have HA := Lib.hid ((idx_ge (fun y => x == y) l).trans (any_flip l x))
  clear hv
  go_enter Tryz.func30, Tryz.ntmps30
  go_wp2_with (refine HC.out.mono ?_; rintro e w' ⟨rfl, rfl⟩)
  go_ret
  exact ⟨rb HA.out, rfl⟩
theorem any_step {l : List Int} {p : Int → Bool} {k : Nat} (hk : k < l.length) (h : p (gi l k) = true) : l.any p = true := List.any_eq_true.2 ⟨_, gi_mem hk, h⟩
set_option maxHeartbeats 400000 in
theorem spec_has (a : Option Addr) (n c : Nat) (l : List Int) (x : Int) (w : World) (hv : Ints w a n c l) (hn : n ≤ 4294967296) :
    Calls Tryz.prog 22 #[.slice a n c, .int .i64 x] w (Same (.bool (l.any fun y => y == x)) w) := by
  have HL := Lib.hid hv.len
  obtain ⟨b, off, hix, hcell⟩ := hv.ix (P := Tryz.prog) 23 2 und_int64s cell_int64
  have Hhv := Lib.hid hv; clear hv
  go_enter Tryz.func22, Tryz.ntmps22
  go_wp2
  go_loop [5] (fun i => ∃ k : Nat, k ≤ n ∧ i = .int .i64 k ∧ NoneIn (fun y => y == x) (l.take k)) (fun i => n - (intOf i).toNat)
  case atStart => exact ⟨0, Nat.zero_le _, rfl, by simp [NoneIn]⟩
  case round =>
    obtain ⟨k, hk, rfl, hp⟩ := hrel
    have Hhp := Lib.hid hp; clear hp
    by_cases hlt : k < n
    · have hkl : k < l.length := by rw [HL.out]; exact hlt
      have HS := Lib.hid (fun h => NoneIn.stepI (p := fun y => y == x) hkl h Hhp.out)
      have HT := Lib.hid (any_step (p := fun y => y == x) hkl)
      clear hkl
      go_wp2
      · go_ret
        exact ⟨rb (HT.out (by assumption)).symm, rfl⟩
      · exact ⟨⟨k + 1, by omega, by go_num, HS.out (by assumption)⟩, by simp [intOf]; omega⟩
    · go_wp2
      go_ret
      refine ⟨rb (Eq.symm ?_), rfl⟩
      have := Hhp.out
      rw [take_full (by rw [HL.out]; omega)] at this
      exact List.any_eq_false.2 fun y hy => by have h : (y == x) = false := this y hy; rw [h]; simp
/-! ### RadiusOf -/
def radRes (D : Rg) : Int := if validRg D then (D.apart - 1) / 2 else 0
end Go.Proofs.YtdekplfjnkbidaaGreat

/- Walks: registries: StatusOf, on both sides; ValidRegistry of the reference. -/
namespace Go.Proofs.YtdekplfjnkbidaaGreat
open Go.RowKit

theorem atRg_flip (D : Rg) (s : ByteArray) : idx (fun x => x.toList == s.toList) D.issued = atRg D s := by
  unfold atRg; congr 1; funext x; rw [Bool.eq_iff_iff, beq_iff_eq, beq_iff_eq]; exact ⟨Eq.symm, Eq.symm⟩
theorem idx_bd {α : Type} (p : α → Bool) (l : List α) : -1 ≤ idx p l ∧ idx p l < l.length := by
  unfold idx
  cases h : l.findIdx? p with
  | none => simp only; omega
  | some i => rw [List.findIdx?_eq_some_iff_getElem] at h; obtain ⟨hi, _⟩ := h; simp only; omega
set_option maxHeartbeats 400000 in
theorem impl_indexOf (D : Rg) (q : Nat) (a : Option Addr) (n c : Nat) (b : Option Addr) (m d : Nat) (ia : Option Addr) (im ic : Nat) (ra : Option Addr) (rm rc : Nat) (s : ByteArray) (w : World) (hv : RgAt w q D a n c b m d ia im ic ra rm rc) (hi : im ≤ 1048576) :
    Calls Tryz.prog 29 #[.pointer (some ⟨q, 0, none⟩), .string s] w (Ret (.int .i64 (atRg D s)) w) := by
  have HX := Lib.hid (fun W h => indexT ia im ic D.issued s W (Strs.ext hv.is h) (by omega))
  have HA := Lib.hid (show idx (fun x => s.toList == x.toList) D.issued = atRg D s from rfl)
  rw [HA.out] at HX
  have hb := idx_bd (fun x : ByteArray => s.toList == x.toList) D.issued
  rw [HA.out, hv.is.len] at hb
  obtain ⟨_, k6, k7, k8, _, _⟩ := hv
  go_enter Tryz.func29, Tryz.ntmps29
  go_wp2_with (refine (HX.out _ (Ext.refl _)).mono ?_; rintro e w1 ⟨rfl, rfl⟩)
  go_ret
  exact ⟨ri (by omega), Ext.refl _⟩
set_option maxHeartbeats 1000000 in
theorem spec_l10At (D : Rg) (q : Nat) (a : Option Addr) (n c : Nat) (b : Option Addr) (m d : Nat) (ia : Option Addr) (im ic : Nat) (ra : Option Addr) (rm rc : Nat) (s : ByteArray) (w : World) (hv : RgAt w q D a n c b m d ia im ic ra rm rc) (hi : im ≤ 1048576) :
    Calls Tryz.prog 21 #[.pointer (some ⟨q, 0, none⟩), .string s] w (Ret (.int .i64 (atRg D s)) w) := by
  have HL := Lib.hid hv.is.len
  have HA := Lib.hid (atRg_flip D s)
  rw [← HA.out]
  obtain ⟨b1, o1, hix, hcell⟩ := hv.is.ix (P := Tryz.prog) 26 9 und_strs cell_str
  obtain ⟨_, k6, k7, k8, _, _⟩ := hv
  go_enter Tryz.func21, Tryz.ntmps21
  go_wp2
  go_loopw [5] (fun i wr => ∃ k : Nat, k ≤ im ∧ i = .int .i64 k ∧ NoneIn (fun x => x.toList == s.toList) (D.issued.take k) ∧ Ext w wr) (fun i _ => im - (intOf i).toNat)
  case atStart => exact ⟨0, Nat.zero_le _, rfl, by simp [NoneIn], Ext.refl _⟩
  case round =>
    obtain ⟨k, hk, rfl, hp, hx⟩ := hrel
    have Hhp := Lib.hid hp; clear hp
    by_cases hlt : k < im
    · have hkl : k < D.issued.length := by rw [HL.out]; exact hlt
      have HS := Lib.hid (fun h => NoneIn.stepT (p := fun x => x.toList == s.toList) hkl h Hhp.out)
      have HT := Lib.hid (idx_hitT (p := fun x => x.toList == s.toList) hkl Hhp.out)
      clear hkl
      go_wp2
      · go_ret
        exact ⟨ri (HT.out (by assumption)).symm, hx⟩
      · exact ⟨⟨k + 1, by omega, by go_num, HS.out (by assumption), hx⟩, by simp [intOf]; omega⟩
    · go_wp2
      go_ret
      exact ⟨ri (idx_none (by have := Hhp.out; rwa [take_full (by rw [HL.out]; omega)] at this)).symm, hx⟩
theorem stat_no {D : Rg} {s : ByteArray} (h : statOk D s = false) : statOf D s = 0 := by rw [statOf, h]; rfl
theorem stat_none {D : Rg} {s : ByteArray} (h : atRg D s < 0) : statOf D s = 0 := by rw [statOf, if_pos h]; split <;> rfl
theorem stat_rev {D : Rg} {s : ByteArray} (h : statOk D s = true) (h1 : ¬ atRg D s < 0) (h2 : revHas D (atRg D s) = true) : statOf D s = 2 := by rw [statOf, h, if_neg h1, h2]; rfl
theorem stat_iss {D : Rg} {s : ByteArray} (h : statOk D s = true) (h1 : ¬ atRg D s < 0) (h2 : revHas D (atRg D s) = false) : statOf D s = 1 := by rw [statOf, h, if_neg h1, h2]; rfl
end Go.Proofs.YtdekplfjnkbidaaGreat
