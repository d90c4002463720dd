/- Plain: how many patterns there are, and the one with a rank. -/
import Derived.Test.YtnmkckghfckgbaaPat
import Derived.Test.YtnmkckghfckgbaaBc
import Derived.Test.YtnmkckghfckgbaaText
import Derived.Test.YtnmkckghfckgbaaMix3
import Derived.Test.YtnmkckghfckgbaaDraw
import Derived.Test.YtnmkckghfckgbaaSAt
import Derived.Test.YtnmkckghfckgbaaLpd
namespace Go.Proofs.Ytnmkckghfckgbaa
set_option maxRecDepth 100000
open Go.RowKit

/-- the pushes of one sum: w of them -/
def cIn (v : Int) (k : Nat) : Nat → List Int → List Int
  | 0, l => l
  | w + 1, l => (cIn v k w l).set (k + (w + 1)) (gi (cIn v k w l) (k + (w + 1)) + v)
/-- the pushes of the first k sums -/
def cOut (ways : List Int) (m : Nat) : Nat → List Int
  | 0 => List.replicate (m + 1) 0
  | k + 1 => cIn (gi ways k) k (min 4 (m - k)) (cOut ways m k)
def cWays (m : Nat) : Nat → List Int
  | 0 => (List.replicate (m + 1) 0).set 0 1
  | e + 1 => cOut (cWays m e) m (m + 1)
def cnt (e m : Nat) : Int := gi (cWays m e) m
theorem cIn_len (v : Int) (k w : Nat) (l : List Int) : (cIn v k w l).length = l.length := by
  induction w with
  | zero => rfl
  | succ w ih => simp [cIn, ih]
theorem cOut_len (ways : List Int) (m k : Nat) : (cOut ways m k).length = m + 1 := by
  induction k with
  | zero => simp [cOut]
  | succ k ih => rw [cOut, cIn_len, ih]
theorem cWays_len (m e : Nat) : (cWays m e).length = m + 1 := by
  cases e with
  | zero => simp [cWays]
  | succ e => rw [cWays, cOut_len]
/-- all numbers lie from 0 to B -/
def Bd0 (l : List Int) (B : Int) : Prop := ∀ j, 0 ≤ gi l j ∧ gi l j ≤ B
theorem gi_set (l : List Int) (i j : Nat) (u : Int) : gi (l.set i u) j = if i = j ∧ i < l.length then u else gi l j := by
  unfold gi
  rw [List.getD_eq_getElem?_getD, List.getElem?_set, List.getD_eq_getElem?_getD]
  by_cases h : i = j
  · subst h
    by_cases h2 : i < l.length
    · simp [h2]
    · simp [h2]
  · simp [h]
theorem Bd0.set {l : List Int} {B : Int} (h : Bd0 l B) (i : Nat) {u : Int} (h0 : 0 ≤ u) {B' : Int} (h1 : u ≤ B') (hB : B ≤ B') : Bd0 (l.set i u) B' := fun j => by
  have := h j
  rw [gi_set]; split <;> omega
theorem cIn_bd {v V B : Int} {l : List Int} (h : Bd0 l B) (hv : 0 ≤ v) (hV : v ≤ V) (k w : Nat) : Bd0 (cIn v k w l) (B + V * w) := by
  induction w with
  | zero => simpa [cIn] using h
  | succ w ih =>
    have := ih (k + (w + 1))
    have e : B + V * ((w + 1 : Nat) : Int) = B + V * (w : Int) + V := by rw [Int.natCast_add, Int.mul_add]; omega
    rw [e]
    exact ih.set _ (by omega) (by omega) (by omega)
theorem cOut_bd {V : Int} {ways : List Int} {m : Nat} (h : Bd0 ways V) (hV : 0 ≤ V) (k : Nat) : Bd0 (cOut ways m k) (V * (4 * k)) := by
  induction k with
  | zero => intro j; simp [cOut, gi, List.getD_eq_getElem?_getD, List.getElem?_replicate]; split <;> simp
  | succ k ih =>
    have h1 := cIn_bd ih (h k).1 (h k).2 k (min 4 (m - k))
    intro j
    have h2 := h1 j
    rw [cOut]
    refine ⟨h2.1, Int.le_trans h2.2 ?_⟩
    rw [show (4 * ((k + 1 : Nat) : Int)) = 4 * (k : Int) + 4 by omega, Int.mul_add]
    have : V * ((min 4 (m - k) : Nat) : Int) ≤ V * 4 := Int.mul_le_mul_of_nonneg_left (by omega) hV
    omega
/-- what stands in the sums with e elements -/
theorem cWays_bd {m : Nat} (hm : m ≤ 11) : ∀ e, Bd0 (cWays m e) (48 ^ e)
  | 0 => by
    intro j
    rw [cWays, gi_set]
    split
    · simp
    · simp [gi, List.getD_eq_getElem?_getD, List.getElem?_replicate]; split <;> simp
  | e + 1 => by
    have h := cWays_bd hm e
    have hp : (0 : Int) ≤ 48 ^ e := Int.pow_nonneg (by omega)
    intro j
    have h1 := cOut_bd (m := m) h hp (m + 1) j
    rw [cWays]
    refine ⟨h1.1, Int.le_trans h1.2 ?_⟩
    rw [Int.pow_succ]
    exact Int.mul_le_mul_of_nonneg_left (by omega) hp
theorem pow48 {e : Nat} (he : e ≤ 6) : (48 : Int) ^ e ≤ 12230590464 := by
  have : (48 : Nat) ^ e ≤ 48 ^ 6 := Nat.pow_le_pow_right (by omega) he
  have h2 : ((48 ^ e : Nat) : Int) ≤ ((48 ^ 6 : Nat) : Int) := Int.ofNat_le.2 this
  rw [Int.natCast_pow] at h2
  exact h2
/-- the counts of what follows: j first elements are left, from 5 - j on -/
def tc (i m : Nat) : Nat → Int
  | 0 => 0
  | j + 1 => (if 4 - j ≤ m then cnt i (m - (4 - j)) else 0) + tc i m j
theorem cnt_all : ∀ i : Fin 6, ∀ m : Fin 12, cnt (i.val + 1) m.val = tc i.val m.val 4 := by decide +kernel
theorem cnt_zero : ∀ m : Fin 12, cnt 0 m.val = if m.val = 0 then 1 else 0 := by decide +kernel
theorem cnt_bd : ∀ i : Fin 7, ∀ m : Fin 12, 0 ≤ cnt i.val m.val ∧ cnt i.val m.val ≤ 100000 := by decide +kernel
theorem cnt_some : ∀ i : Fin 5, ∀ j : Fin 5, 1 ≤ cnt (i.val + 2) (i.val + 2 + 1 + j.val) := by decide +kernel
theorem tc_none (i m : Nat) : ∀ j, m < 5 - j → j ≤ 4 → tc i m j = 0
  | 0, _, _ => rfl
  | j + 1, h, hj => by rw [tc, if_neg (by omega), tc_none i m j (by omega) (by omega)]; rfl
/-- half of a pattern: the elements so far, what is left -/
structure Half (E M : Nat) (ds : List Int) (i m : Nat) (rank : Int) : Prop where
  len : ds.length + i = E
  sum : ds.sum + m = M
  bd : ∀ d ∈ ds, 1 ≤ d ∧ d ≤ 4
  m11 : m ≤ 11
  i6 : i ≤ 6
  r0 : 0 ≤ rank
  r1 : rank < cnt i m
/-- the element w is tried: the rank among what is left -/
structure Try1 (i m : Nat) (w : Nat) (rank : Int) : Prop where
  w1 : 1 ≤ w
  w4 : w ≤ 4
  wm : w ≤ m
  r0 : 0 ≤ rank
  r1 : rank < tc i m (5 - w)
  rb : rank ≤ 100000
theorem Half.start {E M i m : Nat} {ds : List Int} {rank : Int} (h : Half E M ds (i + 1) m rank) : Try1 i m 1 rank := by
  have h1 := h.m11; have h2 := h.i6; have h3 := h.r1
  have h4 := cnt_bd ⟨i + 1, by omega⟩ ⟨m, by omega⟩
  simp only at h4
  have h5 : rank ≤ 100000 := by omega
  rw [show cnt (i + 1) m = tc i m 4 from cnt_all ⟨i, by omega⟩ ⟨m, by omega⟩] at h3
  refine ⟨by omega, by omega, ?_, h.r0, h3, h5⟩
  by_cases hm : m = 0
  · subst hm
    rw [tc_none i 0 4 (by omega) (by omega)] at h3
    have := h.r0; omega
  · omega
theorem Try1.next {i m w : Nat} {rank : Int} (h : Try1 i m w rank) (hw : w < m) (hr : cnt i (m - w) ≤ rank) (hi : i ≤ 6) (hm : m ≤ 11) : Try1 i m (w + 1) (rank - cnt i (m - w)) := by
  have h1 := h.w1; have h2 := h.w4; have h3 := h.r1
  have h4 := cnt_bd ⟨i, by omega⟩ ⟨m - w, by omega⟩
  have h5 := h.rb
  simp only at h4
  obtain ⟨j, hj⟩ : ∃ j, w = 4 - j ∧ j ≤ 3 := ⟨4 - w, by omega, by omega⟩
  obtain ⟨rfl, hj3⟩ := hj
  rw [show 5 - (4 - j) = j + 1 by omega, tc, if_pos (by omega)] at h3
  have hj0 : j ≠ 0 := fun h0 => by subst h0; simp only [tc] at h3; omega
  refine ⟨by omega, by omega, by omega, by omega, ?_, by omega⟩
  rw [show 5 - (4 - j + 1) = j by omega]
  omega
theorem Try1.done {E M i m w : Nat} {ds : List Int} {rank0 rank : Int} (hh : Half E M ds (i + 1) m rank0) (h : Try1 i m w rank) (hd : w = m ∨ rank < cnt i (m - w)) : Half E M (ds ++ [(w : Int)]) i (m - w) rank := by
  have h1 := h.w1; have h2 := h.w4; have h3 := h.r1; have h4 := h.wm
  have h5 := hh.len; have h6 := hh.sum; have h7 := hh.m11; have h8 := hh.i6
  refine ⟨by simp; omega, by simp [List.sum_append]; omega, fun d hd => ?_, by omega, by omega, h.r0, ?_⟩
  · rcases List.mem_append.1 hd with hd | hd
    · exact hh.bd d hd
    · simp at hd; omega
  · rcases hd with hd | hd
    · obtain ⟨j, hj, hj3⟩ : ∃ j, w = 4 - j ∧ j ≤ 3 := ⟨4 - w, by omega, by omega⟩
      rw [show 5 - w = j + 1 by omega, tc, if_pos (by omega), tc_none i m j (by omega) (by omega)] at h3
      rw [show 4 - j = w by omega] at h3
      omega
    · exact hd
/-- nothing is left: a pattern -/
theorem Half.end {E M m : Nat} {ds : List Int} {rank : Int} (h : Half E M ds 0 m rank) : ds.length = E ∧ ds.sum = M ∧ ∀ d ∈ ds, 1 ≤ d ∧ d ≤ 4 := by
  have h1 := h.len; have h2 := h.sum; have h3 := h.m11; have h4 := h.r0; have h5 := h.r1
  rw [show cnt 0 m = if m = 0 then 1 else 0 from cnt_zero ⟨m, by omega⟩] at h5
  by_cases hm : m = 0
  · subst hm; exact ⟨by omega, by omega, h.bd⟩
  · rw [if_neg hm] at h5; omega
/-- the text of elements -/
def patOf (ds : List Int) : ByteArray := strOfNums (ds.map fun d => 48 + d)
theorem patOf_size (ds : List Int) : (patOf ds).size = ds.length := by rw [patOf, strOfNums_size, List.length_map]
theorem patOf_pl (ds : List Int) : (patOf ds).data.toList = ds.map fun d => UInt8.ofNat (48 + d).toNat := by
  rw [patOf, strOfNums_data, List.map_map]; rfl
theorem patOf_els {ds : List Int} (h : ∀ d ∈ ds, 1 ≤ d ∧ d ≤ 4) : elsL (patOf ds).data.toList = ds ∧ charsB (patOf ds).data.toList = true := by
  rw [patOf_pl]
  have hd : ∀ d ∈ ds, (UInt8.ofNat (48 + d).toNat).toNat = (48 + d).toNat := fun d hd => by
    have := h d hd
    rw [UInt8.toNat_ofNat']; omega
  constructor
  · rw [elsL, List.map_map]
    conv => rhs; rw [← List.map_id ds]
    refine List.map_congr_left fun d hd' => ?_
    have := h d hd'
    simp only [Function.comp, elC, hd d hd', id]
    omega
  · rw [charsB, List.all_map, List.all_eq_true]
    intro d hd'
    have := h d hd'
    simp only [Function.comp, goodC, hd d hd', Bool.and_eq_true, decide_eq_true_eq]
    omega
/-- a chosen pattern -/
def PatOk (E M : Nat) (s : ByteArray) : Prop := s.size = E ∧ (elsL s.data.toList).sum = M ∧ charsB s.data.toList = true
theorem Half.pat {E M m : Nat} {ds : List Int} {rank : Int} (h : Half E M ds 0 m rank) : PatOk E M (patOf ds) := by
  obtain ⟨h1, h2, h3⟩ := h.end
  obtain ⟨h4, h5⟩ := patOf_els h3
  exact ⟨by rw [patOf_size, h1], by rw [h4, h2], h5⟩
end Go.Proofs.Ytnmkckghfckgbaa

/- Walks: how many patterns there are, the pattern with a rank, a pattern that is chosen. -/
namespace Go.Proofs.Ytnmkckghfckgbaa
set_option maxRecDepth 100000
open Go.RowKit

/-- an element of an own row: its place, its value, and that it may be written, in this world and behind it -/
structure OneI (P : Program) (T : TypeId) (w : World) (g n c : Nat) (l : List Int) (x : Int) (k : Nat) : Prop where
  run : ∀ (K : IntKind) (w' : World), (Instr.indexAt T (.slice (some ⟨g, 0, none⟩) n c) (.int K x)).run P w' = .ok (.pointer (some ⟨g, k, none⟩)) w'
  cell : ∀ w', Ext w w' → w'.cell? ⟨g, k, none⟩ = some (.int .i64 (Go.Proofs.Ytnmkckghfckgbaa.gi l k))
  fr : ∀ w', Ext w w' → w'.frozen? ⟨g, k, none⟩ = false
theorem own_oneI {P : Program} {w : World} {B : Nat} {E : TypeId} {g n c : Nat} {l : List Int} (h : Own w B E (some ⟨g, 0, none⟩) n c (I l)) (T : TypeId) (ht : P.underlying T = some (.slice E)) (he : P.cellsOf E = 1)
    (k : Nat) (hk : k < n) {x : Int} (hx : x = (k : Int)) : OneI P T w g n c l x k := by
  subst hx
  obtain ⟨h1, h2, h3⟩ := Own.at (P := P) h T ht he k hk .i64
  have hl := h.len
  rw [I_len] at hl
  refine ⟨fun K w' => (Own.at (P := P) h T ht he k hk K).1 w', fun w' hx => hx.cell ?_, fun w' hx => ?_⟩
  · rw [h2, I_getD _ _ (by rw [hl]; exact hk)]; rfl
  · exact (Below.frozen hx (p := ⟨g, k, none⟩) h.lt.2).trans h3
set_option maxHeartbeats 4000000 in
theorem spec_count (e m : Nat) (w : World) (he : e ≤ 6) (hm : m ≤ 11) : Calls Try.prog 124 #[.int .i64 e, .int .i64 m, .int .i64 4] w (Ret (.int .i64 (cnt e m)) w) := by
  go_enter Try.func124, Try.ntmps124
  go_wp2_with (at_make; refine law_make _ rfl _ _ 36 rfl 2 (.int .i64 0) 8 und_int64s info_int64 rfl _ _ (m + 1) rfl rfl (by omega) (by unfold maxLen; omega) ?_; intro w1 hown hx hsz; obtain ⟨hia0, hce0, hfr0⟩ := own_oneI (l := List.replicate (m + 1) 0) (by rw [I_replicate]; exact hown) (P := Try.prog) 36 und_int64s cell_int64 0 (by omega) (x := 0) rfl; have hx1 : Ext w1 w1 := Ext.refl _)
  have HO := Lib.hid (show Own (w1.setCell ⟨w.heap.size, 0, none⟩ (.int .i64 1)) w.heap.size 2 (some ⟨w.heap.size, 0, none⟩) (m + 1) (m + 1) (I (cWays m 0)) from by rw [cWays, ← I_set, I_replicate]; exact hown.set 0 _)
  have hxs : Ext w (w1.setCell ⟨w.heap.size, 0, none⟩ (.int .i64 1)) := Ext.setCell hx (Nat.le_refl _) _
  clear hown hsz hia0 hce0 hfr0
  go_loopw [7, 8, 9, 10, 11] (fun v i _ _ _ wr => ∃ (k b : Nat), k ≤ e ∧ i = .int .i64 k ∧ v = .slice (some ⟨b, 0, none⟩) (m + 1) (m + 1) ∧ Hid (Own wr w.heap.size 2 (some ⟨b, 0, none⟩) (m + 1) (m + 1) (I (cWays m k))) ∧ Ext w wr) (fun _ i _ _ _ _ => e - (intOf i).toNat)
  case atStart => exact ⟨0, _, Nat.zero_le _, rfl, rfl, HO, hxs⟩
  case round =>
    clear HO hxs hx hx1
    obtain ⟨k, b, hk, rfl, rfl, HO, hxr⟩ := hrel
    by_cases hlt : k < e
    · obtain ⟨wo, hwo⟩ : ∃ wo, wo = wr := ⟨_, rfl⟩
      rw [← hwo] at HO hxr ⊢
      clear hwo
      go_wp2_with (at_make; refine law_make _ rfl _ _ 36 rfl 2 (.int .i64 0) 8 und_int64s info_int64 rfl _ _ (m + 1) rfl rfl (by omega) (by unfold maxLen; omega) ?_; intro w2 hown2 hx2 hsz2)
      obtain ⟨g, hg⟩ : ∃ g, g = wo.heap.size := ⟨_, rfl⟩
      rw [← hg] at hown2 ⊢
      have hgw : w.heap.size ≤ g := by rw [hg]; exact hxr.le
      have hgo : wo.heap.size ≤ g := by omega
      have HO2 := Lib.hid (show Own w2 wo.heap.size 2 (some ⟨g, 0, none⟩) (m + 1) (m + 1) (I (cOut (cWays m k) m 0)) from by rw [cOut, I_replicate, hg]; rw [hg] at hown2; exact hown2)
      have HWB := Lib.hid (cWays_bd hm k)
      have hp48 := pow48 (e := k) (by omega)
      clear hown2 hsz2 hg
      go_loopw [10, 11] (fun s _ wr => ∃ (j : Nat), j ≤ m + 1 ∧ s = .int .i64 j ∧ Hid (Own wr wo.heap.size 2 (some ⟨g, 0, none⟩) (m + 1) (m + 1) (I (cOut (cWays m k) m j))) ∧ Ext wo wr) (fun s _ _ => m + 1 - (intOf s).toNat)
      case atStart => exact ⟨0, Nat.zero_le _, rfl, HO2, hx2⟩
      case round =>
        clear HO2 hx2
        obtain ⟨j, hj, rfl, HO3, hx3⟩ := hrel
        by_cases hlj : j < m + 1
        · have hjm : j ≤ m := by omega
          go_wp2
          go_loopw [11] (fun u wr => ∃ (t : Nat), t + 1 ≤ 5 ∧ t ≤ min 4 (m - j) ∧ u = .int .i64 ((t + 1 : Nat) : Int) ∧ Hid (Own wr wo.heap.size 2 (some ⟨g, 0, none⟩) (m + 1) (m + 1) (I (cIn (gi (cWays m k) j) j t (cOut (cWays m k) m j)))) ∧ Ext wo wr) (fun u _ => 5 - (intOf u).toNat)
          case atStart => exact ⟨0, by omega, Nat.zero_le _, rfl, HO3, hx3⟩
          case round =>
            clear HO3 hx3
            obtain ⟨t, ht5, ht, rfl, HO4, hx4⟩ := hrel
            have hxq : Ext wo wr := hx4
            by_cases hlu : t < min 4 (m - j)
            · have hb1 : 0 ≤ gi (cIn (gi (cWays m k) j) j t (cOut (cWays m k) m j)) (j + (t + 1)) ∧ gi (cIn (gi (cWays m k) j) j t (cOut (cWays m k) m j)) (j + (t + 1)) ≤ (48 : Int) ^ k * (4 * (j : Int)) + (48 : Int) ^ k * (t : Int) := cIn_bd (cOut_bd HWB.out (Int.pow_nonneg (by omega)) j) (HWB.out j).1 (HWB.out j).2 j t (j + (t + 1))
              have hb2 : 0 ≤ gi (cWays m k) j ∧ gi (cWays m k) j ≤ 12230590464 := ⟨(HWB.out j).1, Int.le_trans (HWB.out j).2 hp48⟩
              have hj11 : (j : Int) ≤ 11 := by omega
              have hb3 : (48 : Int) ^ k * (4 * (j : Int)) ≤ 12230590464 * (4 * 11) := Int.mul_le_mul hp48 (by omega) (by omega) (by omega)
              have hb4 : (48 : Int) ^ k * (t : Int) ≤ 12230590464 * 4 := Int.mul_le_mul hp48 (by omega) (by omega) (by omega)
              have h41 : t + 1 ≤ 4 := by omega
              have h42 : j + (t + 1) ≤ m := by omega
              obtain ⟨f1, f2, f3⟩ := own_oneI HO4.out (P := Try.prog) 36 und_int64s cell_int64 (j + (t + 1)) (by omega) (x := (j : Int) + ((t : Int) + 1)) (by omega)
              obtain ⟨e1, e2, _⟩ := own_oneI HO.out (P := Try.prog) 36 und_int64s cell_int64 j (by omega) (x := (j : Int)) rfl
              generalize hcc : (48 : Int) ^ k * (4 * (j : Int)) = c1 at *
              generalize hcd : (48 : Int) ^ k * (t : Int) = c2 at *
              have HN := Lib.hid (show cIn (gi (cWays m k) j) j (t + 1) (cOut (cWays m k) m j) = (cIn (gi (cWays m k) j) j t (cOut (cWays m k) m j)).set (j + (t + 1)) (gi (cIn (gi (cWays m k) j) j t (cOut (cWays m k) m j)) (j + (t + 1)) + gi (cWays m k) j) from rfl)
              have hgl := HO4.out.lt.2
              clear hcc hcd hp48
              obtain ⟨x1, hx1e⟩ : ∃ x1, x1 = gi (cIn (gi (cWays m k) j) j t (cOut (cWays m k) m j)) (j + (t + 1)) := ⟨_, rfl⟩
              rw [← hx1e] at f2 hb1 HN
              clear hx1e
              go_wp2
              (refine wp_region_upl 12 wr (by repeat (first | (with_reducible exact Ext.refl _) | (with_reducible refine Ext.drewN ?_ _) | (with_reducible refine Ext.drew ?_) | (with_reducible refine Ext.alloc ?_ _) | ((with_reducible refine Ext.setCell ?_ ?_ _); rotate_left; focus (first | (simp; done) | (simp; omega) | omega)) | assumption | (with_reducible refine Ext.trans ?_ (by assumption)))) rfl (by kernel_rfl) (by kernel_rfl) (seqB_of (by kernel_rfl)) (lastB_of (by kernel_rfl)) ?_; simp only [List.take_succ_cons, List.take_zero, List.drop_succ_cons, List.drop_zero]; (repeat (first | (refine mix_q rfl ?_; go_big_quiet_step (fail); refine wpQuiet_nil ?_; show wpMix _ _ _ _ _ _ _) | (refine mix_s rfl ?_; go_wp2_with (fail); first | refine ⟨up_of (by repeat (first | (with_reducible exact Ext.refl _) | (with_reducible refine Ext.drewN ?_ _) | (with_reducible refine Ext.drew ?_) | (with_reducible refine Ext.alloc ?_ _) | ((with_reducible refine Ext.setCell ?_ ?_ _); rotate_left; focus (first | (simp; done) | (simp; omega) | omega)) | assumption | (with_reducible refine Ext.trans ?_ (by assumption)))), ?_⟩ | refine ⟨rfl, rfl, up_of (by repeat (first | (with_reducible exact Ext.refl _) | (with_reducible refine Ext.drewN ?_ _) | (with_reducible refine Ext.drew ?_) | (with_reducible refine Ext.alloc ?_ _) | ((with_reducible refine Ext.setCell ?_ ?_ _); rotate_left; focus (first | (simp; done) | (simp; omega) | omega)) | assumption | (with_reducible refine Ext.trans ?_ (by assumption)))), ?_⟩))); refine mix_nil ?_)
              go_wp2
              refine ⟨⟨t + 1, by omega, by omega, by go_num, ?_, (Ext.setCell hxq hgo _).drew⟩, by simp [intOf]; omega⟩
              have h9 := HO4.out.set (j + (t + 1)) (.int .i64 (x1 + gi (cWays m k) j))
              rw [I_set, ← HN.out] at h9
              exact h9
            · obtain rfl : t = min 4 (m - j) := by omega
              have HO5 := Lib.hid (show Own wr wo.heap.size 2 (some ⟨g, 0, none⟩) (m + 1) (m + 1) (I (cOut (cWays m k) m (j + 1))) from HO4.out)
              clear HO4
              obtain ⟨t, htt⟩ : ∃ t, t = min 4 (m - j) := ⟨_, rfl⟩
              rw [← htt] at hlu ht ht5 ⊢
              by_cases h4 : t + 1 ≤ 4
              · have h5 : ¬ (j + (t + 1) ≤ m) := by omega
                clear htt hlu
                go_wp2
                exact ⟨⟨j + 1, by omega, by go_num, HO5, hx4⟩, by simp [intOf]; omega⟩
              · clear htt hlu
                go_wp2
                exact ⟨⟨j + 1, by omega, by go_num, HO5, hx4⟩, by simp [intOf]; omega⟩
        · obtain rfl : j = m + 1 := by omega
          go_wp2
          exact ⟨⟨k + 1, g, by omega, by go_num, rfl, by rw [Hid]; exact HO3.out.mono hxr.le, hxr.trans hx3⟩, by simp [intOf]; omega⟩
    · obtain rfl : k = e := by omega
      obtain ⟨f1, f2, f3⟩ := own_oneI HO.out (P := Try.prog) 36 und_int64s cell_int64 m (by omega) (x := (m : Int)) rfl
      have hxx : Ext wr wr := Ext.refl _
      have HN := Lib.hid (show gi (cWays m k) m = cnt k m from rfl)
      go_wp2
      go_ret
      exact ⟨ri HN.out, hxr⟩
/-- a pattern -/
def RetPat (E M : Nat) (w : World) (e : Ending) (w' : World) : Prop := ∃ s, e = .returned (.string s) ∧ PatOk E M s ∧ Ext w w'
set_option maxHeartbeats 4000000 in
theorem spec_at (E M : Nat) (rank : Int) (w : World) (h : Half E M [] E M rank) : Calls Try.prog 125 #[.int .i64 E, .int .i64 M, .int .i64 4, .int .i64 rank] w (RetPat E M w) := by
  have HH := Lib.hid h
  have hE6 := h.i6
  clear h
  go_enter Try.func125, Try.ntmps125
  go_wp2_with fail
  go_loopw [1, 3, 9, 10, 11] (fun mv rv ov iv _ wr => ∃ (ds : List Int) (i m n : Nat) (z r : Int) (ad : Option Addr) (c : Nat), mv = .int .i64 m ∧ rv = .int .i64 r ∧ ov = .slice ad n c ∧ iv = .int .i64 z ∧ z + 1 = (i : Int) ∧ n + i = E ∧ Hid (ds.length = n) ∧ Hid (Half E M ds i m r) ∧ Hid (Own wr w.heap.size 5 ad n c (U (ds.map fun d => 48 + d))) ∧ Ext w wr) (fun _ _ _ iv _ _ => (intOf iv + 1).toNat)
  case atStart => exact ⟨[], E, M, 0, (E : Int) - 1, rank, _, _, rfl, rfl, rfl, rfl, by omega, by omega, rfl, HH, Own.lit0 w _, (Ext.refl w).alloc _⟩
  case round =>
    obtain ⟨ds, i, m, n, z, r, ad, c, rfl, rfl, rfl, rfl, hz, hn, HL, HF, HO, hx⟩ := hrel
    by_cases hlt : 0 < i
    · obtain ⟨i, rfl⟩ : ∃ j, i = j + 1 := ⟨i - 1, by omega⟩
      obtain rfl : z = (i : Int) := by omega
      have hz0 : 0 ≤ (i : Int) := by omega
      have hm11 := HF.out.m11
      have hi6 := HF.out.i6
      obtain ⟨wo, hwo⟩ : ∃ wo, wo = wr := ⟨_, rfl⟩
      rw [← hwo] at HO hx ⊢
      clear hwo hz
      go_wp2
      go_loopw [3, 11] (fun rv uv wr => ∃ (u : Nat) (r : Int), rv = .int .i64 r ∧ uv = .int .i64 u ∧ Hid (Try1 i m u r) ∧ Ext wo wr) (fun _ uv _ => m - (intOf uv).toNat)
      case atStart => exact ⟨1, r, rfl, rfl, HF.out.start, Ext.refl _⟩
      case round =>
        obtain ⟨u, r, rfl, rfl, HT, hx2⟩ := hrel
        have hxo : Ext wo wr := hx2
        have hu := HT.out.wm
        have hu1 := HT.out.w1
        have hu4 := HT.out.w4
        have hr0 := HT.out.r0
        have hrb := HT.out.rb
        by_cases hum : u < m
        · have HC := Lib.hid (fun W => show Calls Try.prog 124 #[.int .i64 i, .int .i64 ((m : Int) - (u : Int)), .int .i64 4] W (Ret (.int .i64 (cnt i (m - u))) W) from by rw [show (m : Int) - (u : Int) = ((m - u : Nat) : Int) by omega]; exact spec_count i (m - u) W (by omega) (by omega))
          obtain ⟨hcb0, hcb1⟩ : 0 ≤ cnt i (m - u) ∧ cnt i (m - u) ≤ 100000 := cnt_bd ⟨i, by omega⟩ ⟨m - u, by omega⟩
          by_cases hr : cnt i (m - u) ≤ r
          · have HN := Lib.hid (HT.out.next hum hr (by omega) hm11)
            generalize cnt i (m - u) = cc at *
            go_wp2_with (go_at_call 124; refine (HC.out _).mono ?_; rintro e w1 ⟨rfl, hy⟩; have hxw1 : Ext wo w1 := Ext.trans (by repeat (first | (with_reducible exact Ext.refl _) | (with_reducible refine Ext.drewN ?_ _) | (with_reducible refine Ext.drew ?_) | (with_reducible refine Ext.alloc ?_ _) | ((with_reducible refine Ext.setCell ?_ ?_ _); rotate_left; focus (first | (simp; done) | (simp; omega) | omega)) | assumption | (with_reducible refine Ext.trans ?_ (by assumption)))) hy; clear hy)
            exact ⟨⟨u + 1, r - cc, rfl, by go_num, HN, (by repeat (first | (with_reducible exact Ext.refl _) | (with_reducible refine Ext.drewN ?_ _) | (with_reducible refine Ext.drew ?_) | (with_reducible refine Ext.alloc ?_ _) | ((with_reducible refine Ext.setCell ?_ ?_ _); rotate_left; focus (first | (simp; done) | (simp; omega) | omega)) | assumption | (with_reducible refine Ext.trans ?_ (by assumption))))⟩, by simp [intOf]; omega⟩
          · have HD := Lib.hid (Try1.done HF.out HT.out (.inr (by omega)))
            generalize cnt i (m - u) = cc at *
            go_wp2_with (first | (go_at_call 124; refine (HC.out _).mono ?_; rintro e w1 ⟨rfl, hy⟩; have hxw1 : Ext wo w1 := Ext.trans (by repeat (first | (with_reducible exact Ext.refl _) | (with_reducible refine Ext.drewN ?_ _) | (with_reducible refine Ext.drew ?_) | (with_reducible refine Ext.alloc ?_ _) | ((with_reducible refine Ext.setCell ?_ ?_ _); rotate_left; focus (first | (simp; done) | (simp; omega) | omega)) | assumption | (with_reducible refine Ext.trans ?_ (by assumption)))) hy; clear hy) | (at_builtin; refine law_append1 _ rfl _ _ 32 rfl 5 (.int .u8 0) 1 und_u8s info_u8 rfl w.heap.size ad n c _ _ rfl rfl rfl (HO.out.ext (by repeat (first | (with_reducible exact Ext.refl _) | (with_reducible refine Ext.drewN ?_ _) | (with_reducible refine Ext.drew ?_) | (with_reducible refine Ext.alloc ?_ _) | ((with_reducible refine Ext.setCell ?_ ?_ _); rotate_left; focus (first | (simp; done) | (simp; omega) | omega)) | assumption | (with_reducible refine Ext.trans ?_ (by assumption))))) (hx.trans (by repeat (first | (with_reducible exact Ext.refl _) | (with_reducible refine Ext.drewN ?_ _) | (with_reducible refine Ext.drew ?_) | (with_reducible refine Ext.alloc ?_ _) | ((with_reducible refine Ext.setCell ?_ ?_ _); rotate_left; focus (first | (simp; done) | (simp; omega) | omega)) | assumption | (with_reducible refine Ext.trans ?_ (by assumption))))).le (by omega) (by omega) ?_; intro ad' c' w3 ho3 hb3 _; have hx3 : Ext w w3 := Ext.below (hx.trans (by repeat (first | (with_reducible exact Ext.refl _) | (with_reducible refine Ext.drewN ?_ _) | (with_reducible refine Ext.drew ?_) | (with_reducible refine Ext.alloc ?_ _) | ((with_reducible refine Ext.setCell ?_ ?_ _); rotate_left; focus (first | (simp; done) | (simp; omega) | omega)) | assumption | (with_reducible refine Ext.trans ?_ (by assumption))))) hb3))
            exact ⟨⟨ds ++ [(u : Int)], i, m - u, n + 1, (i : Int) - 1, r, ad', c', by rw [show ((m - u : Nat) : Int) = (m : Int) - (u : Int) by omega], rfl, rfl, rfl, by omega, by omega, by rw [Hid, List.length_append, HL.out, List.length_singleton], HD, by rw [Hid, List.map_append, U, List.map_append]; exact ho3, (by repeat (first | (with_reducible exact Ext.refl _) | (with_reducible refine Ext.drewN ?_ _) | (with_reducible refine Ext.drew ?_) | (with_reducible refine Ext.alloc ?_ _) | ((with_reducible refine Ext.setCell ?_ ?_ _); rotate_left; focus (first | (simp; done) | (simp; omega) | omega)) | assumption | (with_reducible refine Ext.trans ?_ (by assumption))))⟩, by simp [intOf]⟩
        · obtain rfl : u = m := by omega
          have HD := Lib.hid (Try1.done HF.out HT.out (.inl rfl))
          go_wp2_with (at_builtin; refine law_append1 _ rfl _ _ 32 rfl 5 (.int .u8 0) 1 und_u8s info_u8 rfl w.heap.size ad n c _ _ rfl rfl rfl (HO.out.ext (by repeat (first | (with_reducible exact Ext.refl _) | (with_reducible refine Ext.drewN ?_ _) | (with_reducible refine Ext.drew ?_) | (with_reducible refine Ext.alloc ?_ _) | ((with_reducible refine Ext.setCell ?_ ?_ _); rotate_left; focus (first | (simp; done) | (simp; omega) | omega)) | assumption | (with_reducible refine Ext.trans ?_ (by assumption))))) (hx.trans (by repeat (first | (with_reducible exact Ext.refl _) | (with_reducible refine Ext.drewN ?_ _) | (with_reducible refine Ext.drew ?_) | (with_reducible refine Ext.alloc ?_ _) | ((with_reducible refine Ext.setCell ?_ ?_ _); rotate_left; focus (first | (simp; done) | (simp; omega) | omega)) | assumption | (with_reducible refine Ext.trans ?_ (by assumption))))).le (by omega) (by omega) ?_; intro ad' c' w3 ho3 hb3 _; have hx3 : Ext w w3 := Ext.below (hx.trans (by repeat (first | (with_reducible exact Ext.refl _) | (with_reducible refine Ext.drewN ?_ _) | (with_reducible refine Ext.drew ?_) | (with_reducible refine Ext.alloc ?_ _) | ((with_reducible refine Ext.setCell ?_ ?_ _); rotate_left; focus (first | (simp; done) | (simp; omega) | omega)) | assumption | (with_reducible refine Ext.trans ?_ (by assumption))))) hb3)
          exact ⟨⟨ds ++ [(u : Int)], i, u - u, n + 1, (i : Int) - 1, r, ad', c', by simp, rfl, rfl, rfl, by omega, by omega, by rw [Hid, List.length_append, HL.out, List.length_singleton], HD, by rw [Hid, List.map_append, U, List.map_append]; exact ho3, (by repeat (first | (with_reducible exact Ext.refl _) | (with_reducible refine Ext.drewN ?_ _) | (with_reducible refine Ext.drew ?_) | (with_reducible refine Ext.alloc ?_ _) | ((with_reducible refine Ext.setCell ?_ ?_ _); rotate_left; focus (first | (simp; done) | (simp; omega) | omega)) | assumption | (with_reducible refine Ext.trans ?_ (by assumption))))⟩, by simp [intOf]⟩
    · obtain rfl : i = 0 := by omega
      have hz0 : z < 0 := by omega
      have HR := Lib.hid (run_bytes_text wr _ ad n c _ HO.out)
      have hr := HR.out
      clear hz
      go_wp2
      go_ret
      exact ⟨_, rfl, HF.out.pat, hx⟩
/-- a pattern, chosen -/
def RetDrawPat (g : Nat) (a : Option Addr) (n c : Nat) (l : List UInt8) (k : Int) (E M : Nat) (w : World) (e : Ending) (w' : World) : Prop :=
  ∃ s k', e = .returned (.string s) ∧ PatOk E M s ∧ SrcB w' g a n c l k' ∧ k ≤ k' ∧ k' ≤ k + 2 ∧ Touch g w w'
set_option maxHeartbeats 1000000 in
theorem spec_drawPat (g : Nat) (a : Option Addr) (n c : Nat) (l : List UInt8) (k : Int) (E M : Nat) (w : World) (h : SrcB w g a n c l k) (hk : 0 ≤ k) (hk2 : k ≤ 999000000) (hE : 2 ≤ E) (hE2 : E ≤ 6) (hM : E + 1 ≤ M) (hM2 : M ≤ E + 5) :
    Calls Try.prog 97 #[.pointer (some ⟨g, 0, none⟩), .int .i64 E, .int .i64 M] w (RetDrawPat g a n c l k E M w) := by
  have HS := Lib.hid h
  have HC := Lib.hid (spec_count E M w (by omega) (by omega))
  obtain ⟨hcb0, hcb1⟩ : 0 ≤ cnt E M ∧ cnt E M ≤ 100000 := cnt_bd ⟨E, by omega⟩ ⟨M, by omega⟩
  have hc1 : 1 ≤ cnt E M := by
    have := cnt_some ⟨E - 2, by omega⟩ ⟨M - E - 1, by omega⟩
    simp only at this
    rwa [show E - 2 + 2 = E by omega, show E + 1 + (M - E - 1) = M by omega] at this
  have HHalf := Lib.hid (fun (x : Int) (h0 : 0 ≤ x) (h1 : x < cnt E M) => (⟨by simp, by simp, fun d hd => (by cases hd), by omega, by omega, h0, h1⟩ : Half E M [] E M x))
  generalize cnt E M = N at *
  clear h
  go_enter Try.func97, Try.ntmps97
  go_wp2_with fail
  refine HC.out.mono ?_
  rintro e w1 ⟨rfl, hx1⟩
  have HP := Lib.hid (pick_b g a n c l k N w1 (HS.out.ext hx1) (by omega) (by omega) (by omega))
  go_wp2_with fail
  refine HP.out.mono ?_
  rintro e w2 ⟨x, k2, rfl, hx0, hx1', hs2, hk2, hk2', ht2⟩
  have HA := Lib.hid (spec_at E M x w2 (HHalf.out x hx0 (by omega)))
  have HT := Lib.hid ((Touch.refl g w).ext hx1 |>.trans ht2)
  have HS2 := Lib.hid hs2
  clear hs2 ht2
  go_wp2_with fail
  refine HA.out.mono ?_
  rintro e w3 ⟨s, rfl, hp, hx3⟩
  go_wp2
  go_ret
  exact ⟨s, k2, rfl, hp, HS2.out.ext hx3, by omega, by omega, HT.out.ext hx3⟩
set_option maxHeartbeats 1000000 in
theorem spec_has (a : Option Addr) (n c : Nat) (l : List ByteArray) (s : ByteArray) (w : World) (h : Strs w a n c l) (hn : n ≤ 1048576) :
    Calls Try.prog 98 #[.slice a n c, .string s] w (Ret (.bool (l.any fun x => s.toList == x.toList)) w) := by
  have HL := Lib.hid h.len
  obtain ⟨b, off, hix, hcell⟩ := h.ix (P := Try.prog) 22 9 und_strings cell_string
  clear h
  go_enter Try.func98, Try.ntmps98
  go_wp2_with fail
  go_loopw [5] (fun ii wr => ∃ i : Nat, i ≤ n ∧ ii = .int .i64 i ∧ Hid (NoneIn (fun x => s.toList == x.toList) (l.take i)) ∧ Ext w wr) (fun ii _ => n - (intOf ii).toNat)
  case atStart => exact ⟨0, Nat.zero_le _, rfl, Lib.hid (by simp [NoneIn]), (by repeat (first | (with_reducible exact Ext.refl _) | (with_reducible refine Ext.drewN ?_ _) | (with_reducible refine Ext.drew ?_) | (with_reducible refine Ext.alloc ?_ _) | ((with_reducible refine Ext.setCell ?_ ?_ _); rotate_left; focus (first | (simp; done) | (simp; omega) | omega)) | assumption | (with_reducible refine Ext.trans ?_ (by assumption))))⟩
  case round =>
    obtain ⟨i, hi, rfl, HNo, hx⟩ := hrel
    have hxr : Ext w wr := hx
    by_cases hlt : i < n
    · have hin : i < l.length := by rw [HL.out]; exact hlt
      have HN1 := Lib.hid (fun h => NoneIn.stepS (p := fun x => s.toList == x.toList) hin h HNo.out)
      have HN2 := Lib.hid (fun (h : (s.toList == (gs l i).toList) = true) => show l.any (fun x => s.toList == x.toList) = true from List.any_eq_true.2 ⟨gs l i, gs_mem hin, h⟩)
      clear hin
      cases heq : ((gs l i).toList == s.toList)
      · have HX := Lib.hid (HN1.out (by rw [BEq.comm]; exact heq))
        go_wp2
        exact ⟨⟨i + 1, by omega, by go_num, HX.out, (by repeat (first | (with_reducible exact Ext.refl _) | (with_reducible refine Ext.drewN ?_ _) | (with_reducible refine Ext.drew ?_) | (with_reducible refine Ext.alloc ?_ _) | ((with_reducible refine Ext.setCell ?_ ?_ _); rotate_left; focus (first | (simp; done) | (simp; omega) | omega)) | assumption | (with_reducible refine Ext.trans ?_ (by assumption))))⟩, by simp [intOf]; omega⟩
      · have HX := Lib.hid (HN2.out (by rw [BEq.comm]; exact heq))
        go_wp2
        go_ret
        exact ⟨rb HX.out.symm, (by repeat (first | (with_reducible exact Ext.refl _) | (with_reducible refine Ext.drewN ?_ _) | (with_reducible refine Ext.drew ?_) | (with_reducible refine Ext.alloc ?_ _) | ((with_reducible refine Ext.setCell ?_ ?_ _); rotate_left; focus (first | (simp; done) | (simp; omega) | omega)) | assumption | (with_reducible refine Ext.trans ?_ (by assumption))))⟩
    · go_wp2
      go_ret
      refine ⟨rb (Bool.eq_false_iff.2 fun h => ?_).symm, (by repeat (first | (with_reducible exact Ext.refl _) | (with_reducible refine Ext.drewN ?_ _) | (with_reducible refine Ext.drew ?_) | (with_reducible refine Ext.alloc ?_ _) | ((with_reducible refine Ext.setCell ?_ ?_ _); rotate_left; focus (first | (simp; done) | (simp; omega) | omega)) | assumption | (with_reducible refine Ext.trans ?_ (by assumption))))⟩
      have h1 := HNo.out
      rw [take_full (by rw [HL.out]; omega)] at h1
      obtain ⟨x, hx1, hx2⟩ := List.any_eq_true.1 h
      have := h1 x hx1
      simp only at this hx2
      rw [this] at hx2
      cases hx2
/-- one of some texts, chosen -/
def RetText (g : Nat) (a : Option Addr) (n c : Nat) (l : List UInt8) (k : Int) (ts : List ByteArray) (w : World) (e : Ending) (w' : World) : Prop :=
  ∃ s k', e = .returned (.string s) ∧ s ∈ ts ∧ SrcB w' g a n c l k' ∧ k ≤ k' ∧ k' ≤ k + 2 ∧ Touch g w w'
set_option maxHeartbeats 1000000 in
theorem src_text (g : Nat) (a : Option Addr) (n c : Nat) (l : List UInt8) (k : Int) (ad : Option Addr) (m d : Nat) (ts : List ByteArray) (w : World) (h : SrcB w g a n c l k) (hk : 0 ≤ k) (hk2 : k ≤ 999000000) (ht : Strs w ad m d ts) (hm : 1 ≤ m) (hm2 : m ≤ 1000) (hne : ∀ x, ad = some x → x.block ≠ g) :
    Calls Try.prog 99 #[.pointer (some ⟨g, 0, none⟩), .slice ad m d] w (RetText g a n c l k ts w) := by
  have HL := Lib.hid ht.len
  have HP := Lib.hid (pick_b g a n c l k (m : Int) w h hk (by omega) (by omega))
  have HC := Lib.hid (fun w' (htt : Touch g w w') => show Strs w' ad m d ts from by
    refine ⟨Sl.len ht, Sl.cap ht, fun h0 => ?_⟩
    obtain ⟨b1, off, ha, hc⟩ := Sl.cells ht h0
    exact ⟨b1, off, ha, fun k hk => (World.cell?_of_block (w := w) (htt.block b1 (World.block_lt_of_cell? w _ (hc k hk)) (hne _ ha))).trans (hc k hk)⟩)
  clear h ht hne
  go_enter Try.func99, Try.ntmps99
  go_wp2_with fail
  refine HP.out.mono ?_
  rintro e w1 ⟨x, k1, rfl, hx0, hx1, hs, hk1, hk2, htt⟩
  obtain ⟨i, rfl⟩ := Int.eq_ofNat_of_zero_le hx0
  have him : i < m := by omega
  obtain ⟨b, off, hix, hcell⟩ := (HC.out w1 htt).ix (P := Try.prog) 22 9 und_strings cell_string
  have hxx : Ext w1 w1 := Ext.refl _
  have HS := Lib.hid hs
  have HT := Lib.hid htt
  clear hs htt
  go_wp2
  go_ret
  exact ⟨_, k1, rfl, gs_mem (by rw [HL.out]; exact him), HS.out, hk1, hk2, HT.out⟩
end Go.Proofs.Ytnmkckghfckgbaa

/- Walks: a valid barcode is chosen. -/
namespace Go.Proofs.Ytnmkckghfckgbaa
set_option maxRecDepth 100000
open Go.RowKit

/-! ### plain -/
theorem all_snocB {α : Type} {p : α → Prop} {l : List α} {x : α} (h : ∀ y ∈ l, p y) (hx : p x) : ∀ y ∈ l ++ [x], p y := fun y hy => by
  rcases List.mem_append.1 hy with hy | hy
  · exact h y hy
  · obtain rfl := List.mem_singleton.1 hy; exact hx
theorem SAt.touchB {w w' : World} {g q : Nat} {T : TypeId} {cs : Array Value} (h : SAt w q T cs) (ht : Touch g w w') (hne : q ≠ g) : SAt w' q T cs := (ht.block q h.lt hne).trans h
def stopsL : List ByteArray := [⟨#[49]⟩, ⟨#[51]⟩, ⟨#[49, 49, 49]⟩, ⟨#[50, 49, 49]⟩, ⟨#[51, 49, 51]⟩, ⟨#[50, 49, 49, 49, 49, 49, 50]⟩, ⟨#[52, 50, 49, 49, 49]⟩]
def evensL : List ByteArray := [⟨#[49, 49]⟩, ⟨#[50, 49]⟩, ⟨#[50, 49, 50, 49]⟩, ⟨#[49, 49, 49, 49]⟩, ⟨#[51, 49, 50, 49, 52, 49]⟩]
def oddsL : List ByteArray := [⟨#[49]⟩, ⟨#[49, 49, 49]⟩, ⟨#[49, 50, 49]⟩, ⟨#[51, 49, 51]⟩, ⟨#[49, 50, 49, 49, 49]⟩]
theorem stops_ok : ∀ s ∈ stopsL, patB (pl s) = true ∧ s.size % 2 = 1 := by decide +kernel
theorem evens_ok : ∀ s ∈ evensL, patB (pl s) = true ∧ s.size % 2 = 0 := by decide +kernel
theorem odds_ok : ∀ s ∈ oddsL, patB (pl s) = true ∧ s.size % 2 = 1 := by decide +kernel
/-- patterns of one length and one sum, none twice -/
def PatsOk (E M : Nat) (l : List ByteArray) : Prop := (∀ p ∈ l, PatOk E M p) ∧ ∀ k, k < l.length → ((l.take k).any fun p => (gs l k).toList == p.toList) = false
theorem PatsOk.nil (E M : Nat) : PatsOk E M [] := ⟨fun p hp => (by cases hp), fun k hk => (by simp at hk)⟩
theorem gs_app_lt {l : List ByteArray} {s : ByteArray} {k : Nat} (h : k < l.length) : gs (l ++ [s]) k = gs l k := by
  unfold gs; rw [List.getD_eq_getElem?_getD, List.getElem?_append_left h, List.getD_eq_getElem?_getD]
theorem gs_app {l : List ByteArray} {s : ByteArray} : gs (l ++ [s]) l.length = s := by
  unfold gs; rw [List.getD_eq_getElem?_getD, List.getElem?_append_right (Nat.le_refl _)]; simp
theorem PatsOk.push {E M : Nat} {l : List ByteArray} (h : PatsOk E M l) {s : ByteArray} (hs : PatOk E M s) (hn : (l.any fun x => s.toList == x.toList) = false) : PatsOk E M (l ++ [s]) := by
  refine ⟨all_snocB h.1 hs, fun k hk => ?_⟩
  simp only [List.length_append, List.length_singleton] at hk
  by_cases he : k = l.length
  · subst he
    rw [gs_app, List.take_append_of_le_length (Nat.le_refl _), List.take_length]
    exact hn
  · rw [gs_app_lt (by omega), List.take_append_of_le_length (by omega)]
    exact h.2 k (by omega)
theorem drawn_valid {E M : Nat} {l : List ByteArray} (hE : 2 ≤ E ∧ E ≤ 6) (hM : E + 1 ≤ M ∧ M ≤ E + 5) (hl : 1 ≤ l.length ∧ l.length ≤ 8) (hp : PatsOk E M l) {st sp : ByteArray} {gap : Int} (hsp : sp ∈ stopsL)
    (h : (E % 2 = 0 ∧ st ∈ evensL ∧ gap = 0) ∨ (E % 2 = 1 ∧ st ∈ oddsL ∧ 1 ≤ gap ∧ gap ≤ 3)) : validBc ⟨st, sp, l, gap⟩ = true := by
  obtain ⟨hs1, hs2⟩ := stops_ok sp hsp
  have hat : ∀ k, k < l.length → PatOk E M (gs l k) := fun k hk => hp.1 _ (gs_mem hk)
  have hall : ∀ k, k ≤ l.length → allB l k = true := by
    intro k
    induction k with
    | zero => intro _; rfl
    | succ k ih =>
      intro hk
      obtain ⟨e1, e2, e3⟩ := hat k (by omega)
      obtain ⟨z1, z2, z3⟩ := hat 0 (by omega)
      rw [allB, ih (by omega), oneB, Bool.true_and]
      have hpat : patB (pl (gs l k)) = true := by
        unfold patB
        simp only [Bool.and_eq_true, inB_t, decide_eq_true_eq]
        refine ⟨e3, ?_, ?_⟩
        · rw [pl_len]; omega
        · rw [pl]; omega
      rw [hpat, Bool.true_and]
      simp only [Bool.and_eq_true, decide_eq_true_eq, Bool.not_eq_true']
      exact ⟨by omega, by rw [pl, pl, e2, z2], hp.2 k (by omega)⟩
  obtain ⟨z1, z2, z3⟩ := hat 0 (by omega)
  have hst : patB (pl st) = true ∧ st.size % 2 = E % 2 := by
    rcases h with ⟨h1, h2, _⟩ | ⟨h1, h2, _⟩
    · have := evens_ok st h2; exact ⟨this.1, by omega⟩
    · have := odds_ok st h2; exact ⟨this.1, by omega⟩
  unfold validBc headB
  rw [hall _ (Nat.le_refl _)]
  simp only [hst.1, hs1, Bool.true_and, Bool.and_eq_true, inB_t]
  refine ⟨⟨⟨by omega, by omega⟩, by omega, by omega⟩, ?_⟩
  unfold tailB
  simp only [Bool.and_eq_true, beq_iff_eq, z1]
  refine ⟨by omega, by omega, ?_⟩
  rcases h with ⟨h1, h2, h3⟩ | ⟨h1, h2, h3⟩
  · subst h3
    rw [show ((st.size : Int) % 2 == 1) = false from by simp; omega]; rfl
  · rw [show ((st.size : Int) % 2 == 1) = true from by simp; omega, decide_eq_true (by omega)]

/-! ### the walk -/
theorem strs_lit (w : World) (ts : List ByteArray) (hn : ts.length ≤ 1000) : Strs (w.alloc (.cells (St ts).toArray 9)) (some ⟨w.heap.size, 0, none⟩) ts.length ts.length ts := by
  have h := World.ownsRow_lit (e := 9) (size := 1) (base := w.heap.size) w (St ts).toArray ts.length (Nat.le_refl _) (by unfold maxLen; omega) (by simp [St_len])
  have h2 : Own (w.alloc (.cells (St ts).toArray 9)) w.heap.size 9 (some ⟨w.heap.size, 0, none⟩) ts.length ts.length (St ts).toArray.toList := h
  exact h2.sl
/-- half chosen: block q1 is for the result, block q2 holds the barcode -/
structure BI (w : World) (g q1 q2 : Nat) (st sp : ByteArray) (gap : Int) (v2 : Value) (ad : Option Addr) (n c : Nat) (l : List ByteArray) (W : World) : Prop where
  z : SAt W q1 28 #[.string ⟨#[]⟩, .string ⟨#[]⟩, .slice none 0 0, .int .i64 0]
  s : SAt W q2 28 #[.string st, .string sp, v2, .int .i64 gap]
  o : Own W w.heap.size 9 ad n c (St l)
  h : Touch g w W
  gw : g < w.heap.size
  q : w.heap.size ≤ q1 ∧ q1 < q2
section
variable {w : World} {g q1 q2 : Nat} {st sp : ByteArray} {gap : Int} {v2 : Value} {ad : Option Addr} {n c : Nat} {l : List ByteArray} {W W' : World}
theorem BI.touch (d : BI w g q1 q2 st sp gap v2 ad n c l W) (ht : Touch g W W') : BI w g q1 q2 st sp gap v2 ad n c l W' := by
  have h1 := d.gw; have h2 := d.q
  exact ⟨d.z.touchB ht (by omega), d.s.touchB ht (by omega), d.o.touchNe ht h1, d.h.trans ht, h1, h2⟩
theorem BI.ext (d : BI w g q1 q2 st sp gap v2 ad n c l W) (hx : Ext W W') : BI w g q1 q2 st sp gap v2 ad n c l W' :=
  ⟨d.z.ext hx, d.s.ext hx, d.o.ext hx, d.h.ext hx, d.gw, d.q⟩
theorem BI.set (d : BI w g q1 q2 st sp gap v2 ad n c l W) (j : Nat) (u : Value) {st' sp' : ByteArray} {gap' : Int} {v2' : Value} (he : (#[Value.string st, .string sp, v2, .int .i64 gap]).setIfInBounds j u = #[.string st', .string sp', v2', .int .i64 gap']) :
    BI w g q1 q2 st' sp' gap' v2' ad n c l (W.setCell ⟨q2, j, none⟩ u) := by
  have h2 := d.q
  have hs := d.s.set j u
  rw [he] at hs
  exact ⟨d.z.other u (by simp; omega), hs, d.o.setS d.s (by decide) j u, d.h.below (Below.setCell (Below.refl w.heap.size _) (by simp only; omega) u) (Nat.le_refl _), d.gw, h2⟩
theorem BI.app (d : BI w g q1 q2 st sp gap v2 ad n c l W) {s : ByteArray} {ad' : Option Addr} {c' : Nat} (hb : Below w.heap.size W W') (hg : W.grownBy W' (Value.slice ad n c).ownBlock) (ho : Own W' w.heap.size 9 ad' (n + 1) c' (St l ++ [.string s])) :
    BI w g q1 q2 st sp gap v2 ad' (n + 1) c' (l ++ [s]) W' :=
  ⟨d.z.grown hg (row_ne_s (d.o.ne_s d.z (by decide))), d.s.grown hg (row_ne_s (d.o.ne_s d.s (by decide))), by rw [St, List.map_append]; exact ho, d.h.below hb (Nat.le_refl _), d.gw, d.q⟩
end
theorem info_string : (Try.prog.info? 9).map (fun i => (i.zero, i.size, i.bytes)) = some (some (.string ⟨#[]⟩), 1, 16) := by kernel_rfl
/-- a valid barcode, chosen -/
def RetDrawBc (g : Nat) (a : Option Addr) (n c : Nat) (l : List UInt8) (k : Int) (w : World) (e : Ending) (w' : World) : Prop :=
  ∃ (D : Bc) (ad : Option Addr) (m d : Nat) (k' : Int), e = .returned (.agg #[.string D.start, .string D.stop, .slice ad m d, .int .i64 D.gap]) ∧ validBc D = true ∧ D.pats.length = m ∧ Own w' w.heap.size 9 ad m d (St D.pats) ∧ SrcB w' g a n c l k' ∧ k ≤ k' ∧ k' ≤ k + 100 ∧ Touch g w w'
set_option maxHeartbeats 8000000 in
theorem spec_drawBc (g : Nat) (a : Option Addr) (n c : Nat) (l : List UInt8) (k : Int) (w : World) (h : SrcB w g a n c l k) (hk : 0 ≤ k) (hk2 : k ≤ 900000000) :
    Calls Try.prog 56 #[.pointer (some ⟨g, 0, none⟩)] w (RetDrawBc g a n c l k w) := by
  have hgw : g < w.heap.size := h.g
  have HS0 := Lib.hid h
  clear h
  go_enter Try.func56, Try.ntmps56
  go_wp2_with fail
  obtain ⟨wz, hwz⟩ : ∃ wz, wz = w.alloc (.cells #[.string ⟨#[]⟩, .string ⟨#[]⟩, .slice none 0 0, .int .i64 0] 28) := ⟨_, rfl⟩
  have hxz : Ext w wz := by rw [hwz]; exact (by repeat (first | (with_reducible exact Ext.refl _) | (with_reducible refine Ext.drewN ?_ _) | (with_reducible refine Ext.drew ?_) | (with_reducible refine Ext.alloc ?_ _) | ((with_reducible refine Ext.setCell ?_ ?_ _); rotate_left; focus (first | (simp; done) | (simp; omega) | omega)) | assumption | (with_reducible refine Ext.trans ?_ (by assumption))))
  have HZ := Lib.hid (show SAt wz w.heap.size 28 #[.string ⟨#[]⟩, .string ⟨#[]⟩, .slice none 0 0, .int .i64 0] by rw [hwz]; exact SAt.new' _ _ _ rfl)
  have hzs : wz.heap.size = w.heap.size + 1 := by rw [hwz]; simp
  have HTz := Lib.hid (show Touch g w wz from (Touch.refl _ _).ext hxz)
  have HSz := Lib.hid (HS0.out.ext hxz)
  rw [← hwz]
  clear hwz
  refine (pick_b g a n c l k 5 wz HSz.out (by omega) (by omega) (by omega)).mono ?_
  rintro e w1 ⟨x1, k1, rfl, hx10, hx11, hs1, hk1, hk1', ht1⟩
  have HT1 := Lib.hid (HTz.out.trans ht1)
  have HZ1 := Lib.hid (HZ.out.touchB ht1 (by omega))
  have HS1 := Lib.hid hs1
  obtain ⟨E, hE⟩ : ∃ E : Nat, 2 + x1 = (E : Int) := Int.eq_ofNat_of_zero_le (by omega)
  have hE6 : 2 ≤ E ∧ E ≤ 6 := by omega
  have h01 : wz.heap.size ≤ w1.heap.size := ht1.size
  clear hs1 ht1
  go_wp2_with fail
  refine (pick_b g a n c l k1 5 w1 HS1.out (by omega) (by omega) (by omega)).mono ?_
  rintro e w2 ⟨x2, k2, rfl, hx20, hx21, hs2, hk2, hk2', ht2⟩
  have HT2 := Lib.hid (HT1.out.trans ht2)
  have HZ2 := Lib.hid (HZ1.out.touchB ht2 (by omega))
  have HS2 := Lib.hid hs2
  obtain ⟨M, hM⟩ : ∃ M : Nat, (E : Int) + 1 + x2 = (M : Int) := Int.eq_ofNat_of_zero_le (by omega)
  have hM6 : E + 1 ≤ M ∧ M ≤ E + 5 := by omega
  have h02 : w1.heap.size ≤ w2.heap.size := ht2.size
  clear hs2 ht2 hx10 hx11 hx20 hx21
  go_wp2_with fail
  obtain ⟨q1, hq1⟩ : ∃ q1, q1 = w.heap.size := ⟨_, rfl⟩
  obtain ⟨e0, he0⟩ : ∃ e0, e0 = w2.heap.size := ⟨_, rfl⟩
  obtain ⟨wb, hwb⟩ : ∃ wb, wb = (w2.alloc (Obj.cells #[] 9)).alloc (Obj.cells #[.string ⟨#[]⟩, .string ⟨#[]⟩, .slice (some ⟨w2.heap.size, 0, none⟩) 0 0, .int .i64 0] 28) := ⟨_, rfl⟩
  have hxb : Ext w2 wb := by rw [hwb]; exact (by repeat (first | (with_reducible exact Ext.refl _) | (with_reducible refine Ext.drewN ?_ _) | (with_reducible refine Ext.drew ?_) | (with_reducible refine Ext.alloc ?_ _) | ((with_reducible refine Ext.setCell ?_ ?_ _); rotate_left; focus (first | (simp; done) | (simp; omega) | omega)) | assumption | (with_reducible refine Ext.trans ?_ (by assumption))))
  have HD0 := Lib.hid (show BI w g q1 (e0 + 1) ⟨#[]⟩ ⟨#[]⟩ 0 (.slice (some ⟨e0, 0, none⟩) 0 0) (some ⟨e0, 0, none⟩) 0 0 [] wb from by
    refine ⟨by rw [hq1]; exact HZ2.out.ext hxb, by rw [hwb, he0]; exact SAt.new' _ _ _ (by simp), ?_, HT2.out.ext hxb, hgw, by omega⟩
    rw [hwb, he0]; exact (Own.lit0' w2 9 (by omega) rfl).alloc' _)
  have HSb := Lib.hid (HS2.out.ext hxb)
  rw [← hq1, ← he0] at *
  rw [← hwb]
  have HQ1 := Lib.hid hq1
  obtain ⟨q2, hq2⟩ : ∃ q2, q2 = e0 + 1 := ⟨_, rfl⟩
  rw [← hq2] at HD0 ⊢
  clear hq2 hq1 he0 hwb
  refine (pick_b g a n c l k2 8 wb HSb.out (by omega) (by omega) (by omega)).mono ?_
  rintro e w3 ⟨r0, k3, rfl, hr0, hr1, hs3, hk3, hk3', ht3⟩
  obtain ⟨R, hR⟩ : ∃ R : Nat, 1 + r0 = (R : Int) := Int.eq_ofNat_of_zero_le (by omega)
  have hR8 : 1 ≤ R ∧ R ≤ 8 := by omega
  have HD3 := Lib.hid (HD0.out.touch ht3)
  have HS3 := Lib.hid hs3
  have hk3b : k ≤ k3 ∧ k3 ≤ k + 6 := by omega
  clear hs3 ht3 hr0 hr1 HD0 HSb HZ HZ1 HZ2 HS0 HSz HTz HT1 HT2 HS1 HS2 hxz hxb hzs h01 h02 hk1 hk1' hk2' hk3 hk3' hE hM
  go_wp2
  go_loopw [6, 7] (fun kc _ wr => ∃ (x r : Nat) (ad : Option Addr) (cc : Nat) (pats : List ByteArray) (kk : Int), x + r ≤ R ∧ (1 ≤ x ∨ r = R) ∧ kc = .int .i64 r ∧ Hid (pats.length = x) ∧ Hid (PatsOk E M pats) ∧
      Hid (BI w g q1 q2 ⟨#[]⟩ ⟨#[]⟩ 0 (.slice ad x cc) ad x cc pats wr) ∧ Hid (SrcB wr g a n c l kk) ∧ k ≤ kk ∧ kk + 2 * r ≤ k + 30) (fun kc _ _ => (intOf kc).toNat)
  case atStart => exact ⟨0, R, _, 0, [], k3, by omega, .inr rfl, by first | rw [hR] | rfl, rfl, PatsOk.nil E M, HD3.out, HS3.out, by omega, by omega⟩
  case round =>
    clear HD3 HS3 hk3b hR
    obtain ⟨x, r, ad, cc, pats, kk, hxr, hx1, rfl, HL, HP, HD, HS, hka, hkb⟩ := hrel
    by_cases hr : 0 < r
    · have HDp := Lib.hid (spec_drawPat g a n c l kk E M wr HS.out (by omega) (by omega) hE6.1 hE6.2 hM6.1 hM6.2)
      go_wp2_with fail
      refine HDp.out.mono ?_
      rintro e w6 ⟨s, k6, rfl, hpo, hs6, hk6, hk6', ht6⟩
      have HD6 := Lib.hid (HD.out.touch ht6)
      have HS6 := Lib.hid hs6
      have HPo := Lib.hid hpo
      have c2 := HD6.out.s.cell 2 (by simp)
      try simp only [List.getElem_toArray, List.getElem_cons_succ, List.getElem_cons_zero] at c2
      clear hpo hs6 ht6 HDp HD HS
      go_wp2_with fail
      refine (spec_has ad x cc pats s w6 HD6.out.o.sl (by omega)).mono ?_
      rintro e w7 ⟨rfl, hx7⟩
      have HD7 := Lib.hid (HD6.out.ext hx7)
      have HS7 := Lib.hid (HS6.out.ext hx7)
      have hw7 := HD7.out.h.size
      clear c2 hx7 HD6 HS6
      have c2 := HD7.out.s.cell 2 (by simp)
      have fr7 := fun j => HD7.out.s.frozen j
      have hlt7 := HD7.out.s.lt
      try simp only [List.getElem_toArray, List.getElem_cons_succ, List.getElem_cons_zero] at c2
      cases hh : pats.any fun x => s.toList == x.toList
      · have HPN := Lib.hid (HP.out.push HPo.out hh)
        clear hh
        go_wp2_with (at_builtin; refine law_append1 _ rfl _ _ 22 rfl 9 (.string ⟨#[]⟩) 16 und_strings info_string rfl w.heap.size ad x cc _ _ rfl rfl rfl HD7.out.o hw7 (by omega) (by omega) ?_; intro ad' cc' w8 ho8 hb8 hg8; have HD8 := Lib.hid (HD7.out.app hb8 hg8 ho8); have HS8 := Lib.hid (HS7.out.below hb8 hgw); have c28 := HD8.out.s.cell 2 (by simp); have fr8 := fun j => HD8.out.s.frozen j; have hlt8 := HD8.out.s.lt; clear ho8 hb8 hg8; (try simp only [List.getElem_toArray, List.getElem_cons_succ, List.getElem_cons_zero] at c28))
        exact ⟨⟨x + 1, r - 1, ad', cc', pats ++ [s], k6, by omega, .inl (by omega), by go_num, by rw [Hid, List.length_append, HL.out, List.length_singleton], HPN.out, HD8.out.set 2 (.slice ad' (x + 1) cc') rfl, HS8.out.below (Below.setCell (Below.refl w.heap.size w8) (p := ⟨q2, 2, none⟩) (by have := HD8.out.q; simp only; omega) _) hgw, by omega, by omega⟩, by simp [intOf]; omega⟩
      · have hx1' : 1 ≤ x := by
          rcases Nat.eq_zero_or_pos x with h0 | h0
          · have h1 := HL.out
            rw [h0, List.length_eq_zero_iff] at h1
            rw [h1] at hh; cases hh
          · exact h0
        clear hh
        go_wp2
        exact ⟨⟨x, r - 1, ad, cc, pats, k6, by omega, .inl hx1', by go_num, HL.out, HP.out, HD7.out, HS7.out, by omega, by omega⟩, by simp [intOf]; omega⟩
    · obtain rfl : r = 0 := by omega
      have hx8 : 1 ≤ x ∧ x ≤ 8 := by omega
      clear hr hx1 hxr hR8
      go_wp2_with fail
      refine (src_text g a n c l kk (some ⟨wr.heap.size, 0, none⟩) 7 7 stopsL _ (HS.out.ext ((Ext.refl _).alloc _)) (by omega) (by omega) (strs_lit wr stopsL (by decide)) (by omega) (by omega) (fun x hx => by cases hx; have := HS.out.g; simp only; omega)).mono ?_
      rintro e w9 ⟨sp, k9, rfl, hsp, hs9, hk9, hk9', ht9⟩
      have HD9 := Lib.hid ((HD.out.ext ((Ext.refl _).alloc _)).touch ht9)
      have HS9 := Lib.hid hs9
      have HSp := Lib.hid hsp
      have c1 := HD9.out.s.cell 1 (by simp)
      have fr := fun j => HD9.out.s.frozen j
      have hlt := HD9.out.s.lt
      try simp only [List.getElem_toArray, List.getElem_cons_succ, List.getElem_cons_zero] at c1
      clear hs9 ht9 hsp HD HS
      have hkk9 : k ≤ k9 ∧ k9 ≤ k + 32 := by omega
      clear hka hkb hk9 hk9'
      have HD9b := Lib.hid (HD9.out.set 1 (.string sp) rfl)
      have HS9b := Lib.hid (HS9.out.below (Below.setCell (Below.refl w.heap.size w9) (p := ⟨q2, 1, none⟩) (by have := HD9.out.q; simp only; omega) (.string sp)) hgw)
      by_cases hev : (E : Int) % 2 = 0
      · go_wp2_with fail
        obtain ⟨w9b, hw9b⟩ : ∃ W, W = w9.setCell ⟨q2, 1, none⟩ (.string sp) := ⟨_, rfl⟩
        have hsz9 : w9b.heap.size = w9.heap.size := by rw [hw9b]; simp
        rw [← hw9b] at HD9b HS9b ⊢
        clear hw9b c1 fr hlt HD9 HS9
        refine (src_text g a n c l k9 (some ⟨w9.heap.size, 0, none⟩) 5 5 evensL _ (HS9b.out.ext ((Ext.refl _).alloc _)) (by omega) (by omega) (by rw [← hsz9]; exact strs_lit w9b evensL (by decide)) (by omega) (by omega) (fun x hx => by cases hx; have := HS9b.out.g; simp only; omega)).mono ?_
        rintro e w10 ⟨st, k10, rfl, hst, hs10, hk10, hk10', ht10⟩
        have HD10 := Lib.hid ((HD9b.out.ext ((Ext.refl _).alloc _)).touch ht10)
        have HS10 := Lib.hid hs10
        have HSt := Lib.hid hst
        have c0 := HD10.out.s.cell 0 (by simp)
        have fr := fun j => HD10.out.s.frozen j
        have hlt := HD10.out.s.lt
        try simp only [List.getElem_toArray, List.getElem_cons_zero] at c0
        clear hs10 ht10 hst HD9b HS9b hsz9
        have HD10b := Lib.hid (HD10.out.set 0 (.string st) rfl)
        have HS10b := Lib.hid (HS10.out.below (Below.setCell (Below.refl w.heap.size w10) (p := ⟨q2, 0, none⟩) (by have := HD10.out.q; simp only; omega) (.string st)) hgw)
        have c1 := HD10.out.s.cell 1 (by simp)
        have c2 := HD10.out.s.cell 2 (by simp)
        have c3 := HD10.out.s.cell 3 (by simp)
        have z0 := HD10.out.z.cell 0 (by simp)
        have z1 := HD10.out.z.cell 1 (by simp)
        have z2 := HD10.out.z.cell 2 (by simp)
        have z3 := HD10.out.z.cell 3 (by simp)
        have frz := fun j => HD10.out.z.frozen j
        have hltz := HD10.out.z.lt
        have hqq := HD10.out.q.2
        try simp only [List.getElem_toArray, List.getElem_cons_succ, List.getElem_cons_zero] at c1 c2 c3 z0 z1 z2 z3
        have HV := Lib.hid (drawn_valid hE6 hM6 (by rw [HL.out]; exact hx8) HP.out HSp.out (st := st) (gap := 0) (.inl ⟨by omega, HSt.out, rfl⟩))
        go_wp2
        have zz := HD10b.out.z
        refine bodyPost_ret (v := .agg #[.string st, .string sp, .slice ad x cc, .int .i64 0]) ?_ rfl ?_
        · simp [results, Try.results56, go_sem, z0, z1, z2, z3]
        · have hq := HD10b.out.q
          exact ⟨⟨st, sp, pats, 0⟩, ad, x, cc, k10, rfl, HV.out, HL.out, ((((HD10b.out.o.setS zz (by decide) 0 (.string st)).setS (zz.set 0 (.string st)) (by decide) 1 (.string sp)).setS ((zz.set 0 (.string st)).set 1 (.string sp)) (by decide) 2 (.slice ad x cc)).setS (((zz.set 0 (.string st)).set 1 (.string sp)).set 2 (.slice ad x cc)) (by decide) 3 (.int .i64 0)), HS10b.out.below (B := w.heap.size) (by repeat (first | (with_reducible exact Below.refl _ _) | ((with_reducible refine Below.setCell ?_ ?_ _); rotate_left; focus (simp only; omega)))) hgw, by omega, by omega, HD10b.out.h.below (B := w.heap.size) (by repeat (first | (with_reducible exact Below.refl _ _) | ((with_reducible refine Below.setCell ?_ ?_ _); rotate_left; focus (simp only; omega)))) (Nat.le_refl _)⟩
      · go_wp2_with fail
        obtain ⟨w9b, hw9b⟩ : ∃ W, W = w9.setCell ⟨q2, 1, none⟩ (.string sp) := ⟨_, rfl⟩
        have hsz9 : w9b.heap.size = w9.heap.size := by rw [hw9b]; simp
        rw [← hw9b] at HD9b HS9b ⊢
        clear hw9b c1 fr hlt HD9 HS9
        refine (src_text g a n c l k9 (some ⟨w9.heap.size, 0, none⟩) 5 5 oddsL _ (HS9b.out.ext ((Ext.refl _).alloc _)) (by omega) (by omega) (by rw [← hsz9]; exact strs_lit w9b oddsL (by decide)) (by omega) (by omega) (fun x hx => by cases hx; have := HS9b.out.g; simp only; omega)).mono ?_
        rintro e w10 ⟨st, k10, rfl, hst, hs10, hk10, hk10', ht10⟩
        have HD10 := Lib.hid ((HD9b.out.ext ((Ext.refl _).alloc _)).touch ht10)
        have HS10 := Lib.hid hs10
        have HSt := Lib.hid hst
        have c0 := HD10.out.s.cell 0 (by simp)
        have fr := fun j => HD10.out.s.frozen j
        have hlt := HD10.out.s.lt
        try simp only [List.getElem_toArray, List.getElem_cons_zero] at c0
        clear hs10 ht10 hst HD9b HS9b hsz9
        have HD10b := Lib.hid (HD10.out.set 0 (.string st) rfl)
        have HS10b := Lib.hid (HS10.out.below (Below.setCell (Below.refl w.heap.size w10) (p := ⟨q2, 0, none⟩) (by have := HD10.out.q; simp only; omega) (.string st)) hgw)
        go_wp2_with fail
        obtain ⟨w10b, hw10b⟩ : ∃ W, W = w10.setCell ⟨q2, 0, none⟩ (.string st) := ⟨_, rfl⟩
        rw [← hw10b] at HD10b HS10b ⊢
        clear hw10b c0 fr hlt HD10 HS10
        refine (pick_b g a n c l k10 3 w10b HS10b.out (by omega) (by omega) (by omega)).mono ?_
        rintro e w11 ⟨g0, k11, rfl, hg0, hg1, hs11, hk11, hk11', ht11⟩
        have HD11 := Lib.hid (HD10b.out.touch ht11)
        have HS11 := Lib.hid hs11
        clear hs11 ht11 HD10b HS10b
        have c0 := HD11.out.s.cell 0 (by simp)
        have c1 := HD11.out.s.cell 1 (by simp)
        have c2 := HD11.out.s.cell 2 (by simp)
        have c3 := HD11.out.s.cell 3 (by simp)
        have z0 := HD11.out.z.cell 0 (by simp)
        have z1 := HD11.out.z.cell 1 (by simp)
        have z2 := HD11.out.z.cell 2 (by simp)
        have z3 := HD11.out.z.cell 3 (by simp)
        have fr := fun j => HD11.out.s.frozen j
        have hlt := HD11.out.s.lt
        have frz := fun j => HD11.out.z.frozen j
        have hltz := HD11.out.z.lt
        have hqq := HD11.out.q.2
        try simp only [List.getElem_toArray, List.getElem_cons_succ, List.getElem_cons_zero] at c0 c1 c2 c3 z0 z1 z2 z3
        have HV := Lib.hid (drawn_valid hE6 hM6 (by rw [HL.out]; exact hx8) HP.out HSp.out (st := st) (gap := 1 + g0) (.inr ⟨by omega, HSt.out, by omega, by omega⟩))
        have HD11b := Lib.hid (HD11.out.set 3 (.int .i64 (1 + g0)) rfl)
        have HS11b := Lib.hid (HS11.out.below (Below.setCell (Below.refl w.heap.size w11) (p := ⟨q2, 3, none⟩) (by have := HD11.out.q; simp only; omega) (.int .i64 (1 + g0))) hgw)
        go_wp2
        have zz := HD11b.out.z
        refine bodyPost_ret (v := .agg #[.string st, .string sp, .slice ad x cc, .int .i64 (1 + g0)]) ?_ rfl ?_
        · simp [results, Try.results56, go_sem, z0, z1, z2, z3]
        · have hq := HD11b.out.q
          exact ⟨⟨st, sp, pats, 1 + g0⟩, ad, x, cc, k11, rfl, HV.out, HL.out, ((((HD11b.out.o.setS zz (by decide) 0 (.string st)).setS (zz.set 0 (.string st)) (by decide) 1 (.string sp)).setS ((zz.set 0 (.string st)).set 1 (.string sp)) (by decide) 2 (.slice ad x cc)).setS (((zz.set 0 (.string st)).set 1 (.string sp)).set 2 (.slice ad x cc)) (by decide) 3 (.int .i64 (1 + g0))), HS11b.out.below (B := w.heap.size) (by repeat (first | (with_reducible exact Below.refl _ _) | ((with_reducible refine Below.setCell ?_ ?_ _); rotate_left; focus (simp only; omega)))) hgw, by omega, by omega, HD11b.out.h.below (B := w.heap.size) (by repeat (first | (with_reducible exact Below.refl _ _) | ((with_reducible refine Below.setCell ?_ ?_ _); rotate_left; focus (simp only; omega)))) (Nat.le_refl _)⟩
/-- a valid barcode of the call's own -/
def RetR8Bc (w : World) (e : Ending) (w' : World) : Prop :=
  ∃ (D : Bc) (ad : Option Addr) (m d : Nat), e = .returned (.agg #[.string D.start, .string D.stop, .slice ad m d, .int .i64 D.gap]) ∧ validBc D = true ∧ D.pats.length = m ∧ Strs w' ad m d D.pats ∧ Ext w w'
set_option maxHeartbeats 1000000 in
theorem spec_R8Barcode (a : Option Addr) (n c : Nat) (l : List UInt8) (w : World) (h : Bytes w a n c l) (hn : n ≤ 1048576) : Calls Try.prog 20 #[.slice a n c] w (RetR8Bc w) := by
  have HB := Lib.hid h
  clear h
  go_enter Try.func20, Try.ntmps20
  go_wp2_with fail
  obtain ⟨wz, hwz⟩ : ∃ wz, wz = w.alloc (.cells #[.string ⟨#[]⟩, .string ⟨#[]⟩, .slice none 0 0, .int .i64 0] 28) := ⟨_, rfl⟩
  have hxz : Ext w wz := by rw [hwz]; exact (by repeat (first | (with_reducible exact Ext.refl _) | (with_reducible refine Ext.drewN ?_ _) | (with_reducible refine Ext.drew ?_) | (with_reducible refine Ext.alloc ?_ _) | ((with_reducible refine Ext.setCell ?_ ?_ _); rotate_left; focus (first | (simp; done) | (simp; omega) | omega)) | assumption | (with_reducible refine Ext.trans ?_ (by assumption))))
  have HZ := Lib.hid (show SAt wz w.heap.size 28 #[.string ⟨#[]⟩, .string ⟨#[]⟩, .slice none 0 0, .int .i64 0] by rw [hwz]; exact SAt.new' _ _ _ rfl)
  have hzs : wz.heap.size = w.heap.size + 1 := by rw [hwz]; simp
  rw [← hwz]
  clear hwz
  refine (from_b a n c l wz (HB.out.ext hxz) (by omega)).mono ?_
  rintro e w1 ⟨rfl, hs1, hx1, hz1⟩
  obtain ⟨g, hg⟩ : ∃ g, g = wz.heap.size := ⟨_, rfl⟩
  rw [← hg] at hs1 hz1 ⊢
  have hgw : w.heap.size < g := by omega
  have HS1 := Lib.hid hs1
  have HZ1 := Lib.hid (HZ.out.ext hx1)
  have hxw1 : Ext w w1 := hxz.trans hx1
  clear hs1 HZ hzs hz1 hg hxz hx1 HB
  go_wp2_with fail
  refine (spec_drawBc g a n c l 0 w1 HS1.out (by omega) (by omega)).mono ?_
  rintro e w2 ⟨D, ad, m, d, k', rfl, hv, hl, ho, _, _, _, ht⟩
  have HZ2 := Lib.hid (HZ1.out.touchB ht (by omega))
  have hxw2 : Ext w w2 := hxw1.touch ht (by omega)
  have HO := Lib.hid ho
  have HV := Lib.hid hv
  have HL := Lib.hid hl
  have z0 := HZ2.out.cell 0 (by simp)
  have z1 := HZ2.out.cell 1 (by simp)
  have z2 := HZ2.out.cell 2 (by simp)
  have z3 := HZ2.out.cell 3 (by simp)
  have frz := fun j => HZ2.out.frozen j
  have hltz := HZ2.out.lt
  try simp only [List.getElem_toArray, List.getElem_cons_succ, List.getElem_cons_zero] at z0 z1 z2 z3
  clear ho hv hl ht HS1 HZ1
  go_wp2_with fail
  refine bodyPost_ret (v := .agg #[.string D.start, .string D.stop, .slice ad m d, .int .i64 D.gap]) ?_ rfl ?_
  · simp [results, Try.results20, go_sem, z0, z1, z2, z3]
  · have zz := HZ2.out
    refine ⟨D, ad, m, d, rfl, HV.out, HL.out, Own.sl ((((HO.out.setS zz (by decide) 0 (.string D.start)).setS (zz.set 0 (.string D.start)) (by decide) 1 (.string D.stop)).setS ((zz.set 0 (.string D.start)).set 1 (.string D.stop)) (by decide) 2 (.slice ad m d)).setS (((zz.set 0 (.string D.start)).set 1 (.string D.stop)).set 2 (.slice ad m d)) (by decide) 3 (.int .i64 D.gap)), ?_⟩
    exact (by repeat (first | (with_reducible exact Ext.refl _) | (with_reducible assumption) | (with_reducible refine Ext.drewN ?_ _) | (with_reducible refine Ext.drew ?_) | (with_reducible refine Ext.alloc ?_ _) | ((with_reducible refine Ext.setCell ?_ ?_ _); rotate_left; focus (first | (simp; done) | (simp; omega) | omega)) | (with_reducible refine Ext.trans ?_ (by with_reducible assumption))))
end Go.Proofs.Ytnmkckghfckgbaa
