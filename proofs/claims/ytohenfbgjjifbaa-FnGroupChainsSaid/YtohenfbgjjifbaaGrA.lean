/- Walks: the identity and the inverses of a table, in the program and in the reference. -/
import Derived.Test.YtohenfbgjjifbaaGrM
import Derived.Test.YtohenfbgjjifbaaMix2
namespace Go.Proofs.Ytohenfbgjjifbaa
set_option maxRecDepth 100000
open Go.RowKit

/-! ### words -/
def IsId (T : List (List Int)) (n i : Nat) : Prop := ∀ x, x < n → tq T i x = x ∧ tq T x i = x
def idB (T : List (List Int)) (i k : Nat) : Bool := (List.range k).all fun x => ((tq T i x : Nat) : Int) == (x : Int) && ((tq T x i : Nat) : Int) == (x : Int)
theorem idB_step (T : List (List Int)) (i k : Nat) : idB T i (k + 1) = (idB T i k && (((tq T i k : Nat) : Int) == (k : Int) && ((tq T k i : Nat) : Int) == (k : Int))) := by
  unfold idB; rw [List.range_succ, List.all_append]; simp
theorem idB_iff {T : List (List Int)} {n i : Nat} : idB T i n = true ↔ IsId T n i := by
  unfold idB IsId
  rw [List.all_eq_true]
  refine ⟨fun h x hx => ?_, fun h x hx => ?_⟩
  · have := h x (List.mem_range.2 hx)
    simp at this
    omega
  · have := h x (List.mem_range.1 hx)
    simp [this]
/-- where the products of one element lie -/
theorem sq_row {w : World} {a : Option Addr} {n c : Nat} {T : List (List Int)} (hv : Mat w a n c T) (hs : SqT T n) {i : Nat} (hi : i < n) :
    ∃ b o a' c', One Try.prog 24 w a n c (i : Int) b o (.slice a' n c') ∧ Ints w a' n c' (gl T i) ∧ ∀ j, j < n → ∃ b' o', One Try.prog 28 w a' n c' (j : Int) b' o' (.int .i64 ((tq T i j : Nat) : Int)) := by
  obtain ⟨b, o, a', n', c', h1, hr⟩ := hv.one (P := Try.prog) 24 28 und_rows cell_row1 (i : Int) (by omega) (by omega)
  rw [Int.toNat_natCast] at hr
  have hl := hs.row i hi
  obtain rfl : n' = n := by have := hr.len; omega
  refine ⟨b, o, a', c', h1, hr, fun j hj => ?_⟩
  obtain ⟨b', o', h2⟩ := hr.one (P := Try.prog) 28 2 und_int64s cell_int64 (j : Int) (by omega) (by omega)
  have hq := (hs.q hi hj).1
  rw [Int.toNat_natCast, show gi (gl T i) j = tp T i j from rfl, hq] at h2
  exact ⟨b', o', h2⟩
/-- where a product lies -/
theorem sq_cell {w : World} {a : Option Addr} {n c : Nat} {T : List (List Int)} (hv : Mat w a n c T) (hs : SqT T n) {i j : Nat} (hi : i < n) (hj : j < n) :
    ∃ b o a' c' b' o', One Try.prog 24 w a n c (i : Int) b o (.slice a' n c') ∧ One Try.prog 28 w a' n c' (j : Int) b' o' (.int .i64 ((tq T i j : Nat) : Int)) := by
  obtain ⟨b, o, a', c', h1, _, h2⟩ := sq_row hv hs hi
  obtain ⟨b', o', h3⟩ := h2 j hj
  exact ⟨b, o, a', c', b', o', h1, h3⟩
def RetId (T : List (List Int)) (n : Nat) (w : World) (e : Ending) (w' : World) : Prop :=
  ∃ v : Int, e = .returned (.int .i64 v) ∧ ((v = -1 ∧ ∀ i, i < n → ¬ IsId T n i) ∨ ∃ i : Nat, i < n ∧ v = i ∧ IsId T n i) ∧ Ext w w'
def RetInv (T : List (List Int)) (n e x : Nat) (w : World) (en : Ending) (w' : World) : Prop :=
  ∃ v : Int, en = .returned (.int .i64 v) ∧ ((v = -1 ∧ ∀ y, y < n → ¬ (tq T x y = e ∧ tq T y x = e)) ∨ ∃ y : Nat, y < n ∧ v = y ∧ tq T x y = e ∧ tq T y x = e) ∧ Ext w w'
set_option maxHeartbeats 2000000 in
theorem ident3 (T : List (List Int)) (n : Nat) (a : Option Addr) (c : Nat) (w : World) (hv : Mat w a n c T) (hs : SqT T n) (hn : n ≤ 1048576) : Calls Try.prog 42 #[.slice a n c] w (RetId T n w) := by
  have HV := Lib.hid hv
  have HS := Lib.hid hs
  clear hv hs
  go_enter Try.func42, Try.ntmps42
  go_wp2_with fail
  go_loopw [3] (fun v3 wr => ∃ k : Nat, k ≤ n ∧ v3 = .int .i64 k ∧ Hid (∀ i, i < k → ¬ IsId T n i) ∧ Ext w wr) (fun v3 _ => n - (intOf v3).toNat)
  case atStart => exact ⟨0, Nat.zero_le _, rfl, (fun i hi => by omega), Ext.refl _⟩
  case round =>
    obtain ⟨k, hk, rfl, HNo, hx⟩ := hrel
    by_cases hlt : k < n
    · go_wp2_with fail
      obtain ⟨wo, hwo⟩ : ∃ W, W = wr := ⟨_, rfl⟩
      subst hwo
      go_loopw [4, 5] (fun v4 v5 wr => ∃ x : Nat, x ≤ n ∧ v5 = .int .i64 x ∧ v4 = .bool (idB T k x) ∧ Ext wo wr) (fun _ v5 _ => n - (intOf v5).toNat)
      case atStart => exact ⟨0, Nat.zero_le _, rfl, rfl, Ext.refl _⟩
      case round =>
        obtain ⟨x, hxn, rfl, rfl, hxo⟩ := hrel
        have hxw : Ext w wr := hx.trans hxo
        by_cases hl2 : x < n
        · have HSt := Lib.hid (idB_step T k x)
          obtain ⟨b1, o1, a1, c1, b2, o2, ⟨f1, f2⟩, ⟨f3, f4⟩⟩ := sq_cell (HV.out.ext hxw) HS.out hlt hl2
          obtain ⟨b3, o3, a3, c3, b4, o4, ⟨f5, f6⟩, ⟨f7, f8⟩⟩ := sq_cell (HV.out.ext hxw) HS.out hl2 hlt
          have g2 := f2 wr (Ext.refl _)
          have g4 := f4 wr (Ext.refl _)
          have g6 := f6 wr (Ext.refl _)
          have g8 := f8 wr (Ext.refl _)
          generalize tq T k x = p at *
          generalize tq T x k = r at *
          obtain ⟨t1, h1⟩ : ∃ t, ((p : Int) == (x : Int)) = t := ⟨_, rfl⟩
          obtain ⟨t2, h2⟩ : ∃ t, ((r : Int) == (x : Int)) = t := ⟨_, rfl⟩
          rw [h1, h2] at HSt
          generalize idB T k x = f at *
          cases f
          · go_wp2_with fail
            exact ⟨⟨x + 1, by omega, by go_num, by rw [HSt.out]; rfl, hxo⟩, by simp [intOf]; omega⟩
          cases t1
          · go_wp2_with fail
            exact ⟨⟨x + 1, by omega, by go_num, by rw [HSt.out]; rfl, hxo⟩, by simp [intOf]; omega⟩
          cases t2
          · go_wp2_with fail
            exact ⟨⟨x + 1, by omega, by go_num, by rw [HSt.out]; rfl, hxo⟩, by simp [intOf]; omega⟩
          · go_wp2_with fail
            exact ⟨⟨x + 1, by omega, by go_num, by rw [HSt.out]; rfl, hxo⟩, by simp [intOf]; omega⟩
        · obtain rfl : x = n := by omega
          have HI := Lib.hid (idB_iff (T := T) (n := x) (i := k))
          generalize idB T k x = f at *
          cases f
          · go_wp2_with fail
            refine ⟨⟨k + 1, by omega, by go_num, ?_, hxw⟩, by simp [intOf]; omega⟩
            intro i hi
            rcases Nat.lt_or_ge i k with h | h
            · exact HNo.out i h
            · obtain rfl : i = k := by omega
              intro hid
              have := HI.out.2 hid
              cases this
          · go_wp2_with fail
            go_ret
            exact ⟨k, rfl, .inr ⟨k, hlt, rfl, HI.out.1 (by trivial)⟩, hxw⟩
    · obtain rfl : k = n := by omega
      go_wp2_with fail
      go_ret
      exact ⟨-1, rfl, .inl ⟨rfl, HNo.out⟩, hx⟩
set_option maxHeartbeats 2000000 in
theorem ident8 (T : List (List Int)) (n : Nat) (a : Option Addr) (c : Nat) (w : World) (hv : Mat w a n c T) (hs : SqT T n) (hn : n ≤ 1048576) : Calls Try.prog 19 #[.slice a n c] w (RetId T n w) := by
  have HV := Lib.hid hv
  have HS := Lib.hid hs
  clear hv hs
  go_enter Try.func19, Try.ntmps19
  go_wp2_with fail
  go_loopw [8] (fun v3 wr => ∃ k : Nat, k ≤ n ∧ v3 = .int .i64 k ∧ Hid (∀ i, i < k → ¬ IsId T n i) ∧ Ext w wr) (fun v3 _ => n - (intOf v3).toNat)
  case atStart => exact ⟨0, Nat.zero_le _, rfl, (fun i hi => by omega), Ext.refl _⟩
  case round =>
    obtain ⟨k, hk, rfl, HNo, hx⟩ := hrel
    by_cases hlt : k < n
    · go_wp2_with fail
      obtain ⟨wo, hwo⟩ : ∃ W, W = wr := ⟨_, rfl⟩
      subst hwo
      go_loopw [4, 13] (fun v4 v5 wr => ∃ x : Nat, x ≤ n ∧ v5 = .int .i64 x ∧ v4 = .bool (idB T k x) ∧ Ext wo wr) (fun _ v5 _ => n - (intOf v5).toNat)
      case atStart => exact ⟨0, Nat.zero_le _, rfl, rfl, Ext.refl _⟩
      case round =>
        obtain ⟨x, hxn, rfl, rfl, hxo⟩ := hrel
        have hxw : Ext w wr := hx.trans hxo
        by_cases hl2 : x < n
        · have HSt := Lib.hid (idB_step T k x)
          obtain ⟨b1, o1, a1, c1, b2, o2, ⟨f1, f2⟩, ⟨f3, f4⟩⟩ := sq_cell (HV.out.ext hxw) HS.out hlt hl2
          obtain ⟨b3, o3, a3, c3, b4, o4, ⟨f5, f6⟩, ⟨f7, f8⟩⟩ := sq_cell (HV.out.ext hxw) HS.out hl2 hlt
          have g2 := f2 wr (Ext.refl _)
          have g4 := f4 wr (Ext.refl _)
          have g6 := f6 wr (Ext.refl _)
          have g8 := f8 wr (Ext.refl _)
          generalize tq T k x = p at *
          generalize tq T x k = r at *
          obtain ⟨t1, h1⟩ : ∃ t, ((p : Int) == (x : Int)) = t := ⟨_, rfl⟩
          obtain ⟨t2, h2⟩ : ∃ t, ((r : Int) == (x : Int)) = t := ⟨_, rfl⟩
          rw [h1, h2] at HSt
          generalize idB T k x = f at *
          cases f
          · go_wp2_with fail
            exact ⟨⟨x + 1, by omega, by go_num, by rw [HSt.out]; rfl, hxo⟩, by simp [intOf]; omega⟩
          cases t1
          · go_wp2_with fail
            exact ⟨⟨x + 1, by omega, by go_num, by rw [HSt.out]; rfl, hxo⟩, by simp [intOf]; omega⟩
          cases t2
          · go_wp2_with fail
            exact ⟨⟨x + 1, by omega, by go_num, by rw [HSt.out]; rfl, hxo⟩, by simp [intOf]; omega⟩
          · go_wp2_with fail
            exact ⟨⟨x + 1, by omega, by go_num, by rw [HSt.out]; rfl, hxo⟩, by simp [intOf]; omega⟩
        · obtain rfl : x = n := by omega
          have HI := Lib.hid (idB_iff (T := T) (n := x) (i := k))
          generalize idB T k x = f at *
          cases f
          · go_wp2_with fail
            refine ⟨⟨k + 1, by omega, by go_num, ?_, hxw⟩, by simp [intOf]; omega⟩
            intro i hi
            rcases Nat.lt_or_ge i k with h | h
            · exact HNo.out i h
            · obtain rfl : i = k := by omega
              intro hid
              have := HI.out.2 hid
              cases this
          · go_wp2_with fail
            go_ret
            exact ⟨k, rfl, .inr ⟨k, hlt, rfl, HI.out.1 (by trivial)⟩, hxw⟩
    · obtain rfl : k = n := by omega
      go_wp2_with fail
      go_ret
      exact ⟨-1, rfl, .inl ⟨rfl, HNo.out⟩, hx⟩
set_option maxHeartbeats 2000000 in
theorem invers7 (T : List (List Int)) (n e z : Nat) (a : Option Addr) (c : Nat) (w : World) (hv : Mat w a n c T) (hs : SqT T n) (hn : n ≤ 1048576) (hz : z < n) : Calls Try.prog 43 #[.slice a n c, .int .i64 e, .int .i64 z] w (RetInv T n e z w) := by
  have HV := Lib.hid hv
  have HS := Lib.hid hs
  clear hv hs
  go_enter Try.func43, Try.ntmps43
  go_wp2_with fail
  go_loopw [7] (fun v3 wr => ∃ k : Nat, k ≤ n ∧ v3 = .int .i64 k ∧ Hid (∀ y, y < k → ¬ (tq T z y = e ∧ tq T y z = e)) ∧ Ext w wr) (fun v3 _ => n - (intOf v3).toNat)
  case atStart => exact ⟨0, Nat.zero_le _, rfl, (fun i hi => by omega), Ext.refl _⟩
  case round =>
    obtain ⟨x, hk, rfl, HNo, hx⟩ := hrel
    by_cases hlt : x < n
    · obtain ⟨b1, o1, a1, c1, b2, o2, ⟨f1, f2⟩, ⟨f3, f4⟩⟩ := sq_cell (HV.out.ext hx) HS.out hz hlt
      obtain ⟨b3, o3, a3, c3, b4, o4, ⟨f5, f6⟩, ⟨f7, f8⟩⟩ := sq_cell (HV.out.ext hx) HS.out hlt hz
      have g2 := f2 wr (Ext.refl _)
      have g4 := f4 wr (Ext.refl _)
      have g6 := f6 wr (Ext.refl _)
      have g8 := f8 wr (Ext.refl _)
      obtain ⟨t1, h1⟩ : ∃ t, (((tq T z x : Nat) : Int) == (e : Int)) = t := ⟨_, rfl⟩
      obtain ⟨t2, h2⟩ : ∃ t, (((tq T x z : Nat) : Int) == (e : Int)) = t := ⟨_, rfl⟩
      have HH : Hid ((t1 && t2) = true ↔ (tq T z x = e ∧ tq T x z = e)) := Lib.hid (by rw [← h1, ← h2]; simp; omega)
      have HNx : Hid ((t1 && t2) = false → ∀ y, y < x + 1 → ¬ (tq T z y = e ∧ tq T y z = e)) := Lib.hid (fun hf y hy => by
        rcases Nat.lt_or_ge y x with h | h
        · exact HNo.out y h
        · obtain rfl : y = x := by omega
          intro hq
          have := HH.out.2 hq
          rw [hf] at this
          cases this)
      have HF := Lib.hid (show (t1 && t2) = true → ∃ y : Nat, y < n ∧ (x : Int) = y ∧ tq T z y = e ∧ tq T y z = e from fun h => ⟨x, hlt, rfl, HH.out.1 h⟩)
      clear HH
      generalize tq T z x = p at *
      generalize tq T x z = r at *
      cases t1
      · go_wp2_with fail
        exact ⟨⟨x + 1, by omega, by go_num, HNx.out rfl, hx⟩, by simp [intOf]; omega⟩
      cases t2
      · go_wp2_with fail
        exact ⟨⟨x + 1, by omega, by go_num, HNx.out rfl, hx⟩, by simp [intOf]; omega⟩
      · go_wp2_with fail
        go_ret
        exact ⟨x, rfl, .inr (HF.out rfl), hx⟩
    · obtain rfl : x = n := by omega
      go_wp2_with fail
      go_ret
      exact ⟨-1, rfl, .inl ⟨rfl, HNo.out⟩, hx⟩
set_option maxHeartbeats 2000000 in
theorem invers10 (T : List (List Int)) (n e z : Nat) (a : Option Addr) (c : Nat) (w : World) (hv : Mat w a n c T) (hs : SqT T n) (hn : n ≤ 1048576) (hz : z < n) : Calls Try.prog 63 #[.slice a n c, .int .i64 e, .int .i64 z] w (RetInv T n e z w) := by
  have HV := Lib.hid hv
  have HS := Lib.hid hs
  clear hv hs
  go_enter Try.func63, Try.ntmps63
  go_wp2_with fail
  go_loopw [10] (fun v3 wr => ∃ k : Nat, k ≤ n ∧ v3 = .int .i64 k ∧ Hid (∀ y, y < k → ¬ (tq T z y = e ∧ tq T y z = e)) ∧ Ext w wr) (fun v3 _ => n - (intOf v3).toNat)
  case atStart => exact ⟨0, Nat.zero_le _, rfl, (fun i hi => by omega), Ext.refl _⟩
  case round =>
    obtain ⟨x, hk, rfl, HNo, hx⟩ := hrel
    by_cases hlt : x < n
    · obtain ⟨b1, o1, a1, c1, b2, o2, ⟨f1, f2⟩, ⟨f3, f4⟩⟩ := sq_cell (HV.out.ext hx) HS.out hz hlt
      obtain ⟨b3, o3, a3, c3, b4, o4, ⟨f5, f6⟩, ⟨f7, f8⟩⟩ := sq_cell (HV.out.ext hx) HS.out hlt hz
      have g2 := f2 wr (Ext.refl _)
      have g4 := f4 wr (Ext.refl _)
      have g6 := f6 wr (Ext.refl _)
      have g8 := f8 wr (Ext.refl _)
      obtain ⟨t1, h1⟩ : ∃ t, (((tq T z x : Nat) : Int) == (e : Int)) = t := ⟨_, rfl⟩
      obtain ⟨t2, h2⟩ : ∃ t, (((tq T x z : Nat) : Int) == (e : Int)) = t := ⟨_, rfl⟩
      have HH : Hid ((t1 && t2) = true ↔ (tq T z x = e ∧ tq T x z = e)) := Lib.hid (by rw [← h1, ← h2]; simp; omega)
      have HNx : Hid ((t1 && t2) = false → ∀ y, y < x + 1 → ¬ (tq T z y = e ∧ tq T y z = e)) := Lib.hid (fun hf y hy => by
        rcases Nat.lt_or_ge y x with h | h
        · exact HNo.out y h
        · obtain rfl : y = x := by omega
          intro hq
          have := HH.out.2 hq
          rw [hf] at this
          cases this)
      have HF := Lib.hid (show (t1 && t2) = true → ∃ y : Nat, y < n ∧ (x : Int) = y ∧ tq T z y = e ∧ tq T y z = e from fun h => ⟨x, hlt, rfl, HH.out.1 h⟩)
      clear HH
      generalize tq T z x = p at *
      generalize tq T x z = r at *
      cases t1
      · go_wp2_with fail
        exact ⟨⟨x + 1, by omega, by go_num, HNx.out rfl, hx⟩, by simp [intOf]; omega⟩
      cases t2
      · go_wp2_with fail
        exact ⟨⟨x + 1, by omega, by go_num, HNx.out rfl, hx⟩, by simp [intOf]; omega⟩
      · go_wp2_with fail
        go_ret
        exact ⟨x, rfl, .inr (HF.out rfl), hx⟩
    · obtain rfl : x = n := by omega
      go_wp2_with fail
      go_ret
      exact ⟨-1, rfl, .inl ⟨rfl, HNo.out⟩, hx⟩
end Go.Proofs.Ytohenfbgjjifbaa
