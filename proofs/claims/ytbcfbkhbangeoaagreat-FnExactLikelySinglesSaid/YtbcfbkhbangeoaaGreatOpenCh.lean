/- What a chain of a law reads as. Conditions: none. -/
import Derived.Test.YtbcfbkhbangeoaaGreatLInts
import Derived.Test.YtbcfbkhbangeoaaGreatChL
import Derived.Deep.Slices
namespace Go.Proofs.YtbcfbkhbangeoaaGreat
set_option maxRecDepth 100000
open Go.ChangeShapes Go.WideShapes Go.ChangeAt Go.RowKit Go.Deep
open Go.Joins

/-- cells one behind the other are a slice -/
theorem sl_of {W : World} {a : Addr} {len c m : Nat} {V : Nat → Value} (hl : len ≤ c) (hm : len ≤ m) (h : ∀ i, i < m → W.cell? (a.add i) = some (V i)) : Sl W (some a) len c ((List.range len).map V) := by
  refine ⟨by simp, hl, fun h0 => ?_⟩
  have h1 := h 0 (by omega)
  have hs : a.spot = none := by
    rw [Addr.add_zero'] at h1
    unfold World.cell? at h1
    split at h1
    · cases hsp : a.spot with
      | none => rfl
      | some s => rw [hsp] at h1; simp at h1
    · cases h1
  obtain ⟨b, off, sp⟩ := a
  simp only at hs
  subst hs
  refine ⟨b, off, rfl, fun k hk => ?_⟩
  have h2 := h k (by omega)
  rw [Addr.add_lit] at h2
  rw [h2]
  simp [List.getD_eq_getElem?_getD, hk]
theorem gv_range {n k : Nat} {V : Nat → Value} (h : k < n) : gv ((List.range n).map V) k = V k := by simp [gv, h]
section
variable {H : Type} {enc : TypeId × Value → H} {W : World} {base : Nat} {spare : Nat → Bool} {held : Bool}
theorem open_Mat {fuel : Nat} {cs : List Value} {x : DataW H × List MemPlace} (h : DataW.trod enc Tryz.prog W base spare held fuel 60 cs = some x) :
    ∃ a len c ll, cs = [.slice a len c] ∧ Mat W a len c ll ∧ BigM ll ∧ len ≤ 9223372036854775807 := by
  rcases open_slice1 und_rows cell_row1 h with ⟨hcs, _⟩ | ⟨a, len, c, m, n, V, D, Pl, hcs, _, hl, hm, hmm, _, hi⟩
  · exact ⟨none, 0, 0, [], hcs, ⟨rfl, [], ⟨rfl, Nat.le_refl _, fun h => by omega⟩, fun k hk => by omega⟩, fun _ h => (by cases h), by omega⟩
  · have hlm : len ≤ m := by rw [hmm]; split <;> omega
    obtain ⟨L, hL⟩ := choose_lt (α := List Int) (p := fun i l => ∃ a' n' c', V i = .slice a' n' c' ∧ Ints W a' n' c' l ∧ n' ≤ maxLen) (n := len) (fun i hlt => by
      obtain ⟨a', n', c', l, h1, h2, _, h4⟩ := open_Ints (hi i (by omega)).2
      exact ⟨l, a', n', c', by simpa using h1, h2, h4⟩)
    refine ⟨some a, len, c, (List.range len).map L, hcs, ⟨by simp, _, sl_of hl hlm (fun i hi' => (hi i hi').1), fun k hk => ?_⟩, fun r hr => ?_, by have := maxLen_eq; omega⟩
    · obtain ⟨a', n', c', h1, h2, _⟩ := hL k hk
      exact ⟨a', n', c', (gv_range hk).trans h1, by rw [show gl ((List.range len).map L) k = L k by simp [gl, hk]]; exact h2⟩
    · obtain ⟨k, hk, rfl⟩ := List.mem_map.1 hr
      obtain ⟨a', n', c', _, h2, h3⟩ := hL k (List.mem_range.1 hk)
      rw [h2.len]; have := maxLen_eq; omega
theorem open_Cube {fuel : Nat} {cs : List Value} {x : DataW H × List MemPlace} (h : DataW.trod enc Tryz.prog W base spare held fuel 24 cs = some x) :
    ∃ a len c ll, cs = [.slice a len c] ∧ Cube W a len c ll ∧ BigC ll ∧ len ≤ 9223372036854775807 := by
  rcases open_slice1 und_tabs cell_tab1 h with ⟨hcs, _⟩ | ⟨a, len, c, m, n, V, D, Pl, hcs, _, hl, hm, hmm, _, hi⟩
  · exact ⟨none, 0, 0, [], hcs, ⟨rfl, [], ⟨rfl, Nat.le_refl _, fun h => by omega⟩, fun k hk => by omega⟩, fun _ h => (by cases h), by omega⟩
  · have hlm : len ≤ m := by rw [hmm]; split <;> omega
    obtain ⟨L, hL⟩ := choose_lt (α := List (List Int)) (p := fun i l => ∃ a' n' c', V i = .slice a' n' c' ∧ Mat W a' n' c' l ∧ BigM l ∧ n' ≤ 9223372036854775807) (n := len) (fun i hlt => by
      obtain ⟨a', n', c', l, h1, h2, h3, h4⟩ := open_Mat (hi i (by omega)).2
      exact ⟨l, a', n', c', by simpa using h1, h2, h3, h4⟩)
    refine ⟨some a, len, c, (List.range len).map L, hcs, ⟨by simp, _, sl_of hl hlm (fun i hi' => (hi i hi').1), fun k hk => ?_⟩, fun r hr => ?_, by have := maxLen_eq; omega⟩
    · obtain ⟨a', n', c', h1, h2, _⟩ := hL k hk
      exact ⟨a', n', c', (gv_range hk).trans h1, by rw [show gm ((List.range len).map L) k = L k by simp [gm, hk]]; exact h2⟩
    · obtain ⟨k, hk, rfl⟩ := List.mem_map.1 hr
      obtain ⟨a', n', c', _, h2, h3, h4⟩ := hL k (List.mem_range.1 hk)
      exact ⟨by rw [h2.len]; exact h4, h3⟩
theorem open_ChCells {fuel : Nat} {v0 v1 v2 v3 v4 v5 : Value} {x : DataW H × List MemPlace} (hf : DataW.trod enc Tryz.prog W base spare held fuel 45 [v0, v1, v2, v3, v4, v5] = some x) :
    ∃ (D : Ch) (a : Option Addr) (n c : Nat) (b : Option Addr) (m d : Nat), v0 = .int .i64 D.base ∧ v1 = .int .i64 D.states ∧ v2 = .int .i64 D.start ∧ v3 = .int .i64 D.fin ∧ v4 = .slice a n c ∧ v5 = .slice b m d ∧ RawCh W D a n c b m d := by
  obtain ⟨xs, k, _, _, _, hlen, hg⟩ := DataW.trod_struct Tryz.underlying45 hf
  match xs, hlen with
  | [y0, y1, y2, y3, y4, y5], _ =>
    have c3 : Tryz.prog.cellsOf 24 = 1 := by kernel_rfl
    obtain ⟨x0, e0, _, _⟩ := DataW.trod_int und_int64 (show DataW.trod enc Tryz.prog W base spare held k 2 [v0] = some y0 by simpa [cell_int64] using hg 0 _ rfl)
    obtain ⟨x1, e1, _, _⟩ := DataW.trod_int und_int64 (show DataW.trod enc Tryz.prog W base spare held k 2 [v1] = some y1 by simpa [cell_int64] using hg 1 _ rfl)
    obtain ⟨x2, e2, _, _⟩ := DataW.trod_int und_int64 (show DataW.trod enc Tryz.prog W base spare held k 2 [v2] = some y2 by simpa [cell_int64] using hg 2 _ rfl)
    obtain ⟨x3, e3, _, _⟩ := DataW.trod_int und_int64 (show DataW.trod enc Tryz.prog W base spare held k 2 [v3] = some y3 by simpa [cell_int64] using hg 3 _ rfl)
    obtain ⟨a, n, c, t, e4, ht, hb, hn⟩ := open_Cube (show DataW.trod enc Tryz.prog W base spare held k 24 [v4] = some y4 by simpa [c3] using hg 4 _ rfl)
    obtain ⟨b, m, d', q, e5, hq, _, hm⟩ := open_Ints (show DataW.trod enc Tryz.prog W base spare held k 25 [v5] = some y5 by simpa [cell_row1] using hg 5 _ rfl)
    simp only [List.cons.injEq, and_true] at e0 e1 e2 e3 e4 e5
    exact ⟨⟨x0, x1, x2, x3, t, q⟩, a, n, c, b, m, d', e0, e1, e2, e3, e4, e5, ht, hq, hn, by have := maxLen_eq; omega, hb⟩
theorem opn_ch {r : Reach} {b0 : Nat} {v : Value} {d : DataW H} {p : List MemPlace} (hv : Value.okWide Tryz.prog W r b0 45 v) (h : DataW.Trod enc Tryz.prog W base spare held 45 v d p) :
    ∃ (D : Ch) (a : Option Addr) (n c : Nat) (b : Option Addr) (m d : Nat), v = .agg #[.int .i64 D.base, .int .i64 D.states, .int .i64 D.start, .int .i64 D.fin, .slice a n c, .slice b m d] ∧ RawCh W D a n c b m d := by
  obtain ⟨cs, rfl, hsz⟩ := okWide_struct Tryz.underlying45 hv
  obtain ⟨fuel, hf⟩ := h
  have hsz' : cs.size = 6 := hsz.trans (by kernel_rfl)
  obtain ⟨l⟩ := cs
  match l, hsz' with
  | [v0, v1, v2, v3, v4, v5], _ =>
    obtain ⟨D, a, n, c, b, m, d', e0, e1, e2, e3, e4, e5, hr⟩ := open_ChCells hf
    subst e0 e1 e2 e3 e4 e5
    exact ⟨D, a, n, c, b, m, d', rfl, hr⟩
end
end Go.Proofs.YtbcfbkhbangeoaaGreat
