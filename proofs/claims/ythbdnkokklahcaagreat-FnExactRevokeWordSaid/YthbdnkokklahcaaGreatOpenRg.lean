/- What a registry of a law reads as. Conditions: none. -/
import Derived.Test.YthbdnkokklahcaaGreatOpenCh
import Derived.Test.YthbdnkokklahcaaGreatRgL
import Derived.SliceStrings
namespace Go.Proofs.YthbdnkokklahcaaGreat
set_option maxRecDepth 100000
open Go.ChangeShapes Go.WideShapes Go.ChangeAt Go.RowKit Go.Deep
open Go.Joins

theorem und_strT : Tryz.prog.underlying 9 = some .string := Tryz.underlying9
/-- a slice of texts that came in -/
theorem open_StrsT {H : Type} {enc : TypeId × Value → H} {W : World} {base : Nat} {spare : Nat → Bool} {held : Bool} {fuel : Nat} {cs : List Value} {x : DataW H × List MemPlace}
    (h : DataW.trod enc Tryz.prog W base spare held fuel 26 cs = some x) : ∃ a len c l, cs = [.slice a len c] ∧ Strs W a len c l ∧ (∀ s ∈ l, s.size ≤ 9223372036854775807) ∧ len ≤ 9223372036854775807 := by
  rcases open_slice1 und_strs cell_str h with ⟨hcs, _⟩ | ⟨a, len, c, m, n, V, D, Pl, hcs, _, hl, hm, hmm, _, hi⟩
  · exact ⟨none, 0, 0, [], hcs, ⟨rfl, Nat.le_refl _, fun h => by omega⟩, fun _ h => (by cases h), by omega⟩
  · have hlm : len ≤ m := by rw [hmm]; split <;> omega
    obtain ⟨L, hL⟩ := choose_lt (α := ByteArray) (p := fun i s => V i = .string s ∧ s.size ≤ 9223372036854775807) (n := len) (fun i hlt => by
      obtain ⟨s, e, _, ws⟩ := DataW.trod_string und_strT (hi i (by omega)).2
      exact ⟨s, by simpa using e, by have := maxLen_eq; omega⟩)
    refine ⟨some a, len, c, (List.range len).map L, hcs, ?_, fun s hs => ?_, by have := maxLen_eq; omega⟩
    · have h1 := sl_of hl hlm (fun i hi' => (hi i hi').1)
      unfold Strs
      have h2 : (List.range len).map V = St ((List.range len).map L) := by
        unfold St
        rw [List.map_map]
        apply List.map_congr_left
        intro i hi'
        exact (hL i (List.mem_range.1 hi')).1
      rw [← h2]
      exact h1
    · obtain ⟨i, hi', rfl⟩ := List.mem_map.1 hs
      exact (hL i (List.mem_range.1 hi')).2
section
variable {H : Type} {enc : TypeId × Value → H} {W : World} {base : Nat} {spare : Nat → Bool} {held : Bool}
theorem opn_reg {r : Reach} {b0 : Nat} {v : Value} {d0 : DataW H} {p : List MemPlace} (hv : Value.okWide Tryz.prog W r b0 28 v) (h : DataW.Trod enc Tryz.prog W base spare held 28 v d0 p) :
    ∃ (D : Rg) (a : Option Addr) (n c : Nat) (b : Option Addr) (m d : Nat) (ia : Option Addr) (im ic : Nat) (ra : Option Addr) (rm rc : Nat), v = .agg #[.int .i64 D.ch.base, .int .i64 D.ch.states, .int .i64 D.ch.start, .int .i64 D.ch.fin, .slice a n c, .slice b m d, .int .i64 D.apart, .slice ia im ic, .slice ra rm rc] ∧ RawRg W D a n c b m d ia im ic ra rm rc := by
  obtain ⟨cs, rfl, hsz⟩ := okWide_struct Tryz.underlying28 hv
  obtain ⟨fuel, hf⟩ := h
  have hsz' : cs.size = 9 := hsz.trans (by kernel_rfl)
  obtain ⟨l⟩ := cs
  match l, hsz' with
  | [v0, v1, v2, v3, v4, v5, v6, v7, v8], _ =>
    obtain ⟨xs, k, _, _, _, hlen, hg⟩ := DataW.trod_struct Tryz.underlying28 (show DataW.trod enc Tryz.prog W base spare held fuel 28 [v0, v1, v2, v3, v4, v5, v6, v7, v8] = some (d0, p) from hf)
    match xs, hlen with
    | [y0, y1, y2, y3], _ =>
      have c0 : Tryz.prog.cellsOf 25 = 6 := by kernel_rfl
      have c2 : Tryz.prog.cellsOf 26 = 1 := by kernel_rfl
      obtain ⟨C, a, n, c, b, m, d, e0, e1, e2, e3, e4, e5, hr⟩ := open_ChCells (show DataW.trod enc Tryz.prog W base spare held k 25 [v0, v1, v2, v3, v4, v5] = some y0 by simpa [c0] using hg 0 _ rfl)
      obtain ⟨x6, e6, _, _⟩ := DataW.trod_int und_int64 (show DataW.trod enc Tryz.prog W base spare held k 2 [v6] = some y1 by simpa [c0, cell_int64] using hg 1 _ rfl)
      obtain ⟨ia, im, ic, s, e7, hs, hsz2, him⟩ := open_StrsT (show DataW.trod enc Tryz.prog W base spare held k 26 [v7] = some y2 by simpa [c0, c2, cell_int64] using hg 2 _ rfl)
      obtain ⟨ra, rm, rc, q, e8, hq, _, hm⟩ := open_Ints (show DataW.trod enc Tryz.prog W base spare held k 23 [v8] = some y3 by simpa [c0, c2, cell_int64, cell_row1] using hg 3 _ rfl)
      simp only [List.cons.injEq, and_true] at e6 e7 e8
      subst e0 e1 e2 e3 e4 e5 e6 e7 e8
      exact ⟨⟨C, x6, s, q⟩, a, n, c, b, m, d, ia, im, ic, ra, rm, rc, rfl, hr, hs, hq, him, by have := maxLen_eq; omega, hsz2⟩
end
end Go.Proofs.YthbdnkokklahcaaGreat
