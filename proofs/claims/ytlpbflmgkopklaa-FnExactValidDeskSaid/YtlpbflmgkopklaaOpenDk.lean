/- What a desk of a law reads as. Conditions: none. -/
import Derived.Test.YtlpbflmgkopklaaOpen
import Derived.Test.YtlpbflmgkopklaaDeskL
import Derived.SliceStrings
import Derived.Deep.Slices
namespace Go.Proofs.Ytlpbflmgkopklaa
set_option maxRecDepth 100000
open Go.ChangeShapes Go.WideShapes Go.ChangeAt Go.RowKit Go.Deep
open Go.Joins

/-- an address of a cell that is there has no spot -/
theorem spot_none {W : World} {a : Addr} {v : Value} (h1 : W.cell? a = some v) : a.spot = none := by
  unfold World.cell? at h1
  split at h1
  · cases hsp : a.spot with
    | none => rfl
    | some s => rw [hsp] at h1; simp at h1
  · cases h1
/-- cells one behind the other are a slice -/
theorem sl_ofD {W : World} {a : Addr} {len c m : Nat} {V : Nat → Value} (hl : len ≤ c) (hm : len ≤ m) (h : ∀ i, i < m → W.cell? (a.add i) = some (V i)) : Sl W (some a) len c ((List.range len).map V) := by
  refine ⟨by simp, hl, fun h0 => ?_⟩
  have h1 := h 0 (by omega)
  have hs : a.spot = none := by
    rw [Addr.add_zero'] at h1
    unfold World.cell? at h1
    split at h1
    · cases hsp : a.spot with
      | none => rfl
      | some s => rw [hsp] at h1; simp at h1
    · cases h1
  obtain ⟨b, off, sp⟩ := a
  simp only at hs
  subst hs
  refine ⟨b, off, rfl, fun k hk => ?_⟩
  have h2 := h k (by omega)
  rw [Addr.add_lit] at h2
  rw [h2]
  simp [List.getD_eq_getElem?_getD, hk]
theorem und_strD : Try.prog.underlying 9 = some .string := Try.underlying9
section
variable {H : Type} {enc : TypeId × Value → H} {W : World} {base : Nat} {spare : Nat → Bool} {held : Bool}
/-- a slice of texts that came in -/
theorem open_StrsD {fuel : Nat} {cs : List Value} {x : DataW H × List MemPlace}
    (h : DataW.trod enc Try.prog W base spare held fuel 44 cs = some x) : ∃ a len c l, cs = [.slice a len c] ∧ Strs W a len c l ∧ (∀ s ∈ l, s.size ≤ 9223372036854775807) ∧ len ≤ 9223372036854775807 := by
  rcases open_slice1 und_strs cell_str h with ⟨hcs, _⟩ | ⟨a, len, c, m, n, V, D, Pl, hcs, _, hl, hm, hmm, _, hi⟩
  · exact ⟨none, 0, 0, [], hcs, ⟨rfl, Nat.le_refl _, fun h => by omega⟩, fun _ h => (by cases h), by omega⟩
  · have hlm : len ≤ m := by rw [hmm]; split <;> omega
    obtain ⟨L, hL⟩ := choose_lt (α := ByteArray) (p := fun i s => V i = .string s ∧ s.size ≤ 9223372036854775807) (n := len) (fun i hlt => by
      obtain ⟨s, e, _, ws⟩ := DataW.trod_string und_strD (hi i (by omega)).2
      exact ⟨s, by simpa using e, by have := maxLen_eq; omega⟩)
    refine ⟨some a, len, c, (List.range len).map L, hcs, ?_, fun s hs => ?_, by have := maxLen_eq; omega⟩
    · have h1 := sl_ofD hl hlm (fun i hi' => (hi i hi').1)
      unfold Strs
      have h2 : (List.range len).map V = St ((List.range len).map L) := by
        unfold St
        rw [List.map_map]
        apply List.map_congr_left
        intro i hi'
        exact (hL i (List.mem_range.1 hi')).1
      rw [← h2]
      exact h1
    · obtain ⟨i, hi', rfl⟩ := List.mem_map.1 hs
      exact (hL i (List.mem_range.1 hi')).2
/-- a slice of weightings that came in -/
theorem open_Wts {fuel : Nat} {cs : List Value} {x : DataW H × List MemPlace}
    (h : DataW.trod enc Try.prog W base spare held fuel 45 cs = some x) : ∃ a len c L, cs = [.slice a len c] ∧ Wts W a len c L ∧ (∀ k, k < len → (gw L k).weights.length ≤ 9223372036854775807) ∧ len ≤ 9223372036854775807 := by
  rcases open_slice und_lwts h with ⟨hcs, _⟩ | ⟨a, len, c, m, n, D, Pl, hcs, _, hl, hm, hmm, _, hi⟩
  · exact ⟨none, 0, 0, [], hcs, ⟨rfl, Nat.le_refl _, fun h => by omega⟩, fun k hk => by omega, by omega⟩
  have hlm : len ≤ m := by rw [hmm]; split <;> omega
  rw [cell_lwt] at hi
  haveI : Inhabited Wt := ⟨⟨0, 0, 0, []⟩⟩
  obtain ⟨L, hL⟩ := choose_lt (α := Wt) (p := fun i V => (V.weights.length ≤ 9223372036854775807) ∧ ∃ a' n' c', W.cell? ((a.add (i * 4)).add 0) = some (.int .i64 V.base) ∧ W.cell? ((a.add (i * 4)).add 1) = some (.int .i64 V.modulus) ∧ W.cell? ((a.add (i * 4)).add 2) = some (.int .i64 V.target) ∧ W.cell? ((a.add (i * 4)).add 3) = some (.slice a' n' c') ∧ Ints W a' n' c' V.weights) (n := len) (fun i hlt => by
    obtain ⟨cs', h1, h2⟩ := hi i (by omega)
    obtain ⟨_, hlen, hc⟩ := World.cells?_some h1
    match cs', hlen with
    | [v0, v1, v2, v3], _ =>
      obtain ⟨xs, k, _, _, _, hlen2, hg⟩ := DataW.trod_struct Try.underlying56 h2
      match xs, hlen2 with
      | [y0, y1, y2, y3], _ =>
        obtain ⟨x0, e0, _, _⟩ := DataW.trod_int und_int64 (show DataW.trod enc Try.prog W base spare held k 2 [v0] = some y0 by simpa [cell_int64] using hg 0 _ rfl)
        obtain ⟨x1, e1, _, _⟩ := DataW.trod_int und_int64 (show DataW.trod enc Try.prog W base spare held k 2 [v1] = some y1 by simpa [cell_int64] using hg 1 _ rfl)
        obtain ⟨x2, e2, _, _⟩ := DataW.trod_int und_int64 (show DataW.trod enc Try.prog W base spare held k 2 [v2] = some y2 by simpa [cell_int64] using hg 2 _ rfl)
        have cr : Try.prog.cellsOf 22 = 1 := by kernel_rfl
        obtain ⟨a', n', c', l, e3, hq, _, hm'⟩ := open_Ints (show DataW.trod enc Try.prog W base spare held k 22 [v3] = some y3 by simpa [cell_int64, cr] using hg 3 _ rfl)
        simp only [List.cons.injEq, and_true] at e0 e1 e2 e3
        subst e0 e1 e2 e3
        exact ⟨⟨x0, x1, x2, l⟩, by simp only; rw [hq.len]; have := maxLen_eq; omega, a', n', c', hc 0 (by omega), hc 1 (by omega), hc 2 (by omega), hc 3 (by omega), hq⟩)
  have hgw : ∀ k, k < len → gw ((List.range len).map L) k = L k := fun k hk => by simp [gw, hk]
  refine ⟨some a, len, c, (List.range len).map L, hcs, ⟨by simp, hl, fun h0 => ?_⟩, fun k hk => by rw [hgw k hk]; exact (hL k hk).1, by have := maxLen_eq; omega⟩
  obtain ⟨_, _, _, _, z0, _⟩ := hL 0 h0
  have hs : a.spot = none := by rw [Nat.zero_mul, Addr.add_zero', Addr.add_zero'] at z0; exact spot_none z0
  obtain ⟨b, off, sp⟩ := a
  simp only at hs
  subst hs
  refine ⟨b, off, rfl, fun k hk => ?_⟩
  obtain ⟨_, a', n', c', g0, g1, g2, g3, g4⟩ := hL k hk
  rw [hgw k hk]
  have ad : ∀ j, ((⟨b, off, none⟩ : Addr).add (k * 4)).add j = ⟨b, off + k * 4 + j, none⟩ := fun j => by rw [Addr.add_lit]; cases hk2 : k * 4 <;> simp [Addr.add_lit]
  rw [ad] at g0 g1 g2 g3
  exact ⟨a', n', c', g0, g1, g2, g3, g4⟩
theorem opn_desk {r : Reach} {b0 : Nat} {v : Value} {d0 : DataW H} {p : List MemPlace} (hv : Value.okWide Try.prog W r b0 47 v) (h : DataW.Trod enc Try.prog W base spare held 47 v d0 p) :
    ∃ (D : Dk) (a : Option Addr) (n c : Nat) (b : Option Addr) (m d : Nat), v = .agg #[.slice a n c, .slice b m d] ∧ RawDk W D a n c b m d := by
  obtain ⟨cs, rfl, hsz⟩ := okWide_struct Try.underlying47 hv
  obtain ⟨fuel, hf⟩ := h
  have hsz' : cs.size = 2 := hsz.trans (by kernel_rfl)
  obtain ⟨l⟩ := cs
  match l, hsz' with
  | [v0, v1], _ =>
    obtain ⟨xs, k, _, _, _, hlen, hg⟩ := DataW.trod_struct Try.underlying47 (show DataW.trod enc Try.prog W base spare held fuel 47 [v0, v1] = some (d0, p) from hf)
    match xs, hlen with
    | [y0, y1], _ =>
      have c2 : Try.prog.cellsOf 44 = 1 := by kernel_rfl
      have c3 : Try.prog.cellsOf 45 = 1 := by kernel_rfl
      obtain ⟨a, n, c, s, e0, hs, hsz2, hn⟩ := open_StrsD (show DataW.trod enc Try.prog W base spare held k 44 [v0] = some y0 by simpa [c2] using hg 0 _ rfl)
      obtain ⟨b, m, d, L, e1, hL, hsL, hm⟩ := open_Wts (show DataW.trod enc Try.prog W base spare held k 45 [v1] = some y1 by simpa [c2, c3] using hg 1 _ rfl)
      simp only [List.cons.injEq, and_true] at e0 e1
      subst e0 e1
      exact ⟨⟨s, L⟩, a, n, c, b, m, d, rfl, ⟨hs, hL, hsz2⟩, hn, hm, hsL⟩
end
end Go.Proofs.Ytlpbflmgkopklaa
