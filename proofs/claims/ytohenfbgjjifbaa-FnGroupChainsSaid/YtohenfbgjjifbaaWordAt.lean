/- Walks: chains: the word of a rank. -/
import Derived.Test.YtohenfbgjjifbaaEnum
import Derived.Test.YtohenfbgjjifbaaEnds
namespace Go.Proofs.Ytohenfbgjjifbaa
set_option maxRecDepth 100000
open Go.RowKit

/-- the grid of ends as lists -/
def endsL (D : Ch) : List (List Int) := (List.range (D.places.length + 1)).map fun k => (List.range D.states.toNat).map fun (x : Nat) => endsS D (D.places.length - k) k x
theorem endsL_gl {D : Ch} {k : Nat} (h : k ≤ D.places.length) : gl (endsL D) k = (List.range D.states.toNat).map fun (x : Nat) => endsS D (D.places.length - k) k x := by
  simp [gl, endsL, show k < D.places.length + 1 by omega]
theorem RetEnds.matL {D : Ch} {w w' : World} {e : Ending} (h : RetEnds D w e w') : ∃ a c, e = .returned (.slice a (D.places.length + 1) c) ∧ Mat w' a (D.places.length + 1) c (endsL D) ∧ Ext w w' := by
  obtain ⟨a, c, F, G, C, rfl, hg, hr, hx⟩ := h
  refine ⟨a, c, rfl, ⟨by simp [endsL], _, hg.outer.sl, fun k hk => ?_⟩, hx⟩
  refine ⟨Option.some ⟨G k, 0, none⟩, D.states.toNat, C k, ?_, ?_⟩
  · simp [gv, hk, slR]
  · rw [endsL_gl (by omega)]
    have h1 := (hg.row k hk).ints
    have h2 : rowF F D.states.toNat k = (List.range D.states.toNat).map fun (x : Nat) => endsS D (D.places.length - k) k x := by
      unfold rowF
      apply List.map_congr_left
      intro y hy
      exact hr.hi k (Nat.zero_le _) (by omega) y (List.mem_range.1 hy)
    rw [h2] at h1
    exact h1
/-- where one number of the grid lies -/
theorem endsL_at {D : Ch} {w : World} {a : Option Addr} {n c : Nat} (h : Mat w a (n + 1) c (endsL D)) (hn : D.places.length = n) (T : TypeId) (ht : Try.prog.underlying T = some (.slice 28)) (i x : Int) (h0 : 0 ≤ i) (h1 : i ≤ n) (h2 : 0 ≤ x) (h3 : x < D.states) :
    ∃ b off a1 n1 c1 b2 off2, One Try.prog T w a (n + 1) c i b off (.slice a1 n1 c1) ∧ One Try.prog 28 w a1 n1 c1 x b2 off2 (.int .i64 (endsS D (n - i.toNat) i x)) := by
  obtain ⟨b, off, a1, n1, c1, f1, hr⟩ := h.one (P := Try.prog) T 28 ht cell_row1 i h0 (by omega)
  have hgl := endsL_gl (D := D) (k := i.toNat) (by omega)
  rw [hn] at hgl
  rw [hgl] at hr
  have hl := hr.len
  simp only [List.length_map, List.length_range] at hl
  obtain ⟨b2, off2, f2⟩ := hr.one (P := Try.prog) 28 2 und_int64s cell_int64 x h2 (by omega)
  refine ⟨b, off, a1, n1, c1, b2, off2, f1, ?_⟩
  have : gi ((List.range D.states.toNat).map fun (x : Nat) => endsS D (n - i.toNat) (i.toNat : Int) x) x.toNat = endsS D (n - i.toNat) i x := by
    rw [gi_get (by simp; omega)]
    simp [Int.toNat_of_nonneg h0, Int.toNat_of_nonneg h2]
  rw [this] at f2
  exact f2
theorem words_zero_get {D : Ch} {p x : Int} {r : Nat} (h : (r : Int) < endsS D 0 p x) : (wordsS D 0 p x).getD r [] = [] := by
  unfold endsS at h
  unfold wordsS
  by_cases e : x = D.fin
  · rw [if_pos e] at h ⊢
    obtain rfl : r = 0 := by omega
    rfl
  · rw [if_neg e]; rfl
end Go.Proofs.Ytohenfbgjjifbaa
