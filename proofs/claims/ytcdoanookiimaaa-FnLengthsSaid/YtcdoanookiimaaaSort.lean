/- Walks: slices.Sort at texts. -/
import Derived.Test.YtcdoanookiimaaaPutM
import Derived.Test.YtcdoanookiimaaaShelf
import Derived.Sort.OwnSorted
namespace Go.Proofs.Ytcdoanookiimaaa
set_option maxRecDepth 100000
open Go.RowKit Go.Sort

/-- slices.Sort: the row holds its texts in order; of what was there only its block has changed -/
theorem sort_strs (g n c B : Nat) (l : List ByteArray) (w : World) (ho : Own w B 9 (some ⟨g, 0, none⟩) n c (St l)) (hn : n ≤ 1048576) :
    Calls Try.prog 67 #[.slice (some ⟨g, 0, none⟩) n c] w (fun e w' => e = .returned (.tuple #[]) ∧ Own w' B 9 (some ⟨g, 0, none⟩) n c (St (sortS l)) ∧ w.grownBy w' (some g)) := by
  have hl : l.length = n := (St_len l).symm.trans ho.len
  have hk : (keyS l).length = n := by simp [keyS, hl]
  rcases ho.2 with ⟨h1, _⟩ | ⟨g', cap, cur, hv, hb, hg, hnc, hcm, hcs, htake⟩
  · cases h1
  simp only [Value.slice.injEq, Option.some.injEq, Addr.mk.injEq, and_true, true_and] at hv
  obtain ⟨rfl, rfl⟩ := hv
  have hH : Holds encStr w g 0 (keyS l).toArray := holds_of_block hg (by rw [hk, keyS_enc]; simpa using htake)
  have h := Try.slices_Sort_string g 0 c (keyS l) w hH (Array.getElem?_eq_some_iff.1 hg).1 (by rw [hk]; omega)
  rw [hk] at h
  refine h.mono ?_
  rintro e w' ⟨rfl, q, os, rfl⟩
  refine ⟨rfl, ?_, grownBy_sorted _⟩
  have h3 := ownsRow_sorted (ts := sortK l) (ss := keyS l) (n := q) (os := os) (by rw [sortK_len, hk, hl]) hb hg (by rw [hk]; exact hnc) hcm hcs
  rw [hk, sortK_enc] at h3
  exact h3
end Go.Proofs.Ytcdoanookiimaaa
