/- Walks: the laws' helpers on registries. -/
import Derived.Test.YtbcfbkhbangeoaaToR
import Derived.Test.YtbcfbkhbangeoaaRgAt
namespace Go.Proofs.Ytbcfbkhbangeoaa
set_option maxRecDepth 100000
open Go.RowKit

/-- a registry that came in -/
structure RawRg (w : World) (D : Rg) (a : Option Addr) (n c : Nat) (b : Option Addr) (m d : Nat) (ia : Option Addr) (im ic : Nat) (ra : Option Addr) (rm rc : Nat) : Prop where
  ch : RawCh w D.ch a n c b m d
  is : Strs w ia im ic D.issued
  rs : Ints w ra rm rc D.revoked
  hi : im ≤ 9223372036854775807
  hr : rm ≤ 9223372036854775807
  sz : ∀ s ∈ D.issued, s.size ≤ 9223372036854775807
def rgSize (D : Rg) : Nat := chSize D.ch + (D.issued.length + sizeS D.issued) + D.revoked.length
/-- a registry between two bounds: the chain first, the words and the revoked ones apart behind it -/
def RgR (w : World) (lo hi : Nat) (D : Rg) (a : Option Addr) (n c : Nat) (b : Option Addr) (m d : Nat) (ia : Option Addr) (im ic : Nat) (ra : Option Addr) (rm rc : Nat) : Prop :=
  ∃ c1 i0 i1 r0 r1, (lo ≤ c1 ∧ c1 ≤ i0 ∧ i0 ≤ i1 ∧ i1 ≤ hi ∧ c1 ≤ r0 ∧ r0 ≤ r1 ∧ r1 ≤ hi ∧ (i1 ≤ r0 ∨ r1 ≤ i0)) ∧ ChR w lo c1 D.ch a n c b m d ∧ OwnIn w i0 i1 9 ia im ic (St D.issued) ∧ OwnIn w r0 r1 2 ra rm rc (I D.revoked)
section
variable {w w' : World} {D : Rg} {lo hi : Nat} {a : Option Addr} {n c : Nat} {b : Option Addr} {m d : Nat} {ia : Option Addr} {im ic : Nat} {ra : Option Addr} {rm rc : Nat}
theorem RawRg.ext (h : RawRg w D a n c b m d ia im ic ra rm rc) (hx : Ext w w') : RawRg w' D a n c b m d ia im ic ra rm rc := ⟨h.ch.ext hx, h.is.ext hx, h.rs.ext hx, h.hi, h.hr, h.sz⟩
theorem RawRg.inn (h : RawRg w D a n c b m d ia im ic ra rm rc) (hs : rgSize D ≤ 1048576) : RgIn w D a n c b m d ia im ic ra rm rc := by
  have h1 := h.is.len
  have h2 := h.rs.len
  unfold rgSize at hs
  exact ⟨h.ch.inn (by omega), h.is, h.rs, by omega, by omega, fun s hs' => by have := sizeS_mem hs'; omega⟩
theorem RgR.row {h1 h2 : Nat} (g1 : lo ≤ h1) (g2 : h1 ≤ h2) (g3 : h2 ≤ hi) (h : ChR w lo h1 D.ch a n c b m d) (hi' : OwnIn w h1 h2 9 ia im ic (St D.issued)) (hr : OwnIn w h2 hi 2 ra rm rc (I D.revoked)) : RgR w lo hi D a n c b m d ia im ic ra rm rc :=
  ⟨h1, h1, h2, h2, hi, by omega, h, hi', hr⟩
theorem RgR.chg {lo' hi' : Nat} (h : RgR w lo hi D a n c b m d ia im ic ra rm rc) (hc : Chg lo' hi' w w') (hd : hi' ≤ lo ∨ hi ≤ lo') : RgR w' lo hi D a n c b m d ia im ic ra rm rc :=
  let ⟨c1, i0, i1, r0, r1, g, g4, g5, g6⟩ := h; ⟨c1, i0, i1, r0, r1, g, g4.chg hc (by omega), g5.chg hc (by omega), g6.chg hc (by omega)⟩
theorem RgR.ext (h : RgR w lo hi D a n c b m d ia im ic ra rm rc) (hx : Ext w w') : RgR w' lo hi D a n c b m d ia im ic ra rm rc := h.chg (Chg.ext hx 0 0) (.inl (Nat.zero_le _))
theorem RgR.mono {lo' hi' : Nat} (h : RgR w lo hi D a n c b m d ia im ic ra rm rc) (hl : lo' ≤ lo) (hh : hi ≤ hi') : RgR w lo' hi' D a n c b m d ia im ic ra rm rc :=
  let ⟨c1, i0, i1, r0, r1, g, g4, g5, g6⟩ := h; ⟨c1, i0, i1, r0, r1, by omega, g4.mono hl (Nat.le_refl _), g5, g6⟩
/-- sizes alone -/
structure RgSz (D : Rg) (n m im rm : Nat) : Prop where
  hn : n ≤ 1048576
  hm : m ≤ 1048576
  sm : SmallCh D.ch
  hi : im ≤ 1048576
  hr : rm ≤ 1048576
  sz : ∀ s ∈ D.issued, s.size ≤ 1048576
theorem RgIn.szs (h : RgIn w D a n c b m d ia im ic ra rm rc) : RgSz D n m im rm := ⟨h.ch.hn, h.ch.hn', h.ch.sm, h.hi, h.hr, h.sz⟩
theorem RgR.inn (h : RgR w lo hi D a n c b m d ia im ic ra rm rc) (hs : RgSz D n m im rm) : RgIn w D a n c b m d ia im ic ra rm rc :=
  let ⟨_, _, _, _, _, _, g4, g5, g6⟩ := h; ⟨g4.inn hs.hn hs.hm hs.sm, g5.1.sl, g6.1.ints, hs.hi, hs.hr, hs.sz⟩
end
/-- a registry of the call's own, between bounds -/
def RetRgR (D : Rg) (n m im rm : Nat) (w : World) (e : Ending) (w' : World) : Prop :=
  ∃ a c b d ia ic ra rc, e = .returned (.agg #[.int .i64 D.ch.base, .int .i64 D.ch.states, .int .i64 D.ch.start, .int .i64 D.ch.fin, .slice a n c, .slice b m d, .int .i64 D.apart, .slice ia im ic, .slice ra rm rc]) ∧ RgR w' w.heap.size w'.heap.size D a n c b m d ia im ic ra rm rc ∧ Ext w w'
theorem leftOf_two {left : Int} {x y : Nat} (h : 0 ≤ leftOf left x) : leftOf (leftOf left x) y = leftOf left (x + y) := by
  unfold leftOf at h ⊢
  split at h
  · omega
  · rename_i h1
    rw [if_neg h1]
    split <;> split <;> omega
theorem leftOf_neg {left : Int} {x y : Nat} (h : leftOf left x < 0) (_h0 : 0 ≤ left) : leftOf left (x + y) = -1 := by
  unfold leftOf at h ⊢
  split at h
  · rw [if_pos (by omega)]
  · omega
theorem leftOf_cases (left : Int) (x : Nat) : leftOf left x = -1 ∨ (0 ≤ leftOf left x ∧ leftOf left x ≤ left) := by
  unfold leftOf; split <;> omega
end Go.Proofs.Ytbcfbkhbangeoaa
