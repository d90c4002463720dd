/- Walks: the laws' helpers on registries. -/
import Derived.Test.YtkiolfmdofldbaaDoorToR
import Derived.Test.YtkiolfmdofldbaaDoorRgAt
namespace Go.Proofs.YtkiolfmdofldbaaDoor
set_option maxRecDepth 100000
open Go.RowKit

/-- a registry that came in -/
structure RawRg (w : World) (D : Rg) (a : Option Addr) (n c : Nat) (b : Option Addr) (m d : Nat) (ia : Option Addr) (im ic : Nat) (ra : Option Addr) (rm rc : Nat) : Prop where
  ch : RawCh w D.ch a n c b m d
  is : Strs w ia im ic D.issued
  rs : Ints w ra rm rc D.revoked
  hi : im ≤ 9223372036854775807
  hr : rm ≤ 9223372036854775807
  sz : ∀ s ∈ D.issued, s.size ≤ 9223372036854775807
def rgSize (D : Rg) : Nat := chSize D.ch + (D.issued.length + sizeS D.issued) + D.revoked.length
section
variable {w w' : World} {D : Rg} {lo hi : Nat} {a : Option Addr} {n c : Nat} {b : Option Addr} {m d : Nat} {ia : Option Addr} {im ic : Nat} {ra : Option Addr} {rm rc : Nat}
theorem RawRg.ext (h : RawRg w D a n c b m d ia im ic ra rm rc) (hx : Ext w w') : RawRg w' D a n c b m d ia im ic ra rm rc := ⟨h.ch.ext hx, h.is.ext hx, h.rs.ext hx, h.hi, h.hr, h.sz⟩
theorem RawRg.inn (h : RawRg w D a n c b m d ia im ic ra rm rc) (hs : rgSize D ≤ 1048576) : RgIn w D a n c b m d ia im ic ra rm rc := by
  have h1 := h.is.len
  have h2 := h.rs.len
  unfold rgSize at hs
  exact ⟨h.ch.inn (by omega), h.is, h.rs, by omega, by omega, fun s hs' => by have := sizeS_mem hs'; omega⟩
/-- sizes alone -/
structure RgSz (D : Rg) (n m im rm : Nat) : Prop where
  hn : n ≤ 1048576
  hm : m ≤ 1048576
  sm : SmallCh D.ch
  hi : im ≤ 1048576
  hr : rm ≤ 1048576
  sz : ∀ s ∈ D.issued, s.size ≤ 1048576
theorem RgIn.szs (h : RgIn w D a n c b m d ia im ic ra rm rc) : RgSz D n m im rm := ⟨h.ch.hn, h.ch.hn', h.ch.sm, h.hi, h.hr, h.sz⟩
end
theorem leftOf_two {left : Int} {x y : Nat} (h : 0 ≤ leftOf left x) : leftOf (leftOf left x) y = leftOf left (x + y) := by
  unfold leftOf at h ⊢
  split at h
  · omega
  · rename_i h1
    rw [if_neg h1]
    split <;> split <;> omega
theorem leftOf_neg {left : Int} {x y : Nat} (h : leftOf left x < 0) (_h0 : 0 ≤ left) : leftOf left (x + y) = -1 := by
  unfold leftOf at h ⊢
  split at h
  · rw [if_pos (by omega)]
  · omega
theorem leftOf_cases (left : Int) (x : Nat) : leftOf left x = -1 ∨ (0 ≤ leftOf left x ∧ leftOf left x ≤ left) := by
  unfold leftOf; split <;> omega
end Go.Proofs.YtkiolfmdofldbaaDoor
