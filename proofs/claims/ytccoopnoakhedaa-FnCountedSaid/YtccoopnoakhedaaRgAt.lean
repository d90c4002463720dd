/- Walks: registries: words that are far apart. -/
import Derived.Test.YtccoopnoakhedaaRgM
import Derived.Test.YtccoopnoakhedaaEditS
import Derived.Test.YtccoopnoakhedaaStrFn
namespace Go.Proofs.Ytccoopnoakhedaa
set_option maxRecDepth 100000
open Go.RowKit

theorem any_not_allS (l : List ByteArray) (p : ByteArray → Bool) : (!(l.any fun x => p x)) = l.all fun x => !p x := by
  simp [List.all_eq_not_any_not]
end Go.Proofs.Ytccoopnoakhedaa

/- Words: a registry in a block of nine cells, and as an argument. Conditions: none. -/
namespace Go.Proofs.Ytccoopnoakhedaa
set_option maxRecDepth 100000
open Go.RowKit

/-- the block q holds a registry, in this world and behind it -/
structure RgAt (w : World) (q : Nat) (D : Rg) (a : Option Addr) (n c : Nat) (b : Option Addr) (m d : Nat) (ia : Option Addr) (im ic : Nat) (ra : Option Addr) (rm rc : Nat) : Prop where
  ch : ChAt w q D.ch a n c b m d
  c6 : ∀ w', Ext w w' → w'.cell? ⟨q, 6, none⟩ = some (.int .i64 D.apart)
  c7 : ∀ w', Ext w w' → w'.cell? ⟨q, 7, none⟩ = some (.slice ia im ic)
  c8 : ∀ w', Ext w w' → w'.cell? ⟨q, 8, none⟩ = some (.slice ra rm rc)
  is : Strs w ia im ic D.issued
  rs : Ints w ra rm rc D.revoked
theorem RgAt.ext {w w' : World} {q : Nat} {D : Rg} {a : Option Addr} {n c : Nat} {b : Option Addr} {m d : Nat} {ia : Option Addr} {im ic : Nat} {ra : Option Addr} {rm rc : Nat} (h : RgAt w q D a n c b m d ia im ic ra rm rc) (hx : Ext w w') : RgAt w' q D a n c b m d ia im ic ra rm rc :=
  ⟨h.ch.ext hx, fun w' h' => h.c6 w' (hx.trans h'), fun w' h' => h.c7 w' (hx.trans h'), fun w' h' => h.c8 w' (hx.trans h'), h.is.ext hx, h.rs.ext hx⟩
/-- a registry as an argument: its slices, of bounded sizes -/
structure RgIn (w : World) (D : Rg) (a : Option Addr) (n c : Nat) (b : Option Addr) (m d : Nat) (ia : Option Addr) (im ic : Nat) (ra : Option Addr) (rm rc : Nat) : Prop where
  ch : ChIn w D.ch a n c b m d
  is : Strs w ia im ic D.issued
  rs : Ints w ra rm rc D.revoked
  hi : im ≤ 1048576
  hr : rm ≤ 1048576
  sz : ∀ s ∈ D.issued, s.size ≤ 1048576
section
variable {w w' : World} {D : Rg} {a : Option Addr} {n c : Nat} {b : Option Addr} {m d : Nat} {ia : Option Addr} {im ic : Nat} {ra : Option Addr} {rm rc : Nat}
theorem RgIn.ext (h : RgIn w D a n c b m d ia im ic ra rm rc) (hx : Ext w w') : RgIn w' D a n c b m d ia im ic ra rm rc := ⟨h.ch.ext hx, h.is.ext hx, h.rs.ext hx, h.hi, h.hr, h.sz⟩
theorem RgIn.box (h : RgIn w D a n c b m d ia im ic ra rm rc) (T : TypeId) : RgAt (w.alloc (.cells #[.int .i64 D.ch.base, .int .i64 D.ch.states, .int .i64 D.ch.start, .int .i64 D.ch.fin, .slice a n c, .slice b m d, .int .i64 D.apart, .slice ia im ic, .slice ra rm rc] T)) w.heap.size D a n c b m d ia im ic ra rm rc :=
  ⟨⟨fun w' hx => hx.cell (by go_simp), fun w' hx => hx.cell (by go_simp), fun w' hx => hx.cell (by go_simp), fun w' hx => hx.cell (by go_simp), fun w' hx => hx.cell (by go_simp), fun w' hx => hx.cell (by go_simp), h.ch.ts.ext ((Ext.refl w).alloc _), h.ch.ps.ext ((Ext.refl w).alloc _)⟩,
    fun w' hx => hx.cell (by go_simp), fun w' hx => hx.cell (by go_simp), fun w' hx => hx.cell (by go_simp), h.is.ext ((Ext.refl w).alloc _), h.rs.ext ((Ext.refl w).alloc _)⟩
end
end Go.Proofs.Ytccoopnoakhedaa
