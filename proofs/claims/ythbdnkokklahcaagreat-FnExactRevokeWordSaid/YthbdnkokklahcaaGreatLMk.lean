/- Walks: the laws write marks into a registry, and look whether they are still there. -/
import Derived.Test.YthbdnkokklahcaaGreatMarkR
import Derived.Test.YthbdnkokklahcaaGreatRgL
import Derived.Test.YthbdnkokklahcaaGreatSAt
namespace Go.Proofs.YthbdnkokklahcaaGreat
set_option maxRecDepth 100000
open Go.RowKit

def szRg2 (D : Rg) : Nat := szCh2 D.ch + D.issued.length + D.revoked.length
def markG (k : Nat) (D : Rg) : Rg := { D with ch := markC k D.ch, issued := markTs (k + szCh2 D.ch) D.issued.length, revoked := markL (k + szCh2 D.ch + D.issued.length) D.revoked.length }
set_option maxHeartbeats 1000000 in
theorem markRgR (D : Rg) (a : Option Addr) (n c : Nat) (b : Option Addr) (m d : Nat) (ia : Option Addr) (im ic : Nat) (ra : Option Addr) (rm rc : Nat) (k lo hi : Nat) (w : World) (hv : RgR w lo hi D a n c b m d ia im ic ra rm rc) (hhi : hi ≤ w.heap.size) (hn : n ≤ 1048576) (hk : k + szRg2 D ≤ 549755813888) (hsm : ∀ t ∈ D.ch.tabs, t.length ≤ 1048576) :
    Calls Tryz.prog 9 #[.agg #[.int .i64 D.ch.base, .int .i64 D.ch.states, .int .i64 D.ch.start, .int .i64 D.ch.fin, .slice a n c, .slice b m d, .int .i64 D.apart, .slice ia im ic, .slice ra rm rc], .int .i64 k] w (MarkR (k + szRg2 D) lo hi w fun w' => RgR w' lo hi (markG k D) a n c b m d ia im ic ra rm rc) := by
  obtain ⟨h1, i0, i1, r0, r1, ⟨g1, g2, g3, g4, g5, g6, g7, g8⟩, hch, his, hrs⟩ := hv
  have hli : D.issued.length = im := by have := his.1.len; rwa [St_len] at this
  have hlr : D.revoked.length = rm := by have := hrs.1.len; rwa [I_len] at this
  have hz : szRg2 D = szCh2 D.ch + im + rm := by rw [szRg2, hli, hlr]
  rw [hz] at hk
  have HC := Lib.hid (fun W (hx : Ext w W) => markChR D.ch a n c b m d k lo h1 W (hch.ext hx) (by have := hx.le; omega) hn (by omega) hsm)
  have HI := Lib.hid (fun W (hc : Chg lo h1 w W) => markStrsX ia im ic (St D.issued) (k + szCh2 D.ch) i0 i1 W (his.chg hc (.inl g2)) (by have := hc.size; omega) (by omega))
  have HR := Lib.hid (fun W W2 (hc : Chg lo h1 w W) (hc2 : Chg i0 i1 W W2) => markInts ra rm rc D.revoked (k + szCh2 D.ch + im) r0 W2 ((hrs.chg hc (.inl g5)).chg hc2 (by omega)).1 (by omega) (by omega))
  have HTop := Lib.hid hrs
  have HSz := Lib.hid hz
  have hb7 : (w.alloc (.cells #[.int .i64 D.ch.base, .int .i64 D.ch.states, .int .i64 D.ch.start, .int .i64 D.ch.fin, .slice a n c, .slice b m d, .int .i64 D.apart, .slice ia im ic, .slice ra rm rc] 32)).cell? ⟨w.heap.size, 7, none⟩ = some (.slice ia im ic) := by go_simp
  have hb8 : (w.alloc (.cells #[.int .i64 D.ch.base, .int .i64 D.ch.states, .int .i64 D.ch.start, .int .i64 D.ch.fin, .slice a n c, .slice b m d, .int .i64 D.apart, .slice ia im ic, .slice ra rm rc] 32)).cell? ⟨w.heap.size, 8, none⟩ = some (.slice ra rm rc) := by go_simp
  have HB7 := Lib.hid hb7
  have HB8 := Lib.hid hb8
  have Hhli := Lib.hid hli; clear hli; have Hhlr := Lib.hid hlr; clear hlr
  clear hch his hrs hb7 hb8 hsm hz
  go_enter Tryz.func9, Tryz.ntmps9
  go_wp2_with fail
  refine (HC.out _ ((Ext.refl w).alloc _)).mono ?_
  rintro e w2 ⟨rfl, hc2, hq2⟩
  have hcell7 : w2.cell? ⟨w.heap.size, 7, none⟩ = some (.slice ia im ic) := (hc2.cell (by simp) (.inr (by show h1 ≤ w.heap.size; omega))).trans HB7.out
  have hcell8 : w2.cell? ⟨w.heap.size, 8, none⟩ = some (.slice ra rm rc) := (hc2.cell (by simp) (.inr (by show h1 ≤ w.heap.size; omega))).trans HB8.out
  have hsz2 : w.heap.size < w2.heap.size := by have := hc2.size; simp at this; omega
  have hcw : Chg lo h1 w w2 := (Chg.ext ((Ext.refl w).alloc _) lo h1).trans hc2
  have HI2 := Lib.hid (HI.out w2 hcw)
  have HQ2 := Lib.hid hq2
  have HC2 := Lib.hid hcw
  rw [show (((k + szCh2 D.ch : Nat)) : Int) = (k : Int) + szCh2 D.ch by omega] at HI2 ⊢
  have HB8b := Lib.hid hcell8
  clear hc2 hq2 hcw HC HI hcell8
  go_wp2_with fail
  refine HI2.out.mono ?_
  rintro e w3 ⟨rfl, hc3, hq3⟩
  have hcell8 : w3.cell? ⟨w.heap.size, 8, none⟩ = some (.slice ra rm rc) := (hc3.cell hsz2 (.inr (by show i1 ≤ w.heap.size; omega))).trans HB8b.out
  have hcw3 : Chg lo hi w w3 := (HC2.out.mono (Nat.le_refl _) (by omega)).trans (hc3.mono (by omega) (by omega))
  have HR3 := Lib.hid (HR.out w2 w3 HC2.out hc3)
  have HQ2b := Lib.hid (HQ2.out.chg hc3 (.inr g2))
  have HQ3 := Lib.hid hq3
  have HC3 := Lib.hid hcw3
  rw [show (((k + szCh2 D.ch + im : Nat)) : Int) = (k : Int) + szCh2 D.ch + im by omega] at HR3 ⊢
  clear hc3 hq3 hcw3 HR
  go_wp2_with fail
  refine HR3.out.mono ?_
  rintro e w4 ⟨rfl, hm4, ho4⟩
  go_wp2
  go_ret
  have hc4 : Chg r0 r1 w3 w4 := hm4.chg (Nat.le_refl _) HTop.out.2 (fun g hg => (HTop.out.1.blk g hg).1)
  refine ⟨ri (by rw [HSz.out]; omega), HC3.out.trans (hc4.mono (by omega) (by omega)), h1, i0, i1, r0, r1, ⟨g1, g2, g3, g4, g5, g6, g7, g8⟩, HQ2b.out.chg hc4 (.inr g5), ?_, ?_, HTop.out.2⟩
  · have h := HQ3.out.chg hc4 (by omega)
    rw [← Hhli.out] at h
    have : OwnIn w4 i0 i1 9 ia im ic (St (markTs (k + szCh2 D.ch) D.issued.length)) := by rw [Hhli.out] at h ⊢; exact h
    exact this
  · show Own w4 r0 _ ra rm rc (I (markL _ D.revoked.length))
    rw [Hhlr.out, Hhli.out]; exact ho4
set_option maxHeartbeats 1000000 in
theorem heldRgR (D : Rg) (a : Option Addr) (n c : Nat) (b : Option Addr) (m d : Nat) (ia : Option Addr) (im ic : Nat) (ra : Option Addr) (rm rc : Nat) (k lo hi : Nat) (w : World) (hv : RgR w lo hi (markG k D) a n c b m d ia im ic ra rm rc) (hn : n ≤ 1048576) (hk : k + szRg2 D ≤ 549755813888) (hsm : ∀ t ∈ D.ch.tabs, t.length ≤ 1048576) :
    Calls Tryz.prog 10 #[.agg #[.int .i64 D.ch.base, .int .i64 D.ch.states, .int .i64 D.ch.start, .int .i64 D.ch.fin, .slice a n c, .slice b m d, .int .i64 D.apart, .slice ia im ic, .slice ra rm rc], .int .i64 k] w (Ret (.int .i64 ((k : Int) + szRg2 D)) w) := by
  obtain ⟨h1, i0, i1, r0, r1, g1, ⟨h0, g4, g5, hcu, hpl⟩, his, hrs⟩ := hv
  have hli : D.issued.length = im := by have := his.1.len; rw [St_len] at this; rwa [show (markG k D).issued.length = D.issued.length from markTs_len _ _] at this
  have hlr : D.revoked.length = rm := by have := hrs.1.len; rw [I_len] at this; rwa [show (markG k D).revoked.length = D.revoked.length from markL_len _ _] at this
  have hz : szRg2 D = szCh2 D.ch + im + rm := by rw [szRg2, hli, hlr]
  rw [hz] at hk
  have HC := Lib.hid (fun W (hx : Ext w W) => heldChR D.ch a n c b m d k W (hcu.cube.ext hx) (hpl.1.ints.ext hx) hn (by omega) hsm)
  have his' : Strs w ia im ic (markTs (k + szCh2 D.ch) im) := by have h := his.1.sl; rw [show (markG k D).issued = markTs (k + szCh2 D.ch) D.issued.length from rfl, hli] at h; exact h
  have hrs' : Ints w ra rm rc (markL (k + szCh2 D.ch + im) rm) := by have h := hrs.1.ints; rw [show (markG k D).revoked = markL (k + szCh2 D.ch + D.issued.length) D.revoked.length from rfl, hli, hlr] at h; exact h
  have HI := Lib.hid (fun W (hx : Ext w W) => heldStrsX ia im ic (k + szCh2 D.ch) W (his'.ext hx) (by omega))
  have HR := Lib.hid (fun W (hx : Ext w W) => heldInts ra rm rc (k + szCh2 D.ch + im) W (hrs'.ext hx) (by omega) (by omega))
  have HSz := Lib.hid hz
  have hb7 : ∀ w', Ext (w.alloc (.cells #[.int .i64 D.ch.base, .int .i64 D.ch.states, .int .i64 D.ch.start, .int .i64 D.ch.fin, .slice a n c, .slice b m d, .int .i64 D.apart, .slice ia im ic, .slice ra rm rc] 32)) w' → w'.cell? ⟨w.heap.size, 7, none⟩ = some (.slice ia im ic) := fun w' hx => hx.cell (by go_simp)
  have hb8 : ∀ w', Ext (w.alloc (.cells #[.int .i64 D.ch.base, .int .i64 D.ch.states, .int .i64 D.ch.start, .int .i64 D.ch.fin, .slice a n c, .slice b m d, .int .i64 D.apart, .slice ia im ic, .slice ra rm rc] 32)) w' → w'.cell? ⟨w.heap.size, 8, none⟩ = some (.slice ra rm rc) := fun w' hx => hx.cell (by go_simp)
  clear hcu hpl his hrs his' hrs' hsm hz hli hlr
  go_enter Tryz.func10, Tryz.ntmps10
  go_wp2_with fail
  obtain ⟨wb, hwb⟩ : ∃ wb, wb = w.alloc (.cells #[.int .i64 D.ch.base, .int .i64 D.ch.states, .int .i64 D.ch.start, .int .i64 D.ch.fin, .slice a n c, .slice b m d, .int .i64 D.apart, .slice ia im ic, .slice ra rm rc] 32) := ⟨_, rfl⟩
  have hxb : Ext w wb := by rw [hwb]; exact (by repeat (first | (with_reducible exact Ext.refl _) | (with_reducible refine Ext.drewN ?_ _) | (with_reducible refine Ext.drew ?_) | (with_reducible refine Ext.alloc ?_ _) | ((with_reducible refine Ext.setCell ?_ ?_ _); rotate_left; focus (first | (simp; done) | (simp; omega) | omega)) | assumption | (with_reducible refine Ext.trans ?_ (by assumption))))
  rw [← hwb] at hb7 hb8 ⊢
  clear hwb
  refine (HC.out _ hxb).mono ?_
  rintro e w2 ⟨rfl, hx2⟩
  have hx2' : Ext wb w2 := hx2
  have HI2 := Lib.hid (HI.out w2 (hxb.trans hx2))
  rw [show (((k + szCh2 D.ch : Nat)) : Int) = (k : Int) + szCh2 D.ch by omega] at HI2
  go_wp2_with fail
  refine HI2.out.mono ?_
  rintro e w3 ⟨rfl, hx3⟩
  have hx3' : Ext wb w3 := hx2.trans hx3
  have HR3 := Lib.hid (HR.out w3 (hxb.trans hx3'))
  rw [show (((k + szCh2 D.ch + im : Nat)) : Int) = (k : Int) + szCh2 D.ch + im by omega, show (((k + szCh2 D.ch + im + rm : Nat)) : Int) = (k : Int) + szCh2 D.ch + im + rm by omega] at HR3
  go_wp2_with ((with_reducible refine HR3.out.mono ?_); rintro e w4 ⟨rfl, hx4⟩)
  go_ret
  exact ⟨ri (by rw [HSz.out]; omega), (hxb.trans hx3').trans hx4⟩
end Go.Proofs.YthbdnkokklahcaaGreat

/- Words for the laws that write marks: rules for a block's cells. -/
namespace Go.Proofs.YthbdnkokklahcaaGreat
set_option maxRecDepth 100000
open Go.RowKit

section
variable {w : World} {g : Nat} {T : TypeId}
theorem SAt.rule {cs : Array Value} (h : SAt w g T cs) (i : Nat) (v : Value) (hv : cs[i]? = some v) : ∀ w', Ext w w' → w'.cell? ⟨g, i, none⟩ = some v := fun w' hx => by
  have := cell_of_row w' g i cs T (0, 0) (h.ext hx)
  rw [this, hv]
theorem SAt.r6 {v0 v1 v2 v3 v4 v5 : Value} (h : SAt w g T #[v0, v1, v2, v3, v4, v5]) :
    (∀ w', Ext w w' → w'.cell? ⟨g, 0, none⟩ = some v0) ∧ (∀ w', Ext w w' → w'.cell? ⟨g, 1, none⟩ = some v1) ∧ (∀ w', Ext w w' → w'.cell? ⟨g, 2, none⟩ = some v2) ∧
    (∀ w', Ext w w' → w'.cell? ⟨g, 3, none⟩ = some v3) ∧ (∀ w', Ext w w' → w'.cell? ⟨g, 4, none⟩ = some v4) ∧ (∀ w', Ext w w' → w'.cell? ⟨g, 5, none⟩ = some v5) :=
  ⟨h.rule 0 _ rfl, h.rule 1 _ rfl, h.rule 2 _ rfl, h.rule 3 _ rfl, h.rule 4 _ rfl, h.rule 5 _ rfl⟩
theorem SAt.r9 {v0 v1 v2 v3 v4 v5 v6 v7 v8 : Value} (h : SAt w g T #[v0, v1, v2, v3, v4, v5, v6, v7, v8]) :
    (∀ w', Ext w w' → w'.cell? ⟨g, 0, none⟩ = some v0) ∧ (∀ w', Ext w w' → w'.cell? ⟨g, 1, none⟩ = some v1) ∧ (∀ w', Ext w w' → w'.cell? ⟨g, 2, none⟩ = some v2) ∧
    (∀ w', Ext w w' → w'.cell? ⟨g, 3, none⟩ = some v3) ∧ (∀ w', Ext w w' → w'.cell? ⟨g, 4, none⟩ = some v4) ∧ (∀ w', Ext w w' → w'.cell? ⟨g, 5, none⟩ = some v5) ∧
    (∀ w', Ext w w' → w'.cell? ⟨g, 6, none⟩ = some v6) ∧ (∀ w', Ext w w' → w'.cell? ⟨g, 7, none⟩ = some v7) ∧ (∀ w', Ext w w' → w'.cell? ⟨g, 8, none⟩ = some v8) :=
  ⟨h.rule 0 _ rfl, h.rule 1 _ rfl, h.rule 2 _ rfl, h.rule 3 _ rfl, h.rule 4 _ rfl, h.rule 5 _ rfl, h.rule 6 _ rfl, h.rule 7 _ rfl, h.rule 8 _ rfl⟩
end
theorem sum_cons_le {α : Type} (f g : α → Nat) (l : List α) (h : ∀ x, f x ≤ g x) : (l.map f).sum ≤ (l.map g).sum := by
  induction l with
  | nil => simp
  | cons x l ih => have := h x; simp only [List.map_cons, List.sum_cons]; omega
theorem szLL_le (l : List (List (List Int))) : szLL l ≤ szC l := by
  have h := sum_cons_le szL szM l (fun x => by show (x.map List.length).sum ≤ x.length + (x.map List.length).sum; omega)
  show (l.map szL).sum ≤ l.length + (l.map szM).sum
  omega
theorem szCh2_le {D : Ch} (h : chSize D ≤ 1048576) : szCh2 D ≤ 1048576 := by
  have := szLL_le D.tabs; unfold chSize at h; unfold szCh2; omega
theorem szRg2_le {D : Rg} (h : rgSize D ≤ 1048576) : szRg2 D ≤ 1048576 := by
  have := szCh2_le (D := D.ch) (by unfold rgSize at h; omega)
  have h2 := szLL_le D.ch.tabs
  unfold rgSize chSize at h
  unfold szRg2 szCh2
  omega
theorem small_tabs {D : Ch} (h : SmallCh D) : ∀ t ∈ D.tabs, t.length ≤ 1048576 := fun t ht => (h t ht).1
/-- a result registry's size in marks -/
theorem RgIn.same {w : World} {R : Rg} {a : Option Addr} {n c : Nat} {b : Option Addr} {m d : Nat} {ia : Option Addr} {im ic : Nat} {ra : Option Addr} {rm rc : Nat} {a2 : Option Addr} {n2 c2 : Nat} {b2 : Option Addr} {m2 d2 : Nat} {ia2 : Option Addr} {im2 ic2 : Nat} {ra2 : Option Addr} {rm2 rc2 : Nat} (h : RgIn w R a n c b m d ia im ic ra rm rc) (h2 : RgIn w R a2 n2 c2 b2 m2 d2 ia2 im2 ic2 ra2 rm2 rc2) : n = n2 ∧ m = m2 ∧ im = im2 ∧ rm = rm2 :=
  ⟨h.ch.ts.len.symm.trans h2.ch.ts.len, h.ch.ps.len.symm.trans h2.ch.ps.len, h.is.len.symm.trans h2.is.len, h.rs.len.symm.trans h2.rs.len⟩
theorem heldRg1 (D : Rg) (a : Option Addr) (n c : Nat) (b : Option Addr) (m d : Nat) (ia : Option Addr) (im ic : Nat) (ra : Option Addr) (rm rc : Nat) (lo hi : Nat) (w : World) (hv : RgR w lo hi (markG 1 D) a n c b m d ia im ic ra rm rc) (hn : n ≤ 1048576) (hk : 1 + szRg2 D ≤ 549755813888) (hsm : ∀ t ∈ D.ch.tabs, t.length ≤ 1048576) :
    Calls Tryz.prog 10 #[.agg #[.int .i64 D.ch.base, .int .i64 D.ch.states, .int .i64 D.ch.start, .int .i64 D.ch.fin, .slice a n c, .slice b m d, .int .i64 D.apart, .slice ia im ic, .slice ra rm rc], .int .i64 1] w (Ret (.int .i64 (1 + (szRg2 D : Int))) w) := heldRgR D a n c b m d ia im ic ra rm rc 1 lo hi w hv hn hk hsm
end Go.Proofs.YthbdnkokklahcaaGreat
