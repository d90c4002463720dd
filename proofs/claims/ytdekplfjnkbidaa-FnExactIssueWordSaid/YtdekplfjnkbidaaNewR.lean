/- Walks: NewRegistry, on both sides. -/
import Derived.Test.YtdekplfjnkbidaaRgV
import Derived.Test.YtdekplfjnkbidaaClR
import Derived.Test.YtdekplfjnkbidaaLMk
namespace Go.Proofs.Ytdekplfjnkbidaa
set_option maxRecDepth 100000
open Go.RowKit

/-- the empty registry -/
def zeroR : Rg := ⟨⟨0, 0, 0, 0, [], []⟩, 0, [], []⟩
def newR (D : Ch) (ap : Int) : Rg := ⟨D, ap, [], []⟩
def newOk (D : Ch) (ap : Int) : Bool := validRg (newR D ap)
def newRes (D : Ch) (ap : Int) : Rg := if newOk D ap then newR D ap else zeroR
/-- the registry as long as the blocks from lo to hi are as they were at w -/
def RgK (lo hi : Nat) (w : World) (D : Rg) (a : Option Addr) (n c : Nat) (b : Option Addr) (m d : Nat) (ia : Option Addr) (im ic : Nat) (ra : Option Addr) (rm rc : Nat) : Prop := ∀ W, KeepB lo hi w W → RgIn W D a n c b m d ia im ic ra rm rc
/-- a registry and a bool: the reference's -/
def RetRgK (D : Rg) (ok : Bool) (w : World) (e : Ending) (w' : World) : Prop :=
  ∃ a n c b m d ia im ic ra rm rc, e = .returned (.tuple #[.agg #[.int .i64 D.ch.base, .int .i64 D.ch.states, .int .i64 D.ch.start, .int .i64 D.ch.fin, .slice a n c, .slice b m d, .int .i64 D.apart, .slice ia im ic, .slice ra rm rc], .bool ok]) ∧ RgK w.heap.size w'.heap.size w' D a n c b m d ia im ic ra rm rc ∧ Ext w w'
/-- the program's: of its own -/
def RetRgO (D : Rg) (ok : Bool) (w : World) (e : Ending) (w' : World) : Prop :=
  ∃ a n c b m d ia im ic ra rm rc, e = .returned (.tuple #[.agg #[.int .i64 D.ch.base, .int .i64 D.ch.states, .int .i64 D.ch.start, .int .i64 D.ch.fin, .slice a n c, .slice b m d, .int .i64 D.apart, .slice ia im ic, .slice ra rm rc], .bool ok]) ∧ RgR w' w.heap.size w'.heap.size D a n c b m d ia im ic ra rm rc ∧ RgSz D n m im rm ∧ Ext w w'
theorem sl_nil (w : World) (c : Nat) : Sl w none 0 c [] := ⟨rfl, Nat.zero_le _, fun h => by omega⟩
theorem zero_in (w : World) : RgIn w zeroR none 0 0 none 0 0 none 0 0 none 0 0 :=
  ⟨⟨⟨rfl, [], sl_nil _ _, fun k h => by omega⟩, sl_nil _ _, by omega, by omega, fun t h => (by cases h)⟩, sl_nil _ _, sl_nil _ _, by omega, by omega, fun s h => (by cases h)⟩
theorem own_none (w : World) (lo hi : Nat) (E : TypeId) : OwnIn w lo hi E none 0 0 [] := ⟨Own.nil _ _ _, fun g h => (by cases h)⟩
theorem zero_r (w : World) (lo hi : Nat) (h : lo ≤ hi) : RgR w lo hi zeroR none 0 0 none 0 0 none 0 0 none 0 0 :=
  RgR.row h (Nat.le_refl hi) (Nat.le_refl hi) ⟨hi, h, Nat.le_refl _, ⟨[], fun _ => 0, fun _ => 0, rfl, Own.nil _ _ _, fun g h => (by cases h), fun g h => (by cases h), fun k h => by omega, fun j k _ h => by omega⟩, own_none _ _ _ _⟩ (own_none _ _ _ _) (own_none _ _ _ _)
theorem zero_sz : RgSz zeroR 0 0 0 0 := ⟨by omega, by omega, fun t h => (by cases h), by omega, by omega, fun s h => (by cases h)⟩
theorem new_no {D : Ch} {ap : Int} (h : newOk D ap = false) : newRes D ap = zeroR := by rw [newRes, h]; rfl
theorem new_yes {D : Ch} {ap : Int} (h : newOk D ap = true) : newRes D ap = newR D ap := by rw [newRes, h]; rfl
set_option maxHeartbeats 2000000 in
theorem spec_NewRegistry (D : Ch) (a : Option Addr) (n c : Nat) (b : Option Addr) (m d : Nat) (ap : Int) (w : World) (hv : ChIn w D a n c b m d) :
    Calls Try.prog 25 #[.agg #[.int .i64 D.base, .int .i64 D.states, .int .i64 D.start, .int .i64 D.fin, .slice a n c, .slice b m d], .int .i64 ap] w (RetRgK (newRes D ap) (newOk D ap) w) := by
  have HB := Lib.hid (hv.box 31)
  have HV := Lib.hid hv
  have hn := hv.hn
  have hm := hv.hn'
  have HSm := Lib.hid hv.sm
  clear hv
  go_enter Try.func25, Try.ntmps25
  go_wp2_with fail
  obtain ⟨wz, hwz⟩ : ∃ wz, wz = (w.alloc (.cells #[.int .i64 D.base, .int .i64 D.states, .int .i64 D.start, .int .i64 D.fin, .slice a n c, .slice b m d] 31)).alloc (.cells #[.int .i64 0, .int .i64 0, .int .i64 0, .int .i64 0, .slice none 0 0, .slice none 0 0, .int .i64 0, .slice none 0 0, .slice none 0 0] 33) := ⟨_, rfl⟩
  have hxz : Ext w wz := by rw [hwz]; exact (by repeat (first | (with_reducible exact Ext.refl _) | (with_reducible refine Ext.drewN ?_ _) | (with_reducible refine Ext.drew ?_) | (with_reducible refine Ext.alloc ?_ _) | ((with_reducible refine Ext.setCell ?_ ?_ _); rotate_left; focus (first | (simp; done) | (simp; omega) | omega)) | assumption | (with_reducible refine Ext.trans ?_ (by assumption))))
  have hzs : wz.heap.size = w.heap.size + 2 := by rw [hwz]; simp
  have zc0 : ∀ w', Ext wz w' → w'.cell? ⟨w.heap.size + 1, 0, none⟩ = some (.int .i64 0) := fun w' hx => hx.cell (by rw [hwz]; go_simp)
  have zc1 : ∀ w', Ext wz w' → w'.cell? ⟨w.heap.size + 1, 1, none⟩ = some (.int .i64 0) := fun w' hx => hx.cell (by rw [hwz]; go_simp)
  have zc2 : ∀ w', Ext wz w' → w'.cell? ⟨w.heap.size + 1, 2, none⟩ = some (.int .i64 0) := fun w' hx => hx.cell (by rw [hwz]; go_simp)
  have zc3 : ∀ w', Ext wz w' → w'.cell? ⟨w.heap.size + 1, 3, none⟩ = some (.int .i64 0) := fun w' hx => hx.cell (by rw [hwz]; go_simp)
  have zc4 : ∀ w', Ext wz w' → w'.cell? ⟨w.heap.size + 1, 4, none⟩ = some (.slice none 0 0) := fun w' hx => hx.cell (by rw [hwz]; go_simp)
  have zc5 : ∀ w', Ext wz w' → w'.cell? ⟨w.heap.size + 1, 5, none⟩ = some (.slice none 0 0) := fun w' hx => hx.cell (by rw [hwz]; go_simp)
  have zc6 : ∀ w', Ext wz w' → w'.cell? ⟨w.heap.size + 1, 6, none⟩ = some (.int .i64 0) := fun w' hx => hx.cell (by rw [hwz]; go_simp)
  have zc7 : ∀ w', Ext wz w' → w'.cell? ⟨w.heap.size + 1, 7, none⟩ = some (.slice none 0 0) := fun w' hx => hx.cell (by rw [hwz]; go_simp)
  have zc8 : ∀ w', Ext wz w' → w'.cell? ⟨w.heap.size + 1, 8, none⟩ = some (.slice none 0 0) := fun w' hx => hx.cell (by rw [hwz]; go_simp)
  have zf : ∀ i w', Ext wz w' → w'.frozen? ⟨w.heap.size + 1, i, none⟩ = false := fun i w' hx => (Below.frozen (p := ⟨w.heap.size + 1, i, none⟩) hx (by show w.heap.size + 1 < wz.heap.size; omega)).trans (by rw [hwz]; exact SAt.frozen (SAt.new' _ _ _ (by simp)) i)
  have zs : ∀ w', Ext wz w' → w.heap.size + 1 < w'.heap.size := fun w' hx => by have := hx.le; omega
  have HBz := Lib.hid (show ChAt wz w.heap.size D a n c b m d by rw [hwz]; exact HB.out.ext ((Ext.refl _).alloc _))
  rw [← hwz]
  clear hwz
  refine (spec_ownChain D w.heap.size a n c b m d wz HBz.out hm hn HSm.out).mono ?_
  rintro e w3 ⟨a1, c1, b1, d1, rfl, hoc, hop, hx3⟩
  have hz3 : Ext wz w3 := hx3
  have hz3s := zs _ hz3
  have h3z : wz.heap.size ≤ w3.heap.size := hx3.le
  have HI4 := Lib.hid (show RgIn ((w3.alloc (.cells #[] 9)).alloc (.cells #[] 2)) (newR D ap) a1 n c1 b1 m d1 (some ⟨w3.heap.size, 0, none⟩) 0 0 (some ⟨w3.heap.size + 1, 0, none⟩) 0 0 from
    ⟨⟨hoc.cube.ext (((Ext.refl _).alloc _).alloc _), hop.ints.ext (((Ext.refl _).alloc _).alloc _), hn, hm, HSm.out⟩, ((Own.lit0' w3 9 (Nat.le_refl _) rfl).alloc' _).sl, (Own.lit0' _ 2 (Nat.le_refl _) (by simp)).sl, by omega, by omega, fun s h => (by cases h)⟩)
  have HAt := Lib.hid (HI4.out.box 33)
  have hs5 : ((w3.alloc (.cells #[] 9)).alloc (.cells #[] 2)).heap.size = w3.heap.size + 1 + 1 := by simp
  rw [hs5] at HAt
  have HIs := Lib.hid (spec_l10Is (newR D ap) (w3.heap.size + 1 + 1) a1 n c1 b1 m d1 (some ⟨w3.heap.size, 0, none⟩) 0 0 (some ⟨w3.heap.size + 1, 0, none⟩) 0 0 _ HAt.out (HI4.out.ext ((Ext.refl _).alloc _)))
  have HOC := Lib.hid hoc
  have HOP := Lib.hid hop
  rw [show validRg (newR D ap) = newOk D ap from rfl] at HIs
  clear hoc hop
  go_wp2_with fail
  refine HIs.out.mono ?_
  rintro e w6 ⟨rfl, hx6⟩
  have hz6 : Ext wz w6 := (((hz3.alloc _).alloc _).alloc _).trans hx6
  have hz6s := zs _ hz6
  have hfr6 := fun i => zf i w6 hz6
  have y0 := zc0 w6 hz6
  have y1 := zc1 w6 hz6
  have y2 := zc2 w6 hz6
  have y3 := zc3 w6 hz6
  have y4 := zc4 w6 hz6
  have y5 := zc5 w6 hz6
  have y6 := zc6 w6 hz6
  have y7 := zc7 w6 hz6
  have y8 := zc8 w6 hz6
  have hxw6 : Ext w w6 := hxz.trans hz6
  cases hok : newOk D ap
  · have HR := Lib.hid (new_no hok)
    have Hhok := Lib.hid hok; clear hok
    go_wp2
    refine bodyPost_ret (v := .tuple #[.agg #[.int .i64 0, .int .i64 0, .int .i64 0, .int .i64 0, .slice none 0 0, .slice none 0 0, .int .i64 0, .slice none 0 0, .slice none 0 0], .bool false]) ?_ rfl ?_
    · simp [results, Try.results25, go_sem, y0, y1, y2, y3, y4, y5, y6, y7, y8]
    · rw [HR.out, Hhok.out]
      exact ⟨none, 0, 0, none, 0, 0, none, 0, 0, none, 0, 0, rfl, fun W _ => zero_in W, (by repeat (first | (with_reducible exact Ext.refl _) | (with_reducible assumption) | (with_reducible refine Ext.drewN ?_ _) | (with_reducible refine Ext.drew ?_) | (with_reducible refine Ext.alloc ?_ _) | ((with_reducible refine Ext.setCell ?_ ?_ _); rotate_left; focus (first | (simp; done) | (simp; omega) | omega)) | (with_reducible refine Ext.trans ?_ (by with_reducible assumption))))⟩
  · have HR := Lib.hid (new_yes hok)
    have Hhok := Lib.hid hok; clear hok
    obtain ⟨⟨e0, e1, e2, e3, e4, e5, _, _⟩, e6, e7, e8, _, _⟩ := HAt.out.ext hx6
    have e0' := e0 w6 (Ext.refl _)
    have e1' := e1 w6 (Ext.refl _)
    have e2' := e2 w6 (Ext.refl _)
    have e3' := e3 w6 (Ext.refl _)
    have e4' := e4 w6 (Ext.refl _)
    have e5' := e5 w6 (Ext.refl _)
    have e6' := e6 w6 (Ext.refl _)
    have e7' := e7 w6 (Ext.refl _)
    have e8' := e8 w6 (Ext.refl _)
    clear e0 e1 e2 e3 e4 e5 e6 e7 e8
    go_wp2
    refine bodyPost_ret (v := .tuple #[.agg #[.int .i64 D.base, .int .i64 D.states, .int .i64 D.start, .int .i64 D.fin, .slice a1 n c1, .slice b1 m d1, .int .i64 ap, .slice (some ⟨w3.heap.size, 0, none⟩) 0 0, .slice (some ⟨w3.heap.size + 1, 0, none⟩) 0 0], .bool true]) ?_ rfl ?_
    · simp [results, Try.results25, go_sem, newR, y0, y1, y2, y3, y4, y5, y6, y7, y8]
    · rw [HR.out, Hhok.out]
      have hx36 : Ext w3 w6 := (((((Ext.refl w3).alloc _).alloc _).alloc _).trans hx6)
      have hcu : OwnCube w6 (w.heap.size + 2) 101 23 2 a1 n c1 D.tabs := (HOC.out.mono (by rw [hzs]; exact Nat.le_refl _)).ext hx36
      have hpl : Own w6 (w.heap.size + 2) 2 b1 m d1 (I D.places) := (HOP.out.mono (by rw [hzs]; exact Nat.le_refl _)).ext hx36
      have hs1 : Own w6 (w.heap.size + 2) 9 (some ⟨w3.heap.size, 0, none⟩) 0 0 [] := (((Own.lit0' w3 9 (by omega) rfl).alloc' (.cells #[] 2)).alloc' (.cells #[.int .i64 D.base, .int .i64 D.states, .int .i64 D.start, .int .i64 D.fin, .slice a1 n c1, .slice b1 m d1, .int .i64 ap, .slice (some ⟨w3.heap.size, 0, none⟩) 0 0, .slice (some ⟨w3.heap.size + 1, 0, none⟩) 0 0] 33)).ext hx6
      have hs2 : Own w6 (w.heap.size + 2) 2 (some ⟨w3.heap.size + 1, 0, none⟩) 0 0 [] := ((Own.lit0' (w3.alloc (.cells #[] 9)) 2 (by omega) (by simp)).alloc' (.cells #[.int .i64 D.base, .int .i64 D.states, .int .i64 D.start, .int .i64 D.fin, .slice a1 n c1, .slice b1 m d1, .int .i64 ap, .slice (some ⟨w3.heap.size, 0, none⟩) 0 0, .slice (some ⟨w3.heap.size + 1, 0, none⟩) 0 0] 33)).ext hx6
      refine ⟨a1, n, c1, b1, m, d1, some ⟨w3.heap.size, 0, none⟩, 0, 0, some ⟨w3.heap.size + 1, 0, none⟩, 0, 0, rfl, fun W hk => ?_, (by repeat (first | (with_reducible exact Ext.refl _) | (with_reducible assumption) | (with_reducible refine Ext.drewN ?_ _) | (with_reducible refine Ext.drew ?_) | (with_reducible refine Ext.alloc ?_ _) | ((with_reducible refine Ext.setCell ?_ ?_ _); rotate_left; focus (first | (simp; done) | (simp; omega) | omega)) | (with_reducible refine Ext.trans ?_ (by with_reducible assumption))))⟩
      have hkc : ∀ wf, Chg 0 (w.heap.size + 2) w6 wf → wf.heap.size = w6.heap.size → KeepB w.heap.size wf.heap.size wf W → KeepB (w.heap.size + 2) w6.heap.size w6 W := fun wf hc he hk => (KeepB.chg hc (Nat.le_refl _) (.inl (Nat.le_refl _))).trans (hk.mono (by omega) (by omega))
      have hk6 := hkc _ (by repeat (first | (with_reducible exact Chg.refl _ _ _) | (with_reducible assumption) | ((with_reducible refine Chg.trans ?_ (Chg.setP _ _ _ ?_ ?_)); rotate_left; (focus (first | (simp; done) | (simp; omega) | omega)); (focus (first | (simp; done) | (simp; omega) | omega))) | (with_reducible refine Chg.trans ?_ (Chg.ext (Ext.alloc (Ext.refl _) _) _ _)) | (with_reducible refine Chg.trans ?_ (Chg.ext (Ext.drew (Ext.refl _)) _ _)) | (with_reducible refine Chg.trans ?_ (Chg.ext (Ext.drewN (Ext.refl _) _) _ _)))) (by simp) hk
      exact ⟨⟨(hcu.keepB hk6).cube, (hpl.keepB hk6).ints, hn, hm, HSm.out⟩, (hs1.keepB hk6).sl, (hs2.keepB hk6).sl, by omega, by omega, fun s h => by cases h⟩
set_option maxHeartbeats 2000000 in
theorem impl_NewRegistry (D : Ch) (a : Option Addr) (n c : Nat) (b : Option Addr) (m d : Nat) (ap : Int) (w : World) (hv : ChIn w D a n c b m d) :
    Calls Try.prog 27 #[.agg #[.int .i64 D.base, .int .i64 D.states, .int .i64 D.start, .int .i64 D.fin, .slice a n c, .slice b m d], .int .i64 ap] w (RetRgO (newRes D ap) (newOk D ap) w) := by
  have HB := Lib.hid (hv.box 31)
  have HV := Lib.hid hv
  have hn := hv.hn
  have hm := hv.hn'
  have HSm := Lib.hid hv.sm
  clear hv
  go_enter Try.func27, Try.ntmps27
  go_wp2_with fail
  obtain ⟨wz, hwz⟩ : ∃ wz, wz = (w.alloc (.cells #[.int .i64 D.base, .int .i64 D.states, .int .i64 D.start, .int .i64 D.fin, .slice a n c, .slice b m d] 31)).alloc (.cells #[.int .i64 0, .int .i64 0, .int .i64 0, .int .i64 0, .slice none 0 0, .slice none 0 0, .int .i64 0, .slice none 0 0, .slice none 0 0] 33) := ⟨_, rfl⟩
  have hxz : Ext w wz := by rw [hwz]; exact (by repeat (first | (with_reducible exact Ext.refl _) | (with_reducible refine Ext.drewN ?_ _) | (with_reducible refine Ext.drew ?_) | (with_reducible refine Ext.alloc ?_ _) | ((with_reducible refine Ext.setCell ?_ ?_ _); rotate_left; focus (first | (simp; done) | (simp; omega) | omega)) | assumption | (with_reducible refine Ext.trans ?_ (by assumption))))
  have hzs : wz.heap.size = w.heap.size + 2 := by rw [hwz]; simp
  have zc0 : ∀ w', Ext wz w' → w'.cell? ⟨w.heap.size + 1, 0, none⟩ = some (.int .i64 0) := fun w' hx => hx.cell (by rw [hwz]; go_simp)
  have zc1 : ∀ w', Ext wz w' → w'.cell? ⟨w.heap.size + 1, 1, none⟩ = some (.int .i64 0) := fun w' hx => hx.cell (by rw [hwz]; go_simp)
  have zc2 : ∀ w', Ext wz w' → w'.cell? ⟨w.heap.size + 1, 2, none⟩ = some (.int .i64 0) := fun w' hx => hx.cell (by rw [hwz]; go_simp)
  have zc3 : ∀ w', Ext wz w' → w'.cell? ⟨w.heap.size + 1, 3, none⟩ = some (.int .i64 0) := fun w' hx => hx.cell (by rw [hwz]; go_simp)
  have zc4 : ∀ w', Ext wz w' → w'.cell? ⟨w.heap.size + 1, 4, none⟩ = some (.slice none 0 0) := fun w' hx => hx.cell (by rw [hwz]; go_simp)
  have zc5 : ∀ w', Ext wz w' → w'.cell? ⟨w.heap.size + 1, 5, none⟩ = some (.slice none 0 0) := fun w' hx => hx.cell (by rw [hwz]; go_simp)
  have zc6 : ∀ w', Ext wz w' → w'.cell? ⟨w.heap.size + 1, 6, none⟩ = some (.int .i64 0) := fun w' hx => hx.cell (by rw [hwz]; go_simp)
  have zc7 : ∀ w', Ext wz w' → w'.cell? ⟨w.heap.size + 1, 7, none⟩ = some (.slice none 0 0) := fun w' hx => hx.cell (by rw [hwz]; go_simp)
  have zc8 : ∀ w', Ext wz w' → w'.cell? ⟨w.heap.size + 1, 8, none⟩ = some (.slice none 0 0) := fun w' hx => hx.cell (by rw [hwz]; go_simp)
  have zf : ∀ i w', Ext wz w' → w'.frozen? ⟨w.heap.size + 1, i, none⟩ = false := fun i w' hx => (Below.frozen (p := ⟨w.heap.size + 1, i, none⟩) hx (by show w.heap.size + 1 < wz.heap.size; omega)).trans (by rw [hwz]; exact SAt.frozen (SAt.new' _ _ _ (by simp)) i)
  have zs : ∀ w', Ext wz w' → w.heap.size + 1 < w'.heap.size := fun w' hx => by have := hx.le; omega
  rw [← hwz]
  clear hwz
  refine (impl_cloneChain D a n c b m d wz (HV.out.ext hxz)).mono ?_
  rintro e w3 ⟨a1, c1, b1, d1, rfl, hr3, hx3⟩
  have hz3 : Ext wz w3 := hx3
  have hz3s := zs _ hz3
  have h3z : wz.heap.size ≤ w3.heap.size := hx3.le
  have HR3 := Lib.hid hr3
  have HI3 := Lib.hid (show RgIn w3 (newR D ap) a1 n c1 b1 m d1 none 0 0 none 0 0 from ⟨hr3.inn hn hm HSm.out, sl_nil _ _, sl_nil _ _, by omega, by omega, fun s h => by cases h⟩)
  have HAt := Lib.hid (HI3.out.box 33)
  have HIs := Lib.hid (impl_ValidRegistry (newR D ap) a1 n c1 b1 m d1 none 0 0 none 0 0 _ (HI3.out.ext ((Ext.refl w3).alloc (.cells #[.int .i64 (newR D ap).ch.base, .int .i64 (newR D ap).ch.states, .int .i64 (newR D ap).ch.start, .int .i64 (newR D ap).ch.fin, .slice a1 n c1, .slice b1 m d1, .int .i64 (newR D ap).apart, .slice none 0 0, .slice none 0 0] 33))))
  rw [show validRg (newR D ap) = newOk D ap from rfl] at HIs
  clear hr3
  go_wp2_with fail
  refine HIs.out.mono ?_
  rintro e w6 ⟨rfl, hx6⟩
  have hz6 : Ext wz w6 := (hz3.alloc _).trans hx6
  have hz6s := zs _ hz6
  have hfr6 := fun i => zf i w6 hz6
  have y0 := zc0 w6 hz6
  have y1 := zc1 w6 hz6
  have y2 := zc2 w6 hz6
  have y3 := zc3 w6 hz6
  have y4 := zc4 w6 hz6
  have y5 := zc5 w6 hz6
  have y6 := zc6 w6 hz6
  have y7 := zc7 w6 hz6
  have y8 := zc8 w6 hz6
  have hxw6 : Ext w w6 := hxz.trans hz6
  cases hok : newOk D ap
  · have HR := Lib.hid (new_no hok)
    have Hhok := Lib.hid hok; clear hok
    go_wp2
    refine bodyPost_ret (v := .tuple #[.agg #[.int .i64 0, .int .i64 0, .int .i64 0, .int .i64 0, .slice none 0 0, .slice none 0 0, .int .i64 0, .slice none 0 0, .slice none 0 0], .bool false]) ?_ rfl ?_
    · simp [results, Try.results27, go_sem, y0, y1, y2, y3, y4, y5, y6, y7, y8]
    · rw [HR.out, Hhok.out]
      exact ⟨none, 0, 0, none, 0, 0, none, 0, 0, none, 0, 0, rfl, zero_r _ _ _ (Ext.le (by repeat (first | (with_reducible exact Ext.refl _) | (with_reducible assumption) | (with_reducible refine Ext.drewN ?_ _) | (with_reducible refine Ext.drew ?_) | (with_reducible refine Ext.alloc ?_ _) | ((with_reducible refine Ext.setCell ?_ ?_ _); rotate_left; focus (first | (simp; done) | (simp; omega) | omega)) | (with_reducible refine Ext.trans ?_ (by with_reducible assumption))))), zero_sz, (by repeat (first | (with_reducible exact Ext.refl _) | (with_reducible assumption) | (with_reducible refine Ext.drewN ?_ _) | (with_reducible refine Ext.drew ?_) | (with_reducible refine Ext.alloc ?_ _) | ((with_reducible refine Ext.setCell ?_ ?_ _); rotate_left; focus (first | (simp; done) | (simp; omega) | omega)) | (with_reducible refine Ext.trans ?_ (by with_reducible assumption))))⟩
  · have HR := Lib.hid (new_yes hok)
    have Hhok := Lib.hid hok; clear hok
    obtain ⟨⟨e0, e1, e2, e3, e4, e5, _, _⟩, e6, e7, e8, _, _⟩ := HAt.out.ext hx6
    have e0' := e0 w6 (Ext.refl _)
    have e1' := e1 w6 (Ext.refl _)
    have e2' := e2 w6 (Ext.refl _)
    have e3' := e3 w6 (Ext.refl _)
    have e4' := e4 w6 (Ext.refl _)
    have e5' := e5 w6 (Ext.refl _)
    have e6' := e6 w6 (Ext.refl _)
    have e7' := e7 w6 (Ext.refl _)
    have e8' := e8 w6 (Ext.refl _)
    clear e0 e1 e2 e3 e4 e5 e6 e7 e8
    go_wp2
    refine bodyPost_ret (v := .tuple #[.agg #[.int .i64 D.base, .int .i64 D.states, .int .i64 D.start, .int .i64 D.fin, .slice a1 n c1, .slice b1 m d1, .int .i64 ap, .slice none 0 0, .slice none 0 0], .bool true]) ?_ rfl ?_
    · simp [results, Try.results27, go_sem, newR, y0, y1, y2, y3, y4, y5, y6, y7, y8]
    · rw [HR.out, Hhok.out]
      have l6 : w3.heap.size ≤ w6.heap.size := Ext.le (((Ext.refl w3).alloc _).trans hx6)
      have hch6 : ChR w6 (w.heap.size + 2) w3.heap.size D a1 n c1 b1 m d1 := (HR3.out.mono (by rw [hzs]; exact Nat.le_refl _) (Nat.le_refl _)).ext (((Ext.refl w3).alloc _).trans hx6)
      have hcr : RgR w6 (w.heap.size + 2) w6.heap.size (newR D ap) a1 n c1 b1 m d1 none 0 0 none 0 0 := RgR.row (by omega) (Nat.le_refl _) l6 hch6 (own_none _ _ _ _) (own_none _ _ _ _)
      refine ⟨a1, n, c1, b1, m, d1, none, 0, 0, none, 0, 0, rfl, ?_, ⟨hn, hm, HSm.out, by omega, by omega, fun s h => by cases h⟩, (by repeat (first | (with_reducible exact Ext.refl _) | (with_reducible assumption) | (with_reducible refine Ext.drewN ?_ _) | (with_reducible refine Ext.drew ?_) | (with_reducible refine Ext.alloc ?_ _) | ((with_reducible refine Ext.setCell ?_ ?_ _); rotate_left; focus (first | (simp; done) | (simp; omega) | omega)) | (with_reducible refine Ext.trans ?_ (by with_reducible assumption))))⟩
      refine RgR.mono (lo := w.heap.size + 2) (hi := w6.heap.size) ?_ (by omega) (by simp)
      refine RgR.chg (lo' := 0) (hi' := w.heap.size + 2) hcr ?_ (.inl (Nat.le_refl _))
      clear hcr hch6
      exact (by repeat (first | (with_reducible exact Chg.refl _ _ _) | (with_reducible assumption) | ((with_reducible refine Chg.trans ?_ (Chg.setP _ _ _ ?_ ?_)); rotate_left; (focus (first | (simp; done) | (simp; omega) | omega)); (focus (first | (simp; done) | (simp; omega) | omega))) | (with_reducible refine Chg.trans ?_ (Chg.ext (Ext.alloc (Ext.refl _) _) _ _)) | (with_reducible refine Chg.trans ?_ (Chg.ext (Ext.drew (Ext.refl _)) _ _)) | (with_reducible refine Chg.trans ?_ (Chg.ext (Ext.drewN (Ext.refl _) _) _ _))))
end Go.Proofs.Ytdekplfjnkbidaa
