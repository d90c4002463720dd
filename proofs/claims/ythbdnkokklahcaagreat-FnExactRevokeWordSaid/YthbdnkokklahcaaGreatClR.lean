/- Walks: the program's copies of tables and chains. -/
import Derived.Test.YthbdnkokklahcaaGreatToR
import Derived.Test.YthbdnkokklahcaaGreatSAt
import Derived.Deep.CutRange
import Derived.Deep.RegionHeld3
import Derived.Test.YthbdnkokklahcaaGreatRgL
namespace Go.Proofs.YthbdnkokklahcaaGreat
set_option maxRecDepth 100000
open Go.RowKit

set_option maxHeartbeats 1000000 in
theorem impl_cloneTable (a : Option Addr) (n c : Nat) (ll : List (List Int)) (w : World) (hv : Mat w a n c ll) (hn : n ≤ 1048576) (hsm : ∀ r ∈ ll, r.length ≤ 4194304) :
    Calls Tryz.prog 79 #[.slice a n c] w (RetMatR ll w) := by
  have HV := Lib.hid hv
  have HL := Lib.hid hv.len
  have Hhsm := Lib.hid hsm; clear hsm
  clear hv
  go_enter Tryz.func79, Tryz.ntmps79
  go_wp2_with fail
  go_loopw [3, 5, 9] (fun o _ i wr => ∃ (k : Nat) (ad : Option Addr) (cc : Nat) (vs : List Value) (s t : Nat → Nat), k ≤ n ∧ i = .int .i64 k ∧ o = .slice ad k cc ∧ Row wr w.heap.size wr.heap.size 23 ad k cc vs k s t (RI 2 ll) ∧ Ext w wr) (fun _ _ i _ => n - (intOf i).toNat)
  case atStart => exact ⟨0, _, 0, [], fun _ => 0, fun _ => 0, Nat.zero_le _, rfl, rfl, Row.zero _ (Own.lit0 w _) (Nat.le_refl _), (by repeat (first | (with_reducible exact Ext.refl _) | (with_reducible refine Ext.drewN ?_ _) | (with_reducible refine Ext.drew ?_) | (with_reducible refine Ext.alloc ?_ _) | ((with_reducible refine Ext.setCell ?_ ?_ _); rotate_left; focus (first | (simp; done) | (simp; omega) | omega)) | assumption | (with_reducible refine Ext.trans ?_ (by assumption))))⟩
  case round =>
    obtain ⟨k, ad, cc, vs, s, t, hk, rfl, rfl, hrow, hx⟩ := hrel
    have HRow := Lib.hid hrow
    have hxr : Ext w wr := hx
    clear hrow
    by_cases hlt : k < n
    · obtain ⟨b, off, a2, n2, c2, ⟨f1, f2⟩, hi2⟩ := HV.out.one (P := Tryz.prog) 83 23 und_rows cell_row1 (k : Int) (by omega) (by omega)
      rw [show (k : Int).toNat = k by omega] at hi2
      have HL2 := Lib.hid hi2.len
      have HC := Lib.hid (clone_ints a2 n2 c2 (gl ll k) wr (hi2.ext hx) (by rw [← HL2.out]; have := Hhsm.out _ (gl_mem (l := ll) (k := k) (by rw [HL.out]; exact hlt)); omega))
      clear hi2
      go_wp2_with fail
      refine HC.out.mono ?_
      rintro e w5 ⟨a5, c5, rfl, ho5, hx5, _⟩
      rw [I_len, HL2.out] at ho5 ⊢
      have HO5 := Lib.hid ho5
      have hxw5 : Ext w w5 := hxr.trans hx5
      clear ho5
      go_wp2_with (at_builtin; refine law_append1_at _ rfl _ _ 83 rfl 23 (.slice none 0 0) 24 und_rows info_row1 rfl w.heap.size ad k cc vs _ rfl rfl rfl (HRow.out.own.ext hx5) hxw5.le (by omega) (by omega) ?_; intro ad' c' w6 ho6 hb6 hg6 hbk6; have hxw6 : Ext w w6 := Ext.below hxw5 hb6)
      have HRow6 := Lib.hid (HRow.out.push (RI.keeps _ _) hx5 hxr.le ⟨a5, n2, c5, rfl, HO5.out.in⟩ ho6 hg6 hbk6)
      exact ⟨⟨k + 1, _, _, _, _, _, by omega, by go_num, rfl, HRow6.out, hxw6⟩, by simp [intOf]; omega⟩
    · obtain rfl : k = n := by omega
      go_wp2
      go_ret
      exact ⟨_, _, by rw [HL.out]; rfl, by rw [HL.out]; exact ⟨vs, s, t, HL.out, HRow.out⟩, hx⟩
set_option maxHeartbeats 2000000 in
theorem impl_cloneChain (D : Ch) (a : Option Addr) (n c : Nat) (b : Option Addr) (m d : Nat) (w : World) (hv : ChIn w D a n c b m d) :
    Calls Tryz.prog 52 #[.agg #[.int .i64 D.base, .int .i64 D.states, .int .i64 D.start, .int .i64 D.fin, .slice a n c, .slice b m d]] w (RetChR D n m w) := by
  have HB := Lib.hid (hv.box 30)
  have HV := Lib.hid hv
  have HL := Lib.hid hv.ts.len
  have HP := Lib.hid hv.ps.len
  have hn := hv.hn
  have hm := hv.hn'
  have HSm := Lib.hid hv.sm
  clear hv
  go_enter Tryz.func52, Tryz.ntmps52
  go_wp2_with fail
  have hq1 : ((w.alloc (.cells #[.int .i64 D.base, .int .i64 D.states, .int .i64 D.start, .int .i64 D.fin, .slice a n c, .slice b m d] 30)).alloc (.cells #[.int .i64 0, .int .i64 0, .int .i64 0, .int .i64 0, .slice none 0 0, .slice none 0 0] 30)).heap.size = w.heap.size + 2 := by simp
  have h0 := Own.lit0 ((w.alloc (.cells #[.int .i64 D.base, .int .i64 D.states, .int .i64 D.start, .int .i64 D.fin, .slice a n c, .slice b m d] 30)).alloc (.cells #[.int .i64 0, .int .i64 0, .int .i64 0, .int .i64 0, .slice none 0 0, .slice none 0 0] 30)) 83
  rw [hq1] at h0
  have H0 := Lib.hid h0
  clear h0
  go_loopw [3, 5, 10] (fun o _ i wr => ∃ (k : Nat) (ad : Option Addr) (cc : Nat) (vs : List Value) (s t : Nat → Nat), k ≤ n ∧ i = .int .i64 k ∧ o = .slice ad k cc ∧ Row wr (w.heap.size + 2) wr.heap.size 83 ad k cc vs k s t (RM 23 2 D.tabs) ∧
      Ext ((w.alloc (.cells #[.int .i64 D.base, .int .i64 D.states, .int .i64 D.start, .int .i64 D.fin, .slice a n c, .slice b m d] 30)).alloc (.cells #[.int .i64 0, .int .i64 0, .int .i64 0, .int .i64 0, .slice none 0 0, .slice none 0 0] 30)) wr) (fun _ _ i _ => n - (intOf i).toNat)
  case atStart => exact ⟨0, _, 0, [], fun _ => 0, fun _ => 0, Nat.zero_le _, rfl, rfl, Row.zero _ H0.out (Nat.le_refl _), (Ext.refl _).alloc _⟩
  case round =>
    obtain ⟨k, ad, cc, vs, s, t, hk, rfl, rfl, hrow, hx⟩ := hrel
    have HRow := Lib.hid hrow
    have HX := Lib.hid hx
    have hxw : Ext w wr := Ext.trans (((Ext.refl w).alloc _).alloc _) hx
    obtain ⟨hc, hf⟩ := bcell hx
    have hsz : w.heap.size + 2 ≤ wr.heap.size := by have := hx.le; rw [hq1] at this; exact this
    clear hrow hx
    by_cases hlt : k < n
    · obtain ⟨bb, off, a2, n2, c2, ⟨f1, f2⟩, hi2⟩ := HV.out.ts.one (P := Tryz.prog) 22 83 und_tabs cell_tab1 (k : Int) (by omega) (by omega)
      rw [show (k : Int).toNat = k by omega] at hi2
      have HL2 := Lib.hid hi2.len
      have hs1 := HSm.out _ (gm_mem (l := D.tabs) (k := k) (by rw [HL.out]; exact hlt))
      have HC := Lib.hid (impl_cloneTable a2 n2 c2 (gm D.tabs k) wr (hi2.ext hxw) (by rw [← HL2.out]; omega) (fun r hr => by have := hs1.2 r hr; omega))
      clear hi2 hs1
      go_wp2_with fail
      refine HC.out.mono ?_
      rintro e w5 ⟨a5, c5, rfl, ho5, hx5⟩
      rw [HL2.out] at ho5 ⊢
      have HO5 := Lib.hid ho5
      have HX5 := Lib.hid (HX.out.trans hx5)
      have hle5 := hx5.le
      clear ho5
      go_wp2_with (at_builtin; refine law_append1_at _ rfl _ _ 22 rfl 83 (.slice none 0 0) 24 und_tabs info_tab1 rfl (w.heap.size + 2) ad k cc vs _ rfl rfl rfl (HRow.out.own.ext hx5) (by omega) (by omega) (by omega) ?_; intro ad' c' w6 ho6 hb6 hg6 hbk6)
      have HX6 := Lib.hid (Ext.below HX5.out (Below.mono hb6 (by rw [hq1]; exact Nat.le_refl _)))
      have HRow6 := Lib.hid (HRow.out.push (RM.keeps _ _ _) hx5 hsz ⟨a5, n2, c5, rfl, HO5.out⟩ ho6 hg6 hbk6)
      exact ⟨⟨k + 1, _, _, _, _, _, by omega, by go_num, rfl, HRow6.out, HX6.out⟩, by simp [intOf]; omega⟩
    · obtain rfl : k = n := by omega
      have HC := Lib.hid (clone_ints b m d D.places wr (HV.out.ps.ext hxw) (by omega))
      have hza : w.heap.size + 1 < wr.heap.size := by omega
      have hzb : w.heap.size < wr.heap.size := by omega
      go_wp2_with fail
      refine HC.out.mono ?_
      rintro e w5 ⟨a5, c5, rfl, ho5, hx5, _⟩
      rw [I_len, HP.out] at ho5 ⊢
      obtain ⟨hc5, hf5⟩ := bcell hx5
      have HO5 := Lib.hid ho5.in
      have HRow5 := Lib.hid (HRow.out.ext (RM.keeps _ _ _) hx5)
      have HX5 := Lib.hid hx5
      have hz5a : w.heap.size + 1 < w5.heap.size := by have := hx5.le; omega
      have hz5b : w.heap.size < w5.heap.size := by omega
      have hz5 : wr.heap.size ≤ w5.heap.size := hx5.le
      clear ho5
      go_wp2
      refine bodyPost_ret (v := .agg #[.int .i64 D.base, .int .i64 D.states, .int .i64 D.start, .int .i64 D.fin, .slice ad k cc, .slice a5 m c5]) ?_ rfl ?_
      · simp [results, Tryz.results52, go_sem, hc, hc5, hza]
      · have hxf : Ext w w5 := hxw.trans hx5
        refine ⟨ad, cc, a5, c5, rfl, ?_, (by repeat (first | (with_reducible exact Ext.refl _) | (with_reducible refine Ext.drewN ?_ _) | (with_reducible refine Ext.drew ?_) | (with_reducible refine Ext.alloc ?_ _) | ((with_reducible refine Ext.setCell ?_ ?_ _); rotate_left; focus (first | (simp; done) | (simp; omega) | omega)) | (with_reducible refine Ext.trans ?_ HX5.out) | (with_reducible refine Ext.trans ?_ hxw)))⟩
        refine (ChR.mono (lo := w.heap.size + 2) (hi := w5.heap.size) ?_ (by omega) (by simp))
        have hcr : ChR w5 (w.heap.size + 2) w5.heap.size D ad k cc a5 m c5 := ⟨wr.heap.size, hsz, hz5, ⟨vs, s, t, HL.out, HRow5.out⟩, HO5.out⟩
        refine ChR.chg (lo' := 0) (hi' := w.heap.size + 2) hcr ?_ (.inl (Nat.le_refl _))
        exact (by repeat (first | (with_reducible exact Chg.refl _ _ _) | (with_reducible assumption) | ((with_reducible refine Chg.trans ?_ (Chg.setP _ _ _ ?_ ?_)); rotate_left; (focus (first | (simp; done) | (simp; omega) | omega)); (focus (first | (simp; done) | (simp; omega) | omega))) | (with_reducible refine Chg.trans ?_ (Chg.ext (Ext.alloc (Ext.refl _) _) _ _)) | (with_reducible refine Chg.trans ?_ (Chg.ext (Ext.drew (Ext.refl _)) _ _)) | (with_reducible refine Chg.trans ?_ (Chg.ext (Ext.drewN (Ext.refl _) _) _ _))))
end Go.Proofs.YthbdnkokklahcaaGreat

/- Walks: the reference's copy of a chain. -/
namespace Go.Proofs.YthbdnkokklahcaaGreat
set_option maxRecDepth 100000
open Go.RowKit

/-- the copy's block, as the composite literal leaves it -/
def CutCh (D : Ch) (m : Nat) (w : World) (s3 : Value) (wx : World) : Prop :=
  ∃ (g e0 : Nat) (a5 : Option Addr) (c5 : Nat), s3 = .pointer (some ⟨g, 0, none⟩) ∧ SAt wx g 30 #[.int .i64 D.base, .int .i64 D.states, .int .i64 D.start, .int .i64 D.fin, .slice (some ⟨e0, 0, none⟩) 0 0, .slice a5 m c5] ∧
    Own wx (w.heap.size + 1) 83 (some ⟨e0, 0, none⟩) 0 0 [] ∧ Own wx (w.heap.size + 1) 2 a5 m c5 (I D.places) ∧ w.heap.size + 1 ≤ g ∧
    Ext (w.alloc (.cells #[.int .i64 0, .int .i64 0, .int .i64 0, .int .i64 0, .slice none 0 0, .slice none 0 0] 30)) wx
theorem szZ (w : World) : (w.alloc (.cells #[.int .i64 0, .int .i64 0, .int .i64 0, .int .i64 0, .slice none 0 0, .slice none 0 0] 30)).heap.size = w.heap.size + 1 := by simp
section
variable {D : Ch} {m g e0 : Nat} {a5 : Option Addr} {c5 : Nat} {w W5 w' : World}
theorem six_chg (D : Ch) (m g e0 : Nat) (a5 : Option Addr) (c5 : Nat) (w' : World) : Chg g (g + 1) w' ((((((w'.setCell ⟨g, 0, none⟩ (.int .i64 D.base)).setCell ⟨g, 1, none⟩ (.int .i64 D.states)).setCell ⟨g, 2, none⟩ (.int .i64 D.start)).setCell ⟨g, 3, none⟩ (.int .i64 D.fin)).setCell ⟨g, 4, none⟩ (.slice (some ⟨e0, 0, none⟩) 0 0)).setCell ⟨g, 5, none⟩ (.slice a5 m c5)) := (by repeat (first | (with_reducible exact Chg.refl _ _ _) | (with_reducible assumption) | ((with_reducible refine Chg.trans ?_ (Chg.setP _ _ _ ?_ ?_)); rotate_left; (focus (first | (simp; done) | (simp; omega) | omega)); (focus (first | (simp; done) | (simp; omega) | omega))) | (with_reducible refine Chg.trans ?_ (Chg.ext (Ext.alloc (Ext.refl _) _) _ _)) | (with_reducible refine Chg.trans ?_ (Chg.ext (Ext.drew (Ext.refl _)) _ _)) | (with_reducible refine Chg.trans ?_ (Chg.ext (Ext.drewN (Ext.refl _) _) _ _))))
theorem cutA (hb : Ext (w.alloc (.cells #[.int .i64 0, .int .i64 0, .int .i64 0, .int .i64 0, .slice none 0 0, .slice none 0 0] 30)) W5) (hE : Own W5 (w.heap.size + 1) 83 (some ⟨e0, 0, none⟩) 0 0 []) (hx5 : Ext W5 w') (ho5 : Own w' W5.heap.size 2 a5 m c5 (I D.places)) :
    CutCh D m w (.pointer (some ⟨w'.heap.size, 0, none⟩)) (w'.alloc (.cells #[.int .i64 D.base, .int .i64 D.states, .int .i64 D.start, .int .i64 D.fin, .slice (some ⟨e0, 0, none⟩) 0 0, .slice a5 m c5] 30)) := by
  have h1 := hb.le
  have h2 := hx5.le
  rw [szZ] at h1
  exact ⟨w'.heap.size, e0, a5, c5, rfl, SAt.new' _ _ _ rfl, (hE.ext hx5).alloc' _, (ho5.mono h1).alloc' _, by omega, (hb.trans hx5).alloc _⟩
theorem cutB (hb : Ext (w.alloc (.cells #[.int .i64 0, .int .i64 0, .int .i64 0, .int .i64 0, .slice none 0 0, .slice none 0 0] 30)) W5) (hE : Own W5 (w.heap.size + 1) 83 (some ⟨e0, 0, none⟩) 0 0 []) (hS : SAt W5 g 30 #[.int .i64 0, .int .i64 0, .int .i64 0, .int .i64 0, .slice none 0 0, .slice none 0 0]) (hg : w.heap.size + 1 ≤ g) (hx5 : Ext W5 w') (ho5 : Own w' W5.heap.size 2 a5 m c5 (I D.places)) :
    CutCh D m w (.pointer (some ⟨g, 0, none⟩)) ((((((w'.setCell ⟨g, 0, none⟩ (.int .i64 D.base)).setCell ⟨g, 1, none⟩ (.int .i64 D.states)).setCell ⟨g, 2, none⟩ (.int .i64 D.start)).setCell ⟨g, 3, none⟩ (.int .i64 D.fin)).setCell ⟨g, 4, none⟩ (.slice (some ⟨e0, 0, none⟩) 0 0)).setCell ⟨g, 5, none⟩ (.slice a5 m c5)) := by
  have h1 := hb.le
  rw [szZ] at h1
  have hc := six_chg D m g e0 a5 c5 w'
  have hS5 := hS.ext hx5
  refine ⟨g, e0, a5, c5, rfl, hS5.six _ _ _ _ _ _, (hE.ext hx5).chg hc (fun x hx => ?_), (ho5.mono h1).chg hc (fun x hx => ?_), hg, hc.to (hb.trans hx5) (by rw [szZ]; exact hg)⟩
  · have := (hE.ext hx5).ne_s hS5 (by decide) x hx; omega
  · have := ho5.ne_s hS5 (by decide) x hx; omega
theorem cutC (hb : Ext (w.alloc (.cells #[.int .i64 0, .int .i64 0, .int .i64 0, .int .i64 0, .slice none 0 0, .slice none 0 0] 30)) W5) (hx5 : Ext W5 w') (ho5 : Own w' W5.heap.size 2 a5 m c5 (I D.places)) :
    CutCh D m w (.pointer (some ⟨w'.heap.size + 1, 0, none⟩)) ((w'.alloc (.cells #[] 83)).alloc (.cells #[.int .i64 D.base, .int .i64 D.states, .int .i64 D.start, .int .i64 D.fin, .slice (some ⟨w'.heap.size, 0, none⟩) 0 0, .slice a5 m c5] 30)) := by
  have h1 := hb.le
  have h2 := hx5.le
  rw [szZ] at h1
  exact ⟨w'.heap.size + 1, w'.heap.size, a5, c5, rfl, SAt.new' _ _ _ (by simp), (Own.lit0' _ _ (by omega) rfl).alloc' _, ((ho5.mono h1).alloc' _).alloc' _, by omega, ((hb.trans hx5).alloc _).alloc _⟩
theorem cutD (hb : Ext (w.alloc (.cells #[.int .i64 0, .int .i64 0, .int .i64 0, .int .i64 0, .slice none 0 0, .slice none 0 0] 30)) W5) (hx5 : Ext W5 w') (ho5 : Own w' W5.heap.size 2 a5 m c5 (I D.places)) :
    CutCh D m w (.pointer (some ⟨w'.heap.size, 0, none⟩)) ((w'.alloc (.cells #[.int .i64 D.base, .int .i64 D.states, .int .i64 D.start, .int .i64 D.fin, .slice (some ⟨w'.heap.size + 1, 0, none⟩) 0 0, .slice a5 m c5] 30)).alloc (.cells #[] 83)) := by
  have h1 := hb.le
  have h2 := hx5.le
  rw [szZ] at h1
  exact ⟨w'.heap.size, w'.heap.size + 1, a5, c5, rfl, (SAt.new' _ _ _ rfl).alloc _, Own.lit0' _ _ (by omega) (by simp), ((ho5.mono h1).alloc' _).alloc' _, by omega, ((hb.trans hx5).alloc _).alloc _⟩
theorem cutF (hb : Ext (w.alloc (.cells #[.int .i64 0, .int .i64 0, .int .i64 0, .int .i64 0, .slice none 0 0, .slice none 0 0] 30)) W5) (hS : SAt W5 g 30 #[.int .i64 0, .int .i64 0, .int .i64 0, .int .i64 0, .slice none 0 0, .slice none 0 0]) (hg : w.heap.size + 1 ≤ g) (hx5 : Ext W5 w') (ho5 : Own w' W5.heap.size 2 a5 m c5 (I D.places)) :
    CutCh D m w (.pointer (some ⟨g, 0, none⟩)) (((((((w'.setCell ⟨g, 0, none⟩ (.int .i64 D.base)).setCell ⟨g, 1, none⟩ (.int .i64 D.states)).setCell ⟨g, 2, none⟩ (.int .i64 D.start)).setCell ⟨g, 3, none⟩ (.int .i64 D.fin)).setCell ⟨g, 4, none⟩ (.slice (some ⟨w'.heap.size, 0, none⟩) 0 0)).setCell ⟨g, 5, none⟩ (.slice a5 m c5)).alloc (.cells #[] 83)) := by
  have h1 := hb.le
  have h2 := hx5.le
  rw [szZ] at h1
  have hc := six_chg D m g w'.heap.size a5 c5 w'
  have hS5 := hS.ext hx5
  refine ⟨g, w'.heap.size, a5, c5, rfl, (hS5.six _ _ _ _ _ _).alloc _, Own.lit0' _ _ (by omega) (by simp), ((ho5.mono h1).chg hc (fun x hx => ?_)).alloc' _, hg, (hc.to (hb.trans hx5) (by rw [szZ]; exact hg)).alloc _⟩
  have := ho5.ne_s hS5 (by decide) x hx; omega
end
/-- a chain of the call's own -/
def RetChS (D : Ch) (n m : Nat) (w : World) (e : Ending) (w' : World) : Prop :=
  ∃ a c b d, e = .returned (.agg #[.int .i64 D.base, .int .i64 D.states, .int .i64 D.start, .int .i64 D.fin, .slice a n c, .slice b m d]) ∧ OwnCube w' w.heap.size 83 23 2 a n c D.tabs ∧ Own w' w.heap.size 2 b m d (I D.places) ∧ Ext w w'
set_option maxHeartbeats 4000000 in
theorem spec_ownChain (D : Ch) (q : Nat) (a : Option Addr) (n c : Nat) (b : Option Addr) (m d : Nat) (w : World) (hv : ChAt w q D a n c b m d) (hm : m ≤ 1048576) (hn : n ≤ 1048576) (hsm : SmallCh D) :
    Calls Tryz.prog 43 #[.pointer (some ⟨q, 0, none⟩)] w (RetChS D n m w) := by
  have HOw := Lib.hid (fun W h => spec_own b m d D.places W (Ints.ext hv.ps h) (by omega))
  have HV := Lib.hid hv
  have HL := Lib.hid hv.ps.len
  have HT := Lib.hid hv.ts.len
  have Hhsm := Lib.hid hsm; clear hsm
  obtain ⟨k0, k1, k2, k3, k4, k5, _, _⟩ := hv
  go_enter Tryz.func43, Tryz.ntmps43
  go_upto_region 1 with fail
  go_cut [3] from 7 to 29 (fun s3 wx => CutCh D m w s3 wx)
  case first =>
    go_region_held3 (fun w' => Ext w w') ((exact (by repeat (first | (with_reducible exact Ext.refl _) | (with_reducible refine Ext.drewN ?_ _) | (with_reducible refine Ext.drew ?_) | (with_reducible refine Ext.alloc ?_ _) | ((with_reducible refine Ext.setCell ?_ ?_ _); rotate_left; focus (first | (simp; done) | (simp; omega) | omega)) | assumption | (with_reducible refine Ext.trans ?_ (by assumption)))))) ((go_at_call 44; refine (HOw.out _ (by repeat (first | (with_reducible exact Ext.refl _) | (with_reducible refine Ext.drewN ?_ _) | (with_reducible refine Ext.drew ?_) | (with_reducible refine Ext.alloc ?_ _) | ((with_reducible refine Ext.setCell ?_ ?_ _); rotate_left; focus (first | (simp; done) | (simp; omega) | omega)) | assumption | (with_reducible refine Ext.trans ?_ (by assumption))))).mono ?_; rintro e w' ⟨a5, c5, rfl, ho5, hx5⟩; rw [I_len, HL.out] at ho5 ⊢; obtain ⟨hc5, hf5⟩ := bcell hx5; have hsz5 := hx5.le; simp at hsz5; try (have hlt5 : w.heap.size + 1 < w'.heap.size := by omega); try (have hlt6 : w.heap.size + 1 + 1 < w'.heap.size := by omega)))
    all_goals (go_wp2_with fail; go_meet)
    all_goals first | (with_reducible exact cutA (by repeat (first | (with_reducible exact Ext.refl _) | (with_reducible refine Ext.drew ?_) | (with_reducible refine Ext.alloc ?_ _))) (by repeat (first | ((with_reducible refine Own.lit0' _ _ ?_ ?_) <;> (first | (simp; done) | (simp; omega) | omega)) | (with_reducible refine Own.drew ?_) | (with_reducible refine Own.alloc' ?_ _))) hx5 ho5) | (with_reducible exact cutB (by repeat (first | (with_reducible exact Ext.refl _) | (with_reducible refine Ext.drew ?_) | (with_reducible refine Ext.alloc ?_ _))) (by repeat (first | ((with_reducible refine Own.lit0' _ _ ?_ ?_) <;> (first | (simp; done) | (simp; omega) | omega)) | (with_reducible refine Own.drew ?_) | (with_reducible refine Own.alloc' ?_ _))) (by repeat (first | ((with_reducible refine SAt.new' _ _ _ ?_) <;> (first | (simp; done) | (simp; omega) | omega)) | (with_reducible refine SAt.drew ?_) | (with_reducible refine SAt.alloc ?_ _))) (by first | (simp; done) | (simp; omega) | omega) hx5 ho5) | (with_reducible exact cutC (by repeat (first | (with_reducible exact Ext.refl _) | (with_reducible refine Ext.drew ?_) | (with_reducible refine Ext.alloc ?_ _))) hx5 ho5) | (with_reducible exact cutD (by repeat (first | (with_reducible exact Ext.refl _) | (with_reducible refine Ext.drew ?_) | (with_reducible refine Ext.alloc ?_ _))) hx5 ho5) | (with_reducible exact cutF (by repeat (first | (with_reducible exact Ext.refl _) | (with_reducible refine Ext.drew ?_) | (with_reducible refine Ext.alloc ?_ _))) (by repeat (first | ((with_reducible refine SAt.new' _ _ _ ?_) <;> (first | (simp; done) | (simp; omega) | omega)) | (with_reducible refine SAt.drew ?_) | (with_reducible refine SAt.alloc ?_ _))) (by first | (simp; done) | (simp; omega) | omega) hx5 ho5)
  case rest =>
    obtain ⟨g, e0, a5, c5, rfl, hS, hE, hP, hg, hxz⟩ := hcut
    have HS0 := Lib.hid hS
    have HE0 := Lib.hid hE
    have HP0 := Lib.hid hP
    have hxw0 : Ext w wc := Ext.trans ((Ext.refl w).alloc _) hxz
    clear hS hE hP
    go_wp2
    go_loopw [4, 5, 6] (fun i _ _ wr => ∃ (k : Nat) (ad : Option Addr) (cc : Nat) (vs : List Value), k ≤ n ∧ i = .int .i64 k ∧
        SAt wr g 30 #[.int .i64 D.base, .int .i64 D.states, .int .i64 D.start, .int .i64 D.fin, .slice ad k cc, .slice a5 m c5] ∧
        Own wr (w.heap.size + 1) 83 ad k cc vs ∧ (∀ j, j < k → ∃ a' n' c', gv vs j = .slice a' n' c' ∧ OwnMat wr (w.heap.size + 1) 23 2 a' n' c' (gm D.tabs j)) ∧
        Own wr (w.heap.size + 1) 2 a5 m c5 (I D.places) ∧ Ext (w.alloc (.cells #[.int .i64 0, .int .i64 0, .int .i64 0, .int .i64 0, .slice none 0 0, .slice none 0 0] 30)) wr) (fun i _ _ _ => n - (intOf i).toNat)
    case atStart => exact ⟨0, _, 0, [], Nat.zero_le _, rfl, HS0.out, HE0.out, (fun j hj => by omega), HP0.out, hxz⟩
    case round =>
      obtain ⟨k, ad, cc, vs, hk, rfl, hS, hE, hps, hP, hx⟩ := hrel
      obtain ⟨wo, hwo⟩ : ∃ wo, wo = wr := ⟨_, rfl⟩
      subst hwo
      have HS := Lib.hid hS
      have HE := Lib.hid hE
      have HPS := Lib.hid hps
      have HP := Lib.hid hP
      have HX := Lib.hid hx
      have hxr : Ext w wo := Ext.trans ((Ext.refl w).alloc _) hx
      have hszr : w.heap.size + 1 ≤ wo.heap.size := by have := hx.le; rw [szZ] at this; exact this
      clear hS hE hps hP hx
      by_cases hlt : k < n
      · obtain ⟨bb, off, a2, n2, c2, ⟨f1, f2⟩, hi2⟩ := HV.out.ts.one (P := Tryz.prog) 22 83 und_tabs cell_tab1 (k : Int) (by omega) (by omega)
        rw [show (k : Int).toNat = k by omega] at hi2
        have HL2 := Lib.hid hi2.len
        have HM2 := Lib.hid hi2
        have hs1 := Hhsm.out _ (gm_mem (l := D.tabs) (k := k) (by rw [HT.out]; exact hlt))
        have hn2 : n2 ≤ 1048576 := by rw [← HL2.out]; omega
        have HS1 := Lib.hid hs1.2
        clear hi2 hs1
        obtain ⟨B, hB⟩ : ∃ B, B = wo.heap.size := ⟨_, rfl⟩
        have HB := Lib.hid hB
        have HLit := Lib.hid (Own.lit0' (g := wo.heap.size) wo 23 (show B ≤ wo.heap.size by rw [hB]; exact Nat.le_refl _) rfl)
        clear hB
        go_wp2
        go_loopw [5, 6] (fun tb x w2 => ∃ (j : Nat) (ad2 : Option Addr) (cc2 : Nat) (vs2 : List Value), j ≤ n2 ∧ x = .int .i64 j ∧ tb = .slice ad2 j cc2 ∧ Own w2 B 23 ad2 j cc2 vs2 ∧
            (∀ i, i < j → ∃ a' n' c', gv vs2 i = .slice a' n' c' ∧ Own w2 B 2 a' n' c' (I (gl (gm D.tabs k) i))) ∧ Ext wo w2) (fun _ x _ => n2 - (intOf x).toNat)
        case atStart => exact ⟨0, _, 0, [], Nat.zero_le _, rfl, rfl, HLit.out, (fun i hi => by omega), (by repeat (first | (with_reducible exact Ext.refl _) | (with_reducible refine Ext.drewN ?_ _) | (with_reducible refine Ext.drew ?_) | (with_reducible refine Ext.alloc ?_ _) | ((with_reducible refine Ext.setCell ?_ ?_ _); rotate_left; focus (first | (simp; done) | (simp; omega) | omega)) | assumption | (with_reducible refine Ext.trans ?_ (by assumption))))⟩
        case round =>
          obtain ⟨j, ad2, cc2, vs2, hj, rfl, rfl, ho2, hps2, hx2⟩ := hrel
          have HO2 := Lib.hid ho2
          have HPS2 := Lib.hid hps2
          have hx2' : Ext wo wr := hx2
          have hxw2 : Ext w wr := hxr.trans hx2
          have hB2 : B ≤ wr.heap.size := by rw [HB.out]; exact hx2.le
          clear ho2 hps2
          by_cases hlt2 : j < n2
          · obtain ⟨b3, off3, a3, n3, c3, ⟨f3, f4⟩, hi3⟩ := HM2.out.one (P := Tryz.prog) 83 23 und_rows cell_row1 (j : Int) (by omega) (by omega)
            rw [show (j : Int).toNat = j by omega] at hi3
            have HL3 := Lib.hid hi3.len
            have HC := Lib.hid (spec_own a3 n3 c3 (gl (gm D.tabs k) j) wr (hi3.ext hxw2) (by rw [← HL3.out]; have := HS1.out _ (gl_mem (l := gm D.tabs k) (k := j) (by rw [HL2.out]; exact hlt2)); omega))
            clear hi3
            go_wp2_with fail
            refine HC.out.mono ?_
            rintro e w5 ⟨a6, c6, rfl, ho6, hx6⟩
            rw [I_len, HL3.out] at ho6 ⊢
            have HO6 := Lib.hid (ho6.mono hB2)
            have HO25 := Lib.hid (HO2.out.ext hx6)
            have hx25 : Ext wo w5 := hx2.trans hx6
            clear ho6
            go_wp2_with (at_builtin; refine law_append1 _ rfl _ _ 83 rfl 23 (.slice none 0 0) 24 und_rows info_row1 rfl B ad2 j cc2 vs2 _ rfl rfl rfl HO25.out (Nat.le_trans hB2 hx6.le) (by omega) (by omega) ?_; intro ad' c' w6 hoz hbz hgz)
            have hx6' : Ext wo w6 := Ext.below hx25 (by rw [← HB.out]; exact hbz)
            refine ⟨⟨j + 1, ad', c', _, by omega, by go_num, rfl, hoz, (fun i hi => ?_), hx6'⟩, by simp [intOf]; omega⟩
            have hvl := HO2.out.len
            by_cases h : i < j
            · obtain ⟨a', n', c'', g1, g2⟩ := HPS2.out i h
              exact ⟨a', n', c'', (gv_lt (by omega)).trans g1, (g2.ext hx6).grownT HO25.out hgz (by decide)⟩
            · obtain rfl : i = j := by omega
              exact ⟨a6, n3, c6, gv_last hvl, HO6.out.grownT HO25.out hgz (by decide)⟩
          · obtain rfl : j = n2 := by omega
            have HMat := Lib.hid (show OwnMat wr B 23 2 ad2 j cc2 (gm D.tabs k) from ⟨HL2.out, vs2, HO2.out, HPS2.out⟩)
            have hS2 := HS.out.ext hx2
            have HS2 := Lib.hid hS2
            have hcl := hS2.cell 4 (by simp)
            have hcl' : wr.cell? ⟨g, 4, none⟩ = some (.slice ad k cc) := hcl
            have hgl := hS2.lt
            have HE2 := Lib.hid (HE.out.ext hx2)
            clear hS2 hcl
            go_wp2_with (at_builtin; refine law_append1 _ rfl _ _ 22 rfl 83 (.slice none 0 0) 24 und_tabs info_tab1 rfl (w.heap.size + 1) ad k cc vs _ rfl rfl rfl HE2.out (Nat.le_trans hszr hx2.le) (by omega) (by omega) ?_; intro ad' c' w6 hoz hbz hgz; have hS6 := HS2.out.grown hgz (row_ne_s (HE2.out.ne_s HS2.out (by decide))); have hcl6 : w6.cell? ⟨g, 4, none⟩ = some (.slice ad k cc) := hS6.cell 4 (by simp); have hfr6 := hS6.frozen 4; have hgl6 := hS6.lt; have HS6 := Lib.hid hS6; clear hS6)
            have hv2 := HE.out.len
            refine ⟨⟨k + 1, ad', c', _, by omega, by go_num, HS6.out.set 4 (.slice ad' (k + 1) c'), hoz.setS HS6.out (by decide) 4 _, (fun i hi => ?_), ((HP.out.ext hx2).grownT HE2.out hgz (by decide)).setS HS6.out (by decide) 4 _, ?_⟩, by simp [intOf]; omega⟩
            · by_cases h : i < k
              · obtain ⟨a', n', c'', g1, g2⟩ := HPS.out i h
                exact ⟨a', n', c'', (gv_lt (by omega)).trans g1, ((g2.ext hx2).grownT HE2.out hgz (by decide) (by decide)).setS HS6.out (by decide) (by decide) 4 _⟩
              · obtain rfl : i = k := by omega
                exact ⟨ad2, j, cc2, gv_last hv2, ((HMat.out.mono (by rw [HB.out]; exact hszr)).grownT HE2.out hgz (by decide) (by decide)).setS HS6.out (by decide) (by decide) 4 _⟩
            · exact Ext.setCell (Ext.below (HX.out.trans hx2) (Below.mono hbz (by rw [szZ]; exact Nat.le_refl _))) (by rw [szZ]; exact hg) _
      · obtain rfl : k = n := by omega
        have hS := HS.out
        have q0 : wo.cell? ⟨g, 0, none⟩ = some (.int .i64 D.base) := hS.cell 0 (by simp)
        have q1 : wo.cell? ⟨g, 1, none⟩ = some (.int .i64 D.states) := hS.cell 1 (by simp)
        have q2 : wo.cell? ⟨g, 2, none⟩ = some (.int .i64 D.start) := hS.cell 2 (by simp)
        have q3 : wo.cell? ⟨g, 3, none⟩ = some (.int .i64 D.fin) := hS.cell 3 (by simp)
        have q4 : wo.cell? ⟨g, 4, none⟩ = some (.slice ad k cc) := hS.cell 4 (by simp)
        have q5 : wo.cell? ⟨g, 5, none⟩ = some (.slice a5 m c5) := hS.cell 5 (by simp)
        obtain ⟨hcz, hfz⟩ := bcell HX.out
        have hzl : w.heap.size < wo.heap.size := by omega
        clear hS
        go_wp2
        refine bodyPost_ret (v := .agg #[.int .i64 D.base, .int .i64 D.states, .int .i64 D.start, .int .i64 D.fin, .slice ad k cc, .slice a5 m c5]) ?_ rfl ?_
        · simp [results, Tryz.results43, go_sem, hcz]
        · refine ⟨ad, cc, a5, c5, rfl, ?_, ?_, (by repeat (first | (with_reducible exact Ext.refl _) | (with_reducible refine Ext.drewN ?_ _) | (with_reducible refine Ext.drew ?_) | (with_reducible refine Ext.alloc ?_ _) | ((with_reducible refine Ext.setCell ?_ ?_ _); rotate_left; focus (first | (simp; done) | (simp; omega) | omega)) | assumption | (with_reducible refine Ext.trans ?_ (by assumption))))⟩
          · refine OwnCube.mono (B := w.heap.size + 1) ?_ (by omega)
            have hcu : OwnCube wo (w.heap.size + 1) 83 23 2 ad k cc D.tabs := ⟨HT.out, vs, HE.out, HPS.out⟩
            repeat (first | (with_reducible exact hcu) | ((with_reducible refine OwnCube.setBelow ?_ ?_ _); rotate_left; focus (first | (simp; done) | (simp; omega) | omega)))
          · refine Own.mono (B := w.heap.size + 1) (by repeat (first | (with_reducible exact HP.out) | ((with_reducible refine Own.setBelow ?_ ?_ _); rotate_left; focus (first | (simp; done) | (simp; omega) | omega)))) (by omega)
end Go.Proofs.YthbdnkokklahcaaGreat

/- Walks: the reference's copy of a registry. -/
namespace Go.Proofs.YthbdnkokklahcaaGreat
set_option maxRecDepth 100000
open Go.RowKit

theorem OwnCube.grownT {w w' : World} {B B' : Nat} {E3 E2 E1 E0 : TypeId} {a a' : Option Addr} {n c n' c' : Nat} {ll : List (List (List Int))} {vs' : List Value} (h : OwnCube w B E2 E1 E0 a n c ll) (h' : Own w B' E3 a' n' c' vs') (hg : w.grownBy w' (Value.slice a' n' c').ownBlock) (h2 : E2 ≠ E3) (h1 : E1 ≠ E3) (h0 : E0 ≠ E3) : OwnCube w' B E2 E1 E0 a n c ll :=
  ⟨h.len, let ⟨vs, g1, g2⟩ := h.rows; ⟨vs, g1.grownT h' hg h2, fun k hk => let ⟨a1, n1, c1, g3, g4⟩ := g2 k hk; ⟨a1, n1, c1, g3, g4.grownT h' hg h1 h0⟩⟩⟩
theorem oneS (l : List ByteArray) : ∀ u ∈ St l, u.oneCell' = true := fun u hu => by
  obtain ⟨x, _, rfl⟩ := List.mem_map.1 hu; rfl
/-- append(s, src...) as one operation of a drawn region -/
theorem step_appends {P : Program} (w : World) {o : Oper} {a : Act} {K : Act → World → Prop} {Q : Exit → Act → World → Prop}
    (s x : Operand) (t : TypeId) (hop : o.op = Op.call { callee := Callee.builtin Builtin.append, args := #[s, x], argTypes := #[t, t] })
    (e : TypeId) (z : Value) (bytes : Nat) (h1 : P.underlying t = some (.slice e)) (h2 : (P.info? e).map (fun i => (i.zero, i.size, i.bytes)) = some (some z, 1, bytes)) (hz : z.cells.size = 1)
    (B : Nat) (ad : Option Addr) (n c : Nat) (vs : List Value) (src : Option Addr) (m c' : Nat) (us : List Value) (hu : ∀ u ∈ us, u.oneCell' = true) (hs : a.eval s = .slice ad n c) (hx : a.eval x = .slice src m c')
    (hown : Own w B e ad n c vs) (hsl : Sl w src m c' us) (hB : B ≤ w.heap.size) (hn : n + m < 1099511627776) (hb : bytes ≤ 64)
    (hK : ∀ ad' cc' w', Own w' B e ad' (n + m) cc' (vs ++ us) → Below B w w' → w.grownBy w' (Value.slice ad n c).ownBlock → K (a.put o.dst (.slice ad' (n + m) cc')) w') :
    Oper.wp P o a w K Q := by
  obtain ⟨i, hi, hz0, hz1, rfl⟩ := info_parts h2
  cases src with
  | none =>
    have h0 : m = 0 := by
      rcases Nat.eq_zero_or_pos m with h | h
      · exact h
      · obtain ⟨b, off, ha, _⟩ := hsl.cells h; cases ha
    subst h0
    have hul : us = [] := List.eq_nil_of_length_eq_zero hsl.len
    subst hul
    have hr := run_append_none0 (P := P) (w := w) B t o.type e i h1 hi ad n c c' vs hown
    have h3 := hK ad c w (by rw [List.append_nil]; exact hown) (Below.refl _ _) ⟨rfl, rfl, rfl, Nat.le_refl _, fun _ _ _ => rfl⟩
    unfold Oper.wp execOp
    simp only [hop, resolve, invoke, builtin, Sem.run_bind, Sem.run_pure, Result.andThen_ok, List.map_toArray, List.map_cons, List.map_nil, hs, hx, hr]
    exact h3
  | some ad0 =>
    refine wp_append_own (P := P) w s x t hop B e i z 1 i.bytes h1 hi hz0 hz1 rfl hz (by omega) (.slice ad n c) n vs hs hown ad0 m c' us hx (by rw [hsl.len, Nat.mul_one])
      (fun j u hj => ?_) hu (by unfold maxLen; omega) (by have := Nat.mul_le_mul (show n + m ≤ 1099511627776 by omega) hb; omega) hB ?_
    · have hj' : j < m := by rw [← hsl.len]; exact (List.getElem?_eq_some_iff.1 hj).1
      obtain ⟨b, off, ha, hc⟩ := hsl.cells (by omega)
      simp only [Option.some.injEq] at ha
      subst ha
      rw [Addr.add_lit, hc j hj', List.getD_eq_getElem?_getD, hj]; rfl
    · intro v' w' h3 h4 _
      have hv : ∃ ad' c', v' = .slice ad' (n + m) c' := by
        rcases h3.2 with ⟨h, h'⟩ | ⟨g, cap, cur, hv, _⟩
        · exact ⟨none, 0, by rw [h, h']⟩
        · exact ⟨_, _, hv⟩
      obtain ⟨ad', c', rfl⟩ := hv
      exact hK ad' c' w' h3 (Below.grown (Below.refl B w) h4 hB (fun k hk => (World.ownsRow.lt hown k hk).1)) h4
/-- a registry of the call's own -/
def RetRgS (D : Rg) (n m im rm : Nat) (w : World) (e : Ending) (w' : World) : Prop :=
  ∃ a c b d ia ic ra rc, e = .returned (.agg #[.int .i64 D.ch.base, .int .i64 D.ch.states, .int .i64 D.ch.start, .int .i64 D.ch.fin, .slice a n c, .slice b m d, .int .i64 D.apart, .slice ia im ic, .slice ra rm rc]) ∧ OwnCube w' w.heap.size 83 23 2 a n c D.ch.tabs ∧ Own w' w.heap.size 2 b m d (I D.ch.places) ∧ Own w' w.heap.size 9 ia im ic (St D.issued) ∧ Own w' w.heap.size 2 ra rm rc (I D.revoked) ∧ Ext w w'
set_option maxRecDepth 20000 in
set_option maxHeartbeats 4000000 in
theorem spec_ownReg (D : Rg) (q : Nat) (a : Option Addr) (n c : Nat) (b : Option Addr) (m d : Nat) (ia : Option Addr) (im ic : Nat) (ra : Option Addr) (rm rc : Nat) (w : World) (hv : RgAt w q D a n c b m d ia im ic ra rm rc) (hin : RgIn w D a n c b m d ia im ic ra rm rc) : Calls Tryz.prog 17 #[.pointer (some ⟨q, 0, none⟩)] w (RetRgS D n m im rm w) := by
  have HC := Lib.hid (fun W h => spec_ownChain D.ch q a n c b m d W (ChAt.ext hv.ch h) hin.ch.hn' hin.ch.hn hin.ch.sm)
  have HR := Lib.hid (fun W h => spec_own ra rm rc D.revoked W (Ints.ext hv.rs h) (by have := hin.hr; omega))
  have HI := Lib.hid hv.is
  have HL := Lib.hid hv.is.len
  have HLr := Lib.hid hv.rs.len
  have him := hin.hi
  obtain ⟨wz, hwz⟩ : ∃ wz, wz = w.alloc (.cells #[.int .i64 0, .int .i64 0, .int .i64 0, .int .i64 0, .slice none 0 0, .slice none 0 0, .int .i64 0, .slice none 0 0, .slice none 0 0] 32) := ⟨_, rfl⟩
  have hxz : Ext w wz := by rw [hwz]; exact (by repeat (first | (with_reducible exact Ext.refl _) | (with_reducible assumption) | (with_reducible refine Ext.drewN ?_ _) | (with_reducible refine Ext.drew ?_) | (with_reducible refine Ext.alloc ?_ _) | ((with_reducible refine Ext.setCell ?_ ?_ _); rotate_left; focus (first | (simp; done) | (simp; omega) | omega)) | (with_reducible refine Ext.trans ?_ (by with_reducible assumption))))
  have hzs : wz.heap.size = w.heap.size + 1 := by rw [hwz]; simp
  have hzl : w.heap.size < wz.heap.size := by omega
  have zc0 : ∀ w', Ext wz w' → w'.cell? ⟨w.heap.size, 0, none⟩ = some (.int .i64 0) := fun w' hx => hx.cell (by rw [hwz]; go_simp)
  have zc1 : ∀ w', Ext wz w' → w'.cell? ⟨w.heap.size, 1, none⟩ = some (.int .i64 0) := fun w' hx => hx.cell (by rw [hwz]; go_simp)
  have zc2 : ∀ w', Ext wz w' → w'.cell? ⟨w.heap.size, 2, none⟩ = some (.int .i64 0) := fun w' hx => hx.cell (by rw [hwz]; go_simp)
  have zc3 : ∀ w', Ext wz w' → w'.cell? ⟨w.heap.size, 3, none⟩ = some (.int .i64 0) := fun w' hx => hx.cell (by rw [hwz]; go_simp)
  have zc4 : ∀ w', Ext wz w' → w'.cell? ⟨w.heap.size, 4, none⟩ = some (.slice none 0 0) := fun w' hx => hx.cell (by rw [hwz]; go_simp)
  have zc5 : ∀ w', Ext wz w' → w'.cell? ⟨w.heap.size, 5, none⟩ = some (.slice none 0 0) := fun w' hx => hx.cell (by rw [hwz]; go_simp)
  have zc6 : ∀ w', Ext wz w' → w'.cell? ⟨w.heap.size, 6, none⟩ = some (.int .i64 0) := fun w' hx => hx.cell (by rw [hwz]; go_simp)
  have zc7 : ∀ w', Ext wz w' → w'.cell? ⟨w.heap.size, 7, none⟩ = some (.slice none 0 0) := fun w' hx => hx.cell (by rw [hwz]; go_simp)
  have zc8 : ∀ w', Ext wz w' → w'.cell? ⟨w.heap.size, 8, none⟩ = some (.slice none 0 0) := fun w' hx => hx.cell (by rw [hwz]; go_simp)
  have zf : ∀ i w', Ext wz w' → w'.frozen? ⟨w.heap.size, i, none⟩ = false := fun i w' hx => (Below.frozen (p := ⟨w.heap.size, i, none⟩) hx hzl).trans (by rw [hwz]; exact SAt.frozen (SAt.new' w _ _ rfl) i)
  have zs : ∀ w', Ext wz w' → w.heap.size + 1 ≤ w'.heap.size := fun w' hx => by have := hx.le; omega
  have zs2 : ∀ w', Ext wz w' → w.heap.size < w'.heap.size := fun w' hx => by have := hx.le; omega
  obtain ⟨_, k6, k7, k8, _, _⟩ := hv
  have HZ := Lib.hid zs
  clear hin
  go_enter Tryz.func17, Tryz.ntmps17
  go_wp2
  rw [← hwz]
  clear hwz
  go_region_held3 (fun w' => Ext w w') ((exact (by repeat (first | (with_reducible exact Ext.refl _) | (with_reducible assumption) | (with_reducible refine Ext.drewN ?_ _) | (with_reducible refine Ext.drew ?_) | (with_reducible refine Ext.alloc ?_ _) | ((with_reducible refine Ext.setCell ?_ ?_ _); rotate_left; focus (first | (simp; done) | (simp; omega) | omega)) | (with_reducible refine Ext.trans ?_ (by with_reducible assumption)))))) ((first
    | (go_at_call 43; refine (HC.out _ (by repeat (first | (with_reducible exact Ext.refl _) | (with_reducible assumption) | (with_reducible refine Ext.drewN ?_ _) | (with_reducible refine Ext.drew ?_) | (with_reducible refine Ext.alloc ?_ _) | ((with_reducible refine Ext.setCell ?_ ?_ _); rotate_left; focus (first | (simp; done) | (simp; omega) | omega)) | (with_reducible refine Ext.trans ?_ (by with_reducible assumption))))).mono ?_; rintro e w1 ⟨a1, c1, b1, d1, rfl, hoc1', hop1', hx1⟩; have hz1 : Ext wz w1 := Ext.trans (by repeat (first | (with_reducible exact Ext.refl _) | (with_reducible assumption) | (with_reducible refine Ext.drewN ?_ _) | (with_reducible refine Ext.drew ?_) | (with_reducible refine Ext.alloc ?_ _) | ((with_reducible refine Ext.setCell ?_ ?_ _); rotate_left; focus (first | (simp; done) | (simp; omega) | omega)) | (with_reducible refine Ext.trans ?_ (by with_reducible assumption)))) hx1; have hoc1 := hoc1'.mono (zs _ (by repeat (first | (with_reducible exact Ext.refl _) | (with_reducible assumption) | (with_reducible refine Ext.drewN ?_ _) | (with_reducible refine Ext.drew ?_) | (with_reducible refine Ext.alloc ?_ _) | ((with_reducible refine Ext.setCell ?_ ?_ _); rotate_left; focus (first | (simp; done) | (simp; omega) | omega)) | (with_reducible refine Ext.trans ?_ (by with_reducible assumption))))); have hop1 := hop1'.mono (zs _ (by repeat (first | (with_reducible exact Ext.refl _) | (with_reducible assumption) | (with_reducible refine Ext.drewN ?_ _) | (with_reducible refine Ext.drew ?_) | (with_reducible refine Ext.alloc ?_ _) | ((with_reducible refine Ext.setCell ?_ ?_ _); rotate_left; focus (first | (simp; done) | (simp; omega) | omega)) | (with_reducible refine Ext.trans ?_ (by with_reducible assumption))))); clear hoc1' hop1')
    | (go_at_call 44; refine (HR.out _ (by repeat (first | (with_reducible exact Ext.refl _) | (with_reducible assumption) | (with_reducible refine Ext.drewN ?_ _) | (with_reducible refine Ext.drew ?_) | (with_reducible refine Ext.alloc ?_ _) | ((with_reducible refine Ext.setCell ?_ ?_ _); rotate_left; focus (first | (simp; done) | (simp; omega) | omega)) | (with_reducible refine Ext.trans ?_ (by with_reducible assumption))))).mono ?_; rintro e w3 ⟨a3, c3, rfl, ho3', hx3⟩; rw [I_len, HLr.out] at ho3' ⊢; have ho3 := ho3'.mono (zs _ (by repeat (first | (with_reducible exact Ext.refl _) | (with_reducible assumption) | (with_reducible refine Ext.drewN ?_ _) | (with_reducible refine Ext.drew ?_) | (with_reducible refine Ext.alloc ?_ _) | ((with_reducible refine Ext.setCell ?_ ?_ _); rotate_left; focus (first | (simp; done) | (simp; omega) | omega)) | (with_reducible refine Ext.trans ?_ (by with_reducible assumption))))); clear ho3'; have hoc3 := hoc2.ext hx3; have hop3 := hop2.ext hx3; have ho23 := ho2.ext hx3; have hz3 : Ext wz w3 := Ext.trans (by repeat (first | (with_reducible exact Ext.refl _) | (with_reducible assumption) | (with_reducible refine Ext.drewN ?_ _) | (with_reducible refine Ext.drew ?_) | (with_reducible refine Ext.alloc ?_ _) | ((with_reducible refine Ext.setCell ?_ ?_ _); rotate_left; focus (first | (simp; done) | (simp; omega) | omega)) | (with_reducible refine Ext.trans ?_ (by with_reducible assumption)))) hx3; have hsz3 := zs _ hz3; have hsz32 := zs2 _ hz3; have hfr3 := fun i => zf i w3 hz3; have y0 := zc0 w3 hz3; have y1 := zc1 w3 hz3; have y2 := zc2 w3 hz3; have y3 := zc3 w3 hz3; have y4 := zc4 w3 hz3; have y5 := zc5 w3 hz3; have y6 := zc6 w3 hz3; have y7 := zc7 w3 hz3; have y8 := zc8 w3 hz3)
    | (refine step_appends _ _ _ 26 rfl 9 (.string .empty) 16 und_strs info_str rfl (w.heap.size + 1) _ 0 0 [] ia im ic (St D.issued) (oneS _) rfl rfl (by repeat (first | ((with_reducible refine Own.lit0' _ _ ?_ ?_) <;> (first | (simp; done) | (simp; omega) | omega | exact zs _ (by repeat (first | (with_reducible exact Ext.refl _) | (with_reducible assumption) | (with_reducible refine Ext.drewN ?_ _) | (with_reducible refine Ext.drew ?_) | (with_reducible refine Ext.alloc ?_ _) | ((with_reducible refine Ext.setCell ?_ ?_ _); rotate_left; focus (first | (simp; done) | (simp; omega) | omega)) | (with_reducible refine Ext.trans ?_ (by with_reducible assumption)))))) | (with_reducible refine Own.drew ?_) | (with_reducible refine Own.alloc' ?_ _) | (with_reducible refine Own.ext ?_ hx1))) (Strs.ext HI.out (by repeat (first | (with_reducible exact Ext.refl _) | (with_reducible assumption) | (with_reducible refine Ext.drewN ?_ _) | (with_reducible refine Ext.drew ?_) | (with_reducible refine Ext.alloc ?_ _) | ((with_reducible refine Ext.setCell ?_ ?_ _); rotate_left; focus (first | (simp; done) | (simp; omega) | omega)) | (with_reducible refine Ext.trans ?_ (by with_reducible assumption))))) (zs _ (by repeat (first | (with_reducible exact Ext.refl _) | (with_reducible assumption) | (with_reducible refine Ext.drewN ?_ _) | (with_reducible refine Ext.drew ?_) | (with_reducible refine Ext.alloc ?_ _) | ((with_reducible refine Ext.setCell ?_ ?_ _); rotate_left; focus (first | (simp; done) | (simp; omega) | omega)) | (with_reducible refine Ext.trans ?_ (by with_reducible assumption))))) (by omega) (by omega) ?_; intro ad2 cc2 w2 ho2' hb2 hg2; have hoc2 := OwnCube.grownT (B' := w.heap.size + 1) (E3 := 9) (vs' := []) (hoc1.ext (show Ext w1 _ from (by repeat (first | (with_reducible exact Ext.refl _) | (with_reducible assumption) | (with_reducible refine Ext.drewN ?_ _) | (with_reducible refine Ext.drew ?_) | (with_reducible refine Ext.alloc ?_ _) | ((with_reducible refine Ext.setCell ?_ ?_ _); rotate_left; focus (first | (simp; done) | (simp; omega) | omega)) | (with_reducible refine Ext.trans ?_ (by with_reducible assumption)))))) (by repeat (first | ((with_reducible refine Own.lit0' _ _ ?_ ?_) <;> (first | (simp; done) | (simp; omega) | omega | exact zs _ (by repeat (first | (with_reducible exact Ext.refl _) | (with_reducible assumption) | (with_reducible refine Ext.drewN ?_ _) | (with_reducible refine Ext.drew ?_) | (with_reducible refine Ext.alloc ?_ _) | ((with_reducible refine Ext.setCell ?_ ?_ _); rotate_left; focus (first | (simp; done) | (simp; omega) | omega)) | (with_reducible refine Ext.trans ?_ (by with_reducible assumption)))))) | (with_reducible refine Own.drew ?_) | (with_reducible refine Own.alloc' ?_ _) | (with_reducible refine Own.ext ?_ hx1))) hg2 (by decide) (by decide) (by decide); have hop2 := Own.grownT (B' := w.heap.size + 1) (E' := 9) (vs' := []) (hop1.ext (show Ext w1 _ from (by repeat (first | (with_reducible exact Ext.refl _) | (with_reducible assumption) | (with_reducible refine Ext.drewN ?_ _) | (with_reducible refine Ext.drew ?_) | (with_reducible refine Ext.alloc ?_ _) | ((with_reducible refine Ext.setCell ?_ ?_ _); rotate_left; focus (first | (simp; done) | (simp; omega) | omega)) | (with_reducible refine Ext.trans ?_ (by with_reducible assumption)))))) (by repeat (first | ((with_reducible refine Own.lit0' _ _ ?_ ?_) <;> (first | (simp; done) | (simp; omega) | omega | exact zs _ (by repeat (first | (with_reducible exact Ext.refl _) | (with_reducible assumption) | (with_reducible refine Ext.drewN ?_ _) | (with_reducible refine Ext.drew ?_) | (with_reducible refine Ext.alloc ?_ _) | ((with_reducible refine Ext.setCell ?_ ?_ _); rotate_left; focus (first | (simp; done) | (simp; omega) | omega)) | (with_reducible refine Ext.trans ?_ (by with_reducible assumption)))))) | (with_reducible refine Own.drew ?_) | (with_reducible refine Own.alloc' ?_ _) | (with_reducible refine Own.ext ?_ hx1))) hg2 (by decide); have hxa2 : Ext wz w2 := Ext.below (show Ext wz _ from (by repeat (first | (with_reducible exact Ext.refl _) | (with_reducible assumption) | (with_reducible refine Ext.drewN ?_ _) | (with_reducible refine Ext.drew ?_) | (with_reducible refine Ext.alloc ?_ _) | ((with_reducible refine Ext.setCell ?_ ?_ _); rotate_left; focus (first | (simp; done) | (simp; omega) | omega)) | (with_reducible refine Ext.trans ?_ (by with_reducible assumption))))) (Below.mono hb2 (by omega)); have ho2 : Own w2 (w.heap.size + 1) 9 ad2 im cc2 (St D.issued) := by rw [List.nil_append, Nat.zero_add] at ho2'; exact ho2')))
  all_goals
    go_wp2
    refine bodyPost_ret (v := .agg #[.int .i64 D.ch.base, .int .i64 D.ch.states, .int .i64 D.ch.start, .int .i64 D.ch.fin, .slice a1 n c1, .slice b1 m d1, .int .i64 D.apart, .slice ad2 im cc2, .slice a3 rm c3]) ?_ rfl ?_
    · simp [results, Tryz.results17, go_sem, y0, y1, y2, y3, y4, y5, y6, y7, y8]
    · have hxw3 : Ext w w3 := hxz.trans hz3
      refine ⟨a1, c1, b1, d1, ad2, cc2, a3, c3, rfl, ?_, ?_, ?_, ?_, (by repeat (first | (with_reducible exact Ext.refl _) | (with_reducible assumption) | (with_reducible refine Ext.drewN ?_ _) | (with_reducible refine Ext.drew ?_) | (with_reducible refine Ext.alloc ?_ _) | ((with_reducible refine Ext.setCell ?_ ?_ _); rotate_left; focus (first | (simp; done) | (simp; omega) | omega)) | (with_reducible refine Ext.trans ?_ (by with_reducible assumption))))⟩
      · refine OwnCube.mono (B := w.heap.size + 1) ?_ (by omega)
        repeat (first | (with_reducible exact hoc3) | ((with_reducible refine OwnCube.setBelow ?_ ?_ _); rotate_left; focus (first | (simp; done) | (simp; omega) | omega)))
      · exact Own.mono (B := w.heap.size + 1) (by repeat (first | (with_reducible exact hop3) | ((with_reducible refine Own.setBelow ?_ ?_ _); rotate_left; focus (first | (simp; done) | (simp; omega) | omega)))) (by omega)
      · exact Own.mono (B := w.heap.size + 1) (by repeat (first | (with_reducible exact ho23) | ((with_reducible refine Own.setBelow ?_ ?_ _); rotate_left; focus (first | (simp; done) | (simp; omega) | omega)))) (by omega)
      · exact Own.mono (B := w.heap.size + 1) (by repeat (first | (with_reducible exact ho3) | ((with_reducible refine Own.setBelow ?_ ?_ _); rotate_left; focus (first | (simp; done) | (simp; omega) | omega)))) (by omega)
end Go.Proofs.YthbdnkokklahcaaGreat

/- Walks: the program's copy of a registry. -/
namespace Go.Proofs.YthbdnkokklahcaaGreat
set_option maxRecDepth 100000
open Go.RowKit

set_option maxHeartbeats 400000 in
theorem clone_strs (a : Option Addr) (n c : Nat) (l : List ByteArray) (w : World) (hv : Strs w a n c l) (hn : n ≤ 4294967296) :
    Calls Tryz.prog 53 #[.slice a n c] w (RetOwn 9 (St l) w) := by
  have qT : ∀ (w : World) a n c, (binOp .eql 26 (.slice a n c) (.slice none 0 0)).run Tryz.prog w = .ok (.bool a.isNone) w := fun w a n c => Lib.run_eql_slice_nil w 26 9 a n c 0 0 und_strs
  have HL := Lib.hid hv.len
  cases a with
  | none =>
    have h0 : n = 0 := by
      rcases Nat.eq_zero_or_pos n with h | h
      · exact h
      · obtain ⟨b, off, ha, _⟩ := hv.cells h; cases ha
    subst h0
    have HN := Lib.hid (List.eq_nil_of_length_eq_zero HL.out)
    clear hv
    go_enter Tryz.func53, Tryz.ntmps53
    go_wp2
    go_ret
    exact ⟨none, 0, by rw [HN.out]; rfl, by rw [HN.out]; exact Own.nil _ _ _, Ext.refl _⟩
  | some ad =>
    have HV := Lib.hid hv
    clear hv
    go_enter Tryz.func53, Tryz.ntmps53
    go_wp2_with (at_builtin; refine law_appends _ rfl _ _ 26 rfl 9 (.string .empty) 16 und_strs info_str rfl w.heap.size _ 0 0 [] ad n c (St l) (oneS l) rfl rfl (Own.lit0 w _) (HV.out.ext ((Ext.refl w).alloc _)) (by simp) (by omega) (by omega) ?_; intro ad' c' w1 ho1 hb1 _ hnn)
    go_ret
    have hx : Ext w w1 := ((Ext.refl w).alloc _).below hb1
    rw [List.nil_append, Nat.zero_add] at ho1
    exact RetOwn.mkS ho1 HL.out hx
set_option maxHeartbeats 4000000 in
theorem impl_cloneRegistry (D : Rg) (a : Option Addr) (n c : Nat) (b : Option Addr) (m d : Nat) (ia : Option Addr) (im ic : Nat) (ra : Option Addr) (rm rc : Nat) (w : World) (hv : RgIn w D a n c b m d ia im ic ra rm rc) : Calls Tryz.prog 25 #[.agg #[.int .i64 D.ch.base, .int .i64 D.ch.states, .int .i64 D.ch.start, .int .i64 D.ch.fin, .slice a n c, .slice b m d, .int .i64 D.apart, .slice ia im ic, .slice ra rm rc]] w (RetRgR D n m im rm w) := by
  have HB := Lib.hid (hv.box 32)
  have HC := Lib.hid (fun W h => impl_cloneChain D.ch a n c b m d W (ChIn.ext hv.ch h))
  have HS := Lib.hid (fun W h => clone_strs ia im ic D.issued W (Strs.ext hv.is h) (by have := hv.hi; omega))
  have HR := Lib.hid (fun W h => clone_ints ra rm rc D.revoked W (Ints.ext hv.rs h) (by have := hv.hr; omega))
  have HI := Lib.hid hv.is.len
  have HLr := Lib.hid hv.rs.len
  obtain ⟨wx, hwx⟩ : ∃ wx, wx = w.alloc (.cells #[.int .i64 D.ch.base, .int .i64 D.ch.states, .int .i64 D.ch.start, .int .i64 D.ch.fin, .slice a n c, .slice b m d, .int .i64 D.apart, .slice ia im ic, .slice ra rm rc] 32) := ⟨_, rfl⟩
  have hxx : Ext w wx := by rw [hwx]; exact (by repeat (first | (with_reducible exact Ext.refl _) | (with_reducible refine Ext.drewN ?_ _) | (with_reducible refine Ext.drew ?_) | (with_reducible refine Ext.alloc ?_ _) | ((with_reducible refine Ext.setCell ?_ ?_ _); rotate_left; focus (first | (simp; done) | (simp; omega) | omega)) | assumption | (with_reducible refine Ext.trans ?_ (by assumption))))
  have hxs : wx.heap.size = w.heap.size + 1 := by rw [hwx]; simp
  obtain ⟨wz, hwz⟩ : ∃ wz, wz = wx.alloc (.cells #[.int .i64 0, .int .i64 0, .int .i64 0, .int .i64 0, .slice none 0 0, .slice none 0 0, .int .i64 0, .slice none 0 0, .slice none 0 0] 32) := ⟨_, rfl⟩
  have hxz : Ext wx wz := by rw [hwz]; exact (by repeat (first | (with_reducible exact Ext.refl _) | (with_reducible refine Ext.drewN ?_ _) | (with_reducible refine Ext.drew ?_) | (with_reducible refine Ext.alloc ?_ _) | ((with_reducible refine Ext.setCell ?_ ?_ _); rotate_left; focus (first | (simp; done) | (simp; omega) | omega)) | assumption | (with_reducible refine Ext.trans ?_ (by assumption))))
  have hxwz : Ext w wz := hxx.trans hxz
  have hzs : wz.heap.size = w.heap.size + 2 := by rw [hwz]; simp; omega
  have hzl : w.heap.size + 1 < wz.heap.size := by omega
  have zc0 : ∀ w', Ext wz w' → w'.cell? ⟨w.heap.size + 1, 0, none⟩ = some (.int .i64 0) := fun w' hx => by rw [← hxs]; exact hx.cell (by rw [hwz]; go_simp)
  have zc1 : ∀ w', Ext wz w' → w'.cell? ⟨w.heap.size + 1, 1, none⟩ = some (.int .i64 0) := fun w' hx => by rw [← hxs]; exact hx.cell (by rw [hwz]; go_simp)
  have zc2 : ∀ w', Ext wz w' → w'.cell? ⟨w.heap.size + 1, 2, none⟩ = some (.int .i64 0) := fun w' hx => by rw [← hxs]; exact hx.cell (by rw [hwz]; go_simp)
  have zc3 : ∀ w', Ext wz w' → w'.cell? ⟨w.heap.size + 1, 3, none⟩ = some (.int .i64 0) := fun w' hx => by rw [← hxs]; exact hx.cell (by rw [hwz]; go_simp)
  have zc4 : ∀ w', Ext wz w' → w'.cell? ⟨w.heap.size + 1, 4, none⟩ = some (.slice none 0 0) := fun w' hx => by rw [← hxs]; exact hx.cell (by rw [hwz]; go_simp)
  have zc5 : ∀ w', Ext wz w' → w'.cell? ⟨w.heap.size + 1, 5, none⟩ = some (.slice none 0 0) := fun w' hx => by rw [← hxs]; exact hx.cell (by rw [hwz]; go_simp)
  have zc6 : ∀ w', Ext wz w' → w'.cell? ⟨w.heap.size + 1, 6, none⟩ = some (.int .i64 0) := fun w' hx => by rw [← hxs]; exact hx.cell (by rw [hwz]; go_simp)
  have zc7 : ∀ w', Ext wz w' → w'.cell? ⟨w.heap.size + 1, 7, none⟩ = some (.slice none 0 0) := fun w' hx => by rw [← hxs]; exact hx.cell (by rw [hwz]; go_simp)
  have zc8 : ∀ w', Ext wz w' → w'.cell? ⟨w.heap.size + 1, 8, none⟩ = some (.slice none 0 0) := fun w' hx => by rw [← hxs]; exact hx.cell (by rw [hwz]; go_simp)
  have kc0 : ∀ w', Ext wx w' → w'.cell? ⟨w.heap.size, 0, none⟩ = some (.int .i64 D.ch.base) := fun w' hx => hx.cell (by rw [hwx]; go_simp)
  have kc1 : ∀ w', Ext wx w' → w'.cell? ⟨w.heap.size, 1, none⟩ = some (.int .i64 D.ch.states) := fun w' hx => hx.cell (by rw [hwx]; go_simp)
  have kc2 : ∀ w', Ext wx w' → w'.cell? ⟨w.heap.size, 2, none⟩ = some (.int .i64 D.ch.start) := fun w' hx => hx.cell (by rw [hwx]; go_simp)
  have kc3 : ∀ w', Ext wx w' → w'.cell? ⟨w.heap.size, 3, none⟩ = some (.int .i64 D.ch.fin) := fun w' hx => hx.cell (by rw [hwx]; go_simp)
  have kc4 : ∀ w', Ext wx w' → w'.cell? ⟨w.heap.size, 4, none⟩ = some (.slice a n c) := fun w' hx => hx.cell (by rw [hwx]; go_simp)
  have kc5 : ∀ w', Ext wx w' → w'.cell? ⟨w.heap.size, 5, none⟩ = some (.slice b m d) := fun w' hx => hx.cell (by rw [hwx]; go_simp)
  have kc6 : ∀ w', Ext wx w' → w'.cell? ⟨w.heap.size, 6, none⟩ = some (.int .i64 D.apart) := fun w' hx => hx.cell (by rw [hwx]; go_simp)
  have kc7 : ∀ w', Ext wx w' → w'.cell? ⟨w.heap.size, 7, none⟩ = some (.slice ia im ic) := fun w' hx => hx.cell (by rw [hwx]; go_simp)
  have kc8 : ∀ w', Ext wx w' → w'.cell? ⟨w.heap.size, 8, none⟩ = some (.slice ra rm rc) := fun w' hx => hx.cell (by rw [hwx]; go_simp)
  have zf : ∀ i w', Ext wz w' → w'.frozen? ⟨w.heap.size + 1, i, none⟩ = false := fun i w' hx => (Below.frozen (p := ⟨w.heap.size + 1, i, none⟩) hx hzl).trans (by rw [hwz]; exact SAt.frozen (SAt.new' _ _ _ (by rw [hxs])) i)
  have zs : ∀ w', Ext wz w' → w.heap.size + 2 ≤ w'.heap.size := fun w' hx => by have := hx.le; omega
  have zs2 : ∀ w', Ext wz w' → w.heap.size + 1 < w'.heap.size := fun w' hx => by have := hx.le; omega
  clear hv
  go_enter Tryz.func25, Tryz.ntmps25
  go_wp2
  rw [← hwx, ← hwz]
  clear hwz hwx
  go_region_held3 (fun w' => Ext wx w') ((exact (by repeat (first | (with_reducible exact Ext.refl _) | (with_reducible assumption) | (with_reducible refine Ext.drewN ?_ _) | (with_reducible refine Ext.drew ?_) | (with_reducible refine Ext.alloc ?_ _) | ((with_reducible refine Ext.setCell ?_ ?_ _); rotate_left; focus (first | (simp; done) | (simp; omega) | omega)) | (with_reducible refine Ext.trans ?_ (by with_reducible assumption)))))) ((first
    | (go_at_call 52; refine (HC.out _ (by repeat (first | (with_reducible exact Ext.refl _) | (with_reducible assumption) | (with_reducible refine Ext.drewN ?_ _) | (with_reducible refine Ext.drew ?_) | (with_reducible refine Ext.alloc ?_ _) | ((with_reducible refine Ext.setCell ?_ ?_ _); rotate_left; focus (first | (simp; done) | (simp; omega) | omega)) | (with_reducible refine Ext.trans ?_ (by with_reducible assumption))))).mono ?_; rintro e w1 ⟨a1, c1, b1, d1, rfl, hr1, hx1⟩; have hz1 : Ext wz w1 := Ext.trans (by repeat (first | (with_reducible exact Ext.refl _) | (with_reducible assumption) | (with_reducible refine Ext.drewN ?_ _) | (with_reducible refine Ext.drew ?_) | (with_reducible refine Ext.alloc ?_ _) | ((with_reducible refine Ext.setCell ?_ ?_ _); rotate_left; focus (first | (simp; done) | (simp; omega) | omega)) | (with_reducible refine Ext.trans ?_ (by with_reducible assumption)))) hx1)
    | (go_at_call 53; refine (HS.out _ (by repeat (first | (with_reducible exact Ext.refl _) | (with_reducible assumption) | (with_reducible refine Ext.drewN ?_ _) | (with_reducible refine Ext.drew ?_) | (with_reducible refine Ext.alloc ?_ _) | ((with_reducible refine Ext.setCell ?_ ?_ _); rotate_left; focus (first | (simp; done) | (simp; omega) | omega)) | (with_reducible refine Ext.trans ?_ (by with_reducible assumption))))).mono ?_; rintro e w2 ⟨a2, c2, rfl, ho2', hx2⟩; rw [St_len, HI.out] at ho2' ⊢; have hz2 : Ext wz w2 := hz1.trans hx2)
    | (go_at_call 54; refine (HR.out _ (by repeat (first | (with_reducible exact Ext.refl _) | (with_reducible assumption) | (with_reducible refine Ext.drewN ?_ _) | (with_reducible refine Ext.drew ?_) | (with_reducible refine Ext.alloc ?_ _) | ((with_reducible refine Ext.setCell ?_ ?_ _); rotate_left; focus (first | (simp; done) | (simp; omega) | omega)) | (with_reducible refine Ext.trans ?_ (by with_reducible assumption))))).mono ?_; rintro e w3 ⟨a3, c3, rfl, ho3', hx3, _⟩; rw [I_len, HLr.out] at ho3' ⊢; have hz3 : Ext wz w3 := hz2.trans hx3; have hsz3 := zs _ hz3; have hsz32 := zs2 _ hz3; have hfr3 := fun i => zf i w3 hz3; have y0 := zc0 w3 hz3; have y1 := zc1 w3 hz3; have y2 := zc2 w3 hz3; have y3 := zc3 w3 hz3; have y4 := zc4 w3 hz3; have y5 := zc5 w3 hz3; have y6 := zc6 w3 hz3; have y7 := zc7 w3 hz3; have y8 := zc8 w3 hz3)))
  all_goals
    go_wp2
    refine bodyPost_ret (v := .agg #[.int .i64 D.ch.base, .int .i64 D.ch.states, .int .i64 D.ch.start, .int .i64 D.ch.fin, .slice a1 n c1, .slice b1 m d1, .int .i64 D.apart, .slice a2 im c2, .slice a3 rm c3]) ?_ rfl ?_
    · simp [results, Tryz.results25, go_sem, y0, y1, y2, y3, y4, y5, y6, y7, y8]
    · have hxw3 : Ext w w3 := hxwz.trans hz3
      have l1 : w.heap.size + 2 ≤ w1.heap.size := zs _ hz1
      have l2 := hx2.le
      have l3 := hx3.le
      have hdz : wz.drew.heap.size = wz.heap.size := rfl
      have hcr : RgR w3 (w.heap.size + 2) w3.heap.size D a1 n c1 b1 m d1 a2 im c2 a3 rm c3 :=
        RgR.row l1 l2 l3 (((hr1.mono (by rw [hdz, hzs]; exact Nat.le_refl _) (Nat.le_refl _)).ext hx2).ext hx3) (ho2'.in.ext hx3) ho3'.in
      refine ⟨a1, c1, b1, d1, a2, c2, a3, c3, rfl, ?_, (by repeat (first | (with_reducible exact Ext.refl _) | (with_reducible assumption) | (with_reducible refine Ext.drewN ?_ _) | (with_reducible refine Ext.drew ?_) | (with_reducible refine Ext.alloc ?_ _) | ((with_reducible refine Ext.setCell ?_ ?_ _); rotate_left; focus (first | (simp; done) | (simp; omega) | omega)) | (with_reducible refine Ext.trans ?_ (by with_reducible assumption))))⟩
      refine RgR.mono (lo := w.heap.size + 2) (hi := w3.heap.size) ?_ (by omega) (by simp)
      refine RgR.chg (lo' := 0) (hi' := w.heap.size + 2) hcr ?_ (.inl (Nat.le_refl _))
      clear hcr
      exact (by repeat (first | (with_reducible exact Chg.refl _ _ _) | (with_reducible assumption) | ((with_reducible refine Chg.trans ?_ (Chg.setP _ _ _ ?_ ?_)); rotate_left; (focus (first | (simp; done) | (simp; omega) | omega)); (focus (first | (simp; done) | (simp; omega) | omega))) | (with_reducible refine Chg.trans ?_ (Chg.ext (Ext.alloc (Ext.refl _) _) _ _)) | (with_reducible refine Chg.trans ?_ (Chg.ext (Ext.drew (Ext.refl _)) _ _)) | (with_reducible refine Chg.trans ?_ (Chg.ext (Ext.drewN (Ext.refl _) _) _ _))))
end Go.Proofs.YthbdnkokklahcaaGreat
