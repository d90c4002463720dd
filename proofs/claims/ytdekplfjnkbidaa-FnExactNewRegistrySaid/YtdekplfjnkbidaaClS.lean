/- Walks: the reference's copy of a chain. -/
import Derived.Test.YtdekplfjnkbidaaToR
import Derived.Test.YtdekplfjnkbidaaOwnS
import Derived.Test.YtdekplfjnkbidaaSAt
import Derived.Deep.CutRange
import Derived.Deep.RegionHeld3
namespace Go.Proofs.Ytdekplfjnkbidaa
set_option maxRecDepth 100000
open Go.RowKit

/-- the copy's block, as the composite literal leaves it -/
def CutCh (D : Ch) (m : Nat) (w : World) (s3 : Value) (wx : World) : Prop :=
  ∃ (g e0 : Nat) (a5 : Option Addr) (c5 : Nat), s3 = .pointer (some ⟨g, 0, none⟩) ∧ SAt wx g 31 #[.int .i64 D.base, .int .i64 D.states, .int .i64 D.start, .int .i64 D.fin, .slice (some ⟨e0, 0, none⟩) 0 0, .slice a5 m c5] ∧
    Own wx (w.heap.size + 1) 101 (some ⟨e0, 0, none⟩) 0 0 [] ∧ Own wx (w.heap.size + 1) 2 a5 m c5 (I D.places) ∧ w.heap.size + 1 ≤ g ∧
    Ext (w.alloc (.cells #[.int .i64 0, .int .i64 0, .int .i64 0, .int .i64 0, .slice none 0 0, .slice none 0 0] 31)) wx
theorem szZ (w : World) : (w.alloc (.cells #[.int .i64 0, .int .i64 0, .int .i64 0, .int .i64 0, .slice none 0 0, .slice none 0 0] 31)).heap.size = w.heap.size + 1 := by simp
section
variable {D : Ch} {m g e0 : Nat} {a5 : Option Addr} {c5 : Nat} {w W5 w' : World}
theorem six_chg (D : Ch) (m g e0 : Nat) (a5 : Option Addr) (c5 : Nat) (w' : World) : Chg g (g + 1) w' ((((((w'.setCell ⟨g, 0, none⟩ (.int .i64 D.base)).setCell ⟨g, 1, none⟩ (.int .i64 D.states)).setCell ⟨g, 2, none⟩ (.int .i64 D.start)).setCell ⟨g, 3, none⟩ (.int .i64 D.fin)).setCell ⟨g, 4, none⟩ (.slice (some ⟨e0, 0, none⟩) 0 0)).setCell ⟨g, 5, none⟩ (.slice a5 m c5)) := (by repeat (first | (with_reducible exact Chg.refl _ _ _) | (with_reducible assumption) | ((with_reducible refine Chg.trans ?_ (Chg.setP _ _ _ ?_ ?_)); rotate_left; (focus (first | (simp; done) | (simp; omega) | omega)); (focus (first | (simp; done) | (simp; omega) | omega))) | (with_reducible refine Chg.trans ?_ (Chg.ext (Ext.alloc (Ext.refl _) _) _ _)) | (with_reducible refine Chg.trans ?_ (Chg.ext (Ext.drew (Ext.refl _)) _ _)) | (with_reducible refine Chg.trans ?_ (Chg.ext (Ext.drewN (Ext.refl _) _) _ _))))
theorem cutA (hb : Ext (w.alloc (.cells #[.int .i64 0, .int .i64 0, .int .i64 0, .int .i64 0, .slice none 0 0, .slice none 0 0] 31)) W5) (hE : Own W5 (w.heap.size + 1) 101 (some ⟨e0, 0, none⟩) 0 0 []) (hx5 : Ext W5 w') (ho5 : Own w' W5.heap.size 2 a5 m c5 (I D.places)) :
    CutCh D m w (.pointer (some ⟨w'.heap.size, 0, none⟩)) (w'.alloc (.cells #[.int .i64 D.base, .int .i64 D.states, .int .i64 D.start, .int .i64 D.fin, .slice (some ⟨e0, 0, none⟩) 0 0, .slice a5 m c5] 31)) := by
  have h1 := hb.le
  have h2 := hx5.le
  rw [szZ] at h1
  exact ⟨w'.heap.size, e0, a5, c5, rfl, SAt.new' _ _ _ rfl, (hE.ext hx5).alloc' _, (ho5.mono h1).alloc' _, by omega, (hb.trans hx5).alloc _⟩
theorem cutB (hb : Ext (w.alloc (.cells #[.int .i64 0, .int .i64 0, .int .i64 0, .int .i64 0, .slice none 0 0, .slice none 0 0] 31)) W5) (hE : Own W5 (w.heap.size + 1) 101 (some ⟨e0, 0, none⟩) 0 0 []) (hS : SAt W5 g 31 #[.int .i64 0, .int .i64 0, .int .i64 0, .int .i64 0, .slice none 0 0, .slice none 0 0]) (hg : w.heap.size + 1 ≤ g) (hx5 : Ext W5 w') (ho5 : Own w' W5.heap.size 2 a5 m c5 (I D.places)) :
    CutCh D m w (.pointer (some ⟨g, 0, none⟩)) ((((((w'.setCell ⟨g, 0, none⟩ (.int .i64 D.base)).setCell ⟨g, 1, none⟩ (.int .i64 D.states)).setCell ⟨g, 2, none⟩ (.int .i64 D.start)).setCell ⟨g, 3, none⟩ (.int .i64 D.fin)).setCell ⟨g, 4, none⟩ (.slice (some ⟨e0, 0, none⟩) 0 0)).setCell ⟨g, 5, none⟩ (.slice a5 m c5)) := by
  have h1 := hb.le
  rw [szZ] at h1
  have hc := six_chg D m g e0 a5 c5 w'
  have hS5 := hS.ext hx5
  refine ⟨g, e0, a5, c5, rfl, hS5.six _ _ _ _ _ _, (hE.ext hx5).chg hc (fun x hx => ?_), (ho5.mono h1).chg hc (fun x hx => ?_), hg, hc.to (hb.trans hx5) (by rw [szZ]; exact hg)⟩
  · have := (hE.ext hx5).ne_s hS5 (by decide) x hx; omega
  · have := ho5.ne_s hS5 (by decide) x hx; omega
theorem cutC (hb : Ext (w.alloc (.cells #[.int .i64 0, .int .i64 0, .int .i64 0, .int .i64 0, .slice none 0 0, .slice none 0 0] 31)) W5) (hx5 : Ext W5 w') (ho5 : Own w' W5.heap.size 2 a5 m c5 (I D.places)) :
    CutCh D m w (.pointer (some ⟨w'.heap.size + 1, 0, none⟩)) ((w'.alloc (.cells #[] 101)).alloc (.cells #[.int .i64 D.base, .int .i64 D.states, .int .i64 D.start, .int .i64 D.fin, .slice (some ⟨w'.heap.size, 0, none⟩) 0 0, .slice a5 m c5] 31)) := by
  have h1 := hb.le
  have h2 := hx5.le
  rw [szZ] at h1
  exact ⟨w'.heap.size + 1, w'.heap.size, a5, c5, rfl, SAt.new' _ _ _ (by simp), (Own.lit0' _ _ (by omega) rfl).alloc' _, ((ho5.mono h1).alloc' _).alloc' _, by omega, ((hb.trans hx5).alloc _).alloc _⟩
theorem cutD (hb : Ext (w.alloc (.cells #[.int .i64 0, .int .i64 0, .int .i64 0, .int .i64 0, .slice none 0 0, .slice none 0 0] 31)) W5) (hx5 : Ext W5 w') (ho5 : Own w' W5.heap.size 2 a5 m c5 (I D.places)) :
    CutCh D m w (.pointer (some ⟨w'.heap.size, 0, none⟩)) ((w'.alloc (.cells #[.int .i64 D.base, .int .i64 D.states, .int .i64 D.start, .int .i64 D.fin, .slice (some ⟨w'.heap.size + 1, 0, none⟩) 0 0, .slice a5 m c5] 31)).alloc (.cells #[] 101)) := by
  have h1 := hb.le
  have h2 := hx5.le
  rw [szZ] at h1
  exact ⟨w'.heap.size, w'.heap.size + 1, a5, c5, rfl, (SAt.new' _ _ _ rfl).alloc _, Own.lit0' _ _ (by omega) (by simp), ((ho5.mono h1).alloc' _).alloc' _, by omega, ((hb.trans hx5).alloc _).alloc _⟩
theorem cutF (hb : Ext (w.alloc (.cells #[.int .i64 0, .int .i64 0, .int .i64 0, .int .i64 0, .slice none 0 0, .slice none 0 0] 31)) W5) (hS : SAt W5 g 31 #[.int .i64 0, .int .i64 0, .int .i64 0, .int .i64 0, .slice none 0 0, .slice none 0 0]) (hg : w.heap.size + 1 ≤ g) (hx5 : Ext W5 w') (ho5 : Own w' W5.heap.size 2 a5 m c5 (I D.places)) :
    CutCh D m w (.pointer (some ⟨g, 0, none⟩)) (((((((w'.setCell ⟨g, 0, none⟩ (.int .i64 D.base)).setCell ⟨g, 1, none⟩ (.int .i64 D.states)).setCell ⟨g, 2, none⟩ (.int .i64 D.start)).setCell ⟨g, 3, none⟩ (.int .i64 D.fin)).setCell ⟨g, 4, none⟩ (.slice (some ⟨w'.heap.size, 0, none⟩) 0 0)).setCell ⟨g, 5, none⟩ (.slice a5 m c5)).alloc (.cells #[] 101)) := by
  have h1 := hb.le
  have h2 := hx5.le
  rw [szZ] at h1
  have hc := six_chg D m g w'.heap.size a5 c5 w'
  have hS5 := hS.ext hx5
  refine ⟨g, w'.heap.size, a5, c5, rfl, (hS5.six _ _ _ _ _ _).alloc _, Own.lit0' _ _ (by omega) (by simp), ((ho5.mono h1).chg hc (fun x hx => ?_)).alloc' _, hg, (hc.to (hb.trans hx5) (by rw [szZ]; exact hg)).alloc _⟩
  have := ho5.ne_s hS5 (by decide) x hx; omega
end
/-- a chain of the call's own -/
def RetChS (D : Ch) (n m : Nat) (w : World) (e : Ending) (w' : World) : Prop :=
  ∃ a c b d, e = .returned (.agg #[.int .i64 D.base, .int .i64 D.states, .int .i64 D.start, .int .i64 D.fin, .slice a n c, .slice b m d]) ∧ OwnCube w' w.heap.size 101 23 2 a n c D.tabs ∧ Own w' w.heap.size 2 b m d (I D.places) ∧ Ext w w'
set_option maxHeartbeats 4000000 in
theorem spec_ownChain (D : Ch) (q : Nat) (a : Option Addr) (n c : Nat) (b : Option Addr) (m d : Nat) (w : World) (hv : ChAt w q D a n c b m d) (hm : m ≤ 1048576) (hn : n ≤ 1048576) (hsm : SmallCh D) :
    Calls Try.prog 66 #[.pointer (some ⟨q, 0, none⟩)] w (RetChS D n m w) := by
  have HOw := Lib.hid (fun W h => spec_own b m d D.places W (Ints.ext hv.ps h) (by omega))
  have HV := Lib.hid hv
  have HL := Lib.hid hv.ps.len
  have HT := Lib.hid hv.ts.len
  have Hhsm := Lib.hid hsm; clear hsm
  obtain ⟨k0, k1, k2, k3, k4, k5, _, _⟩ := hv
  go_enter Try.func66, Try.ntmps66
  go_upto_region 1 with fail
  go_cut [3] from 7 to 29 (fun s3 wx => CutCh D m w s3 wx)
  case first =>
    go_region_held3 (fun w' => Ext w w') ((exact (by repeat (first | (with_reducible exact Ext.refl _) | (with_reducible refine Ext.drewN ?_ _) | (with_reducible refine Ext.drew ?_) | (with_reducible refine Ext.alloc ?_ _) | ((with_reducible refine Ext.setCell ?_ ?_ _); rotate_left; focus (first | (simp; done) | (simp; omega) | omega)) | assumption | (with_reducible refine Ext.trans ?_ (by assumption)))))) ((go_at_call 106; refine (HOw.out _ (by repeat (first | (with_reducible exact Ext.refl _) | (with_reducible refine Ext.drewN ?_ _) | (with_reducible refine Ext.drew ?_) | (with_reducible refine Ext.alloc ?_ _) | ((with_reducible refine Ext.setCell ?_ ?_ _); rotate_left; focus (first | (simp; done) | (simp; omega) | omega)) | assumption | (with_reducible refine Ext.trans ?_ (by assumption))))).mono ?_; rintro e w' ⟨a5, c5, rfl, ho5, hx5⟩; rw [I_len, HL.out] at ho5 ⊢; obtain ⟨hc5, hf5⟩ := bcell hx5; have hsz5 := hx5.le; simp at hsz5; try (have hlt5 : w.heap.size + 1 < w'.heap.size := by omega); try (have hlt6 : w.heap.size + 1 + 1 < w'.heap.size := by omega)))
    all_goals (go_wp2_with fail; go_meet)
    all_goals first | (with_reducible exact cutA (by repeat (first | (with_reducible exact Ext.refl _) | (with_reducible refine Ext.drew ?_) | (with_reducible refine Ext.alloc ?_ _))) (by repeat (first | ((with_reducible refine Own.lit0' _ _ ?_ ?_) <;> (first | (simp; done) | (simp; omega) | omega)) | (with_reducible refine Own.drew ?_) | (with_reducible refine Own.alloc' ?_ _))) hx5 ho5) | (with_reducible exact cutB (by repeat (first | (with_reducible exact Ext.refl _) | (with_reducible refine Ext.drew ?_) | (with_reducible refine Ext.alloc ?_ _))) (by repeat (first | ((with_reducible refine Own.lit0' _ _ ?_ ?_) <;> (first | (simp; done) | (simp; omega) | omega)) | (with_reducible refine Own.drew ?_) | (with_reducible refine Own.alloc' ?_ _))) (by repeat (first | ((with_reducible refine SAt.new' _ _ _ ?_) <;> (first | (simp; done) | (simp; omega) | omega)) | (with_reducible refine SAt.drew ?_) | (with_reducible refine SAt.alloc ?_ _))) (by first | (simp; done) | (simp; omega) | omega) hx5 ho5) | (with_reducible exact cutC (by repeat (first | (with_reducible exact Ext.refl _) | (with_reducible refine Ext.drew ?_) | (with_reducible refine Ext.alloc ?_ _))) hx5 ho5) | (with_reducible exact cutD (by repeat (first | (with_reducible exact Ext.refl _) | (with_reducible refine Ext.drew ?_) | (with_reducible refine Ext.alloc ?_ _))) hx5 ho5) | (with_reducible exact cutF (by repeat (first | (with_reducible exact Ext.refl _) | (with_reducible refine Ext.drew ?_) | (with_reducible refine Ext.alloc ?_ _))) (by repeat (first | ((with_reducible refine SAt.new' _ _ _ ?_) <;> (first | (simp; done) | (simp; omega) | omega)) | (with_reducible refine SAt.drew ?_) | (with_reducible refine SAt.alloc ?_ _))) (by first | (simp; done) | (simp; omega) | omega) hx5 ho5)
  case rest =>
    obtain ⟨g, e0, a5, c5, rfl, hS, hE, hP, hg, hxz⟩ := hcut
    have HS0 := Lib.hid hS
    have HE0 := Lib.hid hE
    have HP0 := Lib.hid hP
    have hxw0 : Ext w wc := Ext.trans ((Ext.refl w).alloc _) hxz
    clear hS hE hP
    go_wp2
    go_loopw [4, 5, 6] (fun i _ _ wr => ∃ (k : Nat) (ad : Option Addr) (cc : Nat) (vs : List Value), k ≤ n ∧ i = .int .i64 k ∧
        SAt wr g 31 #[.int .i64 D.base, .int .i64 D.states, .int .i64 D.start, .int .i64 D.fin, .slice ad k cc, .slice a5 m c5] ∧
        Own wr (w.heap.size + 1) 101 ad k cc vs ∧ (∀ j, j < k → ∃ a' n' c', gv vs j = .slice a' n' c' ∧ OwnMat wr (w.heap.size + 1) 23 2 a' n' c' (gm D.tabs j)) ∧
        Own wr (w.heap.size + 1) 2 a5 m c5 (I D.places) ∧ Ext (w.alloc (.cells #[.int .i64 0, .int .i64 0, .int .i64 0, .int .i64 0, .slice none 0 0, .slice none 0 0] 31)) wr) (fun i _ _ _ => n - (intOf i).toNat)
    case atStart => exact ⟨0, _, 0, [], Nat.zero_le _, rfl, HS0.out, HE0.out, (fun j hj => by omega), HP0.out, hxz⟩
    case round =>
      obtain ⟨k, ad, cc, vs, hk, rfl, hS, hE, hps, hP, hx⟩ := hrel
      obtain ⟨wo, hwo⟩ : ∃ wo, wo = wr := ⟨_, rfl⟩
      subst hwo
      have HS := Lib.hid hS
      have HE := Lib.hid hE
      have HPS := Lib.hid hps
      have HP := Lib.hid hP
      have HX := Lib.hid hx
      have hxr : Ext w wo := Ext.trans ((Ext.refl w).alloc _) hx
      have hszr : w.heap.size + 1 ≤ wo.heap.size := by have := hx.le; rw [szZ] at this; exact this
      clear hS hE hps hP hx
      by_cases hlt : k < n
      · obtain ⟨bb, off, a2, n2, c2, ⟨f1, f2⟩, hi2⟩ := HV.out.ts.one (P := Try.prog) 22 101 und_tabs cell_tab1 (k : Int) (by omega) (by omega)
        rw [show (k : Int).toNat = k by omega] at hi2
        have HL2 := Lib.hid hi2.len
        have HM2 := Lib.hid hi2
        have hs1 := Hhsm.out _ (gm_mem (l := D.tabs) (k := k) (by rw [HT.out]; exact hlt))
        have hn2 : n2 ≤ 1048576 := by rw [← HL2.out]; omega
        have HS1 := Lib.hid hs1.2
        clear hi2 hs1
        obtain ⟨B, hB⟩ : ∃ B, B = wo.heap.size := ⟨_, rfl⟩
        have HB := Lib.hid hB
        have HLit := Lib.hid (Own.lit0' (g := wo.heap.size) wo 23 (show B ≤ wo.heap.size by rw [hB]; exact Nat.le_refl _) rfl)
        clear hB
        go_wp2
        go_loopw [5, 6] (fun tb x w2 => ∃ (j : Nat) (ad2 : Option Addr) (cc2 : Nat) (vs2 : List Value), j ≤ n2 ∧ x = .int .i64 j ∧ tb = .slice ad2 j cc2 ∧ Own w2 B 23 ad2 j cc2 vs2 ∧
            (∀ i, i < j → ∃ a' n' c', gv vs2 i = .slice a' n' c' ∧ Own w2 B 2 a' n' c' (I (gl (gm D.tabs k) i))) ∧ Ext wo w2) (fun _ x _ => n2 - (intOf x).toNat)
        case atStart => exact ⟨0, _, 0, [], Nat.zero_le _, rfl, rfl, HLit.out, (fun i hi => by omega), (by repeat (first | (with_reducible exact Ext.refl _) | (with_reducible refine Ext.drewN ?_ _) | (with_reducible refine Ext.drew ?_) | (with_reducible refine Ext.alloc ?_ _) | ((with_reducible refine Ext.setCell ?_ ?_ _); rotate_left; focus (first | (simp; done) | (simp; omega) | omega)) | assumption | (with_reducible refine Ext.trans ?_ (by assumption))))⟩
        case round =>
          obtain ⟨j, ad2, cc2, vs2, hj, rfl, rfl, ho2, hps2, hx2⟩ := hrel
          have HO2 := Lib.hid ho2
          have HPS2 := Lib.hid hps2
          have hx2' : Ext wo wr := hx2
          have hxw2 : Ext w wr := hxr.trans hx2
          have hB2 : B ≤ wr.heap.size := by rw [HB.out]; exact hx2.le
          clear ho2 hps2
          by_cases hlt2 : j < n2
          · obtain ⟨b3, off3, a3, n3, c3, ⟨f3, f4⟩, hi3⟩ := HM2.out.one (P := Try.prog) 101 23 und_rows cell_row1 (j : Int) (by omega) (by omega)
            rw [show (j : Int).toNat = j by omega] at hi3
            have HL3 := Lib.hid hi3.len
            have HC := Lib.hid (spec_own a3 n3 c3 (gl (gm D.tabs k) j) wr (hi3.ext hxw2) (by rw [← HL3.out]; have := HS1.out _ (gl_mem (l := gm D.tabs k) (k := j) (by rw [HL2.out]; exact hlt2)); omega))
            clear hi3
            go_wp2_with fail
            refine HC.out.mono ?_
            rintro e w5 ⟨a6, c6, rfl, ho6, hx6⟩
            rw [I_len, HL3.out] at ho6 ⊢
            have HO6 := Lib.hid (ho6.mono hB2)
            have HO25 := Lib.hid (HO2.out.ext hx6)
            have hx25 : Ext wo w5 := hx2.trans hx6
            clear ho6
            go_wp2_with (at_builtin; refine law_append1 _ rfl _ _ 101 rfl 23 (.slice none 0 0) 24 und_rows info_row1 rfl B ad2 j cc2 vs2 _ rfl rfl rfl HO25.out (Nat.le_trans hB2 hx6.le) (by omega) (by omega) ?_; intro ad' c' w6 hoz hbz hgz)
            have hx6' : Ext wo w6 := Ext.below hx25 (by rw [← HB.out]; exact hbz)
            refine ⟨⟨j + 1, ad', c', _, by omega, by go_num, rfl, hoz, (fun i hi => ?_), hx6'⟩, by simp [intOf]; omega⟩
            have hvl := HO2.out.len
            by_cases h : i < j
            · obtain ⟨a', n', c'', g1, g2⟩ := HPS2.out i h
              exact ⟨a', n', c'', (gv_lt (by omega)).trans g1, (g2.ext hx6).grownT HO25.out hgz (by decide)⟩
            · obtain rfl : i = j := by omega
              exact ⟨a6, n3, c6, gv_last hvl, HO6.out.grownT HO25.out hgz (by decide)⟩
          · obtain rfl : j = n2 := by omega
            have HMat := Lib.hid (show OwnMat wr B 23 2 ad2 j cc2 (gm D.tabs k) from ⟨HL2.out, vs2, HO2.out, HPS2.out⟩)
            have hS2 := HS.out.ext hx2
            have HS2 := Lib.hid hS2
            have hcl := hS2.cell 4 (by simp)
            have hcl' : wr.cell? ⟨g, 4, none⟩ = some (.slice ad k cc) := hcl
            have hgl := hS2.lt
            have HE2 := Lib.hid (HE.out.ext hx2)
            clear hS2 hcl
            go_wp2_with (at_builtin; refine law_append1 _ rfl _ _ 22 rfl 101 (.slice none 0 0) 24 und_tabs info_tab1 rfl (w.heap.size + 1) ad k cc vs _ rfl rfl rfl HE2.out (Nat.le_trans hszr hx2.le) (by omega) (by omega) ?_; intro ad' c' w6 hoz hbz hgz; have hS6 := HS2.out.grown hgz (row_ne_s (HE2.out.ne_s HS2.out (by decide))); have hcl6 : w6.cell? ⟨g, 4, none⟩ = some (.slice ad k cc) := hS6.cell 4 (by simp); have hfr6 := hS6.frozen 4; have hgl6 := hS6.lt; have HS6 := Lib.hid hS6; clear hS6)
            have hv2 := HE.out.len
            refine ⟨⟨k + 1, ad', c', _, by omega, by go_num, HS6.out.set 4 (.slice ad' (k + 1) c'), hoz.setS HS6.out (by decide) 4 _, (fun i hi => ?_), ((HP.out.ext hx2).grownT HE2.out hgz (by decide)).setS HS6.out (by decide) 4 _, ?_⟩, by simp [intOf]; omega⟩
            · by_cases h : i < k
              · obtain ⟨a', n', c'', g1, g2⟩ := HPS.out i h
                exact ⟨a', n', c'', (gv_lt (by omega)).trans g1, ((g2.ext hx2).grownT HE2.out hgz (by decide) (by decide)).setS HS6.out (by decide) (by decide) 4 _⟩
              · obtain rfl : i = k := by omega
                exact ⟨ad2, j, cc2, gv_last hv2, ((HMat.out.mono (by rw [HB.out]; exact hszr)).grownT HE2.out hgz (by decide) (by decide)).setS HS6.out (by decide) (by decide) 4 _⟩
            · exact Ext.setCell (Ext.below (HX.out.trans hx2) (Below.mono hbz (by rw [szZ]; exact Nat.le_refl _))) (by rw [szZ]; exact hg) _
      · obtain rfl : k = n := by omega
        have hS := HS.out
        have q0 : wo.cell? ⟨g, 0, none⟩ = some (.int .i64 D.base) := hS.cell 0 (by simp)
        have q1 : wo.cell? ⟨g, 1, none⟩ = some (.int .i64 D.states) := hS.cell 1 (by simp)
        have q2 : wo.cell? ⟨g, 2, none⟩ = some (.int .i64 D.start) := hS.cell 2 (by simp)
        have q3 : wo.cell? ⟨g, 3, none⟩ = some (.int .i64 D.fin) := hS.cell 3 (by simp)
        have q4 : wo.cell? ⟨g, 4, none⟩ = some (.slice ad k cc) := hS.cell 4 (by simp)
        have q5 : wo.cell? ⟨g, 5, none⟩ = some (.slice a5 m c5) := hS.cell 5 (by simp)
        obtain ⟨hcz, hfz⟩ := bcell HX.out
        have hzl : w.heap.size < wo.heap.size := by omega
        clear hS
        go_wp2
        refine bodyPost_ret (v := .agg #[.int .i64 D.base, .int .i64 D.states, .int .i64 D.start, .int .i64 D.fin, .slice ad k cc, .slice a5 m c5]) ?_ rfl ?_
        · simp [results, Try.results66, go_sem, hcz]
        · refine ⟨ad, cc, a5, c5, rfl, ?_, ?_, (by repeat (first | (with_reducible exact Ext.refl _) | (with_reducible refine Ext.drewN ?_ _) | (with_reducible refine Ext.drew ?_) | (with_reducible refine Ext.alloc ?_ _) | ((with_reducible refine Ext.setCell ?_ ?_ _); rotate_left; focus (first | (simp; done) | (simp; omega) | omega)) | assumption | (with_reducible refine Ext.trans ?_ (by assumption))))⟩
          · refine OwnCube.mono (B := w.heap.size + 1) ?_ (by omega)
            have hcu : OwnCube wo (w.heap.size + 1) 101 23 2 ad k cc D.tabs := ⟨HT.out, vs, HE.out, HPS.out⟩
            repeat (first | (with_reducible exact hcu) | ((with_reducible refine OwnCube.setBelow ?_ ?_ _); rotate_left; focus (first | (simp; done) | (simp; omega) | omega)))
          · refine Own.mono (B := w.heap.size + 1) (by repeat (first | (with_reducible exact HP.out) | ((with_reducible refine Own.setBelow ?_ ?_ _); rotate_left; focus (first | (simp; done) | (simp; omega) | omega)))) (by omega)
end Go.Proofs.Ytdekplfjnkbidaa
