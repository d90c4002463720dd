/- Walks: the program's copies of tables and chains. -/
import Derived.Test.YtdekplfjnkbidaaToR
namespace Go.Proofs.Ytdekplfjnkbidaa
set_option maxRecDepth 100000
open Go.RowKit

set_option maxHeartbeats 1000000 in
theorem impl_cloneTable (a : Option Addr) (n c : Nat) (ll : List (List Int)) (w : World) (hv : Mat w a n c ll) (hn : n ≤ 1048576) (hsm : ∀ r ∈ ll, r.length ≤ 4194304) :
    Calls Try.prog 108 #[.slice a n c] w (RetMatR ll w) := by
  have HV := Lib.hid hv
  have HL := Lib.hid hv.len
  have Hhsm := Lib.hid hsm; clear hsm
  clear hv
  go_enter Try.func108, Try.ntmps108
  go_wp2_with fail
  go_loopw [3, 5, 9] (fun o _ i wr => ∃ (k : Nat) (ad : Option Addr) (cc : Nat) (vs : List Value) (s t : Nat → Nat), k ≤ n ∧ i = .int .i64 k ∧ o = .slice ad k cc ∧ Row wr w.heap.size wr.heap.size 23 ad k cc vs k s t (RI 2 ll) ∧ Ext w wr) (fun _ _ i _ => n - (intOf i).toNat)
  case atStart => exact ⟨0, _, 0, [], fun _ => 0, fun _ => 0, Nat.zero_le _, rfl, rfl, Row.zero _ (Own.lit0 w _) (Nat.le_refl _), (by repeat (first | (with_reducible exact Ext.refl _) | (with_reducible refine Ext.drewN ?_ _) | (with_reducible refine Ext.drew ?_) | (with_reducible refine Ext.alloc ?_ _) | ((with_reducible refine Ext.setCell ?_ ?_ _); rotate_left; focus (first | (simp; done) | (simp; omega) | omega)) | assumption | (with_reducible refine Ext.trans ?_ (by assumption))))⟩
  case round =>
    obtain ⟨k, ad, cc, vs, s, t, hk, rfl, rfl, hrow, hx⟩ := hrel
    have HRow := Lib.hid hrow
    have hxr : Ext w wr := hx
    clear hrow
    by_cases hlt : k < n
    · obtain ⟨b, off, a2, n2, c2, ⟨f1, f2⟩, hi2⟩ := HV.out.one (P := Try.prog) 101 23 und_rows cell_row1 (k : Int) (by omega) (by omega)
      rw [show (k : Int).toNat = k by omega] at hi2
      have HL2 := Lib.hid hi2.len
      have HC := Lib.hid (clone_ints a2 n2 c2 (gl ll k) wr (hi2.ext hx) (by rw [← HL2.out]; have := Hhsm.out _ (gl_mem (l := ll) (k := k) (by rw [HL.out]; exact hlt)); omega))
      clear hi2
      go_wp2_with fail
      refine HC.out.mono ?_
      rintro e w5 ⟨a5, c5, rfl, ho5, hx5, _⟩
      rw [I_len, HL2.out] at ho5 ⊢
      have HO5 := Lib.hid ho5
      have hxw5 : Ext w w5 := hxr.trans hx5
      clear ho5
      go_wp2_with (at_builtin; refine law_append1_at _ rfl _ _ 101 rfl 23 (.slice none 0 0) 24 und_rows info_row1 rfl w.heap.size ad k cc vs _ rfl rfl rfl (HRow.out.own.ext hx5) hxw5.le (by omega) (by omega) ?_; intro ad' c' w6 ho6 hb6 hg6 hbk6; have hxw6 : Ext w w6 := Ext.below hxw5 hb6)
      have HRow6 := Lib.hid (HRow.out.push (RI.keeps _ _) hx5 hxr.le ⟨a5, n2, c5, rfl, HO5.out.in⟩ ho6 hg6 hbk6)
      exact ⟨⟨k + 1, _, _, _, _, _, by omega, by go_num, rfl, HRow6.out, hxw6⟩, by simp [intOf]; omega⟩
    · obtain rfl : k = n := by omega
      go_wp2
      go_ret
      exact ⟨_, _, by rw [HL.out]; rfl, by rw [HL.out]; exact ⟨vs, s, t, HL.out, HRow.out⟩, hx⟩
set_option maxHeartbeats 2000000 in
theorem impl_cloneChain (D : Ch) (a : Option Addr) (n c : Nat) (b : Option Addr) (m d : Nat) (w : World) (hv : ChIn w D a n c b m d) :
    Calls Try.prog 68 #[.agg #[.int .i64 D.base, .int .i64 D.states, .int .i64 D.start, .int .i64 D.fin, .slice a n c, .slice b m d]] w (RetChR D n m w) := by
  have HB := Lib.hid (hv.box 31)
  have HV := Lib.hid hv
  have HL := Lib.hid hv.ts.len
  have HP := Lib.hid hv.ps.len
  have hn := hv.hn
  have hm := hv.hn'
  have HSm := Lib.hid hv.sm
  clear hv
  go_enter Try.func68, Try.ntmps68
  go_wp2_with fail
  have hq1 : ((w.alloc (.cells #[.int .i64 D.base, .int .i64 D.states, .int .i64 D.start, .int .i64 D.fin, .slice a n c, .slice b m d] 31)).alloc (.cells #[.int .i64 0, .int .i64 0, .int .i64 0, .int .i64 0, .slice none 0 0, .slice none 0 0] 31)).heap.size = w.heap.size + 2 := by simp
  have h0 := Own.lit0 ((w.alloc (.cells #[.int .i64 D.base, .int .i64 D.states, .int .i64 D.start, .int .i64 D.fin, .slice a n c, .slice b m d] 31)).alloc (.cells #[.int .i64 0, .int .i64 0, .int .i64 0, .int .i64 0, .slice none 0 0, .slice none 0 0] 31)) 101
  rw [hq1] at h0
  have H0 := Lib.hid h0
  clear h0
  go_loopw [3, 5, 10] (fun o _ i wr => ∃ (k : Nat) (ad : Option Addr) (cc : Nat) (vs : List Value) (s t : Nat → Nat), k ≤ n ∧ i = .int .i64 k ∧ o = .slice ad k cc ∧ Row wr (w.heap.size + 2) wr.heap.size 101 ad k cc vs k s t (RM 23 2 D.tabs) ∧
      Ext ((w.alloc (.cells #[.int .i64 D.base, .int .i64 D.states, .int .i64 D.start, .int .i64 D.fin, .slice a n c, .slice b m d] 31)).alloc (.cells #[.int .i64 0, .int .i64 0, .int .i64 0, .int .i64 0, .slice none 0 0, .slice none 0 0] 31)) wr) (fun _ _ i _ => n - (intOf i).toNat)
  case atStart => exact ⟨0, _, 0, [], fun _ => 0, fun _ => 0, Nat.zero_le _, rfl, rfl, Row.zero _ H0.out (Nat.le_refl _), (Ext.refl _).alloc _⟩
  case round =>
    obtain ⟨k, ad, cc, vs, s, t, hk, rfl, rfl, hrow, hx⟩ := hrel
    have HRow := Lib.hid hrow
    have HX := Lib.hid hx
    have hxw : Ext w wr := Ext.trans (((Ext.refl w).alloc _).alloc _) hx
    obtain ⟨hc, hf⟩ := bcell hx
    have hsz : w.heap.size + 2 ≤ wr.heap.size := by have := hx.le; rw [hq1] at this; exact this
    clear hrow hx
    by_cases hlt : k < n
    · obtain ⟨bb, off, a2, n2, c2, ⟨f1, f2⟩, hi2⟩ := HV.out.ts.one (P := Try.prog) 22 101 und_tabs cell_tab1 (k : Int) (by omega) (by omega)
      rw [show (k : Int).toNat = k by omega] at hi2
      have HL2 := Lib.hid hi2.len
      have hs1 := HSm.out _ (gm_mem (l := D.tabs) (k := k) (by rw [HL.out]; exact hlt))
      have HC := Lib.hid (impl_cloneTable a2 n2 c2 (gm D.tabs k) wr (hi2.ext hxw) (by rw [← HL2.out]; omega) (fun r hr => by have := hs1.2 r hr; omega))
      clear hi2 hs1
      go_wp2_with fail
      refine HC.out.mono ?_
      rintro e w5 ⟨a5, c5, rfl, ho5, hx5⟩
      rw [HL2.out] at ho5 ⊢
      have HO5 := Lib.hid ho5
      have HX5 := Lib.hid (HX.out.trans hx5)
      have hle5 := hx5.le
      clear ho5
      go_wp2_with (at_builtin; refine law_append1_at _ rfl _ _ 22 rfl 101 (.slice none 0 0) 24 und_tabs info_tab1 rfl (w.heap.size + 2) ad k cc vs _ rfl rfl rfl (HRow.out.own.ext hx5) (by omega) (by omega) (by omega) ?_; intro ad' c' w6 ho6 hb6 hg6 hbk6)
      have HX6 := Lib.hid (Ext.below HX5.out (Below.mono hb6 (by rw [hq1]; exact Nat.le_refl _)))
      have HRow6 := Lib.hid (HRow.out.push (RM.keeps _ _ _) hx5 hsz ⟨a5, n2, c5, rfl, HO5.out⟩ ho6 hg6 hbk6)
      exact ⟨⟨k + 1, _, _, _, _, _, by omega, by go_num, rfl, HRow6.out, HX6.out⟩, by simp [intOf]; omega⟩
    · obtain rfl : k = n := by omega
      have HC := Lib.hid (clone_ints b m d D.places wr (HV.out.ps.ext hxw) (by omega))
      have hza : w.heap.size + 1 < wr.heap.size := by omega
      have hzb : w.heap.size < wr.heap.size := by omega
      go_wp2_with fail
      refine HC.out.mono ?_
      rintro e w5 ⟨a5, c5, rfl, ho5, hx5, _⟩
      rw [I_len, HP.out] at ho5 ⊢
      obtain ⟨hc5, hf5⟩ := bcell hx5
      have HO5 := Lib.hid ho5.in
      have HRow5 := Lib.hid (HRow.out.ext (RM.keeps _ _ _) hx5)
      have HX5 := Lib.hid hx5
      have hz5a : w.heap.size + 1 < w5.heap.size := by have := hx5.le; omega
      have hz5b : w.heap.size < w5.heap.size := by omega
      have hz5 : wr.heap.size ≤ w5.heap.size := hx5.le
      clear ho5
      go_wp2
      refine bodyPost_ret (v := .agg #[.int .i64 D.base, .int .i64 D.states, .int .i64 D.start, .int .i64 D.fin, .slice ad k cc, .slice a5 m c5]) ?_ rfl ?_
      · simp [results, Try.results68, go_sem, hc, hc5, hza]
      · have hxf : Ext w w5 := hxw.trans hx5
        refine ⟨ad, cc, a5, c5, rfl, ?_, (by repeat (first | (with_reducible exact Ext.refl _) | (with_reducible refine Ext.drewN ?_ _) | (with_reducible refine Ext.drew ?_) | (with_reducible refine Ext.alloc ?_ _) | ((with_reducible refine Ext.setCell ?_ ?_ _); rotate_left; focus (first | (simp; done) | (simp; omega) | omega)) | (with_reducible refine Ext.trans ?_ HX5.out) | (with_reducible refine Ext.trans ?_ hxw)))⟩
        refine (ChR.mono (lo := w.heap.size + 2) (hi := w5.heap.size) ?_ (by omega) (by simp))
        have hcr : ChR w5 (w.heap.size + 2) w5.heap.size D ad k cc a5 m c5 := ⟨wr.heap.size, hsz, hz5, ⟨vs, s, t, HL.out, HRow5.out⟩, HO5.out⟩
        refine ChR.chg (lo' := 0) (hi' := w.heap.size + 2) hcr ?_ (.inl (Nat.le_refl _))
        exact (by repeat (first | (with_reducible exact Chg.refl _ _ _) | (with_reducible assumption) | ((with_reducible refine Chg.trans ?_ (Chg.setP _ _ _ ?_ ?_)); rotate_left; (focus (first | (simp; done) | (simp; omega) | omega)); (focus (first | (simp; done) | (simp; omega) | omega))) | (with_reducible refine Chg.trans ?_ (Chg.ext (Ext.alloc (Ext.refl _) _) _ _)) | (with_reducible refine Chg.trans ?_ (Chg.ext (Ext.drew (Ext.refl _)) _ _)) | (with_reducible refine Chg.trans ?_ (Chg.ext (Ext.drewN (Ext.refl _) _) _ _))))
end Go.Proofs.Ytdekplfjnkbidaa
