/- Walks: the laws' copies of tables and chains: each row between bounds of its own. -/
import Derived.Test.YtbcfbkhbangeoaaChg
import Derived.Test.YtbcfbkhbangeoaaChL
namespace Go.Proofs.Ytbcfbkhbangeoaa
set_option maxRecDepth 100000
open Go.RowKit

def RetMatR (ll : List (List Int)) (w : World) (e : Ending) (w' : World) : Prop := ∃ a c, e = .returned (.slice a ll.length c) ∧ MatR w' w.heap.size w'.heap.size 23 2 a ll.length c ll ∧ Ext w w'
def RetCubeR (l : List (List (List Int))) (w : World) (e : Ending) (w' : World) : Prop := ∃ a c, e = .returned (.slice a l.length c) ∧ CubeR w' w.heap.size w'.heap.size 81 23 2 a l.length c l ∧ Ext w w'
set_option maxHeartbeats 1000000 in
theorem toSSr (a : Option Addr) (n c : Nat) (ll : List (List Int)) (w : World) (hv : Mat w a n c ll) (hn : n ≤ 4194304) (hsm : (∀ r ∈ ll, r.length ≤ 4194304)) :
    Calls Try.prog 69 #[.slice a n c] w (RetMatR ll w) := by
  have HV := Lib.hid hv
  have HL := Lib.hid hv.len
  have Hhsm := Lib.hid hsm; clear hsm
  clear hv
  go_enter Try.func69, Try.ntmps69
  go_wp2_with (at_make; refine law_make _ rfl _ _ 81 rfl 23 (.slice none 0 0) 24 und_rows info_row1 rfl _ _ n rfl rfl (by omega) (by unfold maxLen; omega) ?_; intro w1 hown hx hsz)
  obtain ⟨g, hg⟩ : ∃ g, g = w.heap.size := ⟨_, rfl⟩
  rw [← hg] at hown
  rw [← hg]
  have HG := Lib.hid hg
  have HR0 := Lib.hid (Row.zero (s := fun _ => 0) (t := fun _ => 0) (RI 2 ll) (hown.mono (B' := w.heap.size) (by rw [hg]; exact Nat.le_refl _)) (Nat.le_refl w1.heap.size))
  clear hg hown
  go_wp2
  go_loopw [4] (fun i wr => ∃ (k : Nat) (vs : List Value) (s t : Nat → Nat), k ≤ n ∧ i = .int .i64 k ∧ Row wr w.heap.size wr.heap.size 23 (some ⟨g, 0, none⟩) n n vs k s t (RI 2 ll) ∧ Ext w wr) (fun i _ => n - (intOf i).toNat)
  case atStart => exact ⟨0, _, _, _, Nat.zero_le _, rfl, HR0.out, hx⟩
  case round =>
    obtain ⟨k, vs, s, t, hk, rfl, hrow, hxr⟩ := hrel
    have HRow := Lib.hid hrow
    have HO := Lib.hid hrow.own
    have hxq : Ext w wr := hxr
    clear hrow
    by_cases hlt : k < n
    · obtain ⟨b, off, a2, n2, c2, ⟨f1, f2⟩, hi2⟩ := HV.out.one (P := Try.prog) 81 23 und_rows cell_row1 (k : Int) (by omega) (by omega)
      rw [show (k : Int).toNat = k by omega] at hi2
      obtain ⟨hia', hcell', hfr⟩ := HO.out.at (P := Try.prog) 81 und_rows cell_row1 k hlt .i64
      have hgB := HO.out.lt
      obtain ⟨y, hyy⟩ : ∃ y, y = vs.getD k undef := ⟨_, rfl⟩
      rw [← hyy] at hcell'
      clear hyy
      have HL2 := Lib.hid hi2.len
      have HC := Lib.hid (toInts a2 n2 c2 (gl ll k) wr (hi2.ext hxr) (by rw [← HL2.out]; exact Hhsm.out _ (gl_mem (by rw [HL.out]; exact hlt))))
      have Hhi2 := Lib.hid hi2; clear hi2
      go_wp2_with fail
      refine HC.out.mono ?_
      rintro e w5 ⟨a5, c5, rfl, ho5, hx5⟩
      rw [I_len, HL2.out] at ho5 ⊢
      have hxw5 : Ext w w5 := hxr.trans hx5
      have HO5 := Lib.hid (HO.out.ext hx5)
      obtain ⟨hia5, hcell5, hfr5⟩ := HO5.out.at (P := Try.prog) 81 und_rows cell_row1 k hlt .i64
      obtain ⟨y5, hyy5⟩ : ∃ y, y = vs.getD k undef := ⟨_, rfl⟩
      rw [← hyy5] at hcell5
      have HRow5 := Lib.hid (HRow.out.fill (v := .slice a5 n2 c5) (RI.keeps _ _) hx5 hlt ⟨a5, n2, c5, rfl, ho5.in⟩)
      clear ho5 hcell' hfr hyy5
      go_wp2
      exact ⟨⟨k + 1, _, _, _, by omega, by go_num, HRow5.out, hxw5.setCell hgB.1 _⟩, by simp [intOf]; omega⟩
    · obtain rfl : k = n := by omega
      go_wp2
      go_ret
      exact ⟨_, _, by rw [HL.out]; rfl, by rw [HL.out]; exact ⟨vs, s, t, HL.out, HRow.out⟩, hxr⟩
set_option maxHeartbeats 1000000 in
theorem toSSSr (a : Option Addr) (n c : Nat) (ll : List (List (List Int))) (w : World) (hv : Cube w a n c ll) (hn : n ≤ 4194304) (hsm : (∀ t ∈ ll, t.length ≤ 4194304 ∧ ∀ r ∈ t, r.length ≤ 4194304)) :
    Calls Try.prog 31 #[.slice a n c] w (RetCubeR ll w) := by
  have HV := Lib.hid hv
  have HL := Lib.hid hv.len
  have Hhsm := Lib.hid hsm; clear hsm
  clear hv
  go_enter Try.func31, Try.ntmps31
  go_wp2_with (at_make; refine law_make _ rfl _ _ 22 rfl 81 (.slice none 0 0) 24 und_tabs info_tab1 rfl _ _ n rfl rfl (by omega) (by unfold maxLen; omega) ?_; intro w1 hown hx hsz)
  obtain ⟨g, hg⟩ : ∃ g, g = w.heap.size := ⟨_, rfl⟩
  rw [← hg] at hown
  rw [← hg]
  have HG := Lib.hid hg
  have HR0 := Lib.hid (Row.zero (s := fun _ => 0) (t := fun _ => 0) (RM 23 2 ll) (hown.mono (B' := w.heap.size) (by rw [hg]; exact Nat.le_refl _)) (Nat.le_refl w1.heap.size))
  clear hg hown
  go_wp2
  go_loopw [4] (fun i wr => ∃ (k : Nat) (vs : List Value) (s t : Nat → Nat), k ≤ n ∧ i = .int .i64 k ∧ Row wr w.heap.size wr.heap.size 81 (some ⟨g, 0, none⟩) n n vs k s t (RM 23 2 ll) ∧ Ext w wr) (fun i _ => n - (intOf i).toNat)
  case atStart => exact ⟨0, _, _, _, Nat.zero_le _, rfl, HR0.out, hx⟩
  case round =>
    obtain ⟨k, vs, s, t, hk, rfl, hrow, hxr⟩ := hrel
    have HRow := Lib.hid hrow
    have HO := Lib.hid hrow.own
    have hxq : Ext w wr := hxr
    clear hrow
    by_cases hlt : k < n
    · obtain ⟨b, off, a2, n2, c2, ⟨f1, f2⟩, hi2⟩ := HV.out.one (P := Try.prog) 22 81 und_tabs cell_tab1 (k : Int) (by omega) (by omega)
      rw [show (k : Int).toNat = k by omega] at hi2
      obtain ⟨hia', hcell', hfr⟩ := HO.out.at (P := Try.prog) 22 und_tabs cell_tab1 k hlt .i64
      have hgB := HO.out.lt
      obtain ⟨y, hyy⟩ : ∃ y, y = vs.getD k undef := ⟨_, rfl⟩
      rw [← hyy] at hcell'
      clear hyy
      have HL2 := Lib.hid hi2.len
      have HC := Lib.hid (toSSr a2 n2 c2 (gm ll k) wr (hi2.ext hxr) (by rw [← HL2.out]; exact (Hhsm.out _ (gm_mem (by rw [HL.out]; exact hlt))).1) (Hhsm.out _ (gm_mem (by rw [HL.out]; exact hlt))).2)
      have Hhi2 := Lib.hid hi2; clear hi2
      go_wp2_with fail
      refine HC.out.mono ?_
      rintro e w5 ⟨a5, c5, rfl, ho5, hx5⟩
      rw [HL2.out] at ho5 ⊢
      have hxw5 : Ext w w5 := hxr.trans hx5
      have HO5 := Lib.hid (HO.out.ext hx5)
      obtain ⟨hia5, hcell5, hfr5⟩ := HO5.out.at (P := Try.prog) 22 und_tabs cell_tab1 k hlt .i64
      obtain ⟨y5, hyy5⟩ : ∃ y, y = vs.getD k undef := ⟨_, rfl⟩
      rw [← hyy5] at hcell5
      have HRow5 := Lib.hid (HRow.out.fill (v := .slice a5 n2 c5) (RM.keeps _ _ _) hx5 hlt ⟨a5, n2, c5, rfl, ho5⟩)
      clear ho5 hcell' hfr hyy5
      go_wp2
      exact ⟨⟨k + 1, _, _, _, by omega, by go_num, HRow5.out, hxw5.setCell hgB.1 _⟩, by simp [intOf]; omega⟩
    · obtain rfl : k = n := by omega
      go_wp2
      go_ret
      exact ⟨_, _, by rw [HL.out]; rfl, by rw [HL.out]; exact ⟨vs, s, t, HL.out, HRow.out⟩, hxr⟩
/-- a chain between two bounds -/
def ChR (w : World) (lo hi : Nat) (D : Ch) (a : Option Addr) (n c : Nat) (b : Option Addr) (m d : Nat) : Prop :=
  ∃ h1, lo ≤ h1 ∧ h1 ≤ hi ∧ CubeR w lo h1 81 23 2 a n c D.tabs ∧ OwnIn w h1 hi 2 b m d (I D.places)
section
variable {w w' : World} {lo hi : Nat} {D : Ch} {a : Option Addr} {n c : Nat} {b : Option Addr} {m d : Nat}
theorem ChR.chg {lo' hi' : Nat} (h : ChR w lo hi D a n c b m d) (hc : Chg lo' hi' w w') (hd : hi' ≤ lo ∨ hi ≤ lo') : ChR w' lo hi D a n c b m d :=
  let ⟨h1, g1, g2, g3, g4⟩ := h; ⟨h1, g1, g2, g3.chg hc (by omega), g4.chg hc (by omega)⟩
theorem ChR.ext (h : ChR w lo hi D a n c b m d) (hx : Ext w w') : ChR w' lo hi D a n c b m d := h.chg (Chg.ext hx 0 0) (.inl (Nat.zero_le _))
theorem ChR.mono {lo' hi' : Nat} (h : ChR w lo hi D a n c b m d) (hl : lo' ≤ lo) (hh : hi ≤ hi') : ChR w lo' hi' D a n c b m d :=
  let ⟨h1, g1, g2, g3, g4⟩ := h; ⟨h1, by omega, by omega, g3.mono hl (Nat.le_refl _), g4.mono (Nat.le_refl _) hh⟩
theorem ChR.inn (h : ChR w lo hi D a n c b m d) (hn : n ≤ 1048576) (hm : m ≤ 1048576) (hs : SmallCh D) : ChIn w D a n c b m d :=
  let ⟨_, _, _, g3, g4⟩ := h; ⟨g3.cube, g4.1.ints, hn, hm, hs⟩
end
/-- a chain of the call's own, between bounds -/
def RetChR (D : Ch) (n m : Nat) (w : World) (e : Ending) (w' : World) : Prop :=
  ∃ a c b d, e = .returned (.agg #[.int .i64 D.base, .int .i64 D.states, .int .i64 D.start, .int .i64 D.fin, .slice a n c, .slice b m d]) ∧ ChR w' w.heap.size w'.heap.size D a n c b m d ∧ Ext w w'
set_option maxHeartbeats 1000000 in
theorem toChr (D : Ch) (a : Option Addr) (n c : Nat) (b : Option Addr) (m d : Nat) (w : World) (hv : ChIn w D a n c b m d) :
    Calls Try.prog 7 #[.agg #[.int .i64 D.base, .int .i64 D.states, .int .i64 D.start, .int .i64 D.fin, .slice a n c, .slice b m d]] w (RetChR D n m w) := by
  have HL := Lib.hid hv.ts.len
  have HP := Lib.hid hv.ps.len
  have hn := hv.hn
  have hn' := hv.hn'
  have HV := Lib.hid hv
  clear hv
  go_enter Try.func7, Try.ntmps7
  go_wp2_with fail
  refine (toSSSr a n c D.tabs _ (HV.out.ts.ext (by repeat (first | (with_reducible exact Ext.refl _) | (with_reducible refine Ext.drewN ?_ _) | (with_reducible refine Ext.drew ?_) | (with_reducible refine Ext.alloc ?_ _) | ((with_reducible refine Ext.setCell ?_ ?_ _); rotate_left; focus (first | (simp; done) | (simp; omega) | omega)) | assumption | (with_reducible refine Ext.trans ?_ (by assumption))))) (by omega) (fun t ht => ⟨by have := (HV.out.sm t ht).1; omega, fun r hr => by have := (HV.out.sm t ht).2 r hr; omega⟩)).mono ?_
  rintro e w1 ⟨a1, c1, rfl, ho1, hx1⟩
  rw [HL.out] at ho1 ⊢
  have hw1 : Ext w w1 := Ext.trans (by repeat (first | (with_reducible exact Ext.refl _) | (with_reducible refine Ext.drewN ?_ _) | (with_reducible refine Ext.drew ?_) | (with_reducible refine Ext.alloc ?_ _) | ((with_reducible refine Ext.setCell ?_ ?_ _); rotate_left; focus (first | (simp; done) | (simp; omega) | omega)) | assumption | (with_reducible refine Ext.trans ?_ (by assumption)))) hx1
  obtain ⟨hc, hf⟩ := bcell hx1
  have hz1 : w.heap.size + 3 ≤ w1.heap.size := by have := hx1.le; simp at this; omega
  have hz1a : w.heap.size + 1 + 1 < w1.heap.size := by omega
  have hz1b : w.heap.size + 1 < w1.heap.size := by omega
  have hz1c : w.heap.size < w1.heap.size := by omega
  have HO1 := Lib.hid (ho1.mono (lo' := w.heap.size + 3) (hi' := w1.heap.size) (by simp) (Nat.le_refl _))
  have HX1 := Lib.hid hx1
  clear ho1 hx1
  go_wp2_with fail
  refine (toInts b m d D.places _ (HV.out.ps.ext (by repeat (first | (with_reducible exact Ext.refl _) | (with_reducible refine Ext.drewN ?_ _) | (with_reducible refine Ext.drew ?_) | (with_reducible refine Ext.alloc ?_ _) | ((with_reducible refine Ext.setCell ?_ ?_ _); rotate_left; focus (first | (simp; done) | (simp; omega) | omega)) | assumption | (with_reducible refine Ext.trans ?_ (by assumption))))) (by omega)).mono ?_
  rintro e w2 ⟨a2, c2, rfl, ho2, hx2⟩
  rw [I_len, HP.out] at ho2 ⊢
  obtain ⟨hc2, hf2⟩ := bcell hx2
  have HO2 := Lib.hid (ho2.mono (B' := w1.heap.size) (by simp)).in
  have HO1b := Lib.hid ((HO1.out.chg (lo' := 0) (hi' := w.heap.size + 3) (Chg.set w1 4 (.slice a1 n c1) (g := w.heap.size + 2) (by omega) (by omega)) (.inl (Nat.le_refl _))).ext hx2)
  have hw2 : Ext w w2 := Ext.trans (by repeat (first | (with_reducible exact Ext.refl _) | (with_reducible refine Ext.drewN ?_ _) | (with_reducible refine Ext.drew ?_) | (with_reducible refine Ext.alloc ?_ _) | ((with_reducible refine Ext.setCell ?_ ?_ _); rotate_left; focus (first | (simp; done) | (simp; omega) | omega)) | assumption | (with_reducible refine Ext.trans ?_ (by assumption)))) hx2
  have hz2 : w1.heap.size ≤ w2.heap.size := by have := hx2.le; simpa using this
  have hz2a : w.heap.size + 1 + 1 < w2.heap.size := by omega
  have hz2b : w.heap.size + 1 < w2.heap.size := by omega
  have hz2c : w.heap.size < w2.heap.size := by omega
  have HX2 := Lib.hid hx2
  clear ho2
  go_wp2
  refine bodyPost_ret (v := .agg #[.int .i64 D.base, .int .i64 D.states, .int .i64 D.start, .int .i64 D.fin, .slice a1 n c1, .slice a2 m c2]) ?_ rfl ?_
  · simp [results, Try.results7, go_sem, hc, hc2, hz1b]
  · refine ⟨a1, c1, a2, c2, rfl, ?_, (by repeat (first | (with_reducible exact Ext.refl _) | (with_reducible refine Ext.drewN ?_ _) | (with_reducible refine Ext.drew ?_) | (with_reducible refine Ext.alloc ?_ _) | ((with_reducible refine Ext.setCell ?_ ?_ _); rotate_left; focus (first | (simp; done) | (simp; omega) | omega)) | (with_reducible refine Ext.trans ?_ HX2.out) | (with_reducible refine Ext.trans ?_ HX1.out)))⟩
    refine (ChR.mono (lo := w.heap.size + 3) (hi := w2.heap.size) ?_ (by omega) (by simp))
    have hcr : ChR w2 (w.heap.size + 3) w2.heap.size D a1 n c1 a2 m c2 := ⟨w1.heap.size, hz1, hz2, HO1b.out, HO2.out⟩
    refine ChR.chg (lo' := 0) (hi' := w.heap.size + 3) hcr ?_ (.inl (Nat.le_refl _))
    clear hcr HO1b HO2 HO1
    exact (by repeat (first | (with_reducible exact Chg.refl _ _ _) | (with_reducible assumption) | ((with_reducible refine Chg.trans ?_ (Chg.setP _ _ _ ?_ ?_)); rotate_left; (focus (first | (simp; done) | (simp; omega) | omega)); (focus (first | (simp; done) | (simp; omega) | omega))) | (with_reducible refine Chg.trans ?_ (Chg.ext (Ext.alloc (Ext.refl _) _) _ _)) | (with_reducible refine Chg.trans ?_ (Chg.ext (Ext.drew (Ext.refl _)) _ _)) | (with_reducible refine Chg.trans ?_ (Chg.ext (Ext.drewN (Ext.refl _) _) _ _))))
end Go.Proofs.Ytbcfbkhbangeoaa
