/- Walks: the laws' copies of tables and chains: each row between bounds of its own. -/
import Derived.Test.YtbcfbkhbangeoaaGreatChg
import Derived.Test.YtbcfbkhbangeoaaGreatChL
import Derived.Test.YtbcfbkhbangeoaaGreatMark
import Derived.Laws.BytesArg
import Derived.Test.YtbcfbkhbangeoaaGreatStrs
import Derived.Test.YtbcfbkhbangeoaaGreatRgAt
import Derived.Test.YtbcfbkhbangeoaaGreatSAt
namespace Go.Proofs.YtbcfbkhbangeoaaGreat
set_option maxRecDepth 100000
open Go.RowKit

def RetMatR (ll : List (List Int)) (w : World) (e : Ending) (w' : World) : Prop := ∃ a c, e = .returned (.slice a ll.length c) ∧ MatR w' w.heap.size w'.heap.size 25 2 a ll.length c ll ∧ Ext w w'
def RetCubeR (l : List (List (List Int))) (w : World) (e : Ending) (w' : World) : Prop := ∃ a c, e = .returned (.slice a l.length c) ∧ CubeR w' w.heap.size w'.heap.size 60 25 2 a l.length c l ∧ Ext w w'
set_option maxHeartbeats 1000000 in
theorem toSSr (a : Option Addr) (n c : Nat) (ll : List (List Int)) (w : World) (hv : Mat w a n c ll) (hn : n ≤ 4194304) (hsm : (∀ r ∈ ll, r.length ≤ 4194304)) :
    Calls Tryz.prog 97 #[.slice a n c] w (RetMatR ll w) := by
  have HV := Lib.hid hv
  have HL := Lib.hid hv.len
  have Hhsm := Lib.hid hsm; clear hsm
  clear hv
  go_enter Tryz.func97, Tryz.ntmps97
  go_wp2_with (at_make; refine law_make _ rfl _ _ 60 rfl 25 (.slice none 0 0) 24 und_rows info_row1 rfl _ _ n rfl rfl (by omega) (by unfold maxLen; omega) ?_; intro w1 hown hx hsz)
  obtain ⟨g, hg⟩ : ∃ g, g = w.heap.size := ⟨_, rfl⟩
  rw [← hg] at hown
  rw [← hg]
  have HG := Lib.hid hg
  have HR0 := Lib.hid (Row.zero (s := fun _ => 0) (t := fun _ => 0) (RI 2 ll) (hown.mono (B' := w.heap.size) (by rw [hg]; exact Nat.le_refl _)) (Nat.le_refl w1.heap.size))
  clear hg hown
  go_wp2
  go_loopw [4] (fun i wr => ∃ (k : Nat) (vs : List Value) (s t : Nat → Nat), k ≤ n ∧ i = .int .i64 k ∧ Row wr w.heap.size wr.heap.size 25 (some ⟨g, 0, none⟩) n n vs k s t (RI 2 ll) ∧ Ext w wr) (fun i _ => n - (intOf i).toNat)
  case atStart => exact ⟨0, _, _, _, Nat.zero_le _, rfl, HR0.out, hx⟩
  case round =>
    obtain ⟨k, vs, s, t, hk, rfl, hrow, hxr⟩ := hrel
    have HRow := Lib.hid hrow
    have HO := Lib.hid hrow.own
    have hxq : Ext w wr := hxr
    clear hrow
    by_cases hlt : k < n
    · obtain ⟨b, off, a2, n2, c2, ⟨f1, f2⟩, hi2⟩ := HV.out.one (P := Tryz.prog) 60 25 und_rows cell_row1 (k : Int) (by omega) (by omega)
      rw [show (k : Int).toNat = k by omega] at hi2
      obtain ⟨hia', hcell', hfr⟩ := HO.out.at (P := Tryz.prog) 60 und_rows cell_row1 k hlt .i64
      have hgB := HO.out.lt
      obtain ⟨y, hyy⟩ : ∃ y, y = vs.getD k undef := ⟨_, rfl⟩
      rw [← hyy] at hcell'
      clear hyy
      have HL2 := Lib.hid hi2.len
      have HC := Lib.hid (toInts a2 n2 c2 (gl ll k) wr (hi2.ext hxr) (by rw [← HL2.out]; exact Hhsm.out _ (gl_mem (by rw [HL.out]; exact hlt))))
      have Hhi2 := Lib.hid hi2; clear hi2
      go_wp2_with fail
      refine HC.out.mono ?_
      rintro e w5 ⟨a5, c5, rfl, ho5, hx5⟩
      rw [I_len, HL2.out] at ho5 ⊢
      have hxw5 : Ext w w5 := hxr.trans hx5
      have HO5 := Lib.hid (HO.out.ext hx5)
      obtain ⟨hia5, hcell5, hfr5⟩ := HO5.out.at (P := Tryz.prog) 60 und_rows cell_row1 k hlt .i64
      obtain ⟨y5, hyy5⟩ : ∃ y, y = vs.getD k undef := ⟨_, rfl⟩
      rw [← hyy5] at hcell5
      have HRow5 := Lib.hid (HRow.out.fill (v := .slice a5 n2 c5) (RI.keeps _ _) hx5 hlt ⟨a5, n2, c5, rfl, ho5.in⟩)
      clear ho5 hcell' hfr hyy5
      go_wp2
      exact ⟨⟨k + 1, _, _, _, by omega, by go_num, HRow5.out, hxw5.setCell hgB.1 _⟩, by simp [intOf]; omega⟩
    · obtain rfl : k = n := by omega
      go_wp2
      go_ret
      exact ⟨_, _, by rw [HL.out]; rfl, by rw [HL.out]; exact ⟨vs, s, t, HL.out, HRow.out⟩, hxr⟩
set_option maxHeartbeats 1000000 in
theorem toSSSr (a : Option Addr) (n c : Nat) (ll : List (List (List Int))) (w : World) (hv : Cube w a n c ll) (hn : n ≤ 4194304) (hsm : (∀ t ∈ ll, t.length ≤ 4194304 ∧ ∀ r ∈ t, r.length ≤ 4194304)) :
    Calls Tryz.prog 51 #[.slice a n c] w (RetCubeR ll w) := by
  have HV := Lib.hid hv
  have HL := Lib.hid hv.len
  have Hhsm := Lib.hid hsm; clear hsm
  clear hv
  go_enter Tryz.func51, Tryz.ntmps51
  go_wp2_with (at_make; refine law_make _ rfl _ _ 24 rfl 60 (.slice none 0 0) 24 und_tabs info_tab1 rfl _ _ n rfl rfl (by omega) (by unfold maxLen; omega) ?_; intro w1 hown hx hsz)
  obtain ⟨g, hg⟩ : ∃ g, g = w.heap.size := ⟨_, rfl⟩
  rw [← hg] at hown
  rw [← hg]
  have HG := Lib.hid hg
  have HR0 := Lib.hid (Row.zero (s := fun _ => 0) (t := fun _ => 0) (RM 25 2 ll) (hown.mono (B' := w.heap.size) (by rw [hg]; exact Nat.le_refl _)) (Nat.le_refl w1.heap.size))
  clear hg hown
  go_wp2
  go_loopw [4] (fun i wr => ∃ (k : Nat) (vs : List Value) (s t : Nat → Nat), k ≤ n ∧ i = .int .i64 k ∧ Row wr w.heap.size wr.heap.size 60 (some ⟨g, 0, none⟩) n n vs k s t (RM 25 2 ll) ∧ Ext w wr) (fun i _ => n - (intOf i).toNat)
  case atStart => exact ⟨0, _, _, _, Nat.zero_le _, rfl, HR0.out, hx⟩
  case round =>
    obtain ⟨k, vs, s, t, hk, rfl, hrow, hxr⟩ := hrel
    have HRow := Lib.hid hrow
    have HO := Lib.hid hrow.own
    have hxq : Ext w wr := hxr
    clear hrow
    by_cases hlt : k < n
    · obtain ⟨b, off, a2, n2, c2, ⟨f1, f2⟩, hi2⟩ := HV.out.one (P := Tryz.prog) 24 60 und_tabs cell_tab1 (k : Int) (by omega) (by omega)
      rw [show (k : Int).toNat = k by omega] at hi2
      obtain ⟨hia', hcell', hfr⟩ := HO.out.at (P := Tryz.prog) 24 und_tabs cell_tab1 k hlt .i64
      have hgB := HO.out.lt
      obtain ⟨y, hyy⟩ : ∃ y, y = vs.getD k undef := ⟨_, rfl⟩
      rw [← hyy] at hcell'
      clear hyy
      have HL2 := Lib.hid hi2.len
      have HC := Lib.hid (toSSr a2 n2 c2 (gm ll k) wr (hi2.ext hxr) (by rw [← HL2.out]; exact (Hhsm.out _ (gm_mem (by rw [HL.out]; exact hlt))).1) (Hhsm.out _ (gm_mem (by rw [HL.out]; exact hlt))).2)
      have Hhi2 := Lib.hid hi2; clear hi2
      go_wp2_with fail
      refine HC.out.mono ?_
      rintro e w5 ⟨a5, c5, rfl, ho5, hx5⟩
      rw [HL2.out] at ho5 ⊢
      have hxw5 : Ext w w5 := hxr.trans hx5
      have HO5 := Lib.hid (HO.out.ext hx5)
      obtain ⟨hia5, hcell5, hfr5⟩ := HO5.out.at (P := Tryz.prog) 24 und_tabs cell_tab1 k hlt .i64
      obtain ⟨y5, hyy5⟩ : ∃ y, y = vs.getD k undef := ⟨_, rfl⟩
      rw [← hyy5] at hcell5
      have HRow5 := Lib.hid (HRow.out.fill (v := .slice a5 n2 c5) (RM.keeps _ _ _) hx5 hlt ⟨a5, n2, c5, rfl, ho5⟩)
      clear ho5 hcell' hfr hyy5
      go_wp2
      exact ⟨⟨k + 1, _, _, _, by omega, by go_num, HRow5.out, hxw5.setCell hgB.1 _⟩, by simp [intOf]; omega⟩
    · obtain rfl : k = n := by omega
      go_wp2
      go_ret
      exact ⟨_, _, by rw [HL.out]; rfl, by rw [HL.out]; exact ⟨vs, s, t, HL.out, HRow.out⟩, hxr⟩
/-- a chain between two bounds -/
def ChR (w : World) (lo hi : Nat) (D : Ch) (a : Option Addr) (n c : Nat) (b : Option Addr) (m d : Nat) : Prop :=
  ∃ h1, lo ≤ h1 ∧ h1 ≤ hi ∧ CubeR w lo h1 60 25 2 a n c D.tabs ∧ OwnIn w h1 hi 2 b m d (I D.places)
section
variable {w w' : World} {lo hi : Nat} {D : Ch} {a : Option Addr} {n c : Nat} {b : Option Addr} {m d : Nat}
theorem ChR.chg {lo' hi' : Nat} (h : ChR w lo hi D a n c b m d) (hc : Chg lo' hi' w w') (hd : hi' ≤ lo ∨ hi ≤ lo') : ChR w' lo hi D a n c b m d :=
  let ⟨h1, g1, g2, g3, g4⟩ := h; ⟨h1, g1, g2, g3.chg hc (by omega), g4.chg hc (by omega)⟩
theorem ChR.ext (h : ChR w lo hi D a n c b m d) (hx : Ext w w') : ChR w' lo hi D a n c b m d := h.chg (Chg.ext hx 0 0) (.inl (Nat.zero_le _))
theorem ChR.mono {lo' hi' : Nat} (h : ChR w lo hi D a n c b m d) (hl : lo' ≤ lo) (hh : hi ≤ hi') : ChR w lo' hi' D a n c b m d :=
  let ⟨h1, g1, g2, g3, g4⟩ := h; ⟨h1, by omega, by omega, g3.mono hl (Nat.le_refl _), g4.mono (Nat.le_refl _) hh⟩
theorem ChR.inn (h : ChR w lo hi D a n c b m d) (hn : n ≤ 1048576) (hm : m ≤ 1048576) (hs : SmallCh D) : ChIn w D a n c b m d :=
  let ⟨_, _, _, g3, g4⟩ := h; ⟨g3.cube, g4.1.ints, hn, hm, hs⟩
end
/-- a chain of the call's own, between bounds -/
def RetChR (D : Ch) (n m : Nat) (w : World) (e : Ending) (w' : World) : Prop :=
  ∃ a c b d, e = .returned (.agg #[.int .i64 D.base, .int .i64 D.states, .int .i64 D.start, .int .i64 D.fin, .slice a n c, .slice b m d]) ∧ ChR w' w.heap.size w'.heap.size D a n c b m d ∧ Ext w w'
set_option maxHeartbeats 1000000 in
theorem toChr (D : Ch) (a : Option Addr) (n c : Nat) (b : Option Addr) (m d : Nat) (w : World) (hv : ChIn w D a n c b m d) :
    Calls Tryz.prog 17 #[.agg #[.int .i64 D.base, .int .i64 D.states, .int .i64 D.start, .int .i64 D.fin, .slice a n c, .slice b m d]] w (RetChR D n m w) := by
  have HL := Lib.hid hv.ts.len
  have HP := Lib.hid hv.ps.len
  have hn := hv.hn
  have hn' := hv.hn'
  have HV := Lib.hid hv
  clear hv
  go_enter Tryz.func17, Tryz.ntmps17
  go_wp2_with fail
  refine (toSSSr a n c D.tabs _ (HV.out.ts.ext (by repeat (first | (with_reducible exact Ext.refl _) | (with_reducible refine Ext.drewN ?_ _) | (with_reducible refine Ext.drew ?_) | (with_reducible refine Ext.alloc ?_ _) | ((with_reducible refine Ext.setCell ?_ ?_ _); rotate_left; focus (first | (simp; done) | (simp; omega) | omega)) | assumption | (with_reducible refine Ext.trans ?_ (by assumption))))) (by omega) (fun t ht => ⟨by have := (HV.out.sm t ht).1; omega, fun r hr => by have := (HV.out.sm t ht).2 r hr; omega⟩)).mono ?_
  rintro e w1 ⟨a1, c1, rfl, ho1, hx1⟩
  rw [HL.out] at ho1 ⊢
  have hw1 : Ext w w1 := Ext.trans (by repeat (first | (with_reducible exact Ext.refl _) | (with_reducible refine Ext.drewN ?_ _) | (with_reducible refine Ext.drew ?_) | (with_reducible refine Ext.alloc ?_ _) | ((with_reducible refine Ext.setCell ?_ ?_ _); rotate_left; focus (first | (simp; done) | (simp; omega) | omega)) | assumption | (with_reducible refine Ext.trans ?_ (by assumption)))) hx1
  obtain ⟨hc, hf⟩ := bcell hx1
  have hz1 : w.heap.size + 3 ≤ w1.heap.size := by have := hx1.le; simp at this; omega
  have hz1a : w.heap.size + 1 + 1 < w1.heap.size := by omega
  have hz1b : w.heap.size + 1 < w1.heap.size := by omega
  have hz1c : w.heap.size < w1.heap.size := by omega
  have HO1 := Lib.hid (ho1.mono (lo' := w.heap.size + 3) (hi' := w1.heap.size) (by simp) (Nat.le_refl _))
  have HX1 := Lib.hid hx1
  clear ho1 hx1
  go_wp2_with fail
  refine (toInts b m d D.places _ (HV.out.ps.ext (by repeat (first | (with_reducible exact Ext.refl _) | (with_reducible refine Ext.drewN ?_ _) | (with_reducible refine Ext.drew ?_) | (with_reducible refine Ext.alloc ?_ _) | ((with_reducible refine Ext.setCell ?_ ?_ _); rotate_left; focus (first | (simp; done) | (simp; omega) | omega)) | assumption | (with_reducible refine Ext.trans ?_ (by assumption))))) (by omega)).mono ?_
  rintro e w2 ⟨a2, c2, rfl, ho2, hx2⟩
  rw [I_len, HP.out] at ho2 ⊢
  obtain ⟨hc2, hf2⟩ := bcell hx2
  have HO2 := Lib.hid (ho2.mono (B' := w1.heap.size) (by simp)).in
  have HO1b := Lib.hid ((HO1.out.chg (lo' := 0) (hi' := w.heap.size + 3) (Chg.set w1 4 (.slice a1 n c1) (g := w.heap.size + 2) (by omega) (by omega)) (.inl (Nat.le_refl _))).ext hx2)
  have hw2 : Ext w w2 := Ext.trans (by repeat (first | (with_reducible exact Ext.refl _) | (with_reducible refine Ext.drewN ?_ _) | (with_reducible refine Ext.drew ?_) | (with_reducible refine Ext.alloc ?_ _) | ((with_reducible refine Ext.setCell ?_ ?_ _); rotate_left; focus (first | (simp; done) | (simp; omega) | omega)) | assumption | (with_reducible refine Ext.trans ?_ (by assumption)))) hx2
  have hz2 : w1.heap.size ≤ w2.heap.size := by have := hx2.le; simpa using this
  have hz2a : w.heap.size + 1 + 1 < w2.heap.size := by omega
  have hz2b : w.heap.size + 1 < w2.heap.size := by omega
  have hz2c : w.heap.size < w2.heap.size := by omega
  have HX2 := Lib.hid hx2
  clear ho2
  go_wp2
  refine bodyPost_ret (v := .agg #[.int .i64 D.base, .int .i64 D.states, .int .i64 D.start, .int .i64 D.fin, .slice a1 n c1, .slice a2 m c2]) ?_ rfl ?_
  · simp [results, Tryz.results17, go_sem, hc, hc2, hz1b]
  · refine ⟨a1, c1, a2, c2, rfl, ?_, (by repeat (first | (with_reducible exact Ext.refl _) | (with_reducible refine Ext.drewN ?_ _) | (with_reducible refine Ext.drew ?_) | (with_reducible refine Ext.alloc ?_ _) | ((with_reducible refine Ext.setCell ?_ ?_ _); rotate_left; focus (first | (simp; done) | (simp; omega) | omega)) | (with_reducible refine Ext.trans ?_ HX2.out) | (with_reducible refine Ext.trans ?_ HX1.out)))⟩
    refine (ChR.mono (lo := w.heap.size + 3) (hi := w2.heap.size) ?_ (by omega) (by simp))
    have hcr : ChR w2 (w.heap.size + 3) w2.heap.size D a1 n c1 a2 m c2 := ⟨w1.heap.size, hz1, hz2, HO1b.out, HO2.out⟩
    refine ChR.chg (lo' := 0) (hi' := w.heap.size + 3) hcr ?_ (.inl (Nat.le_refl _))
    clear hcr HO1b HO2 HO1
    exact (by repeat (first | (with_reducible exact Chg.refl _ _ _) | (with_reducible assumption) | ((with_reducible refine Chg.trans ?_ (Chg.setP _ _ _ ?_ ?_)); rotate_left; (focus (first | (simp; done) | (simp; omega) | omega)); (focus (first | (simp; done) | (simp; omega) | omega))) | (with_reducible refine Chg.trans ?_ (Chg.ext (Ext.alloc (Ext.refl _) _) _ _)) | (with_reducible refine Chg.trans ?_ (Chg.ext (Ext.drew (Ext.refl _)) _ _)) | (with_reducible refine Chg.trans ?_ (Chg.ext (Ext.drewN (Ext.refl _) _) _ _))))
end Go.Proofs.YtbcfbkhbangeoaaGreat

/- Walks: the laws write marks into texts. -/
namespace Go.Proofs.YtbcfbkhbangeoaaGreat
set_option maxRecDepth 100000
open Go.RowKit

theorem und_strings' : Tryz.prog.underlying 35 = some (.slice 9) := Tryz.underlying35
theorem cell_string' : Tryz.prog.cellsOf 9 = 1 := by kernel_rfl
def SomeText (w : World) (e : Ending) (w' : World) : Prop := ∃ s, e = .returned (.string s) ∧ Ext w w'
set_option maxHeartbeats 1000000 in
theorem markText_any (k : Nat) (w : World) (hk : k ≤ 1099511627776) : Calls Tryz.prog 63 #[.int .i64 k] w (SomeText w) := by
  by_cases h0 : 0 < k
  · go_enter Tryz.func63, Tryz.ntmps63
    go_wp2
    go_loopw [0, 3] (fun x v wr => ∃ (j : Nat) (s : ByteArray), j + s.size ≤ k ∧ x = .int .i64 j ∧ v = .string s ∧ Ext w wr) (fun x _ _ => (intOf x).toNat)
    case atStart => exact ⟨k, .empty, by show k + 0 ≤ k; omega, rfl, rfl, Ext.refl _⟩
    case round =>
      obtain ⟨j, s, hj, rfl, rfl, hx⟩ := hrel
      by_cases hlt : 0 < j
      · have hcv : (convert 22 9 (.slice (some ⟨wr.heap.size, 0, none⟩) 1 1)).run Tryz.prog (wr.alloc (.cells #[.int .u8 (48 + (j : Int) % 10)] 5)) = .ok (.string (strOfNums [48 + (j : Int) % 10])) (wr.alloc (.cells #[.int .u8 (48 + (j : Int) % 10)] 5)) :=
          run_convert_bytes_arg _ 22 5 (by kernel_rfl) (by kernel_rfl) wr.heap.size 0 1 1 [48 + (j : Int) % 10] rfl (fun i hi => by
            obtain rfl : i = 0 := by omega
            exact cell_of_row _ _ 0 _ _ (0, 0) (heap_alloc_new wr _)) 9 (by kernel_rfl)
        obtain ⟨z, hz⟩ : ∃ z, z = strOfNums [48 + (j : Int) % 10] := ⟨_, rfl⟩
        rw [← hz] at hcv
        have hz1 : z.size = 1 := by rw [hz]; rfl
        have hza : (z ++ s).size = 1 + s.size := by rw [ByteArray.size_append, hz1]
        clear hz
        go_wp2
        refine ⟨⟨j / 10, z ++ s, by rw [hza]; omega, by go_num, rfl, (by repeat (first | (with_reducible exact Ext.refl _) | (with_reducible refine Ext.drewN ?_ _) | (with_reducible refine Ext.drew ?_) | (with_reducible refine Ext.alloc ?_ _) | ((with_reducible refine Ext.setCell ?_ ?_ _); rotate_left; focus (first | (simp; done) | (simp; omega) | omega)) | assumption | (with_reducible refine Ext.trans ?_ (by assumption))))⟩, by simp [intOf]; omega⟩
      · go_wp2
        go_ret
        exact ⟨_, rfl, (by repeat (first | (with_reducible exact Ext.refl _) | (with_reducible refine Ext.drewN ?_ _) | (with_reducible refine Ext.drew ?_) | (with_reducible refine Ext.alloc ?_ _) | ((with_reducible refine Ext.setCell ?_ ?_ _); rotate_left; focus (first | (simp; done) | (simp; omega) | omega)) | assumption | (with_reducible refine Ext.trans ?_ (by assumption))))⟩
  · go_enter Tryz.func63, Tryz.ntmps63
    go_wp2
    go_ret
    exact ⟨_, rfl, (by repeat (first | (with_reducible exact Ext.refl _) | (with_reducible refine Ext.drewN ?_ _) | (with_reducible refine Ext.drew ?_) | (with_reducible refine Ext.alloc ?_ _) | ((with_reducible refine Ext.setCell ?_ ?_ _); rotate_left; focus (first | (simp; done) | (simp; omega) | omega)) | assumption | (with_reducible refine Ext.trans ?_ (by assumption))))⟩

set_option maxHeartbeats 1000000 in
theorem markStrs (a : Option Addr) (n c : Nat) (vs : List Value) (k B : Nat) (w : World) (ho : Own w B 9 a n c vs) (hB : B ≤ w.heap.size) (hn : n ≤ 549755813888) (hk : k ≤ 549755813888) :
    Calls Tryz.prog 22 #[.slice a n c, .int .i64 k] w (MarkPost ((k + n : Nat) : Int) B a w fun _ => True) := by
  have HO0 := Lib.hid ho
  have HB := Lib.hid hB
  clear ho hB
  go_enter Tryz.func22, Tryz.ntmps22
  go_wp2
  go_loopw [1, 5] (fun x i wr => ∃ (j : Nat) (us : List Value), j ≤ n ∧ i = .int .i64 j ∧ x = .int .i64 ((k : Int) + j) ∧ Mk B a w wr ∧ Own wr B 9 a n c us) (fun _ i _ => n - (intOf i).toNat)
  case atStart => exact ⟨0, vs, Nat.zero_le _, rfl, by simp, Mk.refl _ _ _, HO0.out⟩
  case round =>
    obtain ⟨j, us, hj, rfl, rfl, hm, ho⟩ := hrel
    have HO := Lib.hid ho
    have HM := Lib.hid hm
    clear ho hm
    by_cases hlt : j < n
    · obtain ⟨g, rfl⟩ := HO.out.some (by omega)
      obtain ⟨hia', _, _⟩ := HO.out.at 35 und_strings' cell_string' j hlt .i64
      have hmt : ∀ w, Calls Tryz.prog 63 #[.int .i64 ((k : Int) + j)] w (SomeText w) := fun w => by
        rw [show ((k : Int) + j) = ((k + j : Nat) : Int) by omega]; exact markText_any (k + j) w (by omega)
      have Hhmt := Lib.hid hmt; clear hmt
      go_wp2_with (go_at_call 63; refine (Hhmt.out _).mono ?_; rintro e w1 ⟨z, rfl, hx1⟩; obtain ⟨_, hcell', hfr⟩ := (HO.out.ext hx1).at 35 und_strings' cell_string' j hlt .i64; obtain ⟨y, hyy⟩ : ∃ y, y = us.getD j undef := ⟨_, rfl⟩; rw [← hyy] at hcell'; clear hyy)
      refine ⟨⟨j + 1, us.set j (.string z), by omega, by go_num, by go_num, (HM.out.trans (Mk.ext hx1 (Nat.le_trans HB.out HM.out.size))).trans (Mk.set _ j _ HO.out.lt.1), (HO.out.ext hx1).set j _⟩, by simp [intOf]; omega⟩
    · go_wp2
      go_ret
      exact ⟨ri (by omega), HM.out, trivial⟩

end Go.Proofs.YtbcfbkhbangeoaaGreat

/- Walks: the laws write marks into tables, chains, texts, and look whether they are still there. -/
namespace Go.Proofs.YtbcfbkhbangeoaaGreat
set_option maxRecDepth 100000
open Go.RowKit

/-- the first j of A, then those of B -/
def mixL {α : Type} (A B : List α) (j : Nat) : List α := A.take j ++ B.drop j
theorem mixL_get {α : Type} {A B : List α} (h : A.length = B.length) (j i : Nat) (d : α) : (mixL A B j).getD i d = if i < j then A.getD i d else B.getD i d := by
  unfold mixL
  simp only [List.getD_eq_getElem?_getD]
  by_cases e : i < j
  · rw [if_pos e]
    by_cases e2 : i < A.length
    · rw [List.getElem?_append_left (by rw [List.length_take]; omega), List.getElem?_take_of_lt e]
    · rw [List.getElem?_append_right (by rw [List.length_take]; omega), List.getElem?_drop, List.getElem?_eq_none (show A.length ≤ i by omega), List.getElem?_eq_none (by rw [List.length_take]; omega)]
  · rw [if_neg e]
    by_cases e2 : j ≤ A.length
    · rw [List.getElem?_append_right (by rw [List.length_take]; omega), List.getElem?_drop, List.length_take, Nat.min_eq_left e2]
      congr 2; omega
    · rw [List.getElem?_append_right (by rw [List.length_take]; omega), List.getElem?_drop, List.length_take, Nat.min_eq_right (by omega), List.getElem?_eq_none (show B.length ≤ i by omega), List.getElem?_eq_none (by omega)]
theorem mixL_zero {α : Type} (A B : List α) : mixL A B 0 = B := rfl
theorem mixL_full {α : Type} {A B : List α} {n : Nat} (h : A.length = B.length) (hn : B.length ≤ n) : mixL A B n = A := by
  unfold mixL; rw [List.take_of_length_le (by omega), List.drop_of_length_le hn, List.append_nil]
theorem mixL_len {α : Type} {A B : List α} (h : A.length = B.length) (j : Nat) : (mixL A B j).length = B.length := by
  unfold mixL; rw [List.length_append, List.length_take, List.length_drop]; omega
def szL (ll : List (List Int)) : Nat := (ll.map List.length).sum
def szLL (l : List (List (List Int))) : Nat := (l.map szL).sum
/-- marks from k on, in the shape of the lists -/
def markLL : Nat → List (List Int) → List (List Int)
  | _, [] => []
  | k, l :: ls => markL k l.length :: markLL (k + l.length) ls
def markLLL : Nat → List (List (List Int)) → List (List (List Int))
  | _, [] => []
  | k, l :: ls => markLL k l :: markLLL (k + szL l) ls
theorem markLL_len : ∀ (k : Nat) (l : List (List Int)), (markLL k l).length = l.length
  | _, [] => rfl
  | k, l :: ls => by simp [markLL, markLL_len]
theorem markLLL_len : ∀ (k : Nat) (l : List (List (List Int))), (markLLL k l).length = l.length
  | _, [] => rfl
  | k, l :: ls => by simp [markLLL, markLLL_len]
theorem markLL_get : ∀ (k : Nat) (l : List (List Int)) (j : Nat), j < l.length → gl (markLL k l) j = markL (k + szL (l.take j)) (gl l j).length
  | _, [], j, h => by simp at h
  | k, l :: ls, 0, _ => by simp [markLL, gl, szL]
  | k, l :: ls, j + 1, h => by
    have := markLL_get (k + l.length) ls j (by simpa using h)
    have e : k + szL ((l :: ls).take (j + 1)) = k + l.length + szL (ls.take j) := by simp [szL]; omega
    rw [e]
    exact this
theorem markLLL_get : ∀ (k : Nat) (l : List (List (List Int))) (j : Nat), j < l.length → gm (markLLL k l) j = markLL (k + szLL (l.take j)) (gm l j)
  | _, [], j, h => by simp at h
  | k, l :: ls, 0, _ => by simp [markLLL, gm, szLL]
  | k, l :: ls, j + 1, h => by
    have := markLLL_get (k + szL l) ls j (by simpa using h)
    have e : k + szLL ((l :: ls).take (j + 1)) = k + szL l + szLL (ls.take j) := by simp [szLL]; omega
    rw [e]
    exact this
theorem szL_mark : ∀ (k : Nat) (l : List (List Int)), szL (markLL k l) = szL l
  | _, [] => rfl
  | k, l :: ls => by have := szL_mark (k + l.length) ls; simp only [szL] at this ⊢; simp [markLL, markL_len, this]
theorem szL_step {l : List (List Int)} {j : Nat} (h : j < l.length) : szL (l.take (j + 1)) = szL (l.take j) + (gl l j).length := sumN_step List.length l [] j h
theorem szLL_step {l : List (List (List Int))} {j : Nat} (h : j < l.length) : szLL (l.take (j + 1)) = szLL (l.take j) + szL (gm l j) := sumN_step szL l [] j h
theorem szL_take (l : List (List Int)) (j : Nat) : szL (l.take j) ≤ szL l := sumN_le List.length l j
theorem szLL_take (l : List (List (List Int))) (j : Nat) : szLL (l.take j) ≤ szLL l := sumN_le szL l j
/-- marked up to k; the blocks from lo to hi apart nothing has changed -/
def MarkR (k lo hi : Nat) (w : World) (T : World → Prop) (e : Ending) (w' : World) : Prop := e = .returned (.int .i64 (k : Int)) ∧ Chg lo hi w w' ∧ T w'
set_option maxHeartbeats 1000000 in
theorem markSSr (a : Option Addr) (n c : Nat) (ll : List (List Int)) (k lo hi : Nat) (w : World) (hv : MatR w lo hi 25 2 a n c ll) (hn : n ≤ 549755813888) (hk : k + szL ll ≤ 549755813888) :
    Calls Tryz.prog 105 #[.slice a n c, .int .i64 k] w (MarkR (k + szL ll) lo hi w fun w' => MatR w' lo hi 25 2 a n c (markLL k ll)) := by
  obtain ⟨vs, s, t, hl, hrow⟩ := hv
  have HL := Lib.hid hl
  have HR0 := Lib.hid hrow
  have hz := hk
  have hln := markLL_len k ll
  have Hhln := Lib.hid hln; clear hln
  clear hl hrow
  go_enter Tryz.func105, Tryz.ntmps105
  go_wp2
  go_loopw [1, 5] (fun x i wr => ∃ (j m : Nat), j ≤ n ∧ i = .int .i64 j ∧ x = .int .i64 ((k : Int) + m) ∧ Hid (m = szL (ll.take j)) ∧ Chg lo hi w wr ∧ Row wr lo hi 25 a n c vs n s t (RI 2 (mixL (markLL k ll) ll j))) (fun _ i _ => n - (intOf i).toNat)
  case atStart => exact ⟨0, 0, Nat.zero_le _, rfl, by simp, Lib.hid rfl, Chg.refl _ _ _, HR0.out⟩
  case round =>
    obtain ⟨j, m, hj, rfl, rfl, HM, hc, hr⟩ := hrel
    have HC := Lib.hid hc
    have HR := Lib.hid hr
    clear hc hr
    have hm : m ≤ 549755813888 - k := by have := szL_take ll j; rw [HM.out]; omega
    by_cases hlt : j < n
    · have hjl : j < ll.length := by rw [HL.out]; exact hlt
      obtain ⟨b, off, f1, f2⟩ := HR.out.own.sl.one (P := Tryz.prog) 60 25 und_rows cell_row1 (j : Int) (by omega) (by omega)
      rw [show (j : Int).toNat = j by omega] at f2
      obtain ⟨s1, s2, s3, a2, n2, c2, hgv, hin⟩ := HR.out.el j hlt
      rw [hgv] at f2
      have hge : gl (mixL (markLL k ll) ll j) j = gl ll j := by
        have := mixL_get (A := markLL k ll) (B := ll) Hhln.out j j []
        rw [if_neg (by omega)] at this
        exact this
      rw [hge] at hin
      have HS := Lib.hid (szL_step hjl)
      have hln2 : (gl ll j).length = n2 := by have := hin.1.len; rwa [I_len] at this
      have HLn := Lib.hid hln2
      have hn2 : m + n2 ≤ 549755813888 - k := by have h1 := szL_take ll (j + 1); have h2 := HS.out; have h3 := HM.out; omega
      have HB := Lib.hid (show (∀ g, a2 = Option.some g → g.block < t j) ∧ (∀ g, a2 = Option.some g → s j ≤ g.block) from ⟨hin.2, fun g hg => (hin.1.blk g hg).1⟩)
      have HCall := Lib.hid (markInts a2 n2 c2 (gl ll j) (k + m) (s j) wr hin.1 (by omega) (by omega))
      rw [show (((k + m : Nat)) : Int) = (k : Int) + m by omega] at HCall
      have HGv := Lib.hid hgv
      have HGet := Lib.hid (markLL_get k ll j hjl)
      clear hgv hge hin s1 s2 s3 hjl
      go_wp2_with fail
      refine HCall.out.mono ?_
      rintro e w2 ⟨rfl, hm2, ho2⟩
      have hc2 : Chg (s j) (t j) wr w2 := hm2.chg (Nat.le_refl _) HB.out.1 HB.out.2
      have hnew : RI 2 (mixL (markLL k ll) ll (j + 1)) j (gv vs j) w2 (s j) (t j) := by
        refine ⟨a2, n2, c2, HGv.out, ?_, HB.out.1⟩
        have e2 := mixL_get (A := markLL k ll) (B := ll) Hhln.out (j + 1) j []
        rw [if_pos (by omega)] at e2
        have e3 : gl (mixL (markLL k ll) ll (j + 1)) j = markL (k + m) n2 := by
          unfold gl
          rw [e2, HM.out, ← HLn.out]
          exact HGet.out
        rw [e3]
        exact ho2
      rw [show ((((k + m) + n2 : Nat)) : Int) = (k : Int) + m + n2 by omega]
      clear hm2 ho2
      clear f1 f2
      go_wp2
      refine ⟨⟨j + 1, m + n2, by omega, by go_num, by go_num, by show _ = _; rw [HM.out, HS.out]; have := HLn.out; omega, HC.out.trans (hc2.mono (HR.out.el j hlt).1 (HR.out.el j hlt).2.2.1), HR.out.at (RI.keeps _ _) hlt hc2 hnew (fun i v W l u hne h => ?_)⟩, by simp [intOf]; omega⟩
      obtain ⟨a3, n3, c3, h3, h4⟩ := h
      refine ⟨a3, n3, c3, h3, ?_⟩
      have e1 := mixL_get (A := markLL k ll) (B := ll) Hhln.out j i []
      have e2 := mixL_get (A := markLL k ll) (B := ll) Hhln.out (j + 1) i []
      have e3 : gl (mixL (markLL k ll) ll (j + 1)) i = gl (mixL (markLL k ll) ll j) i := by
        unfold gl
        rw [e1, e2]
        by_cases e : i < j
        · rw [if_pos e, if_pos (by omega)]
        · rw [if_neg e, if_neg (by omega)]
      rw [e3]
      exact h4
    · obtain rfl : j = n := by omega
      go_wp2
      go_ret
      have hfull : m = szL ll := by rw [HM.out, take_full (by rw [HL.out]; exact Nat.le_refl _)]
      refine ⟨ri (by omega), HC.out, vs, s, t, (Hhln.out).trans HL.out, ?_⟩
      have := HR.out
      rw [mixL_full Hhln.out (by rw [HL.out]; exact Nat.le_refl _)] at this
      exact this
set_option maxHeartbeats 1000000 in
theorem markSSSr (a : Option Addr) (n c : Nat) (ll : List (List (List Int))) (k lo hi : Nat) (w : World) (hv : CubeR w lo hi 60 25 2 a n c ll) (hn : n ≤ 549755813888) (hk : k + szLL ll ≤ 549755813888) (hsm : ∀ t ∈ ll, t.length ≤ 1048576) :
    Calls Tryz.prog 61 #[.slice a n c, .int .i64 k] w (MarkR (k + szLL ll) lo hi w fun w' => CubeR w' lo hi 60 25 2 a n c (markLLL k ll)) := by
  obtain ⟨vs, s, t, hl, hrow⟩ := hv
  have HL := Lib.hid hl
  have HR0 := Lib.hid hrow
  have hz := hk
  have hln := markLLL_len k ll
  have Hhln := Lib.hid hln; clear hln
  clear hl hrow
  go_enter Tryz.func61, Tryz.ntmps61
  go_wp2
  go_loopw [1, 5] (fun x i wr => ∃ (j m : Nat), j ≤ n ∧ i = .int .i64 j ∧ x = .int .i64 ((k : Int) + m) ∧ Hid (m = szLL (ll.take j)) ∧ Chg lo hi w wr ∧ Row wr lo hi 60 a n c vs n s t (RM 25 2 (mixL (markLLL k ll) ll j))) (fun _ i _ => n - (intOf i).toNat)
  case atStart => exact ⟨0, 0, Nat.zero_le _, rfl, by simp, Lib.hid rfl, Chg.refl _ _ _, HR0.out⟩
  case round =>
    obtain ⟨j, m, hj, rfl, rfl, HM, hc, hr⟩ := hrel
    have HC := Lib.hid hc
    have HR := Lib.hid hr
    clear hc hr
    have hm : m ≤ 549755813888 - k := by have := szLL_take ll j; rw [HM.out]; omega
    by_cases hlt : j < n
    · have hjl : j < ll.length := by rw [HL.out]; exact hlt
      obtain ⟨b, off, f1, f2⟩ := HR.out.own.sl.one (P := Tryz.prog) 24 60 und_tabs cell_tab1 (j : Int) (by omega) (by omega)
      rw [show (j : Int).toNat = j by omega] at f2
      obtain ⟨s1, s2, s3, a2, n2, c2, hgv, hin⟩ := HR.out.el j hlt
      rw [hgv] at f2
      have hge : gm (mixL (markLLL k ll) ll j) j = gm ll j := by
        have := mixL_get (A := markLLL k ll) (B := ll) Hhln.out j j []
        rw [if_neg (by omega)] at this
        exact this
      rw [hge] at hin
      have HS := Lib.hid (szLL_step hjl)
      have hn2 : m + szL (gm ll j) ≤ 549755813888 - k := by have h1 := szLL_take ll (j + 1); have h2 := HS.out; have h3 := HM.out; omega
      obtain ⟨hb, hbl⟩ : n2 ≤ 549755813888 ∧ True := ⟨by have := hsm _ (gm_mem hjl); obtain ⟨_, _, _, h5, _⟩ := hin; omega, trivial⟩
      have HCall := Lib.hid (markSSr a2 n2 c2 (gm ll j) (k + m) (s j) (t j) wr hin hb (by omega))
      rw [show (((k + m : Nat)) : Int) = (k : Int) + m by omega] at HCall
      have HGv := Lib.hid hgv
      have HGet := Lib.hid (markLLL_get k ll j hjl)
      clear hgv hge hin s1 s2 s3 hjl
      go_wp2_with fail
      refine HCall.out.mono ?_
      rintro e w2 ⟨rfl, hc2, ho2⟩
      have hnew : RM 25 2 (mixL (markLLL k ll) ll (j + 1)) j (gv vs j) w2 (s j) (t j) := by
        refine ⟨a2, n2, c2, HGv.out, ?_⟩
        have e2 := mixL_get (A := markLLL k ll) (B := ll) Hhln.out (j + 1) j []
        rw [if_pos (by omega)] at e2
        have e3 : gm (mixL (markLLL k ll) ll (j + 1)) j = markLL (k + m) (gm ll j) := by
          unfold gm
          rw [e2, HM.out]
          exact HGet.out
        rw [e3]
        exact ho2
      rw [show ((((k + m) + szL (gm ll j) : Nat)) : Int) = (k : Int) + m + szL (gm ll j) by omega]
      clear ho2
      clear f1 f2
      go_wp2
      refine ⟨⟨j + 1, m + szL (gm ll j), by omega, by go_num, by go_num, by show _ = _; rw [HM.out, HS.out], HC.out.trans (hc2.mono (HR.out.el j hlt).1 (HR.out.el j hlt).2.2.1), HR.out.at (RM.keeps _ _ _) hlt hc2 hnew (fun i v W l u hne h => ?_)⟩, by simp [intOf]; omega⟩
      obtain ⟨a3, n3, c3, h3, h4⟩ := h
      refine ⟨a3, n3, c3, h3, ?_⟩
      have e1 := mixL_get (A := markLLL k ll) (B := ll) Hhln.out j i []
      have e2 := mixL_get (A := markLLL k ll) (B := ll) Hhln.out (j + 1) i []
      have e3 : gm (mixL (markLLL k ll) ll (j + 1)) i = gm (mixL (markLLL k ll) ll j) i := by
        unfold gm
        rw [e1, e2]
        by_cases e : i < j
        · rw [if_pos e, if_pos (by omega)]
        · rw [if_neg e, if_neg (by omega)]
      rw [e3]
      exact h4
    · obtain rfl : j = n := by omega
      go_wp2
      go_ret
      have hfull : m = szLL ll := by rw [HM.out, take_full (by rw [HL.out]; exact Nat.le_refl _)]
      refine ⟨ri (by omega), HC.out, vs, s, t, (Hhln.out).trans HL.out, ?_⟩
      have := HR.out
      rw [mixL_full Hhln.out (by rw [HL.out]; exact Nat.le_refl _)] at this
      exact this
theorem Chg.cell {lo hi : Nat} {w w' : World} (h : Chg lo hi w w') {p : Addr} (hp : p.block < w.heap.size) (hd : p.block < lo ∨ hi ≤ p.block) : w'.cell? p = w.cell? p :=
  World.cell?_of_block (h.block _ hp hd)
/-! ### texts -/
def mtD : Nat → Nat → ByteArray → ByteArray
  | 0, _, s => s
  | f + 1, k, s => if k = 0 then s else mtD f (k / 10) (strOfNums [48 + (k : Int) % 10] ++ s)
theorem mtD_fuel : ∀ (f k : Nat) (s : ByteArray), k ≤ f → mtD f k s = mtD k k s := by
  intro f
  induction f using Nat.strongRecOn with
  | _ f ih =>
    intro k s hk
    cases f with
    | zero => obtain rfl : k = 0 := by omega
              rfl
    | succ f =>
      cases k with
      | zero => simp [mtD]
      | succ k =>
        rw [mtD, mtD, if_neg (by omega), if_neg (by omega), ih f (by omega) _ _ (by omega), ih k (by omega) _ _ (by omega)]
/-- the k-th mark among texts -/
def markT (k : Nat) : ByteArray := if k = 0 then ⟨#[109, 48]⟩ else ⟨#[109]⟩ ++ mtD k k .empty
theorem mtD_step {j : Nat} (h : 0 < j) (s : ByteArray) : mtD j j s = mtD (j / 10) (j / 10) (strOfNums [48 + (j : Int) % 10] ++ s) := by
  obtain ⟨i, rfl⟩ : ∃ i, j = i + 1 := ⟨j - 1, by omega⟩
  rw [mtD, if_neg (by omega), mtD_fuel i _ _ (by omega)]
set_option maxHeartbeats 1000000 in
theorem markTextX (k : Nat) (w : World) (hk : k ≤ 1099511627776) : Calls Tryz.prog 63 #[.int .i64 k] w (Ret (.string (markT k)) w) := by
  by_cases h0 : 0 < k
  · have HT := Lib.hid (show markT k = ⟨#[109]⟩ ++ mtD k k .empty by rw [markT, if_neg (by omega)])
    go_enter Tryz.func63, Tryz.ntmps63
    go_wp2
    go_loopw [0, 3] (fun x v wr => ∃ (j : Nat) (s : ByteArray), j + s.size ≤ k ∧ x = .int .i64 j ∧ v = .string s ∧ Hid (mtD k k .empty = mtD j j s) ∧ Ext w wr) (fun x _ _ => (intOf x).toNat)
    case atStart => exact ⟨k, .empty, by show k + 0 ≤ k; omega, rfl, rfl, Lib.hid rfl, Ext.refl _⟩
    case round =>
      obtain ⟨j, s, hj, rfl, rfl, HM, hx⟩ := hrel
      by_cases hlt : 0 < j
      · have hcv : (convert 22 9 (.slice (some ⟨wr.heap.size, 0, none⟩) 1 1)).run Tryz.prog (wr.alloc (.cells #[.int .u8 (48 + (j : Int) % 10)] 5)) = .ok (.string (strOfNums [48 + (j : Int) % 10])) (wr.alloc (.cells #[.int .u8 (48 + (j : Int) % 10)] 5)) :=
          run_convert_bytes_arg _ 22 5 (by kernel_rfl) (by kernel_rfl) wr.heap.size 0 1 1 [48 + (j : Int) % 10] rfl (fun i hi => by
            obtain rfl : i = 0 := by omega
            exact cell_of_row _ _ 0 _ _ (0, 0) (heap_alloc_new wr _)) 9 (by kernel_rfl)
        have HSt := Lib.hid (HM.out.trans (mtD_step hlt s))
        obtain ⟨z, hz⟩ : ∃ z, z = strOfNums [48 + (j : Int) % 10] := ⟨_, rfl⟩
        rw [← hz] at hcv HSt
        have hz1 : z.size = 1 := by rw [hz]; rfl
        have hza : (z ++ s).size = 1 + s.size := by rw [ByteArray.size_append, hz1]
        clear hz
        go_wp2
        refine ⟨⟨j / 10, z ++ s, by rw [hza]; omega, by go_num, rfl, HSt, (by repeat (first | (with_reducible exact Ext.refl _) | (with_reducible refine Ext.drewN ?_ _) | (with_reducible refine Ext.drew ?_) | (with_reducible refine Ext.alloc ?_ _) | ((with_reducible refine Ext.setCell ?_ ?_ _); rotate_left; focus (first | (simp; done) | (simp; omega) | omega)) | assumption | (with_reducible refine Ext.trans ?_ (by assumption))))⟩, by simp [intOf]; omega⟩
      · obtain rfl : j = 0 := by omega
        go_wp2
        go_ret
        exact ⟨by rw [HT.out, HM.out]; rfl, (by repeat (first | (with_reducible exact Ext.refl _) | (with_reducible refine Ext.drewN ?_ _) | (with_reducible refine Ext.drew ?_) | (with_reducible refine Ext.alloc ?_ _) | ((with_reducible refine Ext.setCell ?_ ?_ _); rotate_left; focus (first | (simp; done) | (simp; omega) | omega)) | assumption | (with_reducible refine Ext.trans ?_ (by assumption))))⟩
  · obtain rfl : k = 0 := by omega
    have HT := Lib.hid (show markT 0 = ⟨#[109, 48]⟩ from rfl)
    go_enter Tryz.func63, Tryz.ntmps63
    go_wp2
    go_ret
    exact ⟨by rw [HT.out]; rfl, (by repeat (first | (with_reducible exact Ext.refl _) | (with_reducible refine Ext.drewN ?_ _) | (with_reducible refine Ext.drew ?_) | (with_reducible refine Ext.alloc ?_ _) | ((with_reducible refine Ext.setCell ?_ ?_ _); rotate_left; focus (first | (simp; done) | (simp; omega) | omega)) | assumption | (with_reducible refine Ext.trans ?_ (by assumption))))⟩
def markTs (k n : Nat) : List ByteArray := (List.range n).map fun i => markT (k + i)
theorem markTs_len (k n : Nat) : (markTs k n).length = n := by simp [markTs]
theorem markTs_gs {k n i : Nat} (h : i < n) : gs (markTs k n) i = markT (k + i) := by simp [gs, markTs, h]
theorem markTs_step (k i : Nat) (l : List Value) (h : i < l.length) : (St (markTs k i) ++ l.drop i).set i (.string (markT (k + i))) = St (markTs k (i + 1)) ++ l.drop (i + 1) := by
  rw [List.set_append_right _ _ (by rw [St_len, markTs_len]; exact Nat.le_refl _), St_len, markTs_len, Nat.sub_self, List.drop_eq_getElem_cons h, List.set_cons_zero]
  simp only [markTs, St, List.range_succ, List.map_append, List.map_cons, List.map_nil, List.append_assoc, List.cons_append, List.nil_append]
set_option maxHeartbeats 1000000 in
theorem markStrsX (a : Option Addr) (n c : Nat) (vs : List Value) (k lo hi : Nat) (w : World) (ho : OwnIn w lo hi 9 a n c vs) (hhi : hi ≤ w.heap.size) (hk : k + n ≤ 549755813888) :
    Calls Tryz.prog 22 #[.slice a n c, .int .i64 k] w (MarkR (k + n) lo hi w fun w' => OwnIn w' lo hi 9 a n c (St (markTs k n))) := by
  have HO0 := Lib.hid ho
  have HL := Lib.hid ho.1.len
  have HTop := Lib.hid ho.2
  clear ho
  go_enter Tryz.func22, Tryz.ntmps22
  go_wp2
  go_loopw [1, 5] (fun x i wr => ∃ (j : Nat), j ≤ n ∧ i = .int .i64 j ∧ x = .int .i64 ((k : Int) + j) ∧ Chg lo hi w wr ∧ hi ≤ wr.heap.size ∧ Own wr lo 9 a n c (St (markTs k j) ++ vs.drop j)) (fun _ i _ => n - (intOf i).toNat)
  case atStart => exact ⟨0, Nat.zero_le _, rfl, by simp, Chg.refl _ _ _, hhi, by simpa [markTs, St] using HO0.out.1⟩
  case round =>
    obtain ⟨j, hj, rfl, rfl, hc, hsz, ho⟩ := hrel
    have HO := Lib.hid ho
    have HC := Lib.hid hc
    clear ho hc
    by_cases hlt : j < n
    · obtain ⟨g, rfl⟩ := HO.out.some (by omega)
      have hgt := HTop.out _ rfl
      obtain ⟨hia', _, _⟩ := HO.out.at 35 und_strings' cell_string' j hlt .i64
      have hmt : ∀ w, Calls Tryz.prog 63 #[.int .i64 ((k : Int) + j)] w (Ret (.string (markT (k + j))) w) := fun w => by
        rw [show ((k : Int) + j) = ((k + j : Nat) : Int) by omega]; exact markTextX (k + j) w (by omega)
      have Hhmt := Lib.hid hmt; clear hmt
      have HSt := Lib.hid (markTs_step k j vs (by rw [HL.out]; exact hlt))
      go_wp2_with (go_at_call 63; refine (Hhmt.out _).mono ?_; rintro e w1 ⟨rfl, hx1⟩; obtain ⟨_, hcell', hfr⟩ := (HO.out.ext hx1).at 35 und_strings' cell_string' j hlt .i64; obtain ⟨y, hyy⟩ : ∃ y, y = (St (markTs k j) ++ vs.drop j).getD j undef := ⟨_, rfl⟩; rw [← hyy] at hcell'; clear hyy)
      refine ⟨⟨j + 1, by omega, by go_num, by go_num, (HC.out.trans (Chg.ext hx1 _ _)).trans (Chg.set _ j _ HO.out.lt.1 hgt), by rw [size_setCell]; exact Nat.le_trans hsz hx1.le, by have := (HO.out.ext hx1).set j (.string (markT (k + j))); rw [HSt.out] at this; exact this⟩, by simp [intOf]; omega⟩
    · obtain rfl : j = n := by omega
      go_wp2
      go_ret
      refine ⟨ri (by omega), HC.out, ?_, HTop.out⟩
      have := HO.out
      rwa [List.drop_of_length_le (by rw [HL.out]; exact Nat.le_refl _), List.append_nil] at this
set_option maxHeartbeats 1000000 in
theorem heldStrsX (a : Option Addr) (n c : Nat) (k : Nat) (w : World) (hv : Strs w a n c (markTs k n)) (hk : k + n ≤ 549755813888) :
    Calls Tryz.prog 23 #[.slice a n c, .int .i64 k] w (Ret (.int .i64 ((k : Int) + n)) w) := by
  obtain ⟨b, off, hix, hcell⟩ := hv.ix (P := Tryz.prog) 35 9 und_strings' cell_string'
  have hgi : ∀ i, i < n → gs (markTs k n) i = markT (k + i) := fun i hi => markTs_gs hi
  have Hhgi := Lib.hid hgi; clear hgi; have Hhv := Lib.hid hv; clear hv
  go_enter Tryz.func23, Tryz.ntmps23
  go_wp2
  go_loopw [1, 5] (fun x i wr => ∃ j : Nat, j ≤ n ∧ i = .int .i64 j ∧ x = .int .i64 ((k : Int) + j) ∧ Ext w wr) (fun _ i _ => n - (intOf i).toNat)
  case atStart => exact ⟨0, Nat.zero_le _, rfl, by simp, Ext.refl _⟩
  case round =>
    obtain ⟨j, hj, rfl, rfl, hx⟩ := hrel
    have hxr : Ext w wr := hx
    by_cases hlt : j < n
    · have hc1 := hcell j
      rw [Hhgi.out j hlt] at hc1
      have hmt : ∀ w, Calls Tryz.prog 63 #[.int .i64 ((k : Int) + j)] w (Ret (.string (markT (k + j))) w) := fun w => by
        rw [show ((k : Int) + j) = ((k + j : Nat) : Int) by omega]; exact markTextX (k + j) w (by omega)
      have Hhmt := Lib.hid hmt; clear hmt
      clear hcell
      generalize markT (k + j) = t at *
      go_wp2
      (refine wp_region_from w (by repeat (first | (with_reducible exact Ext.refl _) | (with_reducible refine Ext.drewN ?_ _) | (with_reducible refine Ext.drew ?_) | (with_reducible refine Ext.alloc ?_ _) | ((with_reducible refine Ext.setCell ?_ ?_ _); rotate_left; focus (first | (simp; done) | (simp; omega) | omega)) | assumption | (with_reducible refine Ext.trans ?_ (by assumption)))) (by kernel_rfl) (by kernel_rfl) (seqB_of (by kernel_rfl)) ?_; (repeat (first | (refine mix_q rfl ?_; go_big_quiet_step (fail); refine wpQuiet_nil ?_; show wpMix _ _ _ _ _ _ _) | (refine mix_s rfl ?_; go_wp2_with (((with_reducible refine (Hhmt.out _).mono ?_); rintro e w4 ⟨rfl, hy4⟩; have hxw4 : Ext w w4 := Ext.trans (by repeat (first | (with_reducible exact Ext.refl _) | (with_reducible refine Ext.drewN ?_ _) | (with_reducible refine Ext.drew ?_) | (with_reducible refine Ext.alloc ?_ _) | ((with_reducible refine Ext.setCell ?_ ?_ _); rotate_left; focus (first | (simp; done) | (simp; omega) | omega)) | assumption | (with_reducible refine Ext.trans ?_ (by assumption)))) hy4; have hz4 := hy4; clear hy4)); first | refine ⟨up_of (by repeat (first | (with_reducible exact Ext.refl _) | (with_reducible refine Ext.drewN ?_ _) | (with_reducible refine Ext.drew ?_) | (with_reducible refine Ext.alloc ?_ _) | ((with_reducible refine Ext.setCell ?_ ?_ _); rotate_left; focus (first | (simp; done) | (simp; omega) | omega)) | assumption | (with_reducible refine Ext.trans ?_ (by assumption)))), ?_⟩ | refine ⟨rfl, rfl, up_of (by repeat (first | (with_reducible exact Ext.refl _) | (with_reducible refine Ext.drewN ?_ _) | (with_reducible refine Ext.drew ?_) | (with_reducible refine Ext.alloc ?_ _) | ((with_reducible refine Ext.setCell ?_ ?_ _); rotate_left; focus (first | (simp; done) | (simp; omega) | omega)) | assumption | (with_reducible refine Ext.trans ?_ (by assumption)))), ?_⟩))); refine mix_nil ?_)
      go_wp2
      exact ⟨⟨j + 1, by omega, by go_num, by go_num, (by repeat (first | (with_reducible exact Ext.refl _) | (with_reducible refine Ext.drewN ?_ _) | (with_reducible refine Ext.drew ?_) | (with_reducible refine Ext.alloc ?_ _) | ((with_reducible refine Ext.setCell ?_ ?_ _); rotate_left; focus (first | (simp; done) | (simp; omega) | omega)) | assumption | (with_reducible refine Ext.trans ?_ (by assumption))))⟩, by simp [intOf]; omega⟩
    · go_wp2
      go_ret
      exact ⟨ri (by omega), (by repeat (first | (with_reducible exact Ext.refl _) | (with_reducible refine Ext.drewN ?_ _) | (with_reducible refine Ext.drew ?_) | (with_reducible refine Ext.alloc ?_ _) | ((with_reducible refine Ext.setCell ?_ ?_ _); rotate_left; focus (first | (simp; done) | (simp; omega) | omega)) | assumption | (with_reducible refine Ext.trans ?_ (by assumption))))⟩
/-! ### chains -/
def szCh2 (D : Ch) : Nat := szLL D.tabs + D.places.length
def markC (k : Nat) (D : Ch) : Ch := { D with tabs := markLLL k D.tabs, places := markL (k + szLL D.tabs) D.places.length }
set_option maxHeartbeats 1000000 in
theorem markChR (D : Ch) (a : Option Addr) (n c : Nat) (b : Option Addr) (m d : Nat) (k lo hi : Nat) (w : World) (hv : ChR w lo hi D a n c b m d) (hhi : hi ≤ w.heap.size) (hn : n ≤ 1048576) (hk : k + szCh2 D ≤ 549755813888) (hsm : ∀ t ∈ D.tabs, t.length ≤ 1048576) :
    Calls Tryz.prog 21 #[.agg #[.int .i64 D.base, .int .i64 D.states, .int .i64 D.start, .int .i64 D.fin, .slice a n c, .slice b m d], .int .i64 k] w (MarkR (k + szCh2 D) lo hi w fun w' => ChR w' lo hi (markC k D) a n c b m d) := by
  obtain ⟨h1, g1, g2, hcu, hpl⟩ := hv
  have hlp : D.places.length = m := by have := hpl.1.len; rwa [I_len] at this
  have HCU := Lib.hid (fun W (hx : Ext w W) => markSSSr a n c D.tabs k lo h1 W (hcu.ext hx) (by omega) (by unfold szCh2 at hk; omega) hsm)
  have HPL := Lib.hid (fun W (hc : Chg lo h1 w W) => markInts b m d D.places (k + szLL D.tabs) h1 W (hpl.chg hc (.inl (Nat.le_refl _))).1 (by unfold szCh2 at hk; omega) (by unfold szCh2 at hk; omega))
  have HTop := Lib.hid hpl
  have HSz := Lib.hid (show szCh2 D = szLL D.tabs + m by rw [szCh2, hlp])
  have hzz : k + szLL D.tabs + m ≤ 549755813888 := by unfold szCh2 at hk; omega
  have hbx : (w.alloc (.cells #[.int .i64 D.base, .int .i64 D.states, .int .i64 D.start, .int .i64 D.fin, .slice a n c, .slice b m d] 27)).cell? ⟨w.heap.size, 5, none⟩ = some (.slice b m d) := by go_simp
  have HBx := Lib.hid hbx
  have Hhlp := Lib.hid hlp; clear hlp
  clear hcu hpl hbx hsm
  go_enter Tryz.func21, Tryz.ntmps21
  go_wp2_with fail
  refine (HCU.out _ ((Ext.refl w).alloc _)).mono ?_
  rintro e w2 ⟨rfl, hc2, hq2⟩
  have hcell : w2.cell? ⟨w.heap.size, 5, none⟩ = some (.slice b m d) := (hc2.cell (by simp) (.inr (by show h1 ≤ w.heap.size; omega))).trans HBx.out
  have hcw : Chg lo h1 w w2 := (Chg.ext ((Ext.refl w).alloc _) lo h1).trans hc2
  have HP2 := Lib.hid (HPL.out w2 hcw)
  have HQ2 := Lib.hid hq2
  have HC2 := Lib.hid hcw
  rw [show (((k + szLL D.tabs : Nat)) : Int) = (k : Int) + szLL D.tabs by omega] at HP2 ⊢
  clear hc2 hq2 hcw HCU HPL
  go_wp2_with fail
  refine HP2.out.mono ?_
  rintro e w3 ⟨rfl, hm3, ho3⟩
  go_wp2
  go_ret
  have hc3 : Chg h1 hi w2 w3 := hm3.chg (Nat.le_refl _) HTop.out.2 (fun g hg => (HTop.out.1.blk g hg).1)
  exact ⟨ri (by rw [HSz.out]; omega), (HC2.out.mono (Nat.le_refl _) g2).trans (hc3.mono g1 (Nat.le_refl _)), h1, g1, g2, HQ2.out.chg hc3 (.inr (Nat.le_refl _)), by show Own w3 h1 _ b m d (I (markL _ D.places.length)); rw [Hhlp.out]; exact ho3, HTop.out.2⟩
end Go.Proofs.YtbcfbkhbangeoaaGreat

/- Walks: the laws' helpers on registries. -/
namespace Go.Proofs.YtbcfbkhbangeoaaGreat
set_option maxRecDepth 100000
open Go.RowKit

/-- a registry that came in -/
structure RawRg (w : World) (D : Rg) (a : Option Addr) (n c : Nat) (b : Option Addr) (m d : Nat) (ia : Option Addr) (im ic : Nat) (ra : Option Addr) (rm rc : Nat) : Prop where
  ch : RawCh w D.ch a n c b m d
  is : Strs w ia im ic D.issued
  rs : Ints w ra rm rc D.revoked
  hi : im ≤ 9223372036854775807
  hr : rm ≤ 9223372036854775807
  sz : ∀ s ∈ D.issued, s.size ≤ 9223372036854775807
def rgSize (D : Rg) : Nat := chSize D.ch + (D.issued.length + sizeS D.issued) + D.revoked.length
/-- a registry between two bounds: the chain first, the words and the revoked ones apart behind it -/
def RgR (w : World) (lo hi : Nat) (D : Rg) (a : Option Addr) (n c : Nat) (b : Option Addr) (m d : Nat) (ia : Option Addr) (im ic : Nat) (ra : Option Addr) (rm rc : Nat) : Prop :=
  ∃ c1 i0 i1 r0 r1, (lo ≤ c1 ∧ c1 ≤ i0 ∧ i0 ≤ i1 ∧ i1 ≤ hi ∧ c1 ≤ r0 ∧ r0 ≤ r1 ∧ r1 ≤ hi ∧ (i1 ≤ r0 ∨ r1 ≤ i0)) ∧ ChR w lo c1 D.ch a n c b m d ∧ OwnIn w i0 i1 9 ia im ic (St D.issued) ∧ OwnIn w r0 r1 2 ra rm rc (I D.revoked)
section
variable {w w' : World} {D : Rg} {lo hi : Nat} {a : Option Addr} {n c : Nat} {b : Option Addr} {m d : Nat} {ia : Option Addr} {im ic : Nat} {ra : Option Addr} {rm rc : Nat}
theorem RawRg.ext (h : RawRg w D a n c b m d ia im ic ra rm rc) (hx : Ext w w') : RawRg w' D a n c b m d ia im ic ra rm rc := ⟨h.ch.ext hx, h.is.ext hx, h.rs.ext hx, h.hi, h.hr, h.sz⟩
theorem RawRg.inn (h : RawRg w D a n c b m d ia im ic ra rm rc) (hs : rgSize D ≤ 1048576) : RgIn w D a n c b m d ia im ic ra rm rc := by
  have h1 := h.is.len
  have h2 := h.rs.len
  unfold rgSize at hs
  exact ⟨h.ch.inn (by omega), h.is, h.rs, by omega, by omega, fun s hs' => by have := sizeS_mem hs'; omega⟩
theorem RgR.row {h1 h2 : Nat} (g1 : lo ≤ h1) (g2 : h1 ≤ h2) (g3 : h2 ≤ hi) (h : ChR w lo h1 D.ch a n c b m d) (hi' : OwnIn w h1 h2 9 ia im ic (St D.issued)) (hr : OwnIn w h2 hi 2 ra rm rc (I D.revoked)) : RgR w lo hi D a n c b m d ia im ic ra rm rc :=
  ⟨h1, h1, h2, h2, hi, by omega, h, hi', hr⟩
theorem RgR.chg {lo' hi' : Nat} (h : RgR w lo hi D a n c b m d ia im ic ra rm rc) (hc : Chg lo' hi' w w') (hd : hi' ≤ lo ∨ hi ≤ lo') : RgR w' lo hi D a n c b m d ia im ic ra rm rc :=
  let ⟨c1, i0, i1, r0, r1, g, g4, g5, g6⟩ := h; ⟨c1, i0, i1, r0, r1, g, g4.chg hc (by omega), g5.chg hc (by omega), g6.chg hc (by omega)⟩
theorem RgR.ext (h : RgR w lo hi D a n c b m d ia im ic ra rm rc) (hx : Ext w w') : RgR w' lo hi D a n c b m d ia im ic ra rm rc := h.chg (Chg.ext hx 0 0) (.inl (Nat.zero_le _))
theorem RgR.mono {lo' hi' : Nat} (h : RgR w lo hi D a n c b m d ia im ic ra rm rc) (hl : lo' ≤ lo) (hh : hi ≤ hi') : RgR w lo' hi' D a n c b m d ia im ic ra rm rc :=
  let ⟨c1, i0, i1, r0, r1, g, g4, g5, g6⟩ := h; ⟨c1, i0, i1, r0, r1, by omega, g4.mono hl (Nat.le_refl _), g5, g6⟩
/-- sizes alone -/
structure RgSz (D : Rg) (n m im rm : Nat) : Prop where
  hn : n ≤ 1048576
  hm : m ≤ 1048576
  sm : SmallCh D.ch
  hi : im ≤ 1048576
  hr : rm ≤ 1048576
  sz : ∀ s ∈ D.issued, s.size ≤ 1048576
theorem RgIn.szs (h : RgIn w D a n c b m d ia im ic ra rm rc) : RgSz D n m im rm := ⟨h.ch.hn, h.ch.hn', h.ch.sm, h.hi, h.hr, h.sz⟩
theorem RgR.inn (h : RgR w lo hi D a n c b m d ia im ic ra rm rc) (hs : RgSz D n m im rm) : RgIn w D a n c b m d ia im ic ra rm rc :=
  let ⟨_, _, _, _, _, _, g4, g5, g6⟩ := h; ⟨g4.inn hs.hn hs.hm hs.sm, g5.1.sl, g6.1.ints, hs.hi, hs.hr, hs.sz⟩
end
/-- a registry of the call's own, between bounds -/
def RetRgR (D : Rg) (n m im rm : Nat) (w : World) (e : Ending) (w' : World) : Prop :=
  ∃ a c b d ia ic ra rc, e = .returned (.agg #[.int .i64 D.ch.base, .int .i64 D.ch.states, .int .i64 D.ch.start, .int .i64 D.ch.fin, .slice a n c, .slice b m d, .int .i64 D.apart, .slice ia im ic, .slice ra rm rc]) ∧ RgR w' w.heap.size w'.heap.size D a n c b m d ia im ic ra rm rc ∧ Ext w w'
theorem leftOf_two {left : Int} {x y : Nat} (h : 0 ≤ leftOf left x) : leftOf (leftOf left x) y = leftOf left (x + y) := by
  unfold leftOf at h ⊢
  split at h
  · omega
  · rename_i h1
    rw [if_neg h1]
    split <;> split <;> omega
theorem leftOf_neg {left : Int} {x y : Nat} (h : leftOf left x < 0) (_h0 : 0 ≤ left) : leftOf left (x + y) = -1 := by
  unfold leftOf at h ⊢
  split at h
  · rw [if_pos (by omega)]
  · omega
theorem leftOf_cases (left : Int) (x : Nat) : leftOf left x = -1 ∨ (0 ≤ leftOf left x ∧ leftOf left x ≤ left) := by
  unfold leftOf; split <;> omega
end Go.Proofs.YtbcfbkhbangeoaaGreat

/- Walks: the laws write marks into a registry, and look whether they are still there. -/
namespace Go.Proofs.YtbcfbkhbangeoaaGreat
set_option maxRecDepth 100000
open Go.RowKit

def szRg2 (D : Rg) : Nat := szCh2 D.ch + D.issued.length + D.revoked.length
def markG (k : Nat) (D : Rg) : Rg := { D with ch := markC k D.ch, issued := markTs (k + szCh2 D.ch) D.issued.length, revoked := markL (k + szCh2 D.ch + D.issued.length) D.revoked.length }
end Go.Proofs.YtbcfbkhbangeoaaGreat

/- Words for the laws that write marks: rules for a block's cells. -/
namespace Go.Proofs.YtbcfbkhbangeoaaGreat
set_option maxRecDepth 100000
open Go.RowKit

section
variable {w : World} {g : Nat} {T : TypeId}
theorem SAt.rule {cs : Array Value} (h : SAt w g T cs) (i : Nat) (v : Value) (hv : cs[i]? = some v) : ∀ w', Ext w w' → w'.cell? ⟨g, i, none⟩ = some v := fun w' hx => by
  have := cell_of_row w' g i cs T (0, 0) (h.ext hx)
  rw [this, hv]
theorem SAt.r6 {v0 v1 v2 v3 v4 v5 : Value} (h : SAt w g T #[v0, v1, v2, v3, v4, v5]) :
    (∀ w', Ext w w' → w'.cell? ⟨g, 0, none⟩ = some v0) ∧ (∀ w', Ext w w' → w'.cell? ⟨g, 1, none⟩ = some v1) ∧ (∀ w', Ext w w' → w'.cell? ⟨g, 2, none⟩ = some v2) ∧
    (∀ w', Ext w w' → w'.cell? ⟨g, 3, none⟩ = some v3) ∧ (∀ w', Ext w w' → w'.cell? ⟨g, 4, none⟩ = some v4) ∧ (∀ w', Ext w w' → w'.cell? ⟨g, 5, none⟩ = some v5) :=
  ⟨h.rule 0 _ rfl, h.rule 1 _ rfl, h.rule 2 _ rfl, h.rule 3 _ rfl, h.rule 4 _ rfl, h.rule 5 _ rfl⟩
theorem SAt.r9 {v0 v1 v2 v3 v4 v5 v6 v7 v8 : Value} (h : SAt w g T #[v0, v1, v2, v3, v4, v5, v6, v7, v8]) :
    (∀ w', Ext w w' → w'.cell? ⟨g, 0, none⟩ = some v0) ∧ (∀ w', Ext w w' → w'.cell? ⟨g, 1, none⟩ = some v1) ∧ (∀ w', Ext w w' → w'.cell? ⟨g, 2, none⟩ = some v2) ∧
    (∀ w', Ext w w' → w'.cell? ⟨g, 3, none⟩ = some v3) ∧ (∀ w', Ext w w' → w'.cell? ⟨g, 4, none⟩ = some v4) ∧ (∀ w', Ext w w' → w'.cell? ⟨g, 5, none⟩ = some v5) ∧
    (∀ w', Ext w w' → w'.cell? ⟨g, 6, none⟩ = some v6) ∧ (∀ w', Ext w w' → w'.cell? ⟨g, 7, none⟩ = some v7) ∧ (∀ w', Ext w w' → w'.cell? ⟨g, 8, none⟩ = some v8) :=
  ⟨h.rule 0 _ rfl, h.rule 1 _ rfl, h.rule 2 _ rfl, h.rule 3 _ rfl, h.rule 4 _ rfl, h.rule 5 _ rfl, h.rule 6 _ rfl, h.rule 7 _ rfl, h.rule 8 _ rfl⟩
end
theorem sum_cons_le {α : Type} (f g : α → Nat) (l : List α) (h : ∀ x, f x ≤ g x) : (l.map f).sum ≤ (l.map g).sum := by
  induction l with
  | nil => simp
  | cons x l ih => have := h x; simp only [List.map_cons, List.sum_cons]; omega
theorem szLL_le (l : List (List (List Int))) : szLL l ≤ szC l := by
  have h := sum_cons_le szL szM l (fun x => by show (x.map List.length).sum ≤ x.length + (x.map List.length).sum; omega)
  show (l.map szL).sum ≤ l.length + (l.map szM).sum
  omega
theorem szCh2_le {D : Ch} (h : chSize D ≤ 1048576) : szCh2 D ≤ 1048576 := by
  have := szLL_le D.tabs; unfold chSize at h; unfold szCh2; omega
theorem szRg2_le {D : Rg} (h : rgSize D ≤ 1048576) : szRg2 D ≤ 1048576 := by
  have := szCh2_le (D := D.ch) (by unfold rgSize at h; omega)
  have h2 := szLL_le D.ch.tabs
  unfold rgSize chSize at h
  unfold szRg2 szCh2
  omega
theorem small_tabs {D : Ch} (h : SmallCh D) : ∀ t ∈ D.tabs, t.length ≤ 1048576 := fun t ht => (h t ht).1
/-- a result registry's size in marks -/
theorem RgIn.same {w : World} {R : Rg} {a : Option Addr} {n c : Nat} {b : Option Addr} {m d : Nat} {ia : Option Addr} {im ic : Nat} {ra : Option Addr} {rm rc : Nat} {a2 : Option Addr} {n2 c2 : Nat} {b2 : Option Addr} {m2 d2 : Nat} {ia2 : Option Addr} {im2 ic2 : Nat} {ra2 : Option Addr} {rm2 rc2 : Nat} (h : RgIn w R a n c b m d ia im ic ra rm rc) (h2 : RgIn w R a2 n2 c2 b2 m2 d2 ia2 im2 ic2 ra2 rm2 rc2) : n = n2 ∧ m = m2 ∧ im = im2 ∧ rm = rm2 :=
  ⟨h.ch.ts.len.symm.trans h2.ch.ts.len, h.ch.ps.len.symm.trans h2.ch.ps.len, h.is.len.symm.trans h2.is.len, h.rs.len.symm.trans h2.rs.len⟩
end Go.Proofs.YtbcfbkhbangeoaaGreat

/- Walks: the laws' helpers on results that are lists of texts. -/
namespace Go.Proofs.YtbcfbkhbangeoaaGreat
set_option maxRecDepth 100000
open Go.RowKit

theorem eqTsT (a a' : Option Addr) (n c c' : Nat) (l : List ByteArray) (w : World) (hv : Strs w a n c l) (hv' : Strs w a' n c' l) (hn : n ≤ 4611686018427387904) :
    Calls Tryz.prog 19 #[.slice a n c, .slice a' n c'] w (Ret (.bool true) w) := by
  have h := eqStrs a a' n n c c' l l w hv hv' hn hn
  rwa [show decide (l = l) = true by simp] at h
theorem markTs1 (a : Option Addr) (n c : Nat) (vs : List Value) (lo hi : Nat) (w : World) (ho : OwnIn w lo hi 9 a n c vs) (hhi : hi ≤ w.heap.size) (hk : n ≤ 4194304) :
    Calls Tryz.prog 22 #[.slice a n c, .int .i64 1] w (fun e w' => e = .returned (.int .i64 (1 + (n : Int))) ∧ Chg lo hi w w' ∧ OwnIn w' lo hi 9 a n c (St (markTs 1 n))) := by
  refine (markStrsX a n c vs 1 lo hi w ho hhi (by omega)).mono ?_
  rintro e w' ⟨rfl, h2, h3⟩
  exact ⟨by rw [show (((1 + n : Nat)) : Int) = 1 + (n : Int) by omega], h2, h3⟩
theorem heldTs1 (a : Option Addr) (n c : Nat) (w : World) (hv : Strs w a n c (markTs 1 n)) (hk : n ≤ 4194304) :
    Calls Tryz.prog 23 #[.slice a n c, .int .i64 1] w (Ret (.int .i64 (1 + (n : Int))) w) := heldStrsX a n c 1 w hv (by omega)
end Go.Proofs.YtbcfbkhbangeoaaGreat
