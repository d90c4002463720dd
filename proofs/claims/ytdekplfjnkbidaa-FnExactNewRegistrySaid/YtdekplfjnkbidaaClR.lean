/- Walks: the program's copy of a registry. -/
import Derived.Test.YtdekplfjnkbidaaClI
import Derived.Test.YtdekplfjnkbidaaOwR
namespace Go.Proofs.Ytdekplfjnkbidaa
set_option maxRecDepth 100000
open Go.RowKit

set_option maxHeartbeats 400000 in
theorem clone_strs (a : Option Addr) (n c : Nat) (l : List ByteArray) (w : World) (hv : Strs w a n c l) (hn : n ≤ 4294967296) :
    Calls Try.prog 120 #[.slice a n c] w (RetOwn 9 (St l) w) := by
  have qT : ∀ (w : World) a n c, (binOp .eql 26 (.slice a n c) (.slice none 0 0)).run Try.prog w = .ok (.bool a.isNone) w := fun w a n c => Lib.run_eql_slice_nil w 26 9 a n c 0 0 und_strs
  have HL := Lib.hid hv.len
  cases a with
  | none =>
    have h0 : n = 0 := by
      rcases Nat.eq_zero_or_pos n with h | h
      · exact h
      · obtain ⟨b, off, ha, _⟩ := hv.cells h; cases ha
    subst h0
    have HN := Lib.hid (List.eq_nil_of_length_eq_zero HL.out)
    clear hv
    go_enter Try.func120, Try.ntmps120
    go_wp2
    go_ret
    exact ⟨none, 0, by rw [HN.out]; rfl, by rw [HN.out]; exact Own.nil _ _ _, Ext.refl _⟩
  | some ad =>
    have HV := Lib.hid hv
    clear hv
    go_enter Try.func120, Try.ntmps120
    go_wp2_with (at_builtin; refine law_appends _ rfl _ _ 26 rfl 9 (.string .empty) 16 und_strs info_str rfl w.heap.size _ 0 0 [] ad n c (St l) (oneS l) rfl rfl (Own.lit0 w _) (HV.out.ext ((Ext.refl w).alloc _)) (by simp) (by omega) (by omega) ?_; intro ad' c' w1 ho1 hb1 _ hnn)
    go_ret
    have hx : Ext w w1 := ((Ext.refl w).alloc _).below hb1
    rw [List.nil_append, Nat.zero_add] at ho1
    exact RetOwn.mkS ho1 HL.out hx
set_option maxHeartbeats 4000000 in
theorem impl_cloneRegistry (D : Rg) (a : Option Addr) (n c : Nat) (b : Option Addr) (m d : Nat) (ia : Option Addr) (im ic : Nat) (ra : Option Addr) (rm rc : Nat) (w : World) (hv : RgIn w D a n c b m d ia im ic ra rm rc) : Calls Try.prog 81 #[.agg #[.int .i64 D.ch.base, .int .i64 D.ch.states, .int .i64 D.ch.start, .int .i64 D.ch.fin, .slice a n c, .slice b m d, .int .i64 D.apart, .slice ia im ic, .slice ra rm rc]] w (RetRgR D n m im rm w) := by
  have HB := Lib.hid (hv.box 33)
  have HC := Lib.hid (fun W h => impl_cloneChain D.ch a n c b m d W (ChIn.ext hv.ch h))
  have HS := Lib.hid (fun W h => clone_strs ia im ic D.issued W (Strs.ext hv.is h) (by have := hv.hi; omega))
  have HR := Lib.hid (fun W h => clone_ints ra rm rc D.revoked W (Ints.ext hv.rs h) (by have := hv.hr; omega))
  have HI := Lib.hid hv.is.len
  have HLr := Lib.hid hv.rs.len
  obtain ⟨wx, hwx⟩ : ∃ wx, wx = w.alloc (.cells #[.int .i64 D.ch.base, .int .i64 D.ch.states, .int .i64 D.ch.start, .int .i64 D.ch.fin, .slice a n c, .slice b m d, .int .i64 D.apart, .slice ia im ic, .slice ra rm rc] 33) := ⟨_, rfl⟩
  have hxx : Ext w wx := by rw [hwx]; exact (by repeat (first | (with_reducible exact Ext.refl _) | (with_reducible refine Ext.drewN ?_ _) | (with_reducible refine Ext.drew ?_) | (with_reducible refine Ext.alloc ?_ _) | ((with_reducible refine Ext.setCell ?_ ?_ _); rotate_left; focus (first | (simp; done) | (simp; omega) | omega)) | assumption | (with_reducible refine Ext.trans ?_ (by assumption))))
  have hxs : wx.heap.size = w.heap.size + 1 := by rw [hwx]; simp
  obtain ⟨wz, hwz⟩ : ∃ wz, wz = wx.alloc (.cells #[.int .i64 0, .int .i64 0, .int .i64 0, .int .i64 0, .slice none 0 0, .slice none 0 0, .int .i64 0, .slice none 0 0, .slice none 0 0] 33) := ⟨_, rfl⟩
  have hxz : Ext wx wz := by rw [hwz]; exact (by repeat (first | (with_reducible exact Ext.refl _) | (with_reducible refine Ext.drewN ?_ _) | (with_reducible refine Ext.drew ?_) | (with_reducible refine Ext.alloc ?_ _) | ((with_reducible refine Ext.setCell ?_ ?_ _); rotate_left; focus (first | (simp; done) | (simp; omega) | omega)) | assumption | (with_reducible refine Ext.trans ?_ (by assumption))))
  have hxwz : Ext w wz := hxx.trans hxz
  have hzs : wz.heap.size = w.heap.size + 2 := by rw [hwz]; simp; omega
  have hzl : w.heap.size + 1 < wz.heap.size := by omega
  have zc0 : ∀ w', Ext wz w' → w'.cell? ⟨w.heap.size + 1, 0, none⟩ = some (.int .i64 0) := fun w' hx => by rw [← hxs]; exact hx.cell (by rw [hwz]; go_simp)
  have zc1 : ∀ w', Ext wz w' → w'.cell? ⟨w.heap.size + 1, 1, none⟩ = some (.int .i64 0) := fun w' hx => by rw [← hxs]; exact hx.cell (by rw [hwz]; go_simp)
  have zc2 : ∀ w', Ext wz w' → w'.cell? ⟨w.heap.size + 1, 2, none⟩ = some (.int .i64 0) := fun w' hx => by rw [← hxs]; exact hx.cell (by rw [hwz]; go_simp)
  have zc3 : ∀ w', Ext wz w' → w'.cell? ⟨w.heap.size + 1, 3, none⟩ = some (.int .i64 0) := fun w' hx => by rw [← hxs]; exact hx.cell (by rw [hwz]; go_simp)
  have zc4 : ∀ w', Ext wz w' → w'.cell? ⟨w.heap.size + 1, 4, none⟩ = some (.slice none 0 0) := fun w' hx => by rw [← hxs]; exact hx.cell (by rw [hwz]; go_simp)
  have zc5 : ∀ w', Ext wz w' → w'.cell? ⟨w.heap.size + 1, 5, none⟩ = some (.slice none 0 0) := fun w' hx => by rw [← hxs]; exact hx.cell (by rw [hwz]; go_simp)
  have zc6 : ∀ w', Ext wz w' → w'.cell? ⟨w.heap.size + 1, 6, none⟩ = some (.int .i64 0) := fun w' hx => by rw [← hxs]; exact hx.cell (by rw [hwz]; go_simp)
  have zc7 : ∀ w', Ext wz w' → w'.cell? ⟨w.heap.size + 1, 7, none⟩ = some (.slice none 0 0) := fun w' hx => by rw [← hxs]; exact hx.cell (by rw [hwz]; go_simp)
  have zc8 : ∀ w', Ext wz w' → w'.cell? ⟨w.heap.size + 1, 8, none⟩ = some (.slice none 0 0) := fun w' hx => by rw [← hxs]; exact hx.cell (by rw [hwz]; go_simp)
  have kc0 : ∀ w', Ext wx w' → w'.cell? ⟨w.heap.size, 0, none⟩ = some (.int .i64 D.ch.base) := fun w' hx => hx.cell (by rw [hwx]; go_simp)
  have kc1 : ∀ w', Ext wx w' → w'.cell? ⟨w.heap.size, 1, none⟩ = some (.int .i64 D.ch.states) := fun w' hx => hx.cell (by rw [hwx]; go_simp)
  have kc2 : ∀ w', Ext wx w' → w'.cell? ⟨w.heap.size, 2, none⟩ = some (.int .i64 D.ch.start) := fun w' hx => hx.cell (by rw [hwx]; go_simp)
  have kc3 : ∀ w', Ext wx w' → w'.cell? ⟨w.heap.size, 3, none⟩ = some (.int .i64 D.ch.fin) := fun w' hx => hx.cell (by rw [hwx]; go_simp)
  have kc4 : ∀ w', Ext wx w' → w'.cell? ⟨w.heap.size, 4, none⟩ = some (.slice a n c) := fun w' hx => hx.cell (by rw [hwx]; go_simp)
  have kc5 : ∀ w', Ext wx w' → w'.cell? ⟨w.heap.size, 5, none⟩ = some (.slice b m d) := fun w' hx => hx.cell (by rw [hwx]; go_simp)
  have kc6 : ∀ w', Ext wx w' → w'.cell? ⟨w.heap.size, 6, none⟩ = some (.int .i64 D.apart) := fun w' hx => hx.cell (by rw [hwx]; go_simp)
  have kc7 : ∀ w', Ext wx w' → w'.cell? ⟨w.heap.size, 7, none⟩ = some (.slice ia im ic) := fun w' hx => hx.cell (by rw [hwx]; go_simp)
  have kc8 : ∀ w', Ext wx w' → w'.cell? ⟨w.heap.size, 8, none⟩ = some (.slice ra rm rc) := fun w' hx => hx.cell (by rw [hwx]; go_simp)
  have zf : ∀ i w', Ext wz w' → w'.frozen? ⟨w.heap.size + 1, i, none⟩ = false := fun i w' hx => (Below.frozen (p := ⟨w.heap.size + 1, i, none⟩) hx hzl).trans (by rw [hwz]; exact SAt.frozen (SAt.new' _ _ _ (by rw [hxs])) i)
  have zs : ∀ w', Ext wz w' → w.heap.size + 2 ≤ w'.heap.size := fun w' hx => by have := hx.le; omega
  have zs2 : ∀ w', Ext wz w' → w.heap.size + 1 < w'.heap.size := fun w' hx => by have := hx.le; omega
  clear hv
  go_enter Try.func81, Try.ntmps81
  go_wp2
  rw [← hwx, ← hwz]
  clear hwz hwx
  go_region_held3 (fun w' => Ext wx w') ((exact (by repeat (first | (with_reducible exact Ext.refl _) | (with_reducible assumption) | (with_reducible refine Ext.drewN ?_ _) | (with_reducible refine Ext.drew ?_) | (with_reducible refine Ext.alloc ?_ _) | ((with_reducible refine Ext.setCell ?_ ?_ _); rotate_left; focus (first | (simp; done) | (simp; omega) | omega)) | (with_reducible refine Ext.trans ?_ (by with_reducible assumption)))))) ((first
    | (go_at_call 68; refine (HC.out _ (by repeat (first | (with_reducible exact Ext.refl _) | (with_reducible assumption) | (with_reducible refine Ext.drewN ?_ _) | (with_reducible refine Ext.drew ?_) | (with_reducible refine Ext.alloc ?_ _) | ((with_reducible refine Ext.setCell ?_ ?_ _); rotate_left; focus (first | (simp; done) | (simp; omega) | omega)) | (with_reducible refine Ext.trans ?_ (by with_reducible assumption))))).mono ?_; rintro e w1 ⟨a1, c1, b1, d1, rfl, hr1, hx1⟩; have hz1 : Ext wz w1 := Ext.trans (by repeat (first | (with_reducible exact Ext.refl _) | (with_reducible assumption) | (with_reducible refine Ext.drewN ?_ _) | (with_reducible refine Ext.drew ?_) | (with_reducible refine Ext.alloc ?_ _) | ((with_reducible refine Ext.setCell ?_ ?_ _); rotate_left; focus (first | (simp; done) | (simp; omega) | omega)) | (with_reducible refine Ext.trans ?_ (by with_reducible assumption)))) hx1)
    | (go_at_call 120; refine (HS.out _ (by repeat (first | (with_reducible exact Ext.refl _) | (with_reducible assumption) | (with_reducible refine Ext.drewN ?_ _) | (with_reducible refine Ext.drew ?_) | (with_reducible refine Ext.alloc ?_ _) | ((with_reducible refine Ext.setCell ?_ ?_ _); rotate_left; focus (first | (simp; done) | (simp; omega) | omega)) | (with_reducible refine Ext.trans ?_ (by with_reducible assumption))))).mono ?_; rintro e w2 ⟨a2, c2, rfl, ho2', hx2⟩; rw [St_len, HI.out] at ho2' ⊢; have hz2 : Ext wz w2 := hz1.trans hx2)
    | (go_at_call 109; refine (HR.out _ (by repeat (first | (with_reducible exact Ext.refl _) | (with_reducible assumption) | (with_reducible refine Ext.drewN ?_ _) | (with_reducible refine Ext.drew ?_) | (with_reducible refine Ext.alloc ?_ _) | ((with_reducible refine Ext.setCell ?_ ?_ _); rotate_left; focus (first | (simp; done) | (simp; omega) | omega)) | (with_reducible refine Ext.trans ?_ (by with_reducible assumption))))).mono ?_; rintro e w3 ⟨a3, c3, rfl, ho3', hx3, _⟩; rw [I_len, HLr.out] at ho3' ⊢; have hz3 : Ext wz w3 := hz2.trans hx3; have hsz3 := zs _ hz3; have hsz32 := zs2 _ hz3; have hfr3 := fun i => zf i w3 hz3; have y0 := zc0 w3 hz3; have y1 := zc1 w3 hz3; have y2 := zc2 w3 hz3; have y3 := zc3 w3 hz3; have y4 := zc4 w3 hz3; have y5 := zc5 w3 hz3; have y6 := zc6 w3 hz3; have y7 := zc7 w3 hz3; have y8 := zc8 w3 hz3)))
  all_goals
    go_wp2
    refine bodyPost_ret (v := .agg #[.int .i64 D.ch.base, .int .i64 D.ch.states, .int .i64 D.ch.start, .int .i64 D.ch.fin, .slice a1 n c1, .slice b1 m d1, .int .i64 D.apart, .slice a2 im c2, .slice a3 rm c3]) ?_ rfl ?_
    · simp [results, Try.results81, go_sem, y0, y1, y2, y3, y4, y5, y6, y7, y8]
    · have hxw3 : Ext w w3 := hxwz.trans hz3
      have l1 : w.heap.size + 2 ≤ w1.heap.size := zs _ hz1
      have l2 := hx2.le
      have l3 := hx3.le
      have hdz : wz.drew.heap.size = wz.heap.size := rfl
      have hcr : RgR w3 (w.heap.size + 2) w3.heap.size D a1 n c1 b1 m d1 a2 im c2 a3 rm c3 :=
        RgR.row l1 l2 l3 (((hr1.mono (by rw [hdz, hzs]; exact Nat.le_refl _) (Nat.le_refl _)).ext hx2).ext hx3) (ho2'.in.ext hx3) ho3'.in
      refine ⟨a1, c1, b1, d1, a2, c2, a3, c3, rfl, ?_, (by repeat (first | (with_reducible exact Ext.refl _) | (with_reducible assumption) | (with_reducible refine Ext.drewN ?_ _) | (with_reducible refine Ext.drew ?_) | (with_reducible refine Ext.alloc ?_ _) | ((with_reducible refine Ext.setCell ?_ ?_ _); rotate_left; focus (first | (simp; done) | (simp; omega) | omega)) | (with_reducible refine Ext.trans ?_ (by with_reducible assumption))))⟩
      refine RgR.mono (lo := w.heap.size + 2) (hi := w3.heap.size) ?_ (by omega) (by simp)
      refine RgR.chg (lo' := 0) (hi' := w.heap.size + 2) hcr ?_ (.inl (Nat.le_refl _))
      clear hcr
      exact (by repeat (first | (with_reducible exact Chg.refl _ _ _) | (with_reducible assumption) | ((with_reducible refine Chg.trans ?_ (Chg.setP _ _ _ ?_ ?_)); rotate_left; (focus (first | (simp; done) | (simp; omega) | omega)); (focus (first | (simp; done) | (simp; omega) | omega))) | (with_reducible refine Chg.trans ?_ (Chg.ext (Ext.alloc (Ext.refl _) _) _ _)) | (with_reducible refine Chg.trans ?_ (Chg.ext (Ext.drew (Ext.refl _)) _ _)) | (with_reducible refine Chg.trans ?_ (Chg.ext (Ext.drewN (Ext.refl _) _) _ _))))
end Go.Proofs.Ytdekplfjnkbidaa
