/- Walks: IssueMany of the reference. -/
import Derived.Test.YtdekplfjnkbidaaIss
import Derived.Test.YtdekplfjnkbidaaLMk
namespace Go.Proofs.Ytdekplfjnkbidaa
set_option maxRecDepth 100000
open Go.RowKit

/-- a registry whose rows are the call's own, in a block of nine cells -/
structure RgOwn (w : World) (g B : Nat) (D : Rg) (a : Option Addr) (n c : Nat) (b : Option Addr) (m d : Nat) (ia : Option Addr) (im ic : Nat) (ra : Option Addr) (rm rc : Nat) : Prop where
  blk : SAt w g 33 #[.int .i64 D.ch.base, .int .i64 D.ch.states, .int .i64 D.ch.start, .int .i64 D.ch.fin, .slice a n c, .slice b m d, .int .i64 D.apart, .slice ia im ic, .slice ra rm rc]
  cube : OwnCube w B 101 23 2 a n c D.ch.tabs
  pl : Own w B 2 b m d (I D.ch.places)
  is : Own w B 9 ia im ic (St D.issued)
  rs : Own w B 2 ra rm rc (I D.revoked)
section
variable {w w' : World} {g B : Nat} {D : Rg} {a : Option Addr} {n c : Nat} {b : Option Addr} {m d : Nat} {ia : Option Addr} {im ic : Nat} {ra : Option Addr} {rm rc : Nat}
theorem RgOwn.ext (h : RgOwn w g B D a n c b m d ia im ic ra rm rc) (hx : Ext w w') : RgOwn w' g B D a n c b m d ia im ic ra rm rc := ⟨h.blk.ext hx, h.cube.ext hx, h.pl.ext hx, h.is.ext hx, h.rs.ext hx⟩
theorem RgOwn.rgAt (h : RgOwn w g B D a n c b m d ia im ic ra rm rc) : RgAt w g D a n c b m d ia im ic ra rm rc :=
  ⟨⟨h.blk.rule 0 _ rfl, h.blk.rule 1 _ rfl, h.blk.rule 2 _ rfl, h.blk.rule 3 _ rfl, h.blk.rule 4 _ rfl, h.blk.rule 5 _ rfl, h.cube.cube, h.pl.ints⟩, h.blk.rule 6 _ rfl, h.blk.rule 7 _ rfl, h.blk.rule 8 _ rfl, h.is.sl, h.rs.ints⟩
theorem RgOwn.rgIn (h : RgOwn w g B D a n c b m d ia im ic ra rm rc) (hz : RgSz D n m im rm) : RgIn w D a n c b m d ia im ic ra rm rc := ⟨⟨h.cube.cube, h.pl.ints, hz.hn, hz.hm, hz.sm⟩, h.is.sl, h.rs.ints, hz.hi, hz.hr, hz.sz⟩
end
theorem add_sz {D : Rg} {L : List ByteArray} {n m im rm k : Nat} (hz : RgSz D n m im rm) (ho : OkRg (addL D L)) (hk : im + k ≤ 1048576) : RgSz (addL D L) n m (im + k) rm :=
  ⟨hz.hn, hz.hm, hz.sm, hk, hz.hr, fun s hs => by
    obtain ⟨i, hi, rfl⟩ := List.mem_iff_getElem.1 hs
    have := ho.s20 i hi
    rw [gs_get hi] at this
    omega⟩
theorem SAt.nines {w : World} {g : Nat} {T : TypeId} {z0 z1 z2 z3 z4 z5 z6 z7 z8 : Value} (h : SAt w g T #[z0, z1, z2, z3, z4, z5, z6, z7, z8]) (v0 v1 v2 v3 v4 v5 v6 v7 v8 : Value) :
    SAt (((((((((w.setCell ⟨g, 0, none⟩ v0).setCell ⟨g, 1, none⟩ v1).setCell ⟨g, 2, none⟩ v2).setCell ⟨g, 3, none⟩ v3).setCell ⟨g, 4, none⟩ v4).setCell ⟨g, 5, none⟩ v5).setCell ⟨g, 6, none⟩ v6).setCell ⟨g, 7, none⟩ v7).setCell ⟨g, 8, none⟩ v8) g T #[v0, v1, v2, v3, v4, v5, v6, v7, v8] := by
  have h0 : SAt (w.setCell ⟨g, 0, none⟩ v0) g T #[v0, z1, z2, z3, z4, z5, z6, z7, z8] := h.set 0 v0
  have h1 : SAt ((w.setCell ⟨g, 0, none⟩ v0).setCell ⟨g, 1, none⟩ v1) g T #[v0, v1, z2, z3, z4, z5, z6, z7, z8] := h0.set 1 v1
  have h2 : SAt (((w.setCell ⟨g, 0, none⟩ v0).setCell ⟨g, 1, none⟩ v1).setCell ⟨g, 2, none⟩ v2) g T #[v0, v1, v2, z3, z4, z5, z6, z7, z8] := h1.set 2 v2
  have h3 : SAt ((((w.setCell ⟨g, 0, none⟩ v0).setCell ⟨g, 1, none⟩ v1).setCell ⟨g, 2, none⟩ v2).setCell ⟨g, 3, none⟩ v3) g T #[v0, v1, v2, v3, z4, z5, z6, z7, z8] := h2.set 3 v3
  have h4 : SAt (((((w.setCell ⟨g, 0, none⟩ v0).setCell ⟨g, 1, none⟩ v1).setCell ⟨g, 2, none⟩ v2).setCell ⟨g, 3, none⟩ v3).setCell ⟨g, 4, none⟩ v4) g T #[v0, v1, v2, v3, v4, z5, z6, z7, z8] := h3.set 4 v4
  have h5 : SAt ((((((w.setCell ⟨g, 0, none⟩ v0).setCell ⟨g, 1, none⟩ v1).setCell ⟨g, 2, none⟩ v2).setCell ⟨g, 3, none⟩ v3).setCell ⟨g, 4, none⟩ v4).setCell ⟨g, 5, none⟩ v5) g T #[v0, v1, v2, v3, v4, v5, z6, z7, z8] := h4.set 5 v5
  have h6 : SAt (((((((w.setCell ⟨g, 0, none⟩ v0).setCell ⟨g, 1, none⟩ v1).setCell ⟨g, 2, none⟩ v2).setCell ⟨g, 3, none⟩ v3).setCell ⟨g, 4, none⟩ v4).setCell ⟨g, 5, none⟩ v5).setCell ⟨g, 6, none⟩ v6) g T #[v0, v1, v2, v3, v4, v5, v6, z7, z8] := h5.set 6 v6
  have h7 : SAt ((((((((w.setCell ⟨g, 0, none⟩ v0).setCell ⟨g, 1, none⟩ v1).setCell ⟨g, 2, none⟩ v2).setCell ⟨g, 3, none⟩ v3).setCell ⟨g, 4, none⟩ v4).setCell ⟨g, 5, none⟩ v5).setCell ⟨g, 6, none⟩ v6).setCell ⟨g, 7, none⟩ v7) g T #[v0, v1, v2, v3, v4, v5, v6, v7, z8] := h6.set 7 v7
  have h8 : SAt (((((((((w.setCell ⟨g, 0, none⟩ v0).setCell ⟨g, 1, none⟩ v1).setCell ⟨g, 2, none⟩ v2).setCell ⟨g, 3, none⟩ v3).setCell ⟨g, 4, none⟩ v4).setCell ⟨g, 5, none⟩ v5).setCell ⟨g, 6, none⟩ v6).setCell ⟨g, 7, none⟩ v7).setCell ⟨g, 8, none⟩ v8) g T #[v0, v1, v2, v3, v4, v5, v6, v7, v8] := h7.set 8 v8
  exact h8
/-- a registry, words and a bool: the reference's -/
def RetManyK (R : Rg) (ts : List ByteArray) (ok : Bool) (w : World) (e : Ending) (w' : World) : Prop :=
  ∃ a n c b m d ia im ic ra rm rc la ln lc, e = .returned (.tuple #[.agg #[.int .i64 R.ch.base, .int .i64 R.ch.states, .int .i64 R.ch.start, .int .i64 R.ch.fin, .slice a n c, .slice b m d, .int .i64 R.apart, .slice ia im ic, .slice ra rm rc], .slice la ln lc, .bool ok]) ∧ RgK w.heap.size w'.heap.size w' R a n c b m d ia im ic ra rm rc ∧ (∀ W, KeepB w.heap.size w'.heap.size w' W → Strs W la ln lc ts) ∧ ln ≤ 40 ∧ Ext w w'
set_option maxRecDepth 20000 in
set_option maxHeartbeats 8000000 in
theorem spec_IssueMany (D : Rg) (a : Option Addr) (n c : Nat) (b : Option Addr) (m d : Nat) (ia : Option Addr) (im ic : Nat) (ra : Option Addr) (rm rc : Nat) (x : Int) (w : World) (hv : RgIn w D a n c b m d ia im ic ra rm rc) : Calls Try.prog 36 #[.agg #[.int .i64 D.ch.base, .int .i64 D.ch.states, .int .i64 D.ch.start, .int .i64 D.ch.fin, .slice a n c, .slice b m d, .int .i64 D.apart, .slice ia im ic, .slice ra rm rc], .int .i64 x] w (RetManyK (manyRg D x) (manyT D x) (manyOk D x) w) := by
  obtain ⟨wb, hwb⟩ : ∃ wb, wb = (w.alloc (.cells #[.int .i64 D.ch.base, .int .i64 D.ch.states, .int .i64 D.ch.start, .int .i64 D.ch.fin, .slice a n c, .slice b m d, .int .i64 D.apart, .slice ia im ic, .slice ra rm rc] 33)).alloc (.cells #[.int .i64 0, .int .i64 0, .int .i64 0, .int .i64 0, .slice none 0 0, .slice none 0 0, .int .i64 0, .slice none 0 0, .slice none 0 0] 33) := ⟨_, rfl⟩
  have hxb : Ext w wb := by rw [hwb]; exact (by repeat (first | (with_reducible exact Ext.refl _) | (with_reducible refine Ext.drewN ?_ _) | (with_reducible refine Ext.drew ?_) | (with_reducible refine Ext.alloc ?_ _) | ((with_reducible refine Ext.setCell ?_ ?_ _); rotate_left; focus (first | (simp; done) | (simp; omega) | omega)) | assumption | (with_reducible refine Ext.trans ?_ (by assumption))))
  have hbs : wb.heap.size = w.heap.size + 2 := by rw [hwb]; simp
  have HAt := Lib.hid (show RgAt wb w.heap.size D a n c b m d ia im ic ra rm rc by rw [hwb]; exact (hv.box 33).ext ((Ext.refl _).alloc _))
  have HN := Lib.hid (hv.ext hxb)
  have him := hv.hi
  have HL := Lib.hid hv.is.len
  have zc0 : ∀ w', Ext wb w' → w'.cell? ⟨w.heap.size + 1, 0, none⟩ = some (.int .i64 0) := fun w' hx => hx.cell (by rw [hwb]; go_simp)
  have zc1 : ∀ w', Ext wb w' → w'.cell? ⟨w.heap.size + 1, 1, none⟩ = some (.int .i64 0) := fun w' hx => hx.cell (by rw [hwb]; go_simp)
  have zc2 : ∀ w', Ext wb w' → w'.cell? ⟨w.heap.size + 1, 2, none⟩ = some (.int .i64 0) := fun w' hx => hx.cell (by rw [hwb]; go_simp)
  have zc3 : ∀ w', Ext wb w' → w'.cell? ⟨w.heap.size + 1, 3, none⟩ = some (.int .i64 0) := fun w' hx => hx.cell (by rw [hwb]; go_simp)
  have zc4 : ∀ w', Ext wb w' → w'.cell? ⟨w.heap.size + 1, 4, none⟩ = some (.slice none 0 0) := fun w' hx => hx.cell (by rw [hwb]; go_simp)
  have zc5 : ∀ w', Ext wb w' → w'.cell? ⟨w.heap.size + 1, 5, none⟩ = some (.slice none 0 0) := fun w' hx => hx.cell (by rw [hwb]; go_simp)
  have zc6 : ∀ w', Ext wb w' → w'.cell? ⟨w.heap.size + 1, 6, none⟩ = some (.int .i64 0) := fun w' hx => hx.cell (by rw [hwb]; go_simp)
  have zc7 : ∀ w', Ext wb w' → w'.cell? ⟨w.heap.size + 1, 7, none⟩ = some (.slice none 0 0) := fun w' hx => hx.cell (by rw [hwb]; go_simp)
  have zc8 : ∀ w', Ext wb w' → w'.cell? ⟨w.heap.size + 1, 8, none⟩ = some (.slice none 0 0) := fun w' hx => hx.cell (by rw [hwb]; go_simp)
  have zf : ∀ i w', Ext wb w' → w'.frozen? ⟨w.heap.size + 1, i, none⟩ = false := fun i w' hx => (Below.frozen (p := ⟨w.heap.size + 1, i, none⟩) hx (by show w.heap.size + 1 < wb.heap.size; omega)).trans (by rw [hwb]; exact SAt.frozen (SAt.new' _ _ _ (by simp)) i)
  have zs : ∀ w', Ext wb w' → w.heap.size + 1 < w'.heap.size := fun w' hx => by have := hx.le; omega
  obtain ⟨⟨k0, k1, k2, k3, k4, k5, _, _⟩, k6, k7, k8, _, _⟩ := HAt.out
  have HVal := Lib.hid (fun W (h : Ext wb W) => spec_l10Is D w.heap.size a n c b m d ia im ic ra rm rc W (HAt.out.ext h) (HN.out.ext h))
  have HIn := Lib.hid (fun W => spec_in x 0 40 W)
  have HWb := Lib.hid hwb
  clear hv hwb
  cases hval : validRg D
  · rw [hval] at HVal
    have HO := Lib.hid (show manyOk D x = false from many_in0 (by rw [manyIn]; rw [hval]; rfl))
    have HR := Lib.hid (many_r0 HO.out)
    have HT := Lib.hid (many_t0 HO.out)
    go_enter Try.func36, Try.ntmps36
    go_wp2_with fail
    rw [← HWb.out]
    go_wp2_with (first | (go_at_call 47; (with_reducible refine (HVal.out _ (by repeat (first | (with_reducible exact Ext.refl _) | (with_reducible assumption) | (with_reducible refine Ext.drewN ?_ _) | (with_reducible refine Ext.drew ?_) | (with_reducible refine Ext.alloc ?_ _) | ((with_reducible refine Ext.setCell ?_ ?_ _); rotate_left; focus (first | (simp; done) | (simp; omega) | omega)) | (with_reducible refine Ext.trans ?_ (by with_reducible assumption))))).mono ?_); rintro e w1 ⟨rfl, hy⟩; have hl : Ext wb w1 := Ext.trans (by repeat (first | (with_reducible exact Ext.refl _) | (with_reducible assumption) | (with_reducible refine Ext.drewN ?_ _) | (with_reducible refine Ext.drew ?_) | (with_reducible refine Ext.alloc ?_ _) | ((with_reducible refine Ext.setCell ?_ ?_ _); rotate_left; focus (first | (simp; done) | (simp; omega) | omega)) | (with_reducible refine Ext.trans ?_ (by with_reducible assumption)))) hy; clear hy; have hfr6 := fun i => zf i w1 hl; have hls := zs w1 hl; have y0 := zc0 w1 hl; have y1 := zc1 w1 hl; have y2 := zc2 w1 hl; have y3 := zc3 w1 hl; have y4 := zc4 w1 hl; have y5 := zc5 w1 hl; have y6 := zc6 w1 hl; have y7 := zc7 w1 hl; have y8 := zc8 w1 hl) | ((with_reducible refine (HIn.out _).mono ?_); rintro e w2 ⟨rfl, rfl⟩))
    refine bodyPost_ret (v := .tuple #[.agg #[.int .i64 0, .int .i64 0, .int .i64 0, .int .i64 0, .slice none 0 0, .slice none 0 0, .int .i64 0, .slice none 0 0, .slice none 0 0], .slice none 0 0, .bool false]) ?_ rfl ?_
    · simp [results, Try.results36, go_sem, y0, y1, y2, y3, y4, y5, y6, y7, y8]
    · have hxw := hxb.trans hl
      unfold RetManyK
      rw [HR.out, HO.out, HT.out]
      exact ⟨none, 0, 0, none, 0, 0, none, 0, 0, none, 0, 0, none, 0, 0, rfl, fun W _ => zero_in W, fun W _ => sl_nil W 0, by omega, (by repeat (first | (with_reducible exact Ext.refl _) | (with_reducible assumption) | (with_reducible refine Ext.drewN ?_ _) | (with_reducible refine Ext.drew ?_) | (with_reducible refine Ext.alloc ?_ _) | ((with_reducible refine Ext.setCell ?_ ?_ _); rotate_left; focus (first | (simp; done) | (simp; omega) | omega)) | (with_reducible refine Ext.trans ?_ (by with_reducible assumption))))⟩
  have hok := validRg_ok hval
  rw [hval] at HVal
  have Hhok := Lib.hid hok; clear hok
  cases hin : inB x 0 40
  · rw [hin] at HIn
    have HO := Lib.hid (show manyOk D x = false from many_in0 (by rw [manyIn]; rw [hin]; simp))
    have HR := Lib.hid (many_r0 HO.out)
    have HT := Lib.hid (many_t0 HO.out)
    clear hin
    go_enter Try.func36, Try.ntmps36
    go_wp2_with fail
    rw [← HWb.out]
    go_wp2_with (first | (go_at_call 47; (with_reducible refine (HVal.out _ (by repeat (first | (with_reducible exact Ext.refl _) | (with_reducible assumption) | (with_reducible refine Ext.drewN ?_ _) | (with_reducible refine Ext.drew ?_) | (with_reducible refine Ext.alloc ?_ _) | ((with_reducible refine Ext.setCell ?_ ?_ _); rotate_left; focus (first | (simp; done) | (simp; omega) | omega)) | (with_reducible refine Ext.trans ?_ (by with_reducible assumption))))).mono ?_); rintro e w1 ⟨rfl, hy⟩; have hl : Ext wb w1 := Ext.trans (by repeat (first | (with_reducible exact Ext.refl _) | (with_reducible assumption) | (with_reducible refine Ext.drewN ?_ _) | (with_reducible refine Ext.drew ?_) | (with_reducible refine Ext.alloc ?_ _) | ((with_reducible refine Ext.setCell ?_ ?_ _); rotate_left; focus (first | (simp; done) | (simp; omega) | omega)) | (with_reducible refine Ext.trans ?_ (by with_reducible assumption)))) hy; clear hy; have hfr6 := fun i => zf i w1 hl; have hls := zs w1 hl; have y0 := zc0 w1 hl; have y1 := zc1 w1 hl; have y2 := zc2 w1 hl; have y3 := zc3 w1 hl; have y4 := zc4 w1 hl; have y5 := zc5 w1 hl; have y6 := zc6 w1 hl; have y7 := zc7 w1 hl; have y8 := zc8 w1 hl) | ((with_reducible refine (HIn.out _).mono ?_); rintro e w2 ⟨rfl, rfl⟩))
    refine bodyPost_ret (v := .tuple #[.agg #[.int .i64 0, .int .i64 0, .int .i64 0, .int .i64 0, .slice none 0 0, .slice none 0 0, .int .i64 0, .slice none 0 0, .slice none 0 0], .slice none 0 0, .bool false]) ?_ rfl ?_
    · simp [results, Try.results36, go_sem, y0, y1, y2, y3, y4, y5, y6, y7, y8]
    · have hxw := hxb.trans hl
      unfold RetManyK
      rw [HR.out, HO.out, HT.out]
      exact ⟨none, 0, 0, none, 0, 0, none, 0, 0, none, 0, 0, none, 0, 0, rfl, fun W _ => zero_in W, fun W _ => sl_nil W 0, by omega, (by repeat (first | (with_reducible exact Ext.refl _) | (with_reducible assumption) | (with_reducible refine Ext.drewN ?_ _) | (with_reducible refine Ext.drew ?_) | (with_reducible refine Ext.alloc ?_ _) | ((with_reducible refine Ext.setCell ?_ ?_ _); rotate_left; focus (first | (simp; done) | (simp; omega) | omega)) | (with_reducible refine Ext.trans ?_ (by with_reducible assumption))))⟩
  have hin' := inB_t.1 hin
  have h40 := Hhok.out.n40
  rw [HL.out] at h40
  rw [hin] at HIn
  by_cases hsum : 40 < (im : Int) + x
  · have HO := Lib.hid (show manyOk D x = false from many_in0 (by rw [manyIn]; rw [HL.out]; simp; intros; omega))
    have HR := Lib.hid (many_r0 HO.out)
    have HT := Lib.hid (many_t0 HO.out)
    have hs1 : decide (40 < (im : Int) + x) = true := decide_eq_true hsum
    clear hin
    go_enter Try.func36, Try.ntmps36
    go_wp2_with fail
    rw [← HWb.out]
    go_wp2_with (first | (go_at_call 47; (with_reducible refine (HVal.out _ (by repeat (first | (with_reducible exact Ext.refl _) | (with_reducible assumption) | (with_reducible refine Ext.drewN ?_ _) | (with_reducible refine Ext.drew ?_) | (with_reducible refine Ext.alloc ?_ _) | ((with_reducible refine Ext.setCell ?_ ?_ _); rotate_left; focus (first | (simp; done) | (simp; omega) | omega)) | (with_reducible refine Ext.trans ?_ (by with_reducible assumption))))).mono ?_); rintro e w1 ⟨rfl, hy⟩; have hl : Ext wb w1 := Ext.trans (by repeat (first | (with_reducible exact Ext.refl _) | (with_reducible assumption) | (with_reducible refine Ext.drewN ?_ _) | (with_reducible refine Ext.drew ?_) | (with_reducible refine Ext.alloc ?_ _) | ((with_reducible refine Ext.setCell ?_ ?_ _); rotate_left; focus (first | (simp; done) | (simp; omega) | omega)) | (with_reducible refine Ext.trans ?_ (by with_reducible assumption)))) hy; clear hy; have hfr6 := fun i => zf i w1 hl; have hls := zs w1 hl; have y0 := zc0 w1 hl; have y1 := zc1 w1 hl; have y2 := zc2 w1 hl; have y3 := zc3 w1 hl; have y4 := zc4 w1 hl; have y5 := zc5 w1 hl; have y6 := zc6 w1 hl; have y7 := zc7 w1 hl; have y8 := zc8 w1 hl) | ((with_reducible refine (HIn.out _).mono ?_); rintro e w2 ⟨rfl, rfl⟩))
    refine bodyPost_ret (v := .tuple #[.agg #[.int .i64 0, .int .i64 0, .int .i64 0, .int .i64 0, .slice none 0 0, .slice none 0 0, .int .i64 0, .slice none 0 0, .slice none 0 0], .slice none 0 0, .bool false]) ?_ rfl ?_
    · simp [results, Try.results36, go_sem, y0, y1, y2, y3, y4, y5, y6, y7, y8]
    · have hxw := hxb.trans hl
      unfold RetManyK
      rw [HR.out, HO.out, HT.out]
      exact ⟨none, 0, 0, none, 0, 0, none, 0, 0, none, 0, 0, none, 0, 0, rfl, fun W _ => zero_in W, fun W _ => sl_nil W 0, by omega, (by repeat (first | (with_reducible exact Ext.refl _) | (with_reducible assumption) | (with_reducible refine Ext.drewN ?_ _) | (with_reducible refine Ext.drew ?_) | (with_reducible refine Ext.alloc ?_ _) | ((with_reducible refine Ext.setCell ?_ ?_ _); rotate_left; focus (first | (simp; done) | (simp; omega) | omega)) | (with_reducible refine Ext.trans ?_ (by with_reducible assumption))))⟩
  have hmi : manyIn D x = true := by rw [manyIn, hval, hin, HL.out]; simp; omega
  have hs1 : decide (40 < (im : Int) + x) = false := decide_eq_false hsum
  obtain ⟨cnt, rfl⟩ : ∃ cnt : Nat, x = cnt := ⟨x.toNat, by omega⟩
  have HSum := Lib.hid (show im + cnt ≤ 40 by omega)
  have Hhmi := Lib.hid hmi; clear hmi
  clear hin hval
  go_enter Try.func36, Try.ntmps36
  go_wp2_with fail
  rw [← HWb.out]
  go_wp2_with (first | (go_at_call 47; (with_reducible refine (HVal.out _ (by repeat (first | (with_reducible exact Ext.refl _) | (with_reducible assumption) | (with_reducible refine Ext.drewN ?_ _) | (with_reducible refine Ext.drew ?_) | (with_reducible refine Ext.alloc ?_ _) | ((with_reducible refine Ext.setCell ?_ ?_ _); rotate_left; focus (first | (simp; done) | (simp; omega) | omega)) | (with_reducible refine Ext.trans ?_ (by with_reducible assumption))))).mono ?_); rintro e w1 ⟨rfl, hy⟩; have hl : Ext wb w1 := Ext.trans (by repeat (first | (with_reducible exact Ext.refl _) | (with_reducible assumption) | (with_reducible refine Ext.drewN ?_ _) | (with_reducible refine Ext.drew ?_) | (with_reducible refine Ext.alloc ?_ _) | ((with_reducible refine Ext.setCell ?_ ?_ _); rotate_left; focus (first | (simp; done) | (simp; omega) | omega)) | (with_reducible refine Ext.trans ?_ (by with_reducible assumption)))) hy; clear hy; have hfr6 := fun i => zf i w1 hl; have hls := zs w1 hl; have y0 := zc0 w1 hl; have y1 := zc1 w1 hl; have y2 := zc2 w1 hl; have y3 := zc3 w1 hl; have y4 := zc4 w1 hl; have y5 := zc5 w1 hl; have y6 := zc6 w1 hl; have y7 := zc7 w1 hl; have y8 := zc8 w1 hl) | ((with_reducible refine (HIn.out _).mono ?_); rintro e w2 ⟨rfl, rfl⟩))
  clear HVal HIn
  refine (spec_ownReg D w.heap.size a n c b m d ia im ic ra rm rc w1 (HAt.out.ext hl) (HN.out.ext hl)).mono ?_
  rintro e w3 ⟨a3, c3, b3, d3, ia3, ic3, ra3, rc3, rfl, hoc, hop, hos, hor, hx3⟩
  have h13 : wb.heap.size ≤ w1.heap.size := hl.le
  have hl3 : Ext wb w3 := hl.trans hx3
  have hsz3 : wb.heap.size ≤ w3.heap.size := hl3.le
  obtain ⟨gn, hgn⟩ : ∃ gn, gn = w3.heap.size := ⟨_, rfl⟩
  have hgb : wb.heap.size ≤ gn := by omega
  have HSZ := Lib.hid HN.out.szs
  have HO0 := Lib.hid (show RgOwn ((w3.alloc (.cells #[.int .i64 D.ch.base, .int .i64 D.ch.states, .int .i64 D.ch.start, .int .i64 D.ch.fin, .slice a3 n c3, .slice b3 m d3, .int .i64 D.apart, .slice ia3 im ic3, .slice ra3 rm rc3] 33)).alloc (.cells #[] 9)) gn wb.heap.size (addL D []) a3 n c3 b3 m d3 ia3 (im + 0) ic3 ra3 rm rc3 by
    rw [addL_nil]
    exact ⟨(SAt.new' _ _ _ hgn).alloc _, ((hoc.mono h13).ext ((Ext.refl _).alloc _)).ext ((Ext.refl _).alloc _), ((hop.mono h13).alloc' _).alloc' _, ((hos.mono h13).alloc' _).alloc' _, ((hor.mono h13).alloc' _).alloc' _⟩)
  have HL0 := Lib.hid (show Own ((w3.alloc (.cells #[.int .i64 D.ch.base, .int .i64 D.ch.states, .int .i64 D.ch.start, .int .i64 D.ch.fin, .slice a3 n c3, .slice b3 m d3, .int .i64 D.apart, .slice ia3 im ic3, .slice ra3 rm rc3] 33)).alloc (.cells #[] 9)) wb.heap.size 9 (some ⟨gn + 1, 0, none⟩) 0 0 (St []) from Own.lit0' _ _ (by omega) (by rw [hgn]; simp))
  have HNe0 := Lib.hid (show ∀ g g', ia3 = some g → (some (⟨gn + 1, 0, none⟩ : Addr)) = some g' → g.block ≠ g'.block from fun g g' h1 h2 => by
    have := (hos.blk g h1).2
    simp only [Option.some.injEq] at h2
    subst h2
    show g.block ≠ gn + 1
    omega)
  have hxa : Ext wb ((w3.alloc (.cells #[.int .i64 D.ch.base, .int .i64 D.ch.states, .int .i64 D.ch.start, .int .i64 D.ch.fin, .slice a3 n c3, .slice b3 m d3, .int .i64 D.apart, .slice ia3 im ic3, .slice ra3 rm rc3] 33)).alloc (.cells #[] 9)) := (hl3.alloc _).alloc _
  clear hoc hop hos hor
  go_wp2_with fail
  rw [← hgn]
  obtain ⟨wa, hwa⟩ : ∃ wa, wa = ((w3.alloc (.cells #[.int .i64 D.ch.base, .int .i64 D.ch.states, .int .i64 D.ch.start, .int .i64 D.ch.fin, .slice a3 n c3, .slice b3 m d3, .int .i64 D.apart, .slice ia3 im ic3, .slice ra3 rm rc3] 33)).alloc (.cells #[] 9)) := ⟨_, rfl⟩
  rw [← hwa] at HO0 HL0 hxa ⊢
  clear hwa hgn
  go_loopw [8, 9, 10, 11] (fun lv kv _ _ wr => ∃ (k : Nat) (L : List ByteArray) (a5 : Option Addr) (c5 : Nat) (b5 : Option Addr) (d5 : Nat) (ia5 : Option Addr) (ic5 : Nat) (ra5 : Option Addr) (rc5 : Nat) (la : Option Addr) (lc : Nat), k ≤ cnt ∧ kv = .int .i64 k ∧ lv = .slice la k lc ∧ Hid (manyL D k = some L) ∧
      RgOwn wr gn wb.heap.size (addL D L) a5 n c5 b5 m d5 ia5 (im + k) ic5 ra5 rm rc5 ∧ Own wr wb.heap.size 9 la k lc (St L) ∧ (∀ g g', ia5 = some g → la = some g' → g.block ≠ g'.block) ∧ Ext wb wr) (fun _ kv _ _ _ => cnt - (intOf kv).toNat)
  case atStart => exact ⟨0, [], a3, c3, b3, d3, ia3, ic3, ra3, rc3, _, 0, Nat.zero_le _, rfl, rfl, Lib.hid rfl, HO0.out, HL0.out, HNe0.out, hxa⟩
  case round =>
    obtain ⟨k, L, a5, c5, b5, d5, ia5, ic5, ra5, rc5, la, lc, hk, rfl, rfl, HM, hO, hLs, hne, hx⟩ := hrel
    have HO := Lib.hid hO
    have HLs := Lib.hid hLs
    have HNe := Lib.hid hne
    have hl : Ext wb wr := hx
    clear hO hLs hne hx
    have HOK := Lib.hid (many_ok Hhok.out (by have h9 := HSum.out; rw [HL.out]; omega) HM.out)
    have HSL := Lib.hid (add_sz (k := k) HSZ.out HOK.out (by have h9 := HSum.out; omega))
    by_cases hlt : k < cnt
    · have HTr := Lib.hid (spec_l10Trial (addL D L) gn a5 n c5 b5 m d5 ia5 (im + k) ic5 ra5 rm rc5 wr HO.out.rgAt HOK.out)
      cases ht : trialO (addL D L) with
      | none =>
        rw [show trialB (addL D L) = false by rw [trialB, ht]; rfl] at HTr
        have HO2 := Lib.hid (show manyOk D (cnt : Int) = false from many_no (by rw [Int.toNat_natCast]; exact many_none (k := k + 1) (by rw [manyL, HM.out]; simp only [ht]) (by omega)))
        have HR := Lib.hid (many_r0 HO2.out)
        have HT := Lib.hid (many_t0 HO2.out)
        clear ht
        go_wp2_with ((with_reducible refine HTr.out.mono ?_); rintro e w5 ⟨rfl, hy⟩; have hl5 : Ext wb w5 := hl.trans hy; clear hy; have hfr6 := fun i => zf i w5 hl5; have hls := zs w5 hl5; have y0 := zc0 w5 hl5; have y1 := zc1 w5 hl5; have y2 := zc2 w5 hl5; have y3 := zc3 w5 hl5; have y4 := zc4 w5 hl5; have y5 := zc5 w5 hl5; have y6 := zc6 w5 hl5; have y7 := zc7 w5 hl5; have y8 := zc8 w5 hl5)
        refine bodyPost_ret (v := .tuple #[.agg #[.int .i64 0, .int .i64 0, .int .i64 0, .int .i64 0, .slice none 0 0, .slice none 0 0, .int .i64 0, .slice none 0 0, .slice none 0 0], .slice none 0 0, .bool false]) ?_ rfl ?_
        · simp [results, Try.results36, go_sem, y0, y1, y2, y3, y4, y5, y6, y7, y8]
        · have hxw := hxb.trans hl5
          unfold RetManyK
          rw [HR.out, HO2.out, HT.out]
          exact ⟨none, 0, 0, none, 0, 0, none, 0, 0, none, 0, 0, none, 0, 0, rfl, fun W _ => zero_in W, fun W _ => sl_nil W 0, by omega, (by repeat (first | (with_reducible exact Ext.refl _) | (with_reducible assumption) | (with_reducible refine Ext.drewN ?_ _) | (with_reducible refine Ext.drew ?_) | (with_reducible refine Ext.alloc ?_ _) | ((with_reducible refine Ext.setCell ?_ ?_ _); rotate_left; focus (first | (simp; done) | (simp; omega) | omega)) | (with_reducible refine Ext.trans ?_ (by with_reducible assumption))))⟩
      | some s =>
        have h1 := show trialB (addL D L) = true by rw [trialB, ht]; rfl
        have h2 := show trialT (addL D L) = s by rw [trialT, ht]; rfl
        rw [h1, h2] at HTr
        have HM2 := Lib.hid (show manyL D (k + 1) = some (L ++ [s]) by rw [manyL, HM.out]; simp only [ht])
        clear h1 h2 ht
        go_wp2_with (go_at_call 74; (with_reducible refine HTr.out.mono ?_); rintro e w5 ⟨rfl, hy⟩; have hl5 : Ext wb w5 := hl.trans hy; have hx5 : Ext wr w5 := hy; clear hy)
        refine (spec_l10Issue (addL D L) gn a5 n c5 b5 m d5 ia5 (im + k) ic5 ra5 rm rc5 s w5 (HO.out.rgAt.ext hx5) ((HO.out.rgIn HSL.out).ext hx5)).mono ?_
        rintro e w6 ⟨a6, c6, b6, d6, ia6, ic6, ra6, rc6, rfl, hoc, hop, hos, hor, hx6⟩
        have q1 : (issR (addL D L) s).ch = D.ch := rfl
        have q2 : (issR (addL D L) s).apart = D.apart := rfl
        rw [q1, q2]
        have hl6 : Ext wb w6 := hl5.trans hx6
        have hS6 : SAt w6 gn 33 #[.int .i64 D.ch.base, .int .i64 D.ch.states, .int .i64 D.ch.start, .int .i64 D.ch.fin, .slice a5 n c5, .slice b5 m d5, .int .i64 D.apart, .slice ia5 (im + k) ic5, .slice ra5 rm rc5] := HO.out.blk.ext (hx5.trans hx6)
        have hL5 := HLs.out.ext hx5
        have hL6 := hL5.ext hx6
        have e0 : w6.cell? ⟨gn, 0, none⟩ = some (.int .i64 D.ch.base) := hS6.cell 0 (by simp)
        have e1 : w6.cell? ⟨gn, 1, none⟩ = some (.int .i64 D.ch.states) := hS6.cell 1 (by simp)
        have e2 : w6.cell? ⟨gn, 2, none⟩ = some (.int .i64 D.ch.start) := hS6.cell 2 (by simp)
        have e3 : w6.cell? ⟨gn, 3, none⟩ = some (.int .i64 D.ch.fin) := hS6.cell 3 (by simp)
        have e4 : w6.cell? ⟨gn, 4, none⟩ = some (.slice a5 n c5) := hS6.cell 4 (by simp)
        have e5 : w6.cell? ⟨gn, 5, none⟩ = some (.slice b5 m d5) := hS6.cell 5 (by simp)
        have e6 : w6.cell? ⟨gn, 6, none⟩ = some (.int .i64 D.apart) := hS6.cell 6 (by simp)
        have e7 : w6.cell? ⟨gn, 7, none⟩ = some (.slice ia5 (im + k) ic5) := hS6.cell 7 (by simp)
        have e8 : w6.cell? ⟨gn, 8, none⟩ = some (.slice ra5 rm rc5) := hS6.cell 8 (by simp)
        have hfrg := hS6.frozen
        have hglt := hS6.lt
        have hg5 := (HO.out.blk.ext hx5).lt
        have hc7 : Chg gn (gn + 1) w6 (((((((((w6.setCell ⟨gn, 0, none⟩ (.int .i64 D.ch.base)).setCell ⟨gn, 1, none⟩ (.int .i64 D.ch.states)).setCell ⟨gn, 2, none⟩ (.int .i64 D.ch.start)).setCell ⟨gn, 3, none⟩ (.int .i64 D.ch.fin)).setCell ⟨gn, 4, none⟩ (.slice a6 n c6)).setCell ⟨gn, 5, none⟩ (.slice b6 m d6)).setCell ⟨gn, 6, none⟩ (.int .i64 D.apart)).setCell ⟨gn, 7, none⟩ (.slice ia6 (im + k + 1) ic6)).setCell ⟨gn, 8, none⟩ (.slice ra6 rm rc6)) := (by repeat (first | (with_reducible exact Chg.refl _ _ _) | (with_reducible assumption) | ((with_reducible refine Chg.trans ?_ (Chg.setP _ _ _ ?_ ?_)); rotate_left; (focus (first | (simp; done) | (simp; omega) | omega)); (focus (first | (simp; done) | (simp; omega) | omega))) | (with_reducible refine Chg.trans ?_ (Chg.ext (Ext.alloc (Ext.refl _) _) _ _)) | (with_reducible refine Chg.trans ?_ (Chg.ext (Ext.drew (Ext.refl _)) _ _)) | (with_reducible refine Chg.trans ?_ (Chg.ext (Ext.drewN (Ext.refl _) _) _ _))))
        have HL7 := Lib.hid (hL6.chg hc7 (fun g hg => by have := hL6.ne_s hS6 (by decide) g hg; omega))
        have HS7 := Lib.hid (hS6.nines (.int .i64 D.ch.base) (.int .i64 D.ch.states) (.int .i64 D.ch.start) (.int .i64 D.ch.fin) (.slice a6 n c6) (.slice b6 m d6) (.int .i64 D.apart) (.slice ia6 (im + k + 1) ic6) (.slice ra6 rm rc6))
        have hz7 : (((((((((w6.setCell ⟨gn, 0, none⟩ (.int .i64 D.ch.base)).setCell ⟨gn, 1, none⟩ (.int .i64 D.ch.states)).setCell ⟨gn, 2, none⟩ (.int .i64 D.ch.start)).setCell ⟨gn, 3, none⟩ (.int .i64 D.ch.fin)).setCell ⟨gn, 4, none⟩ (.slice a6 n c6)).setCell ⟨gn, 5, none⟩ (.slice b6 m d6)).setCell ⟨gn, 6, none⟩ (.int .i64 D.apart)).setCell ⟨gn, 7, none⟩ (.slice ia6 (im + k + 1) ic6)).setCell ⟨gn, 8, none⟩ (.slice ra6 rm rc6)).heap.size = w6.heap.size := by simp
        have HC7 := Lib.hid hc7
        have HL5 := Lib.hid hL5
        have hw56 := hx6.le
        have hwb6 := hl6.le
        have HOC := Lib.hid hoc
        have HOP := Lib.hid hop
        have HOS := Lib.hid hos
        have HOR := Lib.hid hor
        clear hoc hop hos hor hL5 hL6 hc7 hS6
        go_wp2_with (at_builtin; refine law_append1_at _ rfl _ _ 26 rfl 9 (.string .empty) 16 und_strs info_str rfl wb.heap.size la k lc (St L) _ rfl rfl (by simp [Act.eval, go_sem]) HL7.out (by rw [hz7]; omega) (by omega) (by omega) ?_; intro ad8 c8 w8 ho8 hb8 hg8 hbk8)
        have hgrow : Chg 0 w5.heap.size (((((((((w6.setCell ⟨gn, 0, none⟩ (.int .i64 D.ch.base)).setCell ⟨gn, 1, none⟩ (.int .i64 D.ch.states)).setCell ⟨gn, 2, none⟩ (.int .i64 D.ch.start)).setCell ⟨gn, 3, none⟩ (.int .i64 D.ch.fin)).setCell ⟨gn, 4, none⟩ (.slice a6 n c6)).setCell ⟨gn, 5, none⟩ (.slice b6 m d6)).setCell ⟨gn, 6, none⟩ (.int .i64 D.apart)).setCell ⟨gn, 7, none⟩ (.slice ia6 (im + k + 1) ic6)).setCell ⟨gn, 8, none⟩ (.slice ra6 rm rc6)) w8 := grown_chg hg8 (fun q e => by
          cases la with
          | none => simp [Value.ownBlock] at e
          | some g =>
            have h3 := HL5.out.blk g rfl
            simp [Value.ownBlock] at e
            omega)
        have hk8 : KeepB w5.heap.size w6.heap.size w6 w8 := (KeepB.chg HC7.out (Nat.le_refl _) (.inl (by omega))).trans (KeepB.chg hgrow (by omega) (.inl (Nat.le_refl _)))
        have hwb5 : wb.heap.size ≤ w5.heap.size := hl5.le
        have hRG : RgOwn w8 gn wb.heap.size (addL D (L ++ [s])) a6 n c6 b6 m d6 ia6 (im + (k + 1)) ic6 ra6 rm rc6 := by
          rw [← addL_snoc]
          exact ⟨HS7.out.grown hg8 (row_ne_s (HL7.out.ne_s HS7.out (by decide))), (HOC.out.keepB hk8).mono hwb5, (HOP.out.keepB hk8).mono hwb5, (HOS.out.keepB hk8).mono hwb5, (HOR.out.keepB hk8).mono hwb5⟩
        have hne8 : ∀ g g', ia6 = some g → ad8 = some g' → g.block ≠ g'.block := fun g g' h1 h2 => by
          have h3 := HOS.out.blk g h1
          rcases hbk8 g' h2 with ⟨g2, h4, h5⟩ | h5
          · have h6 := HL5.out.blk g2 h4; omega
          · omega
        have hx8 : Ext wb w8 := Ext.below (HC7.out.to hl6 hgb) (Below.mono hb8 (Nat.le_refl _))
        have ho9 : Own w8 wb.heap.size 9 ad8 (k + 1) c8 (St (L ++ [s])) := by rw [St_append]; exact ho8
        exact ⟨⟨k + 1, L ++ [s], a6, c6, b6, d6, ia6, ic6, ra6, rc6, ad8, c8, by omega, by go_num, rfl, HM2, hRG, ho9, hne8, hx8⟩, by simp [intOf]; omega⟩
    · obtain rfl : k = cnt := by omega
      have HO2 := Lib.hid (many_yes Hhmi.out (by rw [Int.toNat_natCast]; exact HM.out))
      have HR := Lib.hid (many_r1 HO2.out (by rw [Int.toNat_natCast]; exact HM.out))
      have HT := Lib.hid (many_t1 HO2.out (by rw [Int.toNat_natCast]; exact HM.out))
      obtain ⟨p0, p1, p2, p3, p4, p5, p6, p7, p8⟩ := (show SAt wr gn 33 #[.int .i64 D.ch.base, .int .i64 D.ch.states, .int .i64 D.ch.start, .int .i64 D.ch.fin, .slice a5 n c5, .slice b5 m d5, .int .i64 D.apart, .slice ia5 (im + k) ic5, .slice ra5 rm rc5] from HO.out.blk).r9
      have hfr6 := fun i => zf i wr hl
      have hls := zs wr hl
      have y0 := zc0 wr hl
      have y1 := zc1 wr hl
      have y2 := zc2 wr hl
      have y3 := zc3 wr hl
      have y4 := zc4 wr hl
      have y5 := zc5 wr hl
      have y6 := zc6 wr hl
      have y7 := zc7 wr hl
      have y8 := zc8 wr hl
      have hneq : w.heap.size + 1 ≠ gn := by omega
      go_wp2
      refine bodyPost_ret (v := .tuple #[.agg #[.int .i64 D.ch.base, .int .i64 D.ch.states, .int .i64 D.ch.start, .int .i64 D.ch.fin, .slice a5 n c5, .slice b5 m d5, .int .i64 D.apart, .slice ia5 (im + k) ic5, .slice ra5 rm rc5], .slice la k lc, .bool true]) ?_ rfl ?_
      · simp [results, Try.results36, go_sem, y0, y1, y2, y3, y4, y5, y6, y7, y8]
      · have hxw := hxb.trans hl
        have hlr := hl.le
        have hz := HSL.out
        unfold RetManyK
        rw [HR.out, HO2.out, HT.out]
        have hkc : ∀ W wf, Chg 0 (w.heap.size + 2) wr wf → wf.heap.size = wr.heap.size → KeepB w.heap.size wf.heap.size wf W → KeepB wb.heap.size wr.heap.size wr W := fun W wf hc he hk => (KeepB.chg hc (Nat.le_refl _) (.inl (by omega))).trans (hk.mono (by omega) (by omega))
        refine ⟨a5, n, c5, b5, m, d5, ia5, im + k, ic5, ra5, rm, rc5, la, k, lc, rfl, fun W hk => ?_, fun W hk => ?_, by have h9 := HSum.out; omega, (by repeat (first | (with_reducible exact Ext.refl _) | (with_reducible assumption) | (with_reducible refine Ext.drewN ?_ _) | (with_reducible refine Ext.drew ?_) | (with_reducible refine Ext.alloc ?_ _) | ((with_reducible refine Ext.setCell ?_ ?_ _); rotate_left; focus (first | (simp; done) | (simp; omega) | omega)) | (with_reducible refine Ext.trans ?_ (by with_reducible assumption))))⟩
        · have hk6 := hkc W _ (by repeat (first | (with_reducible exact Chg.refl _ _ _) | (with_reducible assumption) | ((with_reducible refine Chg.trans ?_ (Chg.setP _ _ _ ?_ ?_)); rotate_left; (focus (first | (simp; done) | (simp; omega) | omega)); (focus (first | (simp; done) | (simp; omega) | omega))) | (with_reducible refine Chg.trans ?_ (Chg.ext (Ext.alloc (Ext.refl _) _) _ _)) | (with_reducible refine Chg.trans ?_ (Chg.ext (Ext.drew (Ext.refl _)) _ _)) | (with_reducible refine Chg.trans ?_ (Chg.ext (Ext.drewN (Ext.refl _) _) _ _)))) (by simp) hk
          exact ⟨⟨(HO.out.cube.keepB hk6).cube, (HO.out.pl.keepB hk6).ints, hz.hn, hz.hm, hz.sm⟩, (HO.out.is.keepB hk6).sl, (HO.out.rs.keepB hk6).ints, hz.hi, hz.hr, hz.sz⟩
        · have hk6 := hkc W _ (by repeat (first | (with_reducible exact Chg.refl _ _ _) | (with_reducible assumption) | ((with_reducible refine Chg.trans ?_ (Chg.setP _ _ _ ?_ ?_)); rotate_left; (focus (first | (simp; done) | (simp; omega) | omega)); (focus (first | (simp; done) | (simp; omega) | omega))) | (with_reducible refine Chg.trans ?_ (Chg.ext (Ext.alloc (Ext.refl _) _) _ _)) | (with_reducible refine Chg.trans ?_ (Chg.ext (Ext.drew (Ext.refl _)) _ _)) | (with_reducible refine Chg.trans ?_ (Chg.ext (Ext.drewN (Ext.refl _) _) _ _)))) (by simp) hk
          exact (HLs.out.keepB hk6).sl
end Go.Proofs.Ytdekplfjnkbidaa
