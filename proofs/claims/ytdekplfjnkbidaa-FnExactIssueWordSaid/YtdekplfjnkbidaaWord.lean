/- Walks: IssueWord, both sides. -/
import Derived.Test.YtdekplfjnkbidaaManyI
namespace Go.Proofs.Ytdekplfjnkbidaa
set_option maxRecDepth 100000
open Go.RowKit

theorem manyL_one (D : Rg) : manyL D 1 = (trialO D).map (fun s => [s]) := by
  rw [manyL, manyL]
  simp only [addL_nil]
  cases trialO D <;> rfl
theorem one_no1 {D : Rg} (h : D.issued.length = 40) : manyOk D 1 = false := many_in0 (by rw [manyIn, h]; simp)
theorem one_no2 {D : Rg} (h : trialO D = none) : manyOk D 1 = false := many_no (by show manyL D 1 = none; rw [manyL_one, h]; rfl)
theorem one_yes {D : Rg} {s : ByteArray} (hval : validRg D = true) (h : D.issued.length + 1 ≤ 40) (ht : trialO D = some s) : manyOk D 1 = true ∧ manyRg D 1 = issR D s ∧ manyT D 1 = [s] := by
  have hl : manyL D (1 : Int).toNat = some [s] := by show manyL D 1 = _; rw [manyL_one, ht]; rfl
  have hin : manyIn D 1 = true := by rw [manyIn, hval]; simp [inB]; omega
  have hk := many_yes hin hl
  exact ⟨hk, many_r1 hk hl, many_t1 hk hl⟩
theorem one_some {D : Rg} (h : manyOk D 1 = true) : ∃ s, manyT D 1 = [s] := by
  cases ht : trialO D with
  | none => rw [one_no2 ht] at h; cases h
  | some s => exact ⟨s, many_t1 h (by show manyL D 1 = _; rw [manyL_one, ht]; rfl)⟩
/-- a registry, a text and a bool: the reference's; the program's -/
def RetRgTK (D : Rg) (t : ByteArray) (ok : Bool) (w : World) (e : Ending) (w' : World) : Prop :=
  ∃ a n c b m d ia im ic ra rm rc, e = .returned (.tuple #[.agg #[.int .i64 D.ch.base, .int .i64 D.ch.states, .int .i64 D.ch.start, .int .i64 D.ch.fin, .slice a n c, .slice b m d, .int .i64 D.apart, .slice ia im ic, .slice ra rm rc], .string t, .bool ok]) ∧ RgK w.heap.size w'.heap.size w' D a n c b m d ia im ic ra rm rc ∧ Ext w w'
def RetRgTO (D : Rg) (t : ByteArray) (ok : Bool) (w : World) (e : Ending) (w' : World) : Prop :=
  ∃ a n c b m d ia im ic ra rm rc, e = .returned (.tuple #[.agg #[.int .i64 D.ch.base, .int .i64 D.ch.states, .int .i64 D.ch.start, .int .i64 D.ch.fin, .slice a n c, .slice b m d, .int .i64 D.apart, .slice ia im ic, .slice ra rm rc], .string t, .bool ok]) ∧ RgR w' w.heap.size w'.heap.size D a n c b m d ia im ic ra rm rc ∧ RgSz D n m im rm ∧ Ext w w'
theorem one_failK {D : Rg} {w w' : World} (h : manyOk D 1 = false) (hx : Ext w w') : RetRgTK (manyRg D 1) (gs (manyT D 1) 0) (manyOk D 1) w (.returned (.tuple #[.agg #[.int .i64 0, .int .i64 0, .int .i64 0, .int .i64 0, .slice none 0 0, .slice none 0 0, .int .i64 0, .slice none 0 0, .slice none 0 0], .string ⟨#[]⟩, .bool false])) w' := by
  rw [many_r0 h, many_t0 h, h]
  exact ⟨none, 0, 0, none, 0, 0, none, 0, 0, none, 0, 0, rfl, fun W _ => zero_in W, hx⟩
theorem one_failO {D : Rg} {w w' : World} (h : manyOk D 1 = false) (hx : Ext w w') : RetRgTO (manyRg D 1) (gs (manyT D 1) 0) (manyOk D 1) w (.returned (.tuple #[.agg #[.int .i64 0, .int .i64 0, .int .i64 0, .int .i64 0, .slice none 0 0, .slice none 0 0, .int .i64 0, .slice none 0 0, .slice none 0 0], .string ⟨#[]⟩, .bool false])) w' := by
  rw [many_r0 h, many_t0 h, h]
  exact ⟨none, 0, 0, none, 0, 0, none, 0, 0, none, 0, 0, rfl, zero_r _ _ _ hx.le, zero_sz, hx⟩
set_option maxRecDepth 20000 in
set_option maxHeartbeats 8000000 in
theorem spec_IssueWord (D : Rg) (a : Option Addr) (n c : Nat) (b : Option Addr) (m d : Nat) (ia : Option Addr) (im ic : Nat) (ra : Option Addr) (rm rc : Nat) (w : World) (hv : RgIn w D a n c b m d ia im ic ra rm rc) : Calls Try.prog 41 #[.agg #[.int .i64 D.ch.base, .int .i64 D.ch.states, .int .i64 D.ch.start, .int .i64 D.ch.fin, .slice a n c, .slice b m d, .int .i64 D.apart, .slice ia im ic, .slice ra rm rc]] w (RetRgTK (manyRg D 1) (gs (manyT D 1) 0) (manyOk D 1) w) := by
  obtain ⟨wb, hwb⟩ : ∃ wb, wb = (w.alloc (.cells #[.int .i64 D.ch.base, .int .i64 D.ch.states, .int .i64 D.ch.start, .int .i64 D.ch.fin, .slice a n c, .slice b m d, .int .i64 D.apart, .slice ia im ic, .slice ra rm rc] 33)).alloc (.cells #[.int .i64 0, .int .i64 0, .int .i64 0, .int .i64 0, .slice none 0 0, .slice none 0 0, .int .i64 0, .slice none 0 0, .slice none 0 0] 33) := ⟨_, rfl⟩
  have hxb : Ext w wb := by rw [hwb]; exact (by repeat (first | (with_reducible exact Ext.refl _) | (with_reducible refine Ext.drewN ?_ _) | (with_reducible refine Ext.drew ?_) | (with_reducible refine Ext.alloc ?_ _) | ((with_reducible refine Ext.setCell ?_ ?_ _); rotate_left; focus (first | (simp; done) | (simp; omega) | omega)) | assumption | (with_reducible refine Ext.trans ?_ (by assumption))))
  have hbs : wb.heap.size = w.heap.size + 2 := by rw [hwb]; simp
  have HAt := Lib.hid (show RgAt wb w.heap.size D a n c b m d ia im ic ra rm rc by rw [hwb]; exact (hv.box 33).ext ((Ext.refl _).alloc _))
  have HN := Lib.hid (hv.ext hxb)
  have him := hv.hi
  have HL := Lib.hid hv.is.len
  have zc0 : ∀ w', Ext wb w' → w'.cell? ⟨w.heap.size + 1, 0, none⟩ = some (.int .i64 0) := fun w' hx => hx.cell (by rw [hwb]; go_simp)
  have zc1 : ∀ w', Ext wb w' → w'.cell? ⟨w.heap.size + 1, 1, none⟩ = some (.int .i64 0) := fun w' hx => hx.cell (by rw [hwb]; go_simp)
  have zc2 : ∀ w', Ext wb w' → w'.cell? ⟨w.heap.size + 1, 2, none⟩ = some (.int .i64 0) := fun w' hx => hx.cell (by rw [hwb]; go_simp)
  have zc3 : ∀ w', Ext wb w' → w'.cell? ⟨w.heap.size + 1, 3, none⟩ = some (.int .i64 0) := fun w' hx => hx.cell (by rw [hwb]; go_simp)
  have zc4 : ∀ w', Ext wb w' → w'.cell? ⟨w.heap.size + 1, 4, none⟩ = some (.slice none 0 0) := fun w' hx => hx.cell (by rw [hwb]; go_simp)
  have zc5 : ∀ w', Ext wb w' → w'.cell? ⟨w.heap.size + 1, 5, none⟩ = some (.slice none 0 0) := fun w' hx => hx.cell (by rw [hwb]; go_simp)
  have zc6 : ∀ w', Ext wb w' → w'.cell? ⟨w.heap.size + 1, 6, none⟩ = some (.int .i64 0) := fun w' hx => hx.cell (by rw [hwb]; go_simp)
  have zc7 : ∀ w', Ext wb w' → w'.cell? ⟨w.heap.size + 1, 7, none⟩ = some (.slice none 0 0) := fun w' hx => hx.cell (by rw [hwb]; go_simp)
  have zc8 : ∀ w', Ext wb w' → w'.cell? ⟨w.heap.size + 1, 8, none⟩ = some (.slice none 0 0) := fun w' hx => hx.cell (by rw [hwb]; go_simp)
  have zf : ∀ i w', Ext wb w' → w'.frozen? ⟨w.heap.size + 1, i, none⟩ = false := fun i w' hx => (Below.frozen (p := ⟨w.heap.size + 1, i, none⟩) hx (by show w.heap.size + 1 < wb.heap.size; omega)).trans (by rw [hwb]; exact SAt.frozen (SAt.new' _ _ _ (by simp)) i)
  have zs : ∀ w', Ext wb w' → w.heap.size + 1 < w'.heap.size := fun w' hx => by have := hx.le; omega
  obtain ⟨⟨k0, k1, k2, k3, k4, k5, _, _⟩, k6, k7, k8, _, _⟩ := HAt.out
  have HWb := Lib.hid hwb
  have HVal := Lib.hid (fun W (h : Ext wb W) => spec_l10Is D w.heap.size a n c b m d ia im ic ra rm rc W (HAt.out.ext h) (HN.out.ext h))
  clear hv hwb
  cases hval : validRg D
  · rw [hval] at HVal
    have HO := Lib.hid (show manyOk D 1 = false from many_in0 (by rw [manyIn, hval]; rfl))
    clear hval
    go_enter Try.func41, Try.ntmps41
    go_wp2_with fail
    rw [← HWb.out]
    go_wp2_with (first | (go_at_call 47; (with_reducible refine (HVal.out _ (by repeat (first | (with_reducible exact Ext.refl _) | (with_reducible assumption) | (with_reducible refine Ext.drewN ?_ _) | (with_reducible refine Ext.drew ?_) | (with_reducible refine Ext.alloc ?_ _) | ((with_reducible refine Ext.setCell ?_ ?_ _); rotate_left; focus (first | (simp; done) | (simp; omega) | omega)) | (with_reducible refine Ext.trans ?_ (by with_reducible assumption))))).mono ?_); rintro e w1 ⟨rfl, hy⟩; have hl : Ext wb w1 := Ext.trans (by repeat (first | (with_reducible exact Ext.refl _) | (with_reducible assumption) | (with_reducible refine Ext.drewN ?_ _) | (with_reducible refine Ext.drew ?_) | (with_reducible refine Ext.alloc ?_ _) | ((with_reducible refine Ext.setCell ?_ ?_ _); rotate_left; focus (first | (simp; done) | (simp; omega) | omega)) | (with_reducible refine Ext.trans ?_ (by with_reducible assumption)))) hy; clear hy; have hfr6 := fun i => zf i w1 hl; have hls := zs w1 hl; have y0 := zc0 w1 hl; have y1 := zc1 w1 hl; have y2 := zc2 w1 hl; have y3 := zc3 w1 hl; have y4 := zc4 w1 hl; have y5 := zc5 w1 hl; have y6 := zc6 w1 hl; have y7 := zc7 w1 hl; have y8 := zc8 w1 hl))
    refine bodyPost_ret (v := .tuple #[.agg #[.int .i64 0, .int .i64 0, .int .i64 0, .int .i64 0, .slice none 0 0, .slice none 0 0, .int .i64 0, .slice none 0 0, .slice none 0 0], .string ⟨#[]⟩, .bool false]) ?_ rfl ?_
    · simp [results, Try.results41, go_sem, y0, y1, y2, y3, y4, y5, y6, y7, y8]
    · have hxw := hxb.trans hl
      exact one_failK HO.out (by repeat (first | (with_reducible exact Ext.refl _) | (with_reducible assumption) | (with_reducible refine Ext.drewN ?_ _) | (with_reducible refine Ext.drew ?_) | (with_reducible refine Ext.alloc ?_ _) | ((with_reducible refine Ext.setCell ?_ ?_ _); rotate_left; focus (first | (simp; done) | (simp; omega) | omega)) | (with_reducible refine Ext.trans ?_ (by with_reducible assumption))))
  have hok := validRg_ok hval
  rw [hval] at HVal
  have Hhok := Lib.hid hok; clear hok
  have h40 := Hhok.out.n40
  rw [HL.out] at h40
  by_cases h4 : im = 40
  · have HO := Lib.hid (show manyOk D 1 = false from one_no1 (by rw [HL.out]; exact h4))
    have h40b : ((im : Int) == 40) = true := by simp [h4]
    have h40d : decide ((im : Int) = 40) = true := by simp [h4]
    clear h4 hval h40
    go_enter Try.func41, Try.ntmps41
    go_wp2_with fail
    rw [← HWb.out]
    go_wp2_with (first | (go_at_call 47; (with_reducible refine (HVal.out _ (by repeat (first | (with_reducible exact Ext.refl _) | (with_reducible assumption) | (with_reducible refine Ext.drewN ?_ _) | (with_reducible refine Ext.drew ?_) | (with_reducible refine Ext.alloc ?_ _) | ((with_reducible refine Ext.setCell ?_ ?_ _); rotate_left; focus (first | (simp; done) | (simp; omega) | omega)) | (with_reducible refine Ext.trans ?_ (by with_reducible assumption))))).mono ?_); rintro e w1 ⟨rfl, hy⟩; have hl : Ext wb w1 := Ext.trans (by repeat (first | (with_reducible exact Ext.refl _) | (with_reducible assumption) | (with_reducible refine Ext.drewN ?_ _) | (with_reducible refine Ext.drew ?_) | (with_reducible refine Ext.alloc ?_ _) | ((with_reducible refine Ext.setCell ?_ ?_ _); rotate_left; focus (first | (simp; done) | (simp; omega) | omega)) | (with_reducible refine Ext.trans ?_ (by with_reducible assumption)))) hy; clear hy; have hfr6 := fun i => zf i w1 hl; have hls := zs w1 hl; have y0 := zc0 w1 hl; have y1 := zc1 w1 hl; have y2 := zc2 w1 hl; have y3 := zc3 w1 hl; have y4 := zc4 w1 hl; have y5 := zc5 w1 hl; have y6 := zc6 w1 hl; have y7 := zc7 w1 hl; have y8 := zc8 w1 hl))
    refine bodyPost_ret (v := .tuple #[.agg #[.int .i64 0, .int .i64 0, .int .i64 0, .int .i64 0, .slice none 0 0, .slice none 0 0, .int .i64 0, .slice none 0 0, .slice none 0 0], .string ⟨#[]⟩, .bool false]) ?_ rfl ?_
    · simp [results, Try.results41, go_sem, y0, y1, y2, y3, y4, y5, y6, y7, y8]
    · have hxw := hxb.trans hl
      exact one_failK HO.out (by repeat (first | (with_reducible exact Ext.refl _) | (with_reducible assumption) | (with_reducible refine Ext.drewN ?_ _) | (with_reducible refine Ext.drew ?_) | (with_reducible refine Ext.alloc ?_ _) | ((with_reducible refine Ext.setCell ?_ ?_ _); rotate_left; focus (first | (simp; done) | (simp; omega) | omega)) | (with_reducible refine Ext.trans ?_ (by with_reducible assumption))))
  have h40' : (im : Int) ≠ 40 := by omega
  have h41 : im + 1 ≤ 40 := by omega
  have HTr := Lib.hid (fun W (h : Ext wb W) => spec_l10Trial D w.heap.size a n c b m d ia im ic ra rm rc W (HAt.out.ext h) Hhok.out)
  cases ht : trialO D with
  | none =>
    rw [show trialB D = false by rw [trialB, ht]; rfl] at HTr
    have HO := Lib.hid (one_no2 ht)
    clear ht hval
    go_enter Try.func41, Try.ntmps41
    go_wp2_with fail
    rw [← HWb.out]
    go_wp2_with (first | (go_at_call 47; (with_reducible refine (HVal.out _ (by repeat (first | (with_reducible exact Ext.refl _) | (with_reducible assumption) | (with_reducible refine Ext.drewN ?_ _) | (with_reducible refine Ext.drew ?_) | (with_reducible refine Ext.alloc ?_ _) | ((with_reducible refine Ext.setCell ?_ ?_ _); rotate_left; focus (first | (simp; done) | (simp; omega) | omega)) | (with_reducible refine Ext.trans ?_ (by with_reducible assumption))))).mono ?_); rintro e w1 ⟨rfl, hy⟩; have hl : Ext wb w1 := Ext.trans (by repeat (first | (with_reducible exact Ext.refl _) | (with_reducible assumption) | (with_reducible refine Ext.drewN ?_ _) | (with_reducible refine Ext.drew ?_) | (with_reducible refine Ext.alloc ?_ _) | ((with_reducible refine Ext.setCell ?_ ?_ _); rotate_left; focus (first | (simp; done) | (simp; omega) | omega)) | (with_reducible refine Ext.trans ?_ (by with_reducible assumption)))) hy; clear hy; have hfr6 := fun i => zf i w1 hl; have hls := zs w1 hl; have y0 := zc0 w1 hl; have y1 := zc1 w1 hl; have y2 := zc2 w1 hl; have y3 := zc3 w1 hl; have y4 := zc4 w1 hl; have y5 := zc5 w1 hl; have y6 := zc6 w1 hl; have y7 := zc7 w1 hl; have y8 := zc8 w1 hl) | (go_at_call 74; (with_reducible refine (HTr.out _ (by repeat (first | (with_reducible exact Ext.refl _) | (with_reducible assumption) | (with_reducible refine Ext.drewN ?_ _) | (with_reducible refine Ext.drew ?_) | (with_reducible refine Ext.alloc ?_ _) | ((with_reducible refine Ext.setCell ?_ ?_ _); rotate_left; focus (first | (simp; done) | (simp; omega) | omega)) | (with_reducible refine Ext.trans ?_ (by with_reducible assumption))))).mono ?_); rintro e w2 ⟨rfl, hy⟩; have hl : Ext wb w2 := Ext.trans (by repeat (first | (with_reducible exact Ext.refl _) | (with_reducible assumption) | (with_reducible refine Ext.drewN ?_ _) | (with_reducible refine Ext.drew ?_) | (with_reducible refine Ext.alloc ?_ _) | ((with_reducible refine Ext.setCell ?_ ?_ _); rotate_left; focus (first | (simp; done) | (simp; omega) | omega)) | (with_reducible refine Ext.trans ?_ (by with_reducible assumption)))) hy; clear hy; have hfr6 := fun i => zf i w2 hl; have hls := zs w2 hl; have y0 := zc0 w2 hl; have y1 := zc1 w2 hl; have y2 := zc2 w2 hl; have y3 := zc3 w2 hl; have y4 := zc4 w2 hl; have y5 := zc5 w2 hl; have y6 := zc6 w2 hl; have y7 := zc7 w2 hl; have y8 := zc8 w2 hl))
    refine bodyPost_ret (v := .tuple #[.agg #[.int .i64 0, .int .i64 0, .int .i64 0, .int .i64 0, .slice none 0 0, .slice none 0 0, .int .i64 0, .slice none 0 0, .slice none 0 0], .string ⟨#[]⟩, .bool false]) ?_ rfl ?_
    · simp [results, Try.results41, go_sem, y0, y1, y2, y3, y4, y5, y6, y7, y8]
    · have hxw := hxb.trans hl
      exact one_failK HO.out (by repeat (first | (with_reducible exact Ext.refl _) | (with_reducible assumption) | (with_reducible refine Ext.drewN ?_ _) | (with_reducible refine Ext.drew ?_) | (with_reducible refine Ext.alloc ?_ _) | ((with_reducible refine Ext.setCell ?_ ?_ _); rotate_left; focus (first | (simp; done) | (simp; omega) | omega)) | (with_reducible refine Ext.trans ?_ (by with_reducible assumption))))
  | some s =>
    rw [show trialB D = true by rw [trialB, ht]; rfl, show trialT D = s by rw [trialT, ht]; rfl] at HTr
    have HO := Lib.hid (one_yes hval (by rw [HL.out]; exact h41) ht)
    have hs20 := (chk_size (trial_ok Hhok.out.ch Hhok.out.vc ht).1).2
    clear ht hval
    go_enter Try.func41, Try.ntmps41
    go_wp2_with fail
    rw [← HWb.out]
    go_wp2_with (first | (go_at_call 47; (with_reducible refine (HVal.out _ (by repeat (first | (with_reducible exact Ext.refl _) | (with_reducible assumption) | (with_reducible refine Ext.drewN ?_ _) | (with_reducible refine Ext.drew ?_) | (with_reducible refine Ext.alloc ?_ _) | ((with_reducible refine Ext.setCell ?_ ?_ _); rotate_left; focus (first | (simp; done) | (simp; omega) | omega)) | (with_reducible refine Ext.trans ?_ (by with_reducible assumption))))).mono ?_); rintro e w1 ⟨rfl, hy⟩; have hl : Ext wb w1 := Ext.trans (by repeat (first | (with_reducible exact Ext.refl _) | (with_reducible assumption) | (with_reducible refine Ext.drewN ?_ _) | (with_reducible refine Ext.drew ?_) | (with_reducible refine Ext.alloc ?_ _) | ((with_reducible refine Ext.setCell ?_ ?_ _); rotate_left; focus (first | (simp; done) | (simp; omega) | omega)) | (with_reducible refine Ext.trans ?_ (by with_reducible assumption)))) hy; clear hy; have hfr6 := fun i => zf i w1 hl; have hls := zs w1 hl; have y0 := zc0 w1 hl; have y1 := zc1 w1 hl; have y2 := zc2 w1 hl; have y3 := zc3 w1 hl; have y4 := zc4 w1 hl; have y5 := zc5 w1 hl; have y6 := zc6 w1 hl; have y7 := zc7 w1 hl; have y8 := zc8 w1 hl) | (go_at_call 74; (with_reducible refine (HTr.out _ (by repeat (first | (with_reducible exact Ext.refl _) | (with_reducible assumption) | (with_reducible refine Ext.drewN ?_ _) | (with_reducible refine Ext.drew ?_) | (with_reducible refine Ext.alloc ?_ _) | ((with_reducible refine Ext.setCell ?_ ?_ _); rotate_left; focus (first | (simp; done) | (simp; omega) | omega)) | (with_reducible refine Ext.trans ?_ (by with_reducible assumption))))).mono ?_); rintro e w2 ⟨rfl, hy⟩; have hl : Ext wb w2 := Ext.trans (by repeat (first | (with_reducible exact Ext.refl _) | (with_reducible assumption) | (with_reducible refine Ext.drewN ?_ _) | (with_reducible refine Ext.drew ?_) | (with_reducible refine Ext.alloc ?_ _) | ((with_reducible refine Ext.setCell ?_ ?_ _); rotate_left; focus (first | (simp; done) | (simp; omega) | omega)) | (with_reducible refine Ext.trans ?_ (by with_reducible assumption)))) hy; clear hy; have hfr6 := fun i => zf i w2 hl; have hls := zs w2 hl; have y0 := zc0 w2 hl; have y1 := zc1 w2 hl; have y2 := zc2 w2 hl; have y3 := zc3 w2 hl; have y4 := zc4 w2 hl; have y5 := zc5 w2 hl; have y6 := zc6 w2 hl; have y7 := zc7 w2 hl; have y8 := zc8 w2 hl))
    refine (spec_l10Issue D w.heap.size a n c b m d ia im ic ra rm rc s w2 (HAt.out.ext hl) (HN.out.ext hl)).mono ?_
    rintro e w4 ⟨a4, c4, b4, d4, ia4, ic4, ra4, rc4, rfl, hoc, hop, hos, hor, hx4⟩
    have hl4 : Ext wb w4 := hl.trans hx4
    have hfr4 := fun i => zf i w4 hl4
    have hls4 := zs w4 hl4
    have h3s : w.heap.size + 2 ≤ w2.heap.size := by have := hl.le; omega
    have u0 := zc0 w4 hl4
    have u1 := zc1 w4 hl4
    have u2 := zc2 w4 hl4
    have u3 := zc3 w4 hl4
    have u4 := zc4 w4 hl4
    have u5 := zc5 w4 hl4
    have u6 := zc6 w4 hl4
    have u7 := zc7 w4 hl4
    have u8 := zc8 w4 hl4
    go_wp2
    refine bodyPost_ret (v := .tuple #[.agg #[.int .i64 D.ch.base, .int .i64 D.ch.states, .int .i64 D.ch.start, .int .i64 D.ch.fin, .slice a4 n c4, .slice b4 m d4, .int .i64 D.apart, .slice ia4 (im + 1) ic4, .slice ra4 rm rc4], .string s, .bool true]) ?_ rfl ?_
    · simp [results, Try.results41, go_sem, issR, u0, u1, u2, u3, u4, u5, u6, u7, u8]
    · have hxw4 : Ext w w4 := hxb.trans hl4
      rw [HO.out.1, HO.out.2.1, HO.out.2.2]
      refine ⟨a4, n, c4, b4, m, d4, ia4, im + 1, ic4, ra4, rm, rc4, rfl, fun W hk => ?_, (by repeat (first | (with_reducible exact Ext.refl _) | (with_reducible assumption) | (with_reducible refine Ext.drewN ?_ _) | (with_reducible refine Ext.drew ?_) | (with_reducible refine Ext.alloc ?_ _) | ((with_reducible refine Ext.setCell ?_ ?_ _); rotate_left; focus (first | (simp; done) | (simp; omega) | omega)) | (with_reducible refine Ext.trans ?_ (by with_reducible assumption))))⟩
      have hkc : ∀ wf, Chg 0 (w.heap.size + 2) w4 wf → wf.heap.size = w4.heap.size → KeepB w.heap.size wf.heap.size wf W → KeepB w2.heap.size w4.heap.size w4 W := fun wf hc he hk => (KeepB.chg hc (Nat.le_refl _) (.inl h3s)).trans (hk.mono (by omega) (by omega))
      have hk6 := hkc _ (by repeat (first | (with_reducible exact Chg.refl _ _ _) | (with_reducible assumption) | ((with_reducible refine Chg.trans ?_ (Chg.setP _ _ _ ?_ ?_)); rotate_left; (focus (first | (simp; done) | (simp; omega) | omega)); (focus (first | (simp; done) | (simp; omega) | omega))) | (with_reducible refine Chg.trans ?_ (Chg.ext (Ext.alloc (Ext.refl _) _) _ _)) | (with_reducible refine Chg.trans ?_ (Chg.ext (Ext.drew (Ext.refl _)) _ _)) | (with_reducible refine Chg.trans ?_ (Chg.ext (Ext.drewN (Ext.refl _) _) _ _)))) (by simp) hk
      have hns := HN.out.szs
      exact ⟨⟨(hoc.keepB hk6).cube, (hop.keepB hk6).ints, hns.hn, hns.hm, hns.sm⟩, (hos.keepB hk6).sl, (hor.keepB hk6).ints, by omega, hns.hr, fun v hv => by
        rcases List.mem_append.1 hv with h | h
        · exact hns.sz v h
        · obtain rfl := List.mem_singleton.1 h; omega⟩
set_option maxRecDepth 20000 in
set_option maxHeartbeats 8000000 in
theorem impl_IssueWord (D : Rg) (a : Option Addr) (n c : Nat) (b : Option Addr) (m d : Nat) (ia : Option Addr) (im ic : Nat) (ra : Option Addr) (rm rc : Nat) (w : World) (hv : RgIn w D a n c b m d ia im ic ra rm rc) : Calls Try.prog 42 #[.agg #[.int .i64 D.ch.base, .int .i64 D.ch.states, .int .i64 D.ch.start, .int .i64 D.ch.fin, .slice a n c, .slice b m d, .int .i64 D.apart, .slice ia im ic, .slice ra rm rc]] w (RetRgTO (manyRg D 1) (gs (manyT D 1) 0) (manyOk D 1) w) := by
  obtain ⟨wb, hwb⟩ : ∃ wb, wb = (w.alloc (.cells #[.int .i64 D.ch.base, .int .i64 D.ch.states, .int .i64 D.ch.start, .int .i64 D.ch.fin, .slice a n c, .slice b m d, .int .i64 D.apart, .slice ia im ic, .slice ra rm rc] 33)).alloc (.cells #[.int .i64 0, .int .i64 0, .int .i64 0, .int .i64 0, .slice none 0 0, .slice none 0 0, .int .i64 0, .slice none 0 0, .slice none 0 0] 33) := ⟨_, rfl⟩
  have hxb : Ext w wb := by rw [hwb]; exact (by repeat (first | (with_reducible exact Ext.refl _) | (with_reducible refine Ext.drewN ?_ _) | (with_reducible refine Ext.drew ?_) | (with_reducible refine Ext.alloc ?_ _) | ((with_reducible refine Ext.setCell ?_ ?_ _); rotate_left; focus (first | (simp; done) | (simp; omega) | omega)) | assumption | (with_reducible refine Ext.trans ?_ (by assumption))))
  have hbs : wb.heap.size = w.heap.size + 2 := by rw [hwb]; simp
  have HAt := Lib.hid (show RgAt wb w.heap.size D a n c b m d ia im ic ra rm rc by rw [hwb]; exact (hv.box 33).ext ((Ext.refl _).alloc _))
  have HN := Lib.hid (hv.ext hxb)
  have him := hv.hi
  have HL := Lib.hid hv.is.len
  have zc0 : ∀ w', Ext wb w' → w'.cell? ⟨w.heap.size + 1, 0, none⟩ = some (.int .i64 0) := fun w' hx => hx.cell (by rw [hwb]; go_simp)
  have zc1 : ∀ w', Ext wb w' → w'.cell? ⟨w.heap.size + 1, 1, none⟩ = some (.int .i64 0) := fun w' hx => hx.cell (by rw [hwb]; go_simp)
  have zc2 : ∀ w', Ext wb w' → w'.cell? ⟨w.heap.size + 1, 2, none⟩ = some (.int .i64 0) := fun w' hx => hx.cell (by rw [hwb]; go_simp)
  have zc3 : ∀ w', Ext wb w' → w'.cell? ⟨w.heap.size + 1, 3, none⟩ = some (.int .i64 0) := fun w' hx => hx.cell (by rw [hwb]; go_simp)
  have zc4 : ∀ w', Ext wb w' → w'.cell? ⟨w.heap.size + 1, 4, none⟩ = some (.slice none 0 0) := fun w' hx => hx.cell (by rw [hwb]; go_simp)
  have zc5 : ∀ w', Ext wb w' → w'.cell? ⟨w.heap.size + 1, 5, none⟩ = some (.slice none 0 0) := fun w' hx => hx.cell (by rw [hwb]; go_simp)
  have zc6 : ∀ w', Ext wb w' → w'.cell? ⟨w.heap.size + 1, 6, none⟩ = some (.int .i64 0) := fun w' hx => hx.cell (by rw [hwb]; go_simp)
  have zc7 : ∀ w', Ext wb w' → w'.cell? ⟨w.heap.size + 1, 7, none⟩ = some (.slice none 0 0) := fun w' hx => hx.cell (by rw [hwb]; go_simp)
  have zc8 : ∀ w', Ext wb w' → w'.cell? ⟨w.heap.size + 1, 8, none⟩ = some (.slice none 0 0) := fun w' hx => hx.cell (by rw [hwb]; go_simp)
  have zf : ∀ i w', Ext wb w' → w'.frozen? ⟨w.heap.size + 1, i, none⟩ = false := fun i w' hx => (Below.frozen (p := ⟨w.heap.size + 1, i, none⟩) hx (by show w.heap.size + 1 < wb.heap.size; omega)).trans (by rw [hwb]; exact SAt.frozen (SAt.new' _ _ _ (by simp)) i)
  have zs : ∀ w', Ext wb w' → w.heap.size + 1 < w'.heap.size := fun w' hx => by have := hx.le; omega
  obtain ⟨⟨k0, k1, k2, k3, k4, k5, _, _⟩, k6, k7, k8, _, _⟩ := HAt.out
  have HWb := Lib.hid hwb
  clear hv hwb
  obtain ⟨R, hR⟩ : ∃ R, R = manyRg D 1 := ⟨_, rfl⟩
  obtain ⟨ts, hts⟩ : ∃ ts, ts = manyT D 1 := ⟨_, rfl⟩
  have HIm := Lib.hid (impl_IssueMany D a n c b m d ia im ic ra rm rc 1 wb HN.out)
  rw [← hR, ← hts] at HIm
  have HR := Lib.hid hR
  have HTs := Lib.hid hts
  clear hR hts
  cases hok : manyOk D 1
  · rw [hok] at HIm
    have HO := Lib.hid hok
    clear hok
    go_enter Try.func42, Try.ntmps42
    go_wp2_with fail
    rw [← HWb.out]
    refine HIm.out.mono ?_
    rintro e w3 ⟨a3, n3, c3, b3, m3, d3, ia3, im3, ic3, ra3, rm3, rc3, la3, ln3, lc3, rfl, hr3, hz3, hln3, hx3⟩
    have hl : Ext wb w3 := hx3
    have hfr6 := fun i => zf i w3 hl
    have hls := zs w3 hl
    have y0 := zc0 w3 hl
    have y1 := zc1 w3 hl
    have y2 := zc2 w3 hl
    have y3 := zc3 w3 hl
    have y4 := zc4 w3 hl
    have y5 := zc5 w3 hl
    have y6 := zc6 w3 hl
    have y7 := zc7 w3 hl
    have y8 := zc8 w3 hl
    go_wp2_with fail
    refine bodyPost_ret (v := .tuple #[.agg #[.int .i64 0, .int .i64 0, .int .i64 0, .int .i64 0, .slice none 0 0, .slice none 0 0, .int .i64 0, .slice none 0 0, .slice none 0 0], .string ⟨#[]⟩, .bool false]) ?_ rfl ?_
    · simp [results, Try.results42, go_sem, hls, y0, y1, y2, y3, y4, y5, y6, y7, y8]
    · have hxw := hxb.trans hl
      have hp : ∀ wf, Ext w wf → RetRgTO (manyRg D 1) (gs (manyT D 1) 0) false w (.returned (.tuple #[.agg #[.int .i64 0, .int .i64 0, .int .i64 0, .int .i64 0, .slice none 0 0, .slice none 0 0, .int .i64 0, .slice none 0 0, .slice none 0 0], .string ⟨#[]⟩, .bool false])) wf := fun wf h => by
        have h9 := one_failO HO.out h
        rwa [HO.out] at h9
      exact hp _ (by repeat (first | (with_reducible exact Ext.refl _) | (with_reducible assumption) | (with_reducible refine Ext.drewN ?_ _) | (with_reducible refine Ext.drew ?_) | (with_reducible refine Ext.alloc ?_ _) | ((with_reducible refine Ext.setCell ?_ ?_ _); rotate_left; focus (first | (simp; done) | (simp; omega) | omega)) | (with_reducible refine Ext.trans ?_ (by with_reducible assumption))))
  · rw [hok] at HIm
    obtain ⟨s, hs⟩ := one_some hok
    rw [← HTs.out] at hs
    subst hs
    go_enter Try.func42, Try.ntmps42
    go_wp2_with fail
    rw [← HWb.out]
    refine HIm.out.mono ?_
    rintro e w3 ⟨a3, n3, c3, b3, m3, d3, ia3, im3, ic3, ra3, rm3, rc3, la3, ln3, lc3, rfl, hr3, hz3, hln3, hx3⟩
    have hl : Ext wb w3 := hx3
    have hfr6 := fun i => zf i w3 hl
    have hls := zs w3 hl
    have hln : (1 : Nat) = ln3 := hr3.ls.len
    subst hln
    have HR3 := Lib.hid hr3.rg
    obtain ⟨q1, i0, i1, r0, r1, l0, l1, hbd, _, _, _, hrow⟩ := hr3
    obtain ⟨g, rfl⟩ := hrow.1.some (by omega)
    have hgl : wb.heap.size ≤ g := by have := hrow.1.lt.1; omega
    have hg3 : g < w3.heap.size := hrow.1.lt.2
    obtain ⟨hix0, hc0, _⟩ := hrow.1.at (P := Try.prog) 26 und_strs cell_str 0 (by omega) .i64
    rw [show (St [s]).getD 0 undef = .string s from rfl] at hc0
    have hgne : w.heap.size + 1 ≠ g := by omega
    have hgne' : g ≠ w.heap.size + 1 := by omega
    clear hrow hbd
    have y0 := zc0 w3 hl
    have y1 := zc1 w3 hl
    have y2 := zc2 w3 hl
    have y3 := zc3 w3 hl
    have y4 := zc4 w3 hl
    have y5 := zc5 w3 hl
    have y6 := zc6 w3 hl
    have y7 := zc7 w3 hl
    have y8 := zc8 w3 hl
    go_wp2_with fail
    go_region
    go_wp2
    refine bodyPost_ret (v := .tuple #[.agg #[.int .i64 R.ch.base, .int .i64 R.ch.states, .int .i64 R.ch.start, .int .i64 R.ch.fin, .slice a3 n3 c3, .slice b3 m3 d3, .int .i64 R.apart, .slice ia3 im3 ic3, .slice ra3 rm3 rc3], .string s, .bool true]) ?_ rfl ?_
    · simp [results, Try.results42, go_sem, hls, y0, y1, y2, y3, y4, y5, y6, y7, y8]
    · have hxw := hxb.trans hl
      rw [← HTs.out]
      have hq : ∀ wf, Chg 0 (w.heap.size + 2) w3 wf → w3.heap.size ≤ wf.heap.size → RgR wf w.heap.size wf.heap.size R a3 n3 c3 b3 m3 d3 ia3 im3 ic3 ra3 rm3 rc3 := fun wf hc he => (HR3.out.chg hc (.inl (by omega))).mono (by omega) he
      have hp : ∀ wf, Chg 0 (w.heap.size + 2) w3 wf → w3.heap.size ≤ wf.heap.size → Ext w wf → RetRgTO R (gs [s] 0) true w (.returned (.tuple #[.agg #[.int .i64 R.ch.base, .int .i64 R.ch.states, .int .i64 R.ch.start, .int .i64 R.ch.fin, .slice a3 n3 c3, .slice b3 m3 d3, .int .i64 R.apart, .slice ia3 im3 ic3, .slice ra3 rm3 rc3], .string s, .bool true])) wf := fun wf hc he hx => ⟨_, _, _, _, _, _, _, _, _, _, _, _, rfl, hq wf hc he, hz3, hx⟩
      rw [← HR.out]
      refine hp _ ?_ (by simp) (Ext.drew (by repeat (first | (with_reducible exact Ext.refl _) | (with_reducible assumption) | (with_reducible refine Ext.drewN ?_ _) | (with_reducible refine Ext.drew ?_) | (with_reducible refine Ext.alloc ?_ _) | ((with_reducible refine Ext.setCell ?_ ?_ _); rotate_left; focus (first | (simp; done) | (simp; omega) | omega)) | (with_reducible refine Ext.trans ?_ (by with_reducible assumption)))))
      refine Chg.trans ?_ (Chg.ext (Ext.drew (Ext.refl _)) _ _)
      refine Chg.trans ?_ (Chg.ext (Ext.alloc (Ext.refl _) _) _ _)
      iterate 9 (refine Chg.trans ?_ (Chg.setP _ _ _ (Nat.zero_le _) (show w.heap.size + 1 < w.heap.size + 2 by omega)))
      exact Chg.refl _ _ _
theorem szresIssueWord {w : World} {D : Rg} {a : Option Addr} {n c : Nat} {b : Option Addr} {m d : Nat} {ia : Option Addr} {im ic : Nat} {ra : Option Addr} {rm rc : Nat} (hi : RgIn w D a n c b m d ia im ic ra rm rc) (h : rgSize D ≤ 1048576) : szRg2 (manyRg D 1) ≤ 5000000 ∧ SmallCh (manyRg D 1).ch := szresIssueMany hi h
end Go.Proofs.Ytdekplfjnkbidaa
