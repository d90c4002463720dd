/- Walks: IssueMany of the program. -/
import Derived.Test.YtdekplfjnkbidaaManyT
import Derived.Test.YtdekplfjnkbidaaLMk
import Derived.Test.YtdekplfjnkbidaaStrs
namespace Go.Proofs.Ytdekplfjnkbidaa
set_option maxRecDepth 100000
open Go.RowKit

set_option maxRecDepth 20000 in
set_option maxHeartbeats 8000000 in
theorem impl_IssueMany (D : Rg) (a : Option Addr) (n c : Nat) (b : Option Addr) (m d : Nat) (ia : Option Addr) (im ic : Nat) (ra : Option Addr) (rm rc : Nat) (x : Int) (w : World) (hv : RgIn w D a n c b m d ia im ic ra rm rc) : Calls Try.prog 37 #[.agg #[.int .i64 D.ch.base, .int .i64 D.ch.states, .int .i64 D.ch.start, .int .i64 D.ch.fin, .slice a n c, .slice b m d, .int .i64 D.apart, .slice ia im ic, .slice ra rm rc], .int .i64 x] w (RetManyO (manyRg D x) (manyT D x) (manyOk D x) w) := by
  obtain ⟨wb, hwb⟩ : ∃ wb, wb = ((w.alloc (.cells #[.int .i64 D.ch.base, .int .i64 D.ch.states, .int .i64 D.ch.start, .int .i64 D.ch.fin, .slice a n c, .slice b m d, .int .i64 D.apart, .slice ia im ic, .slice ra rm rc] 33)).alloc (.cells #[.int .i64 x] 2)).alloc (.cells #[.int .i64 0, .int .i64 0, .int .i64 0, .int .i64 0, .slice none 0 0, .slice none 0 0, .int .i64 0, .slice none 0 0, .slice none 0 0] 33) := ⟨_, rfl⟩
  have hxb : Ext w wb := by rw [hwb]; exact (by repeat (first | (with_reducible exact Ext.refl _) | (with_reducible refine Ext.drewN ?_ _) | (with_reducible refine Ext.drew ?_) | (with_reducible refine Ext.alloc ?_ _) | ((with_reducible refine Ext.setCell ?_ ?_ _); rotate_left; focus (first | (simp; done) | (simp; omega) | omega)) | assumption | (with_reducible refine Ext.trans ?_ (by assumption))))
  have hbs : wb.heap.size = w.heap.size + 3 := by rw [hwb]; simp
  have HAt := Lib.hid (show RgAt wb w.heap.size D a n c b m d ia im ic ra rm rc by rw [hwb]; exact ((hv.box 33).ext ((Ext.refl _).alloc _)).ext ((Ext.refl _).alloc _))
  have HPc := Lib.hid (show VarAt wb (w.heap.size + 1) 2 (.int .i64 x) by rw [hwb]; exact VarAt.ext (by have := VarAt.new (w.alloc (.cells #[.int .i64 D.ch.base, .int .i64 D.ch.states, .int .i64 D.ch.start, .int .i64 D.ch.fin, .slice a n c, .slice b m d, .int .i64 D.apart, .slice ia im ic, .slice ra rm rc] 33)) 2 (.int .i64 x); rwa [show (w.alloc (.cells #[.int .i64 D.ch.base, .int .i64 D.ch.states, .int .i64 D.ch.start, .int .i64 D.ch.fin, .slice a n c, .slice b m d, .int .i64 D.apart, .slice ia im ic, .slice ra rm rc] 33)).heap.size = w.heap.size + 1 by simp] at this) ((Ext.refl _).alloc _))
  have kx : ∀ w', Ext wb w' → w'.cell? ⟨w.heap.size + 1, 0, none⟩ = some (.int .i64 x) := fun w' h => (HPc.out.ext h).cell
  have HN := Lib.hid (hv.ext hxb)
  have him := hv.hi
  have HL := Lib.hid hv.is.len
  have zc0 : ∀ w', Ext wb w' → w'.cell? ⟨w.heap.size + 2, 0, none⟩ = some (.int .i64 0) := fun w' hx => hx.cell (by rw [hwb]; go_simp)
  have zc1 : ∀ w', Ext wb w' → w'.cell? ⟨w.heap.size + 2, 1, none⟩ = some (.int .i64 0) := fun w' hx => hx.cell (by rw [hwb]; go_simp)
  have zc2 : ∀ w', Ext wb w' → w'.cell? ⟨w.heap.size + 2, 2, none⟩ = some (.int .i64 0) := fun w' hx => hx.cell (by rw [hwb]; go_simp)
  have zc3 : ∀ w', Ext wb w' → w'.cell? ⟨w.heap.size + 2, 3, none⟩ = some (.int .i64 0) := fun w' hx => hx.cell (by rw [hwb]; go_simp)
  have zc4 : ∀ w', Ext wb w' → w'.cell? ⟨w.heap.size + 2, 4, none⟩ = some (.slice none 0 0) := fun w' hx => hx.cell (by rw [hwb]; go_simp)
  have zc5 : ∀ w', Ext wb w' → w'.cell? ⟨w.heap.size + 2, 5, none⟩ = some (.slice none 0 0) := fun w' hx => hx.cell (by rw [hwb]; go_simp)
  have zc6 : ∀ w', Ext wb w' → w'.cell? ⟨w.heap.size + 2, 6, none⟩ = some (.int .i64 0) := fun w' hx => hx.cell (by rw [hwb]; go_simp)
  have zc7 : ∀ w', Ext wb w' → w'.cell? ⟨w.heap.size + 2, 7, none⟩ = some (.slice none 0 0) := fun w' hx => hx.cell (by rw [hwb]; go_simp)
  have zc8 : ∀ w', Ext wb w' → w'.cell? ⟨w.heap.size + 2, 8, none⟩ = some (.slice none 0 0) := fun w' hx => hx.cell (by rw [hwb]; go_simp)
  have zf : ∀ i w', Ext wb w' → w'.frozen? ⟨w.heap.size + 2, i, none⟩ = false := fun i w' hx => (Below.frozen (p := ⟨w.heap.size + 2, i, none⟩) hx (by show w.heap.size + 2 < wb.heap.size; omega)).trans (by rw [hwb]; exact SAt.frozen (SAt.new' _ _ _ (by simp)) i)
  have zs : ∀ w', Ext wb w' → w.heap.size + 2 < w'.heap.size := fun w' hx => by have := hx.le; omega
  obtain ⟨⟨k0, k1, k2, k3, k4, k5, _, _⟩, k6, k7, k8, _, _⟩ := HAt.out
  have HVal := Lib.hid (fun W (h : Ext wb W) => impl_ValidRegistry D a n c b m d ia im ic ra rm rc W (HN.out.ext h))
  have HIn := Lib.hid (fun W => impl_in x 0 40 W)
  have HWb := Lib.hid hwb
  clear hv hwb
  cases hval : validRg D
  · rw [hval] at HVal
    have HO := Lib.hid (show manyOk D x = false from many_in0 (by rw [manyIn]; rw [hval]; rfl))
    go_enter Try.func37, Try.ntmps37
    go_wp2_with fail
    rw [← HWb.out]
    go_wp2_with (first | (go_at_call 16; (with_reducible refine (HVal.out _ (by repeat (first | (with_reducible exact Ext.refl _) | (with_reducible assumption) | (with_reducible refine Ext.drewN ?_ _) | (with_reducible refine Ext.drew ?_) | (with_reducible refine Ext.alloc ?_ _) | ((with_reducible refine Ext.setCell ?_ ?_ _); rotate_left; focus (first | (simp; done) | (simp; omega) | omega)) | (with_reducible refine Ext.trans ?_ (by with_reducible assumption))))).mono ?_); rintro e w1 ⟨rfl, hy⟩; have hl : Ext wb w1 := Ext.trans (by repeat (first | (with_reducible exact Ext.refl _) | (with_reducible assumption) | (with_reducible refine Ext.drewN ?_ _) | (with_reducible refine Ext.drew ?_) | (with_reducible refine Ext.alloc ?_ _) | ((with_reducible refine Ext.setCell ?_ ?_ _); rotate_left; focus (first | (simp; done) | (simp; omega) | omega)) | (with_reducible refine Ext.trans ?_ (by with_reducible assumption)))) hy; clear hy; have hfr6 := fun i => zf i w1 hl; have hls := zs w1 hl; have y0 := zc0 w1 hl; have y1 := zc1 w1 hl; have y2 := zc2 w1 hl; have y3 := zc3 w1 hl; have y4 := zc4 w1 hl; have y5 := zc5 w1 hl; have y6 := zc6 w1 hl; have y7 := zc7 w1 hl; have y8 := zc8 w1 hl) | ((with_reducible refine (HIn.out _).mono ?_); rintro e w2 ⟨rfl, rfl⟩))
    refine bodyPost_ret (v := .tuple #[.agg #[.int .i64 0, .int .i64 0, .int .i64 0, .int .i64 0, .slice none 0 0, .slice none 0 0, .int .i64 0, .slice none 0 0, .slice none 0 0], .slice none 0 0, .bool false]) ?_ rfl ?_
    · simp [results, Try.results37, go_sem, y0, y1, y2, y3, y4, y5, y6, y7, y8]
    · have hxw := hxb.trans hl
      exact many_fail HO.out (by repeat (first | (with_reducible exact Ext.refl _) | (with_reducible assumption) | (with_reducible refine Ext.drewN ?_ _) | (with_reducible refine Ext.drew ?_) | (with_reducible refine Ext.alloc ?_ _) | ((with_reducible refine Ext.setCell ?_ ?_ _); rotate_left; focus (first | (simp; done) | (simp; omega) | omega)) | (with_reducible refine Ext.trans ?_ (by with_reducible assumption))))
  have hok := validRg_ok hval
  rw [hval] at HVal
  have Hhok := Lib.hid hok; clear hok
  cases hin : inB x 0 40
  · rw [hin] at HIn
    have HO := Lib.hid (show manyOk D x = false from many_in0 (by rw [manyIn]; rw [hin]; simp))
    clear hin
    go_enter Try.func37, Try.ntmps37
    go_wp2_with fail
    rw [← HWb.out]
    go_wp2_with (first | (go_at_call 16; (with_reducible refine (HVal.out _ (by repeat (first | (with_reducible exact Ext.refl _) | (with_reducible assumption) | (with_reducible refine Ext.drewN ?_ _) | (with_reducible refine Ext.drew ?_) | (with_reducible refine Ext.alloc ?_ _) | ((with_reducible refine Ext.setCell ?_ ?_ _); rotate_left; focus (first | (simp; done) | (simp; omega) | omega)) | (with_reducible refine Ext.trans ?_ (by with_reducible assumption))))).mono ?_); rintro e w1 ⟨rfl, hy⟩; have hl : Ext wb w1 := Ext.trans (by repeat (first | (with_reducible exact Ext.refl _) | (with_reducible assumption) | (with_reducible refine Ext.drewN ?_ _) | (with_reducible refine Ext.drew ?_) | (with_reducible refine Ext.alloc ?_ _) | ((with_reducible refine Ext.setCell ?_ ?_ _); rotate_left; focus (first | (simp; done) | (simp; omega) | omega)) | (with_reducible refine Ext.trans ?_ (by with_reducible assumption)))) hy; clear hy; have hfr6 := fun i => zf i w1 hl; have hls := zs w1 hl; have y0 := zc0 w1 hl; have y1 := zc1 w1 hl; have y2 := zc2 w1 hl; have y3 := zc3 w1 hl; have y4 := zc4 w1 hl; have y5 := zc5 w1 hl; have y6 := zc6 w1 hl; have y7 := zc7 w1 hl; have y8 := zc8 w1 hl) | ((with_reducible refine (HIn.out _).mono ?_); rintro e w2 ⟨rfl, rfl⟩))
    refine bodyPost_ret (v := .tuple #[.agg #[.int .i64 0, .int .i64 0, .int .i64 0, .int .i64 0, .slice none 0 0, .slice none 0 0, .int .i64 0, .slice none 0 0, .slice none 0 0], .slice none 0 0, .bool false]) ?_ rfl ?_
    · simp [results, Try.results37, go_sem, y0, y1, y2, y3, y4, y5, y6, y7, y8]
    · have hxw := hxb.trans hl
      exact many_fail HO.out (by repeat (first | (with_reducible exact Ext.refl _) | (with_reducible assumption) | (with_reducible refine Ext.drewN ?_ _) | (with_reducible refine Ext.drew ?_) | (with_reducible refine Ext.alloc ?_ _) | ((with_reducible refine Ext.setCell ?_ ?_ _); rotate_left; focus (first | (simp; done) | (simp; omega) | omega)) | (with_reducible refine Ext.trans ?_ (by with_reducible assumption))))
  have hin' := inB_t.1 hin
  have h40 := Hhok.out.n40
  rw [HL.out] at h40
  rw [hin] at HIn
  by_cases hsum : 40 < (im : Int) + x
  · have HO := Lib.hid (show manyOk D x = false from many_in0 (by rw [manyIn]; rw [HL.out]; simp; intros; omega))
    have hs1 : decide (40 < (im : Int) + x) = true := decide_eq_true hsum
    clear hin
    go_enter Try.func37, Try.ntmps37
    go_wp2_with fail
    rw [← HWb.out]
    go_wp2_with (first | (go_at_call 16; (with_reducible refine (HVal.out _ (by repeat (first | (with_reducible exact Ext.refl _) | (with_reducible assumption) | (with_reducible refine Ext.drewN ?_ _) | (with_reducible refine Ext.drew ?_) | (with_reducible refine Ext.alloc ?_ _) | ((with_reducible refine Ext.setCell ?_ ?_ _); rotate_left; focus (first | (simp; done) | (simp; omega) | omega)) | (with_reducible refine Ext.trans ?_ (by with_reducible assumption))))).mono ?_); rintro e w1 ⟨rfl, hy⟩; have hl : Ext wb w1 := Ext.trans (by repeat (first | (with_reducible exact Ext.refl _) | (with_reducible assumption) | (with_reducible refine Ext.drewN ?_ _) | (with_reducible refine Ext.drew ?_) | (with_reducible refine Ext.alloc ?_ _) | ((with_reducible refine Ext.setCell ?_ ?_ _); rotate_left; focus (first | (simp; done) | (simp; omega) | omega)) | (with_reducible refine Ext.trans ?_ (by with_reducible assumption)))) hy; clear hy; have hfr6 := fun i => zf i w1 hl; have hls := zs w1 hl; have y0 := zc0 w1 hl; have y1 := zc1 w1 hl; have y2 := zc2 w1 hl; have y3 := zc3 w1 hl; have y4 := zc4 w1 hl; have y5 := zc5 w1 hl; have y6 := zc6 w1 hl; have y7 := zc7 w1 hl; have y8 := zc8 w1 hl) | ((with_reducible refine (HIn.out _).mono ?_); rintro e w2 ⟨rfl, rfl⟩))
    refine bodyPost_ret (v := .tuple #[.agg #[.int .i64 0, .int .i64 0, .int .i64 0, .int .i64 0, .slice none 0 0, .slice none 0 0, .int .i64 0, .slice none 0 0, .slice none 0 0], .slice none 0 0, .bool false]) ?_ rfl ?_
    · simp [results, Try.results37, go_sem, y0, y1, y2, y3, y4, y5, y6, y7, y8]
    · have hxw := hxb.trans hl
      exact many_fail HO.out (by repeat (first | (with_reducible exact Ext.refl _) | (with_reducible assumption) | (with_reducible refine Ext.drewN ?_ _) | (with_reducible refine Ext.drew ?_) | (with_reducible refine Ext.alloc ?_ _) | ((with_reducible refine Ext.setCell ?_ ?_ _); rotate_left; focus (first | (simp; done) | (simp; omega) | omega)) | (with_reducible refine Ext.trans ?_ (by with_reducible assumption))))
  have hmi : manyIn D x = true := by rw [manyIn, hval, hin, HL.out]; simp; omega
  have hs1 : decide (40 < (im : Int) + x) = false := decide_eq_false hsum
  obtain ⟨cnt, rfl⟩ : ∃ cnt : Nat, x = cnt := ⟨x.toNat, by omega⟩
  have HSum := Lib.hid (show im + cnt ≤ 40 by omega)
  have Hhmi := Lib.hid hmi; clear hmi
  clear hin hval
  go_enter Try.func37, Try.ntmps37
  go_wp2_with fail
  rw [← HWb.out]
  go_wp2_with (first | (go_at_call 16; (with_reducible refine (HVal.out _ (by repeat (first | (with_reducible exact Ext.refl _) | (with_reducible assumption) | (with_reducible refine Ext.drewN ?_ _) | (with_reducible refine Ext.drew ?_) | (with_reducible refine Ext.alloc ?_ _) | ((with_reducible refine Ext.setCell ?_ ?_ _); rotate_left; focus (first | (simp; done) | (simp; omega) | omega)) | (with_reducible refine Ext.trans ?_ (by with_reducible assumption))))).mono ?_); rintro e w1 ⟨rfl, hy⟩; have hl : Ext wb w1 := Ext.trans (by repeat (first | (with_reducible exact Ext.refl _) | (with_reducible assumption) | (with_reducible refine Ext.drewN ?_ _) | (with_reducible refine Ext.drew ?_) | (with_reducible refine Ext.alloc ?_ _) | ((with_reducible refine Ext.setCell ?_ ?_ _); rotate_left; focus (first | (simp; done) | (simp; omega) | omega)) | (with_reducible refine Ext.trans ?_ (by with_reducible assumption)))) hy; clear hy; have hfr6 := fun i => zf i w1 hl; have hls := zs w1 hl; have y0 := zc0 w1 hl; have y1 := zc1 w1 hl; have y2 := zc2 w1 hl; have y3 := zc3 w1 hl; have y4 := zc4 w1 hl; have y5 := zc5 w1 hl; have y6 := zc6 w1 hl; have y7 := zc7 w1 hl; have y8 := zc8 w1 hl) | ((with_reducible refine (HIn.out _).mono ?_); rintro e w2 ⟨rfl, rfl⟩))
  clear HVal HIn
  refine (impl_cloneRegistry D a n c b m d ia im ic ra rm rc w1 (HN.out.ext hl)).mono ?_
  rintro e w3 ⟨a3, c3, b3, d3, ia3, ic3, ra3, rc3, rfl, hr3, hx3⟩
  have hl3 : Ext wb w3 := hl.trans hx3
  obtain ⟨q1, i0, i1, r0, r1, ⟨g1, g2, g3, g4, g5, g6, g7, g8⟩, hch, his, hrs⟩ := hr3
  have h13 : wb.heap.size ≤ w1.heap.size := hl.le
  have h133 : w1.heap.size ≤ w3.heap.size := hx3.le
  obtain ⟨l0, hl0⟩ : ∃ l0, l0 = w3.heap.size := ⟨_, rfl⟩
  obtain ⟨wS, hwS⟩ : ∃ wS, wS = (((w3.alloc (.cells #[] 9)).alloc (.cells #[.int .i64 D.ch.base, .int .i64 D.ch.states, .int .i64 D.ch.start, .int .i64 D.ch.fin, .slice a3 n c3, .slice b3 m d3, .int .i64 D.apart, .slice ia3 im ic3, .slice ra3 rm rc3] 33)).alloc (.cells #[.slice (some ⟨w3.heap.size, 0, none⟩) 0 0] 26)) := ⟨_, rfl⟩
  have hxS : Ext w3 wS := by rw [hwS]; exact (by repeat (first | (with_reducible exact Ext.refl _) | (with_reducible refine Ext.drewN ?_ _) | (with_reducible refine Ext.drew ?_) | (with_reducible refine Ext.alloc ?_ _) | ((with_reducible refine Ext.setCell ?_ ?_ _); rotate_left; focus (first | (simp; done) | (simp; omega) | omega)) | assumption | (with_reducible refine Ext.trans ?_ (by assumption))))
  have hSs : wS.heap.size = l0 + 3 := by rw [hwS, hl0]; simp
  have HSq := Lib.hid (show SAt wS (l0 + 1) 33 #[.int .i64 D.ch.base, .int .i64 D.ch.states, .int .i64 D.ch.start, .int .i64 D.ch.fin, .slice a3 n c3, .slice b3 m d3, .int .i64 D.apart, .slice ia3 im ic3, .slice ra3 rm rc3] by rw [hwS]; exact (SAt.new' _ _ _ (by rw [hl0]; simp)).alloc _)
  have HVl := Lib.hid (show VarAt wS (l0 + 1 + 1) 26 (.slice (some ⟨l0, 0, none⟩) 0 0) by
    rw [hwS]
    have h := VarAt.new ((w3.alloc (.cells #[] 9)).alloc (.cells #[.int .i64 D.ch.base, .int .i64 D.ch.states, .int .i64 D.ch.start, .int .i64 D.ch.fin, .slice a3 n c3, .slice b3 m d3, .int .i64 D.apart, .slice ia3 im ic3, .slice ra3 rm rc3] 33)) 26 (.slice (some ⟨w3.heap.size, 0, none⟩) 0 0)
    rw [show ((w3.alloc (.cells #[] 9)).alloc (.cells #[.int .i64 D.ch.base, .int .i64 D.ch.states, .int .i64 D.ch.start, .int .i64 D.ch.fin, .slice a3 n c3, .slice b3 m d3, .int .i64 D.apart, .slice ia3 im ic3, .slice ra3 rm rc3] 33)).heap.size = l0 + 1 + 1 by rw [hl0]; simp] at h
    rw [hl0]
    rw [hl0] at h
    exact h)
  have HLl := Lib.hid (show Own wS w1.heap.size 9 (some ⟨l0, 0, none⟩) 0 0 (St []) by rw [hwS]; exact ((Own.lit0' _ _ (by omega) hl0).alloc' _).alloc' _)
  have HCh := Lib.hid (hch.ext hxS)
  have HRs := Lib.hid (hrs.ext hxS)
  have HIs := Lib.hid (his.ext hxS)
  have HPcS := Lib.hid (HPc.out.ext (hl3.trans hxS))
  have hlS : Ext wb wS := hl3.trans hxS
  clear hch his hrs
  go_wp2_with fail
  rw [← hwS, ← hl0]
  clear hwS
  have HC := Lib.hid (impl_trials D.ch (l0 + 1) a3 n c3 b3 m d3 84 #[.pointer (some ⟨l0 + 1 + 1, 0, none⟩), .pointer (some ⟨w.heap.size + 1, 0, none⟩), .pointer (some ⟨l0 + 1, 0, none⟩)]
    (fun lo hi k W => MInv wS (l0 + 1) (l0 + 1 + 1) (w.heap.size + 1) w1.heap.size i0 i1 l0 D a3 n c3 b3 m d3 im ra3 rm rc3 cnt lo hi k W ∧ (l0 + 1 < lo ∧ l0 + 1 + 1 < lo ∧ i1 ≤ lo ∧ l0 < lo ∧ wS.heap.size ≤ hi))
    (fun W => ∃ lo hi k, k ≤ triesN D.ch ∧ MInv wS (l0 + 1) (l0 + 1 + 1) (w.heap.size + 1) w1.heap.size i0 i1 l0 D a3 n c3 b3 m d3 im ra3 rm rc3 cnt lo hi k W ∧ wS.heap.size ≤ hi ∧ ¬ (scanL D cnt k).length < cnt)
    wS ⟨HSq.out.rule 0 _ rfl, HSq.out.rule 1 _ rfl, HSq.out.rule 2 _ rfl, HSq.out.rule 3 _ rfl, HSq.out.rule 4 _ rfl, HSq.out.rule 5 _ rfl, HCh.out.cubeI, HCh.out.plI⟩ Hhok.out.ch (fun _ _ => rfl)
    (fun w2 hx2 => ⟨(minv_zero HSq.out HVl.out HLl.out HIs.out (by omega) (by omega) cnt _ _).ext hx2, by have := hx2.le; omega⟩)
    (fun lo hi k W W' h hx => ⟨h.1.ext hx, h.2⟩)
    (fun lo hi k W h => by
      obtain ⟨_, _, _, _, hO, _⟩ := h.1.rg (q1 := q1) (r0 := r0) (r1 := r1) (by omega) (by omega) HCh.out HRs.out
      exact hO.rgAt.ch)
    (fun lo hi k W hk h hh => (minv_trial h.1 (q1 := q1) (r0 := r0) (r1 := r1) (by omega) (by omega) HCh.out HRs.out HPcS.out (by omega) Hhok.out HL.out HSum.out hk hh (by omega)).mono (by
      rintro e W' (⟨h1, h2, h3, h4⟩ | ⟨h1, h2, h3⟩)
      · exact .inl ⟨h1, ⟨h2, h.2⟩, h3, h4⟩
      · exact .inr ⟨h1, lo, hi, k + 1, hk, h2, h.2.2.2.2.2, h3⟩)))
  refine HC.out.mono ?_
  rintro e w4 ⟨rfl, hres⟩
  have hfin : ∃ lo hi j, j ≤ triesN D.ch ∧ MInv wS (l0 + 1) (l0 + 1 + 1) (w.heap.size + 1) w1.heap.size i0 i1 l0 D a3 n c3 b3 m d3 im ra3 rm rc3 cnt lo hi j w4 ∧ wS.heap.size ≤ hi ∧ ((scanL D cnt j).length < cnt → j = triesN D.ch) := by
    rcases hres with ⟨lo, hi, h1, h2⟩ | ⟨lo, hi, k, h1, h2, h3, h4⟩
    · exact ⟨lo, hi, _, Nat.le_refl _, h1, h2.2.2.2.2, fun _ => rfl⟩
    · exact ⟨lo, hi, k, h1, h2, h3, fun h => absurd h h4⟩
  obtain ⟨lo, hi, j, hj, hM, hhi, hjl⟩ := hfin
  clear hres HC
  have hx4 : Ext wb w4 := (hM.chg (s0 := w1.heap.size) (by omega)).to hlS h13
  obtain ⟨ia4, ic4, la4, lc4, hS4, hV4, hR4⟩ := minv_end hM (q1 := q1) (r0 := r0) (r1 := r1) (s0 := w1.heap.size) (by omega) (by omega) hhi HCh.out HRs.out
  have hs4 := hM.chg (s0 := w1.heap.size) (by omega)
  have hsz4 : wS.heap.size ≤ w4.heap.size := hs4.size
  have HSc := Lib.hid (scan_inv Hhok.out.a1 cnt j hj)
  have HJl := Lib.hid hjl
  obtain ⟨L, hL⟩ : ∃ L, L = scanL D cnt j := ⟨_, rfl⟩
  have HScan := Lib.hid hL
  rw [← hL] at hS4 hV4 hR4 HSc HJl
  clear hM hs4 hL hjl
  have HR4 := Lib.hid hR4
  have HV4 := Lib.hid hV4
  have hLc : L.length ≤ cnt := HSc.out.2.1
  obtain ⟨y0, y1, y2, y3, y4, y5, y6, y7, y8⟩ := SAt.r9 hS4
  have yl : ∀ w', Ext w4 w' → w'.cell? ⟨l0 + 1 + 1, 0, none⟩ = some (.slice la4 L.length lc4) := fun w' h => (HV4.out.ext h).cell
  have hs2 := hSum2 HSum.out
  have hfr6 := fun i => zf i w4 hx4
  have hls := zs w4 hx4
  clear hV4 hR4 hS4
  subst hl0
  by_cases hlt : L.length < cnt
  · have HO := Lib.hid (show manyOk D (cnt : Int) = false from many_no (by rw [Int.toNat_natCast]; exact scan_no Hhok.out.a1 (by rw [← HJl.out hlt, ← HScan.out]; exact hlt)))
    have hd : decide ((L.length : Int) < (cnt : Int)) = true := decide_eq_true (by omega)
    have u0 := zc0 w4 hx4
    have u1 := zc1 w4 hx4
    have u2 := zc2 w4 hx4
    have u3 := zc3 w4 hx4
    have u4 := zc4 w4 hx4
    have u5 := zc5 w4 hx4
    have u6 := zc6 w4 hx4
    have u7 := zc7 w4 hx4
    have u8 := zc8 w4 hx4
    go_wp2_with fail
    refine bodyPost_ret (v := .tuple #[.agg #[.int .i64 0, .int .i64 0, .int .i64 0, .int .i64 0, .slice none 0 0, .slice none 0 0, .int .i64 0, .slice none 0 0, .slice none 0 0], .slice none 0 0, .bool false]) ?_ rfl ?_
    · simp [results, Try.results37, go_sem, u0, u1, u2, u3, u4, u5, u6, u7, u8]
    · have hxw := hxb.trans hx4
      exact many_fail HO.out (by repeat (first | (with_reducible exact Ext.refl _) | (with_reducible assumption) | (with_reducible refine Ext.drewN ?_ _) | (with_reducible refine Ext.drew ?_) | (with_reducible refine Ext.alloc ?_ _) | ((with_reducible refine Ext.setCell ?_ ?_ _); rotate_left; focus (first | (simp; done) | (simp; omega) | omega)) | (with_reducible refine Ext.trans ?_ (by with_reducible assumption))))
  · have HMl := Lib.hid (show manyL D cnt = some L by rw [HScan.out]; exact scan_yes Hhok.out.a1 hj (by rw [← HScan.out]; exact hlt))
    have HO := Lib.hid (show manyOk D (cnt : Int) = true from many_yes Hhmi.out (by rw [Int.toNat_natCast]; exact HMl.out))
    have hd : decide ((L.length : Int) < (cnt : Int)) = false := decide_eq_false (by omega)
    go_wp2_with fail
    have u0 := zc0 w4 hx4
    have u1 := zc1 w4 hx4
    have u2 := zc2 w4 hx4
    have u3 := zc3 w4 hx4
    have u4 := zc4 w4 hx4
    have u5 := zc5 w4 hx4
    have u6 := zc6 w4 hx4
    have u7 := zc7 w4 hx4
    have u8 := zc8 w4 hx4
    go_region
    go_wp2
    refine bodyPost_ret (v := .tuple #[.agg #[.int .i64 D.ch.base, .int .i64 D.ch.states, .int .i64 D.ch.start, .int .i64 D.ch.fin, .slice a3 n c3, .slice b3 m d3, .int .i64 D.apart, .slice ia4 (im + L.length) ic4, .slice ra3 rm rc3], .slice la4 L.length lc4, .bool true]) ?_ rfl ?_
    · simp [results, Try.results37, go_sem, u0, u1, u2, u3, u4, u5, u6, u7, u8]
    · have hxw := hxb.trans hx4
      have hml : manyL D (cnt : Int).toNat = some L := by rw [Int.toNat_natCast]; exact HMl.out
      rw [many_r1 HO.out hml, many_t1 HO.out hml, HO.out]
      have hq : ∀ wf, Chg 0 (w.heap.size + 3) w4 wf → wf.heap.size = w4.heap.size → ManyR wf w.heap.size wf.heap.size (addL D L) a3 n c3 b3 m d3 ia4 (im + L.length) ic4 ra3 rm rc3 la4 L.length lc4 L := fun wf hc he => by
        rw [he]; exact (HR4.out.chg hc (.inl (by omega))).mono (by omega) (Nat.le_refl _)
      refine ⟨a3, n, c3, b3, m, d3, ia4, im + L.length, ic4, ra3, rm, rc3, la4, L.length, lc4, rfl, ?_, ?_, ?_, ?_⟩
      · refine hq _ ?_ ?_
        · refine Chg.trans ?_ (Chg.ext (Ext.drew (Ext.refl _)) _ _)
          iterate 9 (refine Chg.trans ?_ (Chg.setP _ _ _ (Nat.zero_le _) (show w.heap.size + 1 + 1 < w.heap.size + 3 by omega)))
          exact Chg.refl _ _ _
        · simp
      · exact add_sz HN.out.szs (many_ok Hhok.out (by rw [HL.out]; omega) HMl.out) (by omega)
      · omega
      · refine Ext.drew ?_
        exact (by repeat (first | (with_reducible exact Ext.refl _) | (with_reducible assumption) | (with_reducible refine Ext.drewN ?_ _) | (with_reducible refine Ext.drew ?_) | (with_reducible refine Ext.alloc ?_ _) | ((with_reducible refine Ext.setCell ?_ ?_ _); rotate_left; focus (first | (simp; done) | (simp; omega) | omega)) | (with_reducible refine Ext.trans ?_ (by with_reducible assumption))))
end Go.Proofs.Ytdekplfjnkbidaa

/- Walks: the laws write marks into a registry and a list of words. -/
namespace Go.Proofs.Ytdekplfjnkbidaa
open Go.RowKit

theorem ManyR.ext {w w' : World} {lo hi : Nat} {D : Rg} {a : Option Addr} {n c : Nat} {b : Option Addr} {m d : Nat} {ia : Option Addr} {im ic : Nat} {ra : Option Addr} {rm rc : Nat} {la : Option Addr} {ln lc : Nat} {ts : List ByteArray} (h : ManyR w lo hi D a n c b m d ia im ic ra rm rc la ln lc ts) (hx : Ext w w') : ManyR w' lo hi D a n c b m d ia im ic ra rm rc la ln lc ts :=
  h.chg (Chg.ext hx 0 0) (.inl (Nat.zero_le _))
theorem ManyR.ls {w : World} {lo hi : Nat} {D : Rg} {a : Option Addr} {n c : Nat} {b : Option Addr} {m d : Nat} {ia : Option Addr} {im ic : Nat} {ra : Option Addr} {rm rc : Nat} {la : Option Addr} {ln lc : Nat} {ts : List ByteArray} (h : ManyR w lo hi D a n c b m d ia im ic ra rm rc la ln lc ts) : Strs w la ln lc ts :=
  let ⟨_, _, _, _, _, _, _, _, _, _, _, g4⟩ := h; g4.1.sl
theorem eqStrsT (a a' : Option Addr) (n c c' : Nat) (l : List ByteArray) (w : World) (hv : Strs w a n c l) (hv' : Strs w a' n c' l) (hn : n ≤ 4611686018427387904) :
    Calls Try.prog 38 #[.slice a n c, .slice a' n c'] w (Ret (.bool true) w) := by
  have h := eqStrs a a' n n c c' l l w hv hv' hn hn
  rwa [decide_eq_true rfl] at h
theorem heldStrsZ (a : Option Addr) (n c z : Nat) (w : World) (hv : Strs w a n c (markTs (1 + z) n)) (hk : 1 + z + n ≤ 549755813888) :
    Calls Try.prog 40 #[.slice a n c, .int .i64 (1 + (z : Int))] w (Ret (.int .i64 (1 + (z : Int) + n)) w) := by
  have h := heldStrsX a n c (1 + z) w hv hk
  rwa [show (((1 + z : Nat)) : Int) = 1 + (z : Int) by omega] at h
theorem markManyL (D : Rg) (a : Option Addr) (n c : Nat) (b : Option Addr) (m d : Nat) (ia : Option Addr) (im ic : Nat) (ra : Option Addr) (rm rc : Nat) (la : Option Addr) (ln lc : Nat) (ts : List ByteArray) (z lo hi : Nat) (w : World) (hv : ManyR w lo hi D a n c b m d ia im ic ra rm rc la ln lc ts) (hhi : hi ≤ w.heap.size) (hk : 1 + z + ln ≤ 549755813888) :
    Calls Try.prog 39 #[.slice la ln lc, .int .i64 (1 + (z : Int))] w (MarkR (1 + z + ln) lo hi w fun w' => ManyR w' lo hi D a n c b m d ia im ic ra rm rc la ln lc (markTs (1 + z) ln)) := by
  obtain ⟨q1, i0, i1, r0, r1, l0, l1, g, hc, hi', hr, hl⟩ := hv
  have h := markStrsX la ln lc (St ts) (1 + z) l0 l1 w hl (by omega) hk
  rw [show (((1 + z : Nat)) : Int) = 1 + (z : Int) by omega] at h
  refine h.mono ?_
  rintro e w' ⟨h1, h2, h3⟩
  exact ⟨h1, h2.mono (by omega) (by omega), q1, i0, i1, r0, r1, l0, l1, g, hc.chg h2 (by omega), hi'.chg h2 (by omega), hr.chg h2 (by omega), h3⟩
set_option maxHeartbeats 1000000 in
theorem markManyR (D : Rg) (a : Option Addr) (n c : Nat) (b : Option Addr) (m d : Nat) (ia : Option Addr) (im ic : Nat) (ra : Option Addr) (rm rc : Nat) (la : Option Addr) (ln lc : Nat) (ts : List ByteArray) (k lo hi : Nat) (w : World) (hv : ManyR w lo hi D a n c b m d ia im ic ra rm rc la ln lc ts) (hhi : hi ≤ w.heap.size) (hn : n ≤ 1048576) (hk : k + szRg2 D ≤ 549755813888) (hsm : ∀ t ∈ D.ch.tabs, t.length ≤ 1048576) :
    Calls Try.prog 30 #[.agg #[.int .i64 D.ch.base, .int .i64 D.ch.states, .int .i64 D.ch.start, .int .i64 D.ch.fin, .slice a n c, .slice b m d, .int .i64 D.apart, .slice ia im ic, .slice ra rm rc], .int .i64 k] w (MarkR (k + szRg2 D) lo hi w fun w' => ManyR w' lo hi (markG k D) a n c b m d ia im ic ra rm rc la ln lc ts) := by
  obtain ⟨h1, i0, i1, r0, r1, l0, l1, ⟨g1, g2, g3, g4, g5, g6, g7, k1, k2, k3, g8, k4, k5⟩, hch, his, hrs, hls⟩ := hv
  have hli : D.issued.length = im := by have := his.1.len; rwa [St_len] at this
  have hlr : D.revoked.length = rm := by have := hrs.1.len; rwa [I_len] at this
  have hz : szRg2 D = szCh2 D.ch + im + rm := by rw [szRg2, hli, hlr]
  rw [hz] at hk
  have HC := Lib.hid (fun W (hx : Ext w W) => markChR D.ch a n c b m d k lo h1 W (hch.ext hx) (by have := hx.le; omega) hn (by omega) hsm)
  have HI := Lib.hid (fun W (hc : Chg lo h1 w W) => markStrsX ia im ic (St D.issued) (k + szCh2 D.ch) i0 i1 W (his.chg hc (.inl g2)) (by have := hc.size; omega) (by omega))
  have HR := Lib.hid (fun W W2 (hc : Chg lo h1 w W) (hc2 : Chg i0 i1 W W2) => markInts ra rm rc D.revoked (k + szCh2 D.ch + im) r0 W2 ((hrs.chg hc (.inl g5)).chg hc2 (by omega)).1 (by omega) (by omega))
  have HTop := Lib.hid hrs
  have HLs := Lib.hid hls
  have HSz := Lib.hid hz
  have hb7 : (w.alloc (.cells #[.int .i64 D.ch.base, .int .i64 D.ch.states, .int .i64 D.ch.start, .int .i64 D.ch.fin, .slice a n c, .slice b m d, .int .i64 D.apart, .slice ia im ic, .slice ra rm rc] 33)).cell? ⟨w.heap.size, 7, none⟩ = some (.slice ia im ic) := by go_simp
  have hb8 : (w.alloc (.cells #[.int .i64 D.ch.base, .int .i64 D.ch.states, .int .i64 D.ch.start, .int .i64 D.ch.fin, .slice a n c, .slice b m d, .int .i64 D.apart, .slice ia im ic, .slice ra rm rc] 33)).cell? ⟨w.heap.size, 8, none⟩ = some (.slice ra rm rc) := by go_simp
  have HB7 := Lib.hid hb7
  have HB8 := Lib.hid hb8
  have Hhli := Lib.hid hli; clear hli; have Hhlr := Lib.hid hlr; clear hlr
  clear hch his hrs hls hb7 hb8 hsm hz
  go_enter Try.func30, Try.ntmps30
  go_wp2_with fail
  refine (HC.out _ ((Ext.refl w).alloc _)).mono ?_
  rintro e w2 ⟨rfl, hc2, hq2⟩
  have hcell7 : w2.cell? ⟨w.heap.size, 7, none⟩ = some (.slice ia im ic) := (hc2.cell (by simp) (.inr (by show h1 ≤ w.heap.size; omega))).trans HB7.out
  have hcell8 : w2.cell? ⟨w.heap.size, 8, none⟩ = some (.slice ra rm rc) := (hc2.cell (by simp) (.inr (by show h1 ≤ w.heap.size; omega))).trans HB8.out
  have hsz2 : w.heap.size < w2.heap.size := by have := hc2.size; simp at this; omega
  have hcw : Chg lo h1 w w2 := (Chg.ext ((Ext.refl w).alloc _) lo h1).trans hc2
  have HI2 := Lib.hid (HI.out w2 hcw)
  have HQ2 := Lib.hid hq2
  have HC2 := Lib.hid hcw
  rw [show (((k + szCh2 D.ch : Nat)) : Int) = (k : Int) + szCh2 D.ch by omega] at HI2 ⊢
  have HB8b := Lib.hid hcell8
  clear hc2 hq2 hcw HC HI hcell8
  go_wp2_with fail
  refine HI2.out.mono ?_
  rintro e w3 ⟨rfl, hc3, hq3⟩
  have hcell8 : w3.cell? ⟨w.heap.size, 8, none⟩ = some (.slice ra rm rc) := (hc3.cell hsz2 (.inr (by show i1 ≤ w.heap.size; omega))).trans HB8b.out
  have hcw3 : Chg lo hi w w3 := (HC2.out.mono (Nat.le_refl _) (by omega)).trans (hc3.mono (by omega) (by omega))
  have HR3 := Lib.hid (HR.out w2 w3 HC2.out hc3)
  have HQ2b := Lib.hid (HQ2.out.chg hc3 (.inr g2))
  have HQ3 := Lib.hid hq3
  have HL3 := Lib.hid ((HLs.out.chg HC2.out (.inl k1)).chg hc3 (by omega))
  have HC3 := Lib.hid hcw3
  rw [show (((k + szCh2 D.ch + im : Nat)) : Int) = (k : Int) + szCh2 D.ch + im by omega] at HR3 ⊢
  clear hc3 hq3 hcw3 HR
  go_wp2_with fail
  refine HR3.out.mono ?_
  rintro e w4 ⟨rfl, hm4, ho4⟩
  go_wp2
  go_ret
  have hc4 : Chg r0 r1 w3 w4 := hm4.chg (Nat.le_refl _) HTop.out.2 (fun g hg => (HTop.out.1.blk g hg).1)
  refine ⟨ri (by rw [HSz.out]; omega), HC3.out.trans (hc4.mono (by omega) (by omega)), h1, i0, i1, r0, r1, l0, l1, ⟨g1, g2, g3, g4, g5, g6, g7, k1, k2, k3, g8, k4, k5⟩, HQ2b.out.chg hc4 (.inr g5), ?_, ⟨?_, HTop.out.2⟩, HL3.out.chg hc4 (by omega)⟩
  · have h := HQ3.out.chg hc4 (by omega)
    rw [← Hhli.out] at h
    have : OwnIn w4 i0 i1 9 ia im ic (St (markTs (k + szCh2 D.ch) D.issued.length)) := by rw [Hhli.out] at h ⊢; exact h
    exact this
  · show Own w4 r0 _ ra rm rc (I (markL _ D.revoked.length))
    rw [Hhlr.out, Hhli.out]; exact ho4
/-- the sizes of what IssueMany returns -/
theorem szresIssueMany {w : World} {D : Rg} {a : Option Addr} {n c : Nat} {b : Option Addr} {m d : Nat} {ia : Option Addr} {im ic : Nat} {ra : Option Addr} {rm rc : Nat} {x : Int} (hi : RgIn w D a n c b m d ia im ic ra rm rc) (h : rgSize D ≤ 1048576) : szRg2 (manyRg D x) ≤ 5000000 ∧ SmallCh (manyRg D x).ch := by
  cases hk : manyOk D x
  · rw [many_r0 hk]
    exact ⟨by show (0 : Nat) ≤ _; omega, fun t h => by cases h⟩
  · have hin : manyIn D x = true := by unfold manyOk at hk; simp only [Bool.and_eq_true] at hk; exact hk.1
    cases hl : manyL D x.toNat with
    | none => rw [many_no hl] at hk; cases hk
    | some L =>
      rw [many_r1 hk hl]
      have := szRg2_le h
      refine ⟨?_, hi.ch.sm⟩
      show szCh2 D.ch + (D.issued ++ L).length + D.revoked.length ≤ 5000000
      rw [List.length_append, many_len hl]
      unfold szRg2 at this
      unfold manyIn at hin
      simp only [Bool.and_eq_true, decide_eq_true_eq] at hin
      omega
end Go.Proofs.Ytdekplfjnkbidaa
