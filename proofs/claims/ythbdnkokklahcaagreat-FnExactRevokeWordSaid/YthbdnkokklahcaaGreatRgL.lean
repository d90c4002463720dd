/- Walks: the laws' helpers on registries. -/
import Derived.Test.YthbdnkokklahcaaGreatToR
import Derived.Test.YthbdnkokklahcaaGreatRgAt
namespace Go.Proofs.YthbdnkokklahcaaGreat
set_option maxRecDepth 100000
open Go.RowKit

/-- a registry that came in -/
structure RawRg (w : World) (D : Rg) (a : Option Addr) (n c : Nat) (b : Option Addr) (m d : Nat) (ia : Option Addr) (im ic : Nat) (ra : Option Addr) (rm rc : Nat) : Prop where
  ch : RawCh w D.ch a n c b m d
  is : Strs w ia im ic D.issued
  rs : Ints w ra rm rc D.revoked
  hi : im ≤ 9223372036854775807
  hr : rm ≤ 9223372036854775807
  sz : ∀ s ∈ D.issued, s.size ≤ 9223372036854775807
def rgSize (D : Rg) : Nat := chSize D.ch + (D.issued.length + sizeS D.issued) + D.revoked.length
/-- a registry between two bounds: the chain first, the words and the revoked ones apart behind it -/
def RgR (w : World) (lo hi : Nat) (D : Rg) (a : Option Addr) (n c : Nat) (b : Option Addr) (m d : Nat) (ia : Option Addr) (im ic : Nat) (ra : Option Addr) (rm rc : Nat) : Prop :=
  ∃ c1 i0 i1 r0 r1, (lo ≤ c1 ∧ c1 ≤ i0 ∧ i0 ≤ i1 ∧ i1 ≤ hi ∧ c1 ≤ r0 ∧ r0 ≤ r1 ∧ r1 ≤ hi ∧ (i1 ≤ r0 ∨ r1 ≤ i0)) ∧ ChR w lo c1 D.ch a n c b m d ∧ OwnIn w i0 i1 9 ia im ic (St D.issued) ∧ OwnIn w r0 r1 2 ra rm rc (I D.revoked)
section
variable {w w' : World} {D : Rg} {lo hi : Nat} {a : Option Addr} {n c : Nat} {b : Option Addr} {m d : Nat} {ia : Option Addr} {im ic : Nat} {ra : Option Addr} {rm rc : Nat}
theorem RawRg.ext (h : RawRg w D a n c b m d ia im ic ra rm rc) (hx : Ext w w') : RawRg w' D a n c b m d ia im ic ra rm rc := ⟨h.ch.ext hx, h.is.ext hx, h.rs.ext hx, h.hi, h.hr, h.sz⟩
theorem RawRg.inn (h : RawRg w D a n c b m d ia im ic ra rm rc) (hs : rgSize D ≤ 1048576) : RgIn w D a n c b m d ia im ic ra rm rc := by
  have h1 := h.is.len
  have h2 := h.rs.len
  unfold rgSize at hs
  exact ⟨h.ch.inn (by omega), h.is, h.rs, by omega, by omega, fun s hs' => by have := sizeS_mem hs'; omega⟩
theorem RgR.row {h1 h2 : Nat} (g1 : lo ≤ h1) (g2 : h1 ≤ h2) (g3 : h2 ≤ hi) (h : ChR w lo h1 D.ch a n c b m d) (hi' : OwnIn w h1 h2 9 ia im ic (St D.issued)) (hr : OwnIn w h2 hi 2 ra rm rc (I D.revoked)) : RgR w lo hi D a n c b m d ia im ic ra rm rc :=
  ⟨h1, h1, h2, h2, hi, by omega, h, hi', hr⟩
theorem RgR.chg {lo' hi' : Nat} (h : RgR w lo hi D a n c b m d ia im ic ra rm rc) (hc : Chg lo' hi' w w') (hd : hi' ≤ lo ∨ hi ≤ lo') : RgR w' lo hi D a n c b m d ia im ic ra rm rc :=
  let ⟨c1, i0, i1, r0, r1, g, g4, g5, g6⟩ := h; ⟨c1, i0, i1, r0, r1, g, g4.chg hc (by omega), g5.chg hc (by omega), g6.chg hc (by omega)⟩
theorem RgR.ext (h : RgR w lo hi D a n c b m d ia im ic ra rm rc) (hx : Ext w w') : RgR w' lo hi D a n c b m d ia im ic ra rm rc := h.chg (Chg.ext hx 0 0) (.inl (Nat.zero_le _))
theorem RgR.mono {lo' hi' : Nat} (h : RgR w lo hi D a n c b m d ia im ic ra rm rc) (hl : lo' ≤ lo) (hh : hi ≤ hi') : RgR w lo' hi' D a n c b m d ia im ic ra rm rc :=
  let ⟨c1, i0, i1, r0, r1, g, g4, g5, g6⟩ := h; ⟨c1, i0, i1, r0, r1, by omega, g4.mono hl (Nat.le_refl _), g5, g6⟩
/-- sizes alone -/
structure RgSz (D : Rg) (n m im rm : Nat) : Prop where
  hn : n ≤ 1048576
  hm : m ≤ 1048576
  sm : SmallCh D.ch
  hi : im ≤ 1048576
  hr : rm ≤ 1048576
  sz : ∀ s ∈ D.issued, s.size ≤ 1048576
theorem RgIn.szs (h : RgIn w D a n c b m d ia im ic ra rm rc) : RgSz D n m im rm := ⟨h.ch.hn, h.ch.hn', h.ch.sm, h.hi, h.hr, h.sz⟩
theorem RgR.inn (h : RgR w lo hi D a n c b m d ia im ic ra rm rc) (hs : RgSz D n m im rm) : RgIn w D a n c b m d ia im ic ra rm rc :=
  let ⟨_, _, _, _, _, _, g4, g5, g6⟩ := h; ⟨g4.inn hs.hn hs.hm hs.sm, g5.1.sl, g6.1.ints, hs.hi, hs.hr, hs.sz⟩
end
/-- a registry of the call's own, between bounds -/
def RetRgR (D : Rg) (n m im rm : Nat) (w : World) (e : Ending) (w' : World) : Prop :=
  ∃ a c b d ia ic ra rc, e = .returned (.agg #[.int .i64 D.ch.base, .int .i64 D.ch.states, .int .i64 D.ch.start, .int .i64 D.ch.fin, .slice a n c, .slice b m d, .int .i64 D.apart, .slice ia im ic, .slice ra rm rc]) ∧ RgR w' w.heap.size w'.heap.size D a n c b m d ia im ic ra rm rc ∧ Ext w w'
theorem leftOf_two {left : Int} {x y : Nat} (h : 0 ≤ leftOf left x) : leftOf (leftOf left x) y = leftOf left (x + y) := by
  unfold leftOf at h ⊢
  split at h
  · omega
  · rename_i h1
    rw [if_neg h1]
    split <;> split <;> omega
theorem leftOf_neg {left : Int} {x y : Nat} (h : leftOf left x < 0) (_h0 : 0 ≤ left) : leftOf left (x + y) = -1 := by
  unfold leftOf at h ⊢
  split at h
  · rw [if_pos (by omega)]
  · omega
theorem leftOf_cases (left : Int) (x : Nat) : leftOf left x = -1 ∨ (0 ≤ leftOf left x ∧ leftOf left x ≤ left) := by
  unfold leftOf; split <;> omega
set_option maxHeartbeats 2000000 in
theorem szRg (D : Rg) (a : Option Addr) (n c : Nat) (b : Option Addr) (m d : Nat) (ia : Option Addr) (im ic : Nat) (ra : Option Addr) (rm rc : Nat) (left : Int) (w : World) (hv : RawRg w D a n c b m d ia im ic ra rm rc) (h0 : 0 ≤ left) (h1 : left ≤ 1048576) :
    Calls Tryz.prog 4 #[.agg #[.int .i64 D.ch.base, .int .i64 D.ch.states, .int .i64 D.ch.start, .int .i64 D.ch.fin, .slice a n c, .slice b m d, .int .i64 D.apart, .slice ia im ic, .slice ra rm rc], .int .i64 left] w (Ret (.int .i64 (leftOf left (rgSize D))) w) := by
  have HC := Lib.hid (fun W h => szCh D.ch a n c b m d left W (RawCh.ext hv.ch h) h0 h1)
  have HS := Lib.hid (fun l (hl : 0 ≤ l) (hl2 : l ≤ 1048576) W h => szStrs ia im ic D.issued l W (Strs.ext hv.is h) hv.hi hv.sz hl hl2)
  have HI := Lib.hid (fun l (hl : 0 ≤ l) (hl2 : l ≤ 1048576) W => szInts ra rm rc l W hv.hr hl (by omega))
  have HE := Lib.hid (show rgSize D = chSize D.ch + (im + sizeS D.issued) + rm by rw [rgSize, hv.is.len, hv.rs.len])
  have b7 : ∀ w', Ext (w.alloc (.cells #[.int .i64 D.ch.base, .int .i64 D.ch.states, .int .i64 D.ch.start, .int .i64 D.ch.fin, .slice a n c, .slice b m d, .int .i64 D.apart, .slice ia im ic, .slice ra rm rc] 28)) w' → w'.cell? ⟨w.heap.size, 7, none⟩ = some (.slice ia im ic) := fun w' hx => hx.cell (by go_simp)
  have b8 : ∀ w', Ext (w.alloc (.cells #[.int .i64 D.ch.base, .int .i64 D.ch.states, .int .i64 D.ch.start, .int .i64 D.ch.fin, .slice a n c, .slice b m d, .int .i64 D.apart, .slice ia im ic, .slice ra rm rc] 28)) w' → w'.cell? ⟨w.heap.size, 8, none⟩ = some (.slice ra rm rc) := fun w' hx => hx.cell (by go_simp)
  rw [HE.out]
  clear hv
  rcases leftOf_cases left (chSize D.ch) with hlo | ⟨hl1, hl2⟩
  · have HF := Lib.hid ((congrArg (leftOf left) (Nat.add_assoc _ _ _)).trans (leftOf_neg (x := chSize D.ch) (y := (im + sizeS D.issued) + rm) (by omega) h0))
    rw [hlo] at HC
    clear hlo
    go_enter Tryz.func4, Tryz.ntmps4
    go_wp2_with (refine (HC.out _ (by repeat (first | (with_reducible exact Ext.refl _) | (with_reducible refine Ext.drewN ?_ _) | (with_reducible refine Ext.drew ?_) | (with_reducible refine Ext.alloc ?_ _) | ((with_reducible refine Ext.setCell ?_ ?_ _); rotate_left; focus (first | (simp; done) | (simp; omega) | omega)) | assumption | (with_reducible refine Ext.trans ?_ (by assumption))))).mono ?_; rintro e w1 ⟨rfl, hy1⟩)
    go_ret
    exact ⟨ri HF.out.symm, (by repeat (first | (with_reducible exact Ext.refl _) | (with_reducible refine Ext.drewN ?_ _) | (with_reducible refine Ext.drew ?_) | (with_reducible refine Ext.alloc ?_ _) | ((with_reducible refine Ext.setCell ?_ ?_ _); rotate_left; focus (first | (simp; done) | (simp; omega) | omega)) | assumption | (with_reducible refine Ext.trans ?_ (by assumption))))⟩
  have HT := Lib.hid (leftOf_two (left := left) (x := chSize D.ch) (y := im + sizeS D.issued) hl1)
  have hl3 : leftOf left (chSize D.ch) ≤ 1048576 := by omega
  have HS1 := Lib.hid (fun W h => HS.out (leftOf left (chSize D.ch)) hl1 hl3 W h)
  rw [HT.out] at HS1
  generalize leftOf left (chSize D.ch) = l1 at *
  rcases leftOf_cases left (chSize D.ch + (im + sizeS D.issued)) with hlo | ⟨hl4, hl5⟩
  · have HF := Lib.hid (leftOf_neg (x := chSize D.ch + (im + sizeS D.issued)) (y := rm) (by omega) h0)
    rw [hlo] at HS1
    clear hlo
    go_enter Tryz.func4, Tryz.ntmps4
    go_wp2_with fail
    obtain ⟨wb, hwb⟩ : ∃ wb, wb = w.alloc (.cells #[.int .i64 D.ch.base, .int .i64 D.ch.states, .int .i64 D.ch.start, .int .i64 D.ch.fin, .slice a n c, .slice b m d, .int .i64 D.apart, .slice ia im ic, .slice ra rm rc] 28) := ⟨_, rfl⟩
    have hxb : Ext w wb := by rw [hwb]; exact (by repeat (first | (with_reducible exact Ext.refl _) | (with_reducible refine Ext.drewN ?_ _) | (with_reducible refine Ext.drew ?_) | (with_reducible refine Ext.alloc ?_ _) | ((with_reducible refine Ext.setCell ?_ ?_ _); rotate_left; focus (first | (simp; done) | (simp; omega) | omega)) | assumption | (with_reducible refine Ext.trans ?_ (by assumption))))
    rw [← hwb] at b7 b8 ⊢
    clear hwb
    refine (HC.out _ hxb).mono ?_
    rintro e w1 ⟨rfl, hy1⟩
    have hx1 : Ext wb w1 := hy1
    have hx2 : Ext w w1 := hxb.trans hy1
    go_wp2_with (refine (HS1.out _ hx2).mono ?_; rintro e w2 ⟨rfl, rfl⟩)
    go_ret
    exact ⟨ri HF.out.symm, hx2⟩
  · have HT2 := Lib.hid (leftOf_two (left := left) (x := chSize D.ch + (im + sizeS D.issued)) (y := rm) hl4)
    have HI1 := Lib.hid (HI.out (leftOf left (chSize D.ch + (im + sizeS D.issued))) hl4 (by omega))
    rw [show (if leftOf left (chSize D.ch + (im + sizeS D.issued)) < (rm : Int) then -1 else leftOf left (chSize D.ch + (im + sizeS D.issued)) - (rm : Int)) = leftOf (leftOf left (chSize D.ch + (im + sizeS D.issued))) rm from rfl, HT2.out] at HI1
    generalize leftOf left (chSize D.ch + (im + sizeS D.issued)) = l2 at *
    have hlo2 := leftOf_cases left (chSize D.ch + (im + sizeS D.issued) + rm)
    generalize leftOf left (chSize D.ch + (im + sizeS D.issued) + rm) = l3 at *
    go_enter Tryz.func4, Tryz.ntmps4
    go_wp2_with fail
    obtain ⟨wb, hwb⟩ : ∃ wb, wb = w.alloc (.cells #[.int .i64 D.ch.base, .int .i64 D.ch.states, .int .i64 D.ch.start, .int .i64 D.ch.fin, .slice a n c, .slice b m d, .int .i64 D.apart, .slice ia im ic, .slice ra rm rc] 28) := ⟨_, rfl⟩
    have hxb : Ext w wb := by rw [hwb]; exact (by repeat (first | (with_reducible exact Ext.refl _) | (with_reducible refine Ext.drewN ?_ _) | (with_reducible refine Ext.drew ?_) | (with_reducible refine Ext.alloc ?_ _) | ((with_reducible refine Ext.setCell ?_ ?_ _); rotate_left; focus (first | (simp; done) | (simp; omega) | omega)) | assumption | (with_reducible refine Ext.trans ?_ (by assumption))))
    rw [← hwb] at b7 b8 ⊢
    clear hwb
    refine (HC.out _ hxb).mono ?_
    rintro e w1 ⟨rfl, hy1⟩
    have hx1 : Ext wb w1 := hy1
    have hx2 : Ext w w1 := hxb.trans hy1
    go_wp2_with (first | (go_at_call 12; refine (HS1.out _ hx2).mono ?_; rintro e w2 ⟨rfl, rfl⟩) | (go_at_call 13; refine (HI1.out _).mono ?_; rintro e w3 ⟨rfl, rfl⟩))
    all_goals (go_ret; exact ⟨ri (by omega), hx2⟩)
set_option maxHeartbeats 1000000 in
theorem eqRg (D : Rg) (a : Option Addr) (n c : Nat) (b : Option Addr) (m d : Nat) (ia : Option Addr) (im ic : Nat) (ra : Option Addr) (rm rc : Nat) (a2 : Option Addr) (c2 : Nat) (b2 : Option Addr) (d2 : Nat) (ia2 : Option Addr) (ic2 : Nat) (ra2 : Option Addr) (rc2 : Nat) (w : World) (hv : RgIn w D a n c b m d ia im ic ra rm rc) (hv2 : RgIn w D a2 n c2 b2 m d2 ia2 im ic2 ra2 rm rc2) :
    Calls Tryz.prog 8 #[.agg #[.int .i64 D.ch.base, .int .i64 D.ch.states, .int .i64 D.ch.start, .int .i64 D.ch.fin, .slice a n c, .slice b m d, .int .i64 D.apart, .slice ia im ic, .slice ra rm rc], .agg #[.int .i64 D.ch.base, .int .i64 D.ch.states, .int .i64 D.ch.start, .int .i64 D.ch.fin, .slice a2 n c2, .slice b2 m d2, .int .i64 D.apart, .slice ia2 im ic2, .slice ra2 rm rc2]] w (Ret (.bool true) w) := by
  have HC := Lib.hid (fun W h => eqCh D.ch a n c b m d a2 c2 b2 d2 W (hv.ch.ext h) (hv2.ch.ext h))
  have HS := Lib.hid (fun W h => eqStrs ia ia2 im im ic ic2 D.issued D.issued W (Strs.ext hv.is h) (Strs.ext hv2.is h) (by have := hv.hi; omega) (by have := hv.hi; omega))
  rw [show decide (D.issued = D.issued) = true by simp] at HS
  have HI := Lib.hid (fun W h => eqIntsR ra ra2 rm rc rc2 D.revoked W (Ints.ext hv.rs h) (hv2.rs.ext h) (by have := hv.hr; omega))
  clear hv hv2
  go_enter Tryz.func8, Tryz.ntmps8
  go_wp2_with fail
  refine (HC.out _ (by repeat (first | (with_reducible exact Ext.refl _) | (with_reducible refine Ext.drewN ?_ _) | (with_reducible refine Ext.drew ?_) | (with_reducible refine Ext.alloc ?_ _) | ((with_reducible refine Ext.setCell ?_ ?_ _); rotate_left; focus (first | (simp; done) | (simp; omega) | omega)) | assumption | (with_reducible refine Ext.trans ?_ (by assumption))))).mono ?_
  rintro e w1 ⟨rfl, hy1⟩
  have hw1 : Ext w w1 := Ext.trans (by repeat (first | (with_reducible exact Ext.refl _) | (with_reducible refine Ext.drewN ?_ _) | (with_reducible refine Ext.drew ?_) | (with_reducible refine Ext.alloc ?_ _) | ((with_reducible refine Ext.setCell ?_ ?_ _); rotate_left; focus (first | (simp; done) | (simp; omega) | omega)) | assumption | (with_reducible refine Ext.trans ?_ (by assumption)))) hy1
  obtain ⟨hc, hf⟩ := bcell hy1
  go_wp2_with fail
  refine (HS.out _ hw1).mono ?_
  rintro e w2 ⟨rfl, hy2⟩
  have hw2 : Ext w w2 := Ext.trans hw1 hy2
  obtain ⟨hc2, hf2⟩ := bcell (hy1.trans hy2)
  go_wp2_with fail
  refine (HI.out _ hw2).mono ?_
  rintro e w3 ⟨rfl, hy3⟩
  have hw3 : Ext w w3 := Ext.trans hw2 hy3
  go_wp2
  go_ret
  exact ⟨rfl, hw3⟩
set_option maxHeartbeats 1000000 in
theorem toRgr (D : Rg) (a : Option Addr) (n c : Nat) (b : Option Addr) (m d : Nat) (ia : Option Addr) (im ic : Nat) (ra : Option Addr) (rm rc : Nat) (w : World) (hv : RgIn w D a n c b m d ia im ic ra rm rc) : Calls Tryz.prog 6 #[.agg #[.int .i64 D.ch.base, .int .i64 D.ch.states, .int .i64 D.ch.start, .int .i64 D.ch.fin, .slice a n c, .slice b m d, .int .i64 D.apart, .slice ia im ic, .slice ra rm rc]] w (RetRgR D n m im rm w) := by
  have HI := Lib.hid hv.is.len
  have HP := Lib.hid hv.rs.len
  have hn := hv.hi
  have hn' := hv.hr
  have HV := Lib.hid hv
  clear hv
  go_enter Tryz.func6, Tryz.ntmps6
  go_wp2_with fail
  refine (toChr D.ch a n c b m d _ (HV.out.ch.ext (by repeat (first | (with_reducible exact Ext.refl _) | (with_reducible refine Ext.drewN ?_ _) | (with_reducible refine Ext.drew ?_) | (with_reducible refine Ext.alloc ?_ _) | ((with_reducible refine Ext.setCell ?_ ?_ _); rotate_left; focus (first | (simp; done) | (simp; omega) | omega)) | assumption | (with_reducible refine Ext.trans ?_ (by assumption)))))).mono ?_
  rintro e w1 ⟨a1, c1, b1, d1, rfl, ho1, hx1⟩
  have hw1 : Ext w w1 := Ext.trans (by repeat (first | (with_reducible exact Ext.refl _) | (with_reducible refine Ext.drewN ?_ _) | (with_reducible refine Ext.drew ?_) | (with_reducible refine Ext.alloc ?_ _) | ((with_reducible refine Ext.setCell ?_ ?_ _); rotate_left; focus (first | (simp; done) | (simp; omega) | omega)) | assumption | (with_reducible refine Ext.trans ?_ (by assumption)))) hx1
  obtain ⟨hc, hf⟩ := bcell hx1
  have hz1 : w.heap.size + 3 ≤ w1.heap.size := by have := hx1.le; simp at this; omega
  have hz1a : w.heap.size + 1 + 1 < w1.heap.size := by omega
  have hz1b : w.heap.size + 1 < w1.heap.size := by omega
  have hz1c : w.heap.size < w1.heap.size := by omega
  have HO1 := Lib.hid (ho1.mono (lo' := w.heap.size + 3) (hi' := w1.heap.size) (by simp) (Nat.le_refl _))
  have HX1 := Lib.hid hx1
  clear ho1 hx1
  go_wp2_with fail
  refine (toStrs ia im ic D.issued _ (HV.out.is.ext (by repeat (first | (with_reducible exact Ext.refl _) | (with_reducible refine Ext.drewN ?_ _) | (with_reducible refine Ext.drew ?_) | (with_reducible refine Ext.alloc ?_ _) | ((with_reducible refine Ext.setCell ?_ ?_ _); rotate_left; focus (first | (simp; done) | (simp; omega) | omega)) | (with_reducible refine Ext.trans ?_ HX1.out)))) (by omega)).mono ?_
  rintro e w2 ⟨a2, c2, rfl, ho2, hx2⟩
  rw [St_len, HI.out] at ho2 ⊢
  obtain ⟨hc2, hf2⟩ := bcell hx2
  have HO2 := Lib.hid (ho2.mono (B' := w1.heap.size) (by simp)).in
  have HO1b := Lib.hid ((HO1.out.chg (lo' := 0) (hi' := w.heap.size + 3) (w' := _) (by repeat (first | (with_reducible exact Chg.refl _ _ _) | (with_reducible assumption) | ((with_reducible refine Chg.trans ?_ (Chg.setP _ _ _ ?_ ?_)); rotate_left; (focus (first | (simp; done) | (simp; omega) | omega)); (focus (first | (simp; done) | (simp; omega) | omega))) | (with_reducible refine Chg.trans ?_ (Chg.ext (Ext.alloc (Ext.refl _) _) _ _)) | (with_reducible refine Chg.trans ?_ (Chg.ext (Ext.drew (Ext.refl _)) _ _)) | (with_reducible refine Chg.trans ?_ (Chg.ext (Ext.drewN (Ext.refl _) _) _ _)))) (.inl (Nat.le_refl _))).ext hx2)
  have hw2 : Ext w w2 := Ext.trans (by repeat (first | (with_reducible exact Ext.refl _) | (with_reducible refine Ext.drewN ?_ _) | (with_reducible refine Ext.drew ?_) | (with_reducible refine Ext.alloc ?_ _) | ((with_reducible refine Ext.setCell ?_ ?_ _); rotate_left; focus (first | (simp; done) | (simp; omega) | omega)) | (with_reducible refine Ext.trans ?_ HX1.out))) hx2
  have hz2 : w1.heap.size ≤ w2.heap.size := by have := hx2.le; simpa using this
  have hz2a : w.heap.size + 1 + 1 < w2.heap.size := by omega
  have hz2b : w.heap.size + 1 < w2.heap.size := by omega
  have hz2c : w.heap.size < w2.heap.size := by omega
  have HX2 := Lib.hid hx2
  clear ho2
  go_wp2_with fail
  refine (toInts ra rm rc D.revoked _ (HV.out.rs.ext (by repeat (first | (with_reducible exact Ext.refl _) | (with_reducible refine Ext.drewN ?_ _) | (with_reducible refine Ext.drew ?_) | (with_reducible refine Ext.alloc ?_ _) | ((with_reducible refine Ext.setCell ?_ ?_ _); rotate_left; focus (first | (simp; done) | (simp; omega) | omega)) | (with_reducible refine Ext.trans ?_ HX2.out) | (with_reducible refine Ext.trans ?_ HX1.out)))) (by omega)).mono ?_
  rintro e w3 ⟨a3, c3, rfl, ho3, hx3⟩
  rw [I_len, HP.out] at ho3 ⊢
  obtain ⟨hc3, hf3⟩ := bcell hx3
  have HO3 := Lib.hid (ho3.mono (B' := w2.heap.size) (by simp)).in
  have HO1c := Lib.hid ((HO1b.out.chg (lo' := 0) (hi' := w.heap.size + 3) (w' := _) (by repeat (first | (with_reducible exact Chg.refl _ _ _) | (with_reducible assumption) | ((with_reducible refine Chg.trans ?_ (Chg.setP _ _ _ ?_ ?_)); rotate_left; (focus (first | (simp; done) | (simp; omega) | omega)); (focus (first | (simp; done) | (simp; omega) | omega))) | (with_reducible refine Chg.trans ?_ (Chg.ext (Ext.alloc (Ext.refl _) _) _ _)) | (with_reducible refine Chg.trans ?_ (Chg.ext (Ext.drew (Ext.refl _)) _ _)) | (with_reducible refine Chg.trans ?_ (Chg.ext (Ext.drewN (Ext.refl _) _) _ _)))) (.inl (Nat.le_refl _))).ext hx3)
  have HO2c := Lib.hid ((HO2.out.chg (lo' := 0) (hi' := w.heap.size + 3) (w' := _) (by repeat (first | (with_reducible exact Chg.refl _ _ _) | (with_reducible assumption) | ((with_reducible refine Chg.trans ?_ (Chg.setP _ _ _ ?_ ?_)); rotate_left; (focus (first | (simp; done) | (simp; omega) | omega)); (focus (first | (simp; done) | (simp; omega) | omega))) | (with_reducible refine Chg.trans ?_ (Chg.ext (Ext.alloc (Ext.refl _) _) _ _)) | (with_reducible refine Chg.trans ?_ (Chg.ext (Ext.drew (Ext.refl _)) _ _)) | (with_reducible refine Chg.trans ?_ (Chg.ext (Ext.drewN (Ext.refl _) _) _ _)))) (.inl hz1)).ext hx3)
  have hw3 : Ext w w3 := Ext.trans (by repeat (first | (with_reducible exact Ext.refl _) | (with_reducible refine Ext.drewN ?_ _) | (with_reducible refine Ext.drew ?_) | (with_reducible refine Ext.alloc ?_ _) | ((with_reducible refine Ext.setCell ?_ ?_ _); rotate_left; focus (first | (simp; done) | (simp; omega) | omega)) | (with_reducible refine Ext.trans ?_ HX2.out) | (with_reducible refine Ext.trans ?_ HX1.out))) hx3
  have hz3 : w2.heap.size ≤ w3.heap.size := by have := hx3.le; simpa using this
  have hz3a : w.heap.size + 1 + 1 < w3.heap.size := by omega
  have hz3b : w.heap.size + 1 < w3.heap.size := by omega
  have hz3c : w.heap.size < w3.heap.size := by omega
  have HX3 := Lib.hid hx3
  clear ho3
  go_wp2
  refine bodyPost_ret (v := .agg #[.int .i64 D.ch.base, .int .i64 D.ch.states, .int .i64 D.ch.start, .int .i64 D.ch.fin, .slice a1 n c1, .slice b1 m d1, .int .i64 D.apart, .slice a2 im c2, .slice a3 rm c3]) ?_ rfl ?_
  · simp [results, Tryz.results6, go_sem, hc, hc2, hc3, hz1b, hz2b]
  · refine ⟨a1, c1, b1, d1, a2, c2, a3, c3, rfl, ?_, (by repeat (first | (with_reducible exact Ext.refl _) | (with_reducible refine Ext.drewN ?_ _) | (with_reducible refine Ext.drew ?_) | (with_reducible refine Ext.alloc ?_ _) | ((with_reducible refine Ext.setCell ?_ ?_ _); rotate_left; focus (first | (simp; done) | (simp; omega) | omega)) | (with_reducible refine Ext.trans ?_ HX3.out) | (with_reducible refine Ext.trans ?_ HX2.out) | (with_reducible refine Ext.trans ?_ HX1.out)))⟩
    refine (RgR.mono (lo := w.heap.size + 3) (hi := w3.heap.size) ?_ (by omega) (by simp))
    have hcr : RgR w3 (w.heap.size + 3) w3.heap.size D a1 n c1 b1 m d1 a2 im c2 a3 rm c3 := RgR.row hz1 hz2 hz3 HO1c.out HO2c.out HO3.out
    refine RgR.chg (lo' := 0) (hi' := w.heap.size + 3) hcr ?_ (.inl (Nat.le_refl _))
    exact (by repeat (first | (with_reducible exact Chg.refl _ _ _) | (with_reducible assumption) | ((with_reducible refine Chg.trans ?_ (Chg.setP _ _ _ ?_ ?_)); rotate_left; (focus (first | (simp; done) | (simp; omega) | omega)); (focus (first | (simp; done) | (simp; omega) | omega))) | (with_reducible refine Chg.trans ?_ (Chg.ext (Ext.alloc (Ext.refl _) _) _ _)) | (with_reducible refine Chg.trans ?_ (Chg.ext (Ext.drew (Ext.refl _)) _ _)) | (with_reducible refine Chg.trans ?_ (Chg.ext (Ext.drewN (Ext.refl _) _) _ _))))
/-- as a further call wants it -/
def RetRgI (D : Rg) (n m im rm : Nat) (w : World) (e : Ending) (w' : World) : Prop :=
  ∃ a c b d ia ic ra rc, e = .returned (.agg #[.int .i64 D.ch.base, .int .i64 D.ch.states, .int .i64 D.ch.start, .int .i64 D.ch.fin, .slice a n c, .slice b m d, .int .i64 D.apart, .slice ia im ic, .slice ra rm rc]) ∧ RgIn w' D a n c b m d ia im ic ra rm rc ∧ Ext w w'
theorem toRgI (D : Rg) (a : Option Addr) (n c : Nat) (b : Option Addr) (m d : Nat) (ia : Option Addr) (im ic : Nat) (ra : Option Addr) (rm rc : Nat) (w : World) (hv : RgIn w D a n c b m d ia im ic ra rm rc) : Calls Tryz.prog 6 #[.agg #[.int .i64 D.ch.base, .int .i64 D.ch.states, .int .i64 D.ch.start, .int .i64 D.ch.fin, .slice a n c, .slice b m d, .int .i64 D.apart, .slice ia im ic, .slice ra rm rc]] w (RetRgI D n m im rm w) :=
  (toRgr D a n c b m d ia im ic ra rm rc w hv).mono fun _ _ ⟨a, c, b, d, ia, ic, ra, rc, h1, h2, h3⟩ => ⟨a, c, b, d, ia, ic, ra, rc, h1, h2.inn hv.szs, h3⟩
end Go.Proofs.YthbdnkokklahcaaGreat
