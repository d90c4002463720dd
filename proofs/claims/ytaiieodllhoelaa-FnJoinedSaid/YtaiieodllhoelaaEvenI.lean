/- Walks: the chain with one table, in the program, where it is valid. -/
import Derived.Test.YtaiieodllhoelaaEvenB
namespace Go.Proofs.Ytaiieodllhoelaa
set_option maxRecDepth 100000
open Go.RowKit

/-- the chain with one table, and yes -/
def RetEven (E : Ch) (p : Nat) (w : World) (e : Ending) (w' : World) : Prop :=
  ∃ a c b d, e = .returned (.tuple #[.agg #[.int .i64 E.base, .int .i64 E.states, .int .i64 E.start, .int .i64 E.fin, .slice a 1 c, .slice b p d], .bool true]) ∧ (∀ W, KeepB w.heap.size w'.heap.size w' W → ChIn W E a 1 c b p d) ∧ Ext w w'
def EvenCut (E : Ch) (p : Nat) (wb : World) (s10 : Value) (wx : World) : Prop :=
  ∃ (g : Nat) (a : Option Addr) (c : Nat) (b : Option Addr) (d : Nat), s10 = .pointer (some ⟨g, 0, none⟩) ∧ SAt wx g 27 #[.int .i64 E.base, .int .i64 E.states, .int .i64 E.start, .int .i64 E.fin, .slice a 1 c, .slice b p d] ∧ (∀ W, KeepB wb.heap.size wx.heap.size wx W → Cube W a 1 c E.tabs ∧ Ints W b p d E.places) ∧ Ext wb wx
theorem even_leaf {b S s0 e0 : Int} {t : List (List Int)} {p : Nat} {wb wx : World} {g : Nat} {a : Option Addr} {c : Nat} {be : Option Addr} {d : Nat} {a3 : Option Addr} {n3 c3 : Nat} (hS : SAt wx g 27 #[.int .i64 b, .int .i64 S, .int .i64 s0, .int .i64 e0, .slice a 1 c, .slice be p d])
    (hC : Own wx wb.heap.size 43 a 1 c [.slice a3 n3 c3]) (hM : OwnMat wx wb.heap.size 25 2 a3 n3 c3 t) (hI : Own wx wb.heap.size 2 be p d (I (List.replicate p 0))) (hX : Ext wb wx) :
    EvenCut (evenCh b S s0 e0 t p) p wb (.pointer (some ⟨g, 0, none⟩)) wx := ⟨g, a, c, be, d, rfl, hS, fun _ hk => ⟨cube1 (hC.keepB hk).sl (hM.keepB hk).mat, (hI.keepB hk).ints⟩, hX⟩
set_option maxHeartbeats 40000000 in
theorem impl_EvenYes (a : Option Addr) (n c : Nat) (t : List (List Int)) (p : Nat) (b s0 e0 : Int) (w : World) (hv : Mat w a n c t) (hval : validCh (evenCh b n s0 e0 t p) = true) :
    Calls Try.prog 28 #[.slice a n c, .int .i64 p, .int .i64 s0, .int .i64 e0] w (RetEven (evenCh b n s0 e0 t p) p w) := by
  have HV := Lib.hid hv
  have HL := Lib.hid hv.len
  have hok := validCh_ok hval
  have HVl := Lib.hid hval
  have hp1 := hok.p1
  have hp20 := hok.p20
  have hn1 := hok.s1
  have hn36 := hok.s36
  have hb2 := hok.b2
  have hb36 := hok.b36
  simp only [evenCh, List.length_replicate] at hp1 hp20 hn1 hn36 hb2 hb36
  have HT := Lib.hid (show TabOkE b t from fun r hr => by
    obtain ⟨i, hi, rfl⟩ := List.mem_iff_getElem.1 hr
    have := hok.rl 0 (by simp [evenCh]) i (by simpa [evenCh, gm] using hi)
    simpa [evenCh, gm, gl, hi] using this)
  have HIn := Lib.hid (fun W => impl_in (p : Int) 1 20 W)
  rw [inB_t.2 (show (1 : Int) ≤ p ∧ (p : Int) ≤ 20 by omega)] at HIn
  have HCl := Lib.hid (fun W (h : Ext w W) => impl_cloneTab a n c t W (hv.ext h) (by omega) (fun r hr => by have := HT.out r hr; omega))
  obtain ⟨b0, off0, a0, n0, c0, ⟨f1, f2⟩, hr0⟩ := hv.one (P := Try.prog) 43 25 und_rows cell_row1 0 (by omega) (by omega)
  have hn0 : (n0 : Int) = b := by
    have h1 := hr0.len
    have h2 := HT.out _ (gl_mem (l := t) (k := (0 : Int).toNat) (by rw [hv.len]; simp; omega))
    rw [h1] at h2; exact h2
  clear hv hval hok hr0
  have hnz : ((n : Int) == 0) = false := by simp; omega
  go_enter Try.func28, Try.ntmps28
  go_upto_region 3 with (go_at_call 69; (with_reducible refine (HIn.out _).mono ?_); rintro e w1 ⟨rfl, rfl⟩)
  obtain ⟨wb, hwb⟩ : ∃ wb, wb = w.alloc (.cells #[.int .i64 0, .int .i64 0, .int .i64 0, .int .i64 0, .slice none 0 0, .slice none 0 0] 27) := ⟨_, rfl⟩
  have hxb : Ext w wb := by rw [hwb]; exact (by repeat (first | (with_reducible exact Ext.refl _) | (with_reducible refine Ext.drewN ?_ _) | (with_reducible refine Ext.drew ?_) | (with_reducible refine Ext.alloc ?_ _) | ((with_reducible refine Ext.setCell ?_ ?_ _); rotate_left; focus (first | (simp; done) | (simp; omega) | omega)) | assumption | (with_reducible refine Ext.trans ?_ (by assumption))))
  have HZ := Lib.hid (show SAt wb w.heap.size 27 #[.int .i64 0, .int .i64 0, .int .i64 0, .int .i64 0, .slice none 0 0, .slice none 0 0] by rw [hwb]; exact SAt.new' _ _ _ rfl)
  rw [← hwb]
  clear hwb
  have hxbb : Ext wb wb := Ext.refl _
  obtain ⟨MC, hmk, hmo⟩ := made_ints p (by omega)
  have HMO := Lib.hid (show ∀ (W : World) (B g : Nat), B ≤ g → g = W.heap.size → Own (W.alloc (.cells MC 2)) B 2 (some ⟨g, 0, none⟩) p p (I (List.replicate p 0)) from fun W B g hB hg => by subst hg; exact (hmo W).mono hB)
  clear hmo
  have hf2 := f2 wb hxb
  have hlb0 : b0 < wb.heap.size := World.block_lt_of_cell? wb ⟨b0, off0, none⟩ hf2
  have KX := Lib.hid (fun W (h : Ext wb W) => (show Ext wb W ∧ W.cell? ⟨b0, off0, none⟩ = some (.slice a0 n0 c0) from ⟨h, f2 W (hxb.trans h)⟩))
  go_cut [10] from 20 to 33 (fun s10 wx => EvenCut (evenCh b n s0 e0 t p) p wb s10 wx)
  case first =>
    go_region_held3 (fun w' => Ext wb w' ∧ w'.cell? ⟨b0, off0, none⟩ = some (.slice a0 n0 c0)) ((exact KX.out _ (by repeat (first | (with_reducible exact Ext.refl _) | (with_reducible assumption) | (with_reducible refine Ext.drewN ?_ _) | (with_reducible refine Ext.drew ?_) | (with_reducible refine Ext.alloc ?_ _) | ((with_reducible refine Ext.setCell ?_ ?_ _); rotate_left; focus (first | (simp; done) | (simp; omega) | omega)) | (with_reducible refine Ext.trans ?_ (by with_reducible assumption)))))) ((go_at_call 81; (with_reducible refine (HCl.out _ (Ext.trans hxb (by repeat (first | (with_reducible exact Ext.refl _) | (with_reducible assumption) | (with_reducible refine Ext.drewN ?_ _) | (with_reducible refine Ext.drew ?_) | (with_reducible refine Ext.alloc ?_ _) | ((with_reducible refine Ext.setCell ?_ ?_ _); rotate_left; focus (first | (simp; done) | (simp; omega) | omega)) | (with_reducible refine Ext.trans ?_ (by with_reducible assumption)))))).mono ?_); rintro e w3 ⟨a3, c3, rfl, ho3, hz3⟩; have hx3 : Ext wb w3 := Ext.trans (by repeat (first | (with_reducible exact Ext.refl _) | (with_reducible assumption) | (with_reducible refine Ext.drewN ?_ _) | (with_reducible refine Ext.drew ?_) | (with_reducible refine Ext.alloc ?_ _) | ((with_reducible refine Ext.setCell ?_ ?_ _); rotate_left; focus (first | (simp; done) | (simp; omega) | omega)) | (with_reducible refine Ext.trans ?_ (by with_reducible assumption)))) hz3; obtain ⟨hc3, hf3⟩ := bcell hz3; have hle3 := hx3.le; have hsz3 := hz3.le; simp at hsz3; (try (have hlt3 : wb.heap.size < w3.heap.size := by omega)); (try (have hlt4 : wb.heap.size + 1 < w3.heap.size := by omega))))
    all_goals (go_wp2_with fail; go_meet)
    all_goals
      clear hc3 hf3
      apply even_leaf (a3 := a3) (n3 := t.length) (c3 := c3)
      · repeat (first | ((with_reducible refine SAt.new' _ _ _ ?_) <;> (first | (simp; done) | (simp; omega))) | (with_reducible refine SAt.alloc ?_ _) | (with_reducible refine SAt.drew ?_) | (with_reducible refine SAt.six (z0 := .int .i64 0) (z1 := .int .i64 0) (z2 := .int .i64 0) (z3 := .int .i64 0) (z4 := .slice none 0 0) (z5 := .slice none 0 0) ?_ _ _ _ _ _ _) | (with_reducible refine SAt.ext ?_ hz3))
      · repeat (first | ((with_reducible refine own_lit1g _ _ _ ?_ ?_) <;> (first | (simp; done) | omega | (simp; omega))) | (with_reducible refine Own.alloc' ?_ _) | (with_reducible refine Own.drew ?_) | (with_reducible refine Own.otherN ?_ _ ?ne; case ne => first | (simp; done) | (simp; omega)) | (with_reducible refine Own.ext ?_ hz3))
      · exact (ho3.keepB (KeepB.chg (lo' := wb.heap.size) (hi' := _) (by repeat (first | (with_reducible exact Chg.refl _ _ _) | (with_reducible assumption) | (with_reducible refine Chg.drewQ ?_) | (with_reducible refine Chg.allocQ ?_ _) | ((with_reducible refine Chg.setQ ?_ _ _ ?_ ?_); rotate_left; (focus (first | (simp; done) | (simp; omega) | omega)); (focus (first | (simp; done) | (simp; omega) | omega))))) (Nat.le_refl _) (.inl (Nat.le_refl _)))).mono (by first | (simp; done) | (simp; omega))
      · repeat (first | ((with_reducible refine HMO.out _ _ _ ?_ ?_) <;> (first | (simp; done) | omega | (simp; omega))) | (with_reducible refine Own.alloc' ?_ _) | (with_reducible refine Own.drew ?_) | (with_reducible refine Own.otherN ?_ _ ?ne; case ne => first | (simp; done) | (simp; omega)) | (with_reducible refine Own.ext ?_ hz3))
      · exact (by repeat (first | (with_reducible exact Ext.refl _) | (with_reducible assumption) | (with_reducible refine Ext.drewN ?_ _) | (with_reducible refine Ext.drew ?_) | (with_reducible refine Ext.alloc ?_ _) | ((with_reducible refine Ext.setCell ?_ ?_ _); rotate_left; focus (first | (simp; done) | (simp; omega) | omega)) | (with_reducible refine Ext.trans ?_ (by with_reducible assumption))))
  case rest =>
    obtain ⟨g, ae, ce, be, de, rfl, hS, hkeep, hxc⟩ := hcut
    have HK := Lib.hid hkeep
    obtain ⟨hcu, hin⟩ := hkeep wc (KeepB.refl _ _ _)
    obtain ⟨E, hE⟩ : ∃ E, E = evenCh b n s0 e0 t p := ⟨_, rfl⟩
    rw [← hE] at hS hcu hin HK
    have HR := Lib.hid (show ∀ W, (∀ W', KeepB w.heap.size W.heap.size W W' → ChIn W' E ae 1 ce be p de) → Ext w W → RetEven (evenCh b n s0 e0 t p) p w (.returned (.tuple #[.agg #[.int .i64 E.base, .int .i64 E.states, .int .i64 E.start, .int .i64 E.fin, .slice ae 1 ce, .slice be p de], .bool true])) W from fun W h1 h2 => by rw [← hE]; exact ⟨ae, ce, be, de, rfl, h1, h2⟩)
    have HSm := Lib.hid (show SmallCh E from fun u hu => by rw [hE] at hu; obtain rfl := List.mem_singleton.1 hu; exact ⟨by rw [HL.out]; omega, fun r hr => by have := HT.out r hr; omega⟩)
    have HCI := Lib.hid (show ChIn wc E ae 1 ce be p de from ⟨hcu, hin, by omega, by omega, HSm.out⟩)
    have HVC := Lib.hid (fun W (h : Ext wc W) => impl_ValidChain E ae 1 ce be p de W (hcu.ext h) (hin.ext h) (by omega) (by omega) HSm.out)
    rw [show validCh E = true by rw [hE]; exact HVl.out] at HVC
    have HS := Lib.hid hS
    have HZc := Lib.hid (HZ.out.ext hxc)
    have e0' := hS.cell 0 (by simp)
    have e1' := hS.cell 1 (by simp)
    have e2' := hS.cell 2 (by simp)
    have e3' := hS.cell 3 (by simp)
    have e4' := hS.cell 4 (by simp)
    have e5' := hS.cell 5 (by simp)
    try simp only [List.getElem_toArray, List.getElem_cons_succ, List.getElem_cons_zero] at e0' e1' e2' e3' e4' e5'
    have hwz : w.heap.size < wb.heap.size := HZ.out.lt
    clear hS hcu hin hE hkeep
    have hxcc : Ext wc wc := Ext.refl _
    go_wp2_with (go_at_call 18; (with_reducible refine (HVC.out _ (by repeat (first | (with_reducible exact Ext.refl _) | (with_reducible assumption) | (with_reducible refine Ext.drewN ?_ _) | (with_reducible refine Ext.drew ?_) | (with_reducible refine Ext.alloc ?_ _) | ((with_reducible refine Ext.setCell ?_ ?_ _); rotate_left; focus (first | (simp; done) | (simp; omega) | omega)) | (with_reducible refine Ext.trans ?_ (by with_reducible assumption))))).mono ?_); rintro e w9 ⟨rfl, hy9⟩; have hx9 : Ext wc w9 := Ext.trans (by repeat (first | (with_reducible exact Ext.refl _) | (with_reducible assumption) | (with_reducible refine Ext.drewN ?_ _) | (with_reducible refine Ext.drew ?_) | (with_reducible refine Ext.alloc ?_ _) | ((with_reducible refine Ext.setCell ?_ ?_ _); rotate_left; focus (first | (simp; done) | (simp; omega) | omega)) | (with_reducible refine Ext.trans ?_ (by with_reducible assumption)))) hy9; clear hy9; have HS9 := Lib.hid (HS.out.ext hx9); have HZ9 := Lib.hid (HZc.out.ext hx9); have g0 := HS9.out.cell 0 (by simp); have g1 := HS9.out.cell 1 (by simp); have g2 := HS9.out.cell 2 (by simp); have g3 := HS9.out.cell 3 (by simp); have g4 := HS9.out.cell 4 (by simp); have g5 := HS9.out.cell 5 (by simp); have z0 := HZ9.out.cell 0 (by simp); have z1 := HZ9.out.cell 1 (by simp); have z2 := HZ9.out.cell 2 (by simp); have z3 := HZ9.out.cell 3 (by simp); have z4 := HZ9.out.cell 4 (by simp); have z5 := HZ9.out.cell 5 (by simp); have zf := (fun j => HZ9.out.frozen j); have zl := HZ9.out.lt)
    refine bodyPost_ret (v := .tuple #[.agg #[.int .i64 E.base, .int .i64 E.states, .int .i64 E.start, .int .i64 E.fin, .slice ae 1 ce, .slice be p de], .bool true]) ?_ rfl ?_
    · simp [results, Try.results28, go_sem, z0, z1, z2, z3, z4, z5]
    · have hxw9 : Ext w w9 := hxb.trans (hxc.trans hx9)
      have hkc : ∀ W, Chg 0 wb.heap.size w9 W → KeepB wb.heap.size wc.heap.size wc W := fun W hc => (KeepB.ext hx9 (Nat.le_refl _)).trans (KeepB.chg hc hx9.le (.inl (Nat.le_refl _)))
      have hfin : ∀ W, Chg 0 wb.heap.size w9 W → ∀ W', KeepB w.heap.size W.heap.size W W' → ChIn W' E ae 1 ce be p de := fun W hcw W' hW' => by
        have hk1 := (hkc _ hcw).trans (hW'.mono (Nat.le_of_lt hwz) (Nat.le_trans hx9.le hcw.size))
        exact ChIn.mk (HK.out _ hk1).1 (HK.out _ hk1).2 (by omega) (by omega) HSm.out
      refine HR.out _ (hfin _ ?_) ?_
      · exact (by repeat (first | (with_reducible exact Chg.refl _ _ _) | (with_reducible assumption) | (with_reducible refine Chg.drewQ ?_) | (with_reducible refine Chg.allocQ ?_ _) | ((with_reducible refine Chg.setQ ?_ _ _ ?_ ?_); rotate_left; (focus (first | (simp; done) | (simp; omega) | omega)); (focus (first | (simp; done) | (simp; omega) | omega)))))
      · exact (by repeat (first | (with_reducible exact Ext.refl _) | (with_reducible assumption) | (with_reducible refine Ext.drewN ?_ _) | (with_reducible refine Ext.drew ?_) | (with_reducible refine Ext.alloc ?_ _) | ((with_reducible refine Ext.setCell ?_ ?_ _); rotate_left; focus (first | (simp; done) | (simp; omega) | omega)) | (with_reducible refine Ext.trans ?_ (by with_reducible assumption))))
end Go.Proofs.Ytaiieodllhoelaa
