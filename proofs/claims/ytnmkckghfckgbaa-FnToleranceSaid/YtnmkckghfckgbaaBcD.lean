/- Walks: a valid barcode is chosen. -/
import Derived.Test.YtnmkckghfckgbaaCnt
import Derived.Test.YtnmkckghfckgbaaDrawD
import Derived.Test.YtnmkckghfckgbaaLpd
namespace Go.Proofs.Ytnmkckghfckgbaa
set_option maxRecDepth 100000
open Go.RowKit

/-! ### plain -/
def stopsL : List ByteArray := [⟨#[49]⟩, ⟨#[51]⟩, ⟨#[49, 49, 49]⟩, ⟨#[50, 49, 49]⟩, ⟨#[51, 49, 51]⟩, ⟨#[50, 49, 49, 49, 49, 49, 50]⟩, ⟨#[52, 50, 49, 49, 49]⟩]
def evensL : List ByteArray := [⟨#[49, 49]⟩, ⟨#[50, 49]⟩, ⟨#[50, 49, 50, 49]⟩, ⟨#[49, 49, 49, 49]⟩, ⟨#[51, 49, 50, 49, 52, 49]⟩]
def oddsL : List ByteArray := [⟨#[49]⟩, ⟨#[49, 49, 49]⟩, ⟨#[49, 50, 49]⟩, ⟨#[51, 49, 51]⟩, ⟨#[49, 50, 49, 49, 49]⟩]
theorem stops_ok : ∀ s ∈ stopsL, patB (pl s) = true ∧ s.size % 2 = 1 := by decide +kernel
theorem evens_ok : ∀ s ∈ evensL, patB (pl s) = true ∧ s.size % 2 = 0 := by decide +kernel
theorem odds_ok : ∀ s ∈ oddsL, patB (pl s) = true ∧ s.size % 2 = 1 := by decide +kernel
/-- patterns of one length and one sum, none twice -/
def PatsOk (E M : Nat) (l : List ByteArray) : Prop := (∀ p ∈ l, PatOk E M p) ∧ ∀ k, k < l.length → ((l.take k).any fun p => (gs l k).toList == p.toList) = false
theorem PatsOk.nil (E M : Nat) : PatsOk E M [] := ⟨fun p hp => (by cases hp), fun k hk => (by simp at hk)⟩
theorem gs_app_lt {l : List ByteArray} {s : ByteArray} {k : Nat} (h : k < l.length) : gs (l ++ [s]) k = gs l k := by
  unfold gs; rw [List.getD_eq_getElem?_getD, List.getElem?_append_left h, List.getD_eq_getElem?_getD]
theorem gs_app {l : List ByteArray} {s : ByteArray} : gs (l ++ [s]) l.length = s := by
  unfold gs; rw [List.getD_eq_getElem?_getD, List.getElem?_append_right (Nat.le_refl _)]; simp
theorem PatsOk.push {E M : Nat} {l : List ByteArray} (h : PatsOk E M l) {s : ByteArray} (hs : PatOk E M s) (hn : (l.any fun x => s.toList == x.toList) = false) : PatsOk E M (l ++ [s]) := by
  refine ⟨all_snoc h.1 hs, fun k hk => ?_⟩
  simp only [List.length_append, List.length_singleton] at hk
  by_cases he : k = l.length
  · subst he
    rw [gs_app, List.take_append_of_le_length (Nat.le_refl _), List.take_length]
    exact hn
  · rw [gs_app_lt (by omega), List.take_append_of_le_length (by omega)]
    exact h.2 k (by omega)
theorem drawn_valid {E M : Nat} {l : List ByteArray} (hE : 2 ≤ E ∧ E ≤ 6) (hM : E + 1 ≤ M ∧ M ≤ E + 5) (hl : 1 ≤ l.length ∧ l.length ≤ 8) (hp : PatsOk E M l) {st sp : ByteArray} {gap : Int} (hsp : sp ∈ stopsL)
    (h : (E % 2 = 0 ∧ st ∈ evensL ∧ gap = 0) ∨ (E % 2 = 1 ∧ st ∈ oddsL ∧ 1 ≤ gap ∧ gap ≤ 3)) : validBc ⟨st, sp, l, gap⟩ = true := by
  obtain ⟨hs1, hs2⟩ := stops_ok sp hsp
  have hat : ∀ k, k < l.length → PatOk E M (gs l k) := fun k hk => hp.1 _ (gs_mem hk)
  have hall : ∀ k, k ≤ l.length → allB l k = true := by
    intro k
    induction k with
    | zero => intro _; rfl
    | succ k ih =>
      intro hk
      obtain ⟨e1, e2, e3⟩ := hat k (by omega)
      obtain ⟨z1, z2, z3⟩ := hat 0 (by omega)
      rw [allB, ih (by omega), oneB, Bool.true_and]
      have hpat : patB (pl (gs l k)) = true := by
        unfold patB
        simp only [Bool.and_eq_true, inB_t, decide_eq_true_eq]
        refine ⟨e3, ?_, ?_⟩
        · rw [pl_len]; omega
        · rw [pl]; omega
      rw [hpat, Bool.true_and]
      simp only [Bool.and_eq_true, decide_eq_true_eq, Bool.not_eq_true']
      exact ⟨by omega, by rw [pl, pl, e2, z2], hp.2 k (by omega)⟩
  obtain ⟨z1, z2, z3⟩ := hat 0 (by omega)
  have hst : patB (pl st) = true ∧ st.size % 2 = E % 2 := by
    rcases h with ⟨h1, h2, _⟩ | ⟨h1, h2, _⟩
    · have := evens_ok st h2; exact ⟨this.1, by omega⟩
    · have := odds_ok st h2; exact ⟨this.1, by omega⟩
  unfold validBc headB
  rw [hall _ (Nat.le_refl _)]
  simp only [hst.1, hs1, Bool.true_and, Bool.and_eq_true, inB_t]
  refine ⟨⟨⟨by omega, by omega⟩, by omega, by omega⟩, ?_⟩
  unfold tailB
  simp only [Bool.and_eq_true, beq_iff_eq, z1]
  refine ⟨by omega, by omega, ?_⟩
  rcases h with ⟨h1, h2, h3⟩ | ⟨h1, h2, h3⟩
  · subst h3
    rw [show ((st.size : Int) % 2 == 1) = false from by simp; omega]; rfl
  · rw [show ((st.size : Int) % 2 == 1) = true from by simp; omega, decide_eq_true (by omega)]

/-! ### the walk -/
theorem strs_lit (w : World) (ts : List ByteArray) (hn : ts.length ≤ 1000) : Strs (w.alloc (.cells (St ts).toArray 9)) (some ⟨w.heap.size, 0, none⟩) ts.length ts.length ts := by
  have h := World.ownsRow_lit (e := 9) (size := 1) (base := w.heap.size) w (St ts).toArray ts.length (Nat.le_refl _) (by unfold maxLen; omega) (by simp [St_len])
  have h2 : Own (w.alloc (.cells (St ts).toArray 9)) w.heap.size 9 (some ⟨w.heap.size, 0, none⟩) ts.length ts.length (St ts).toArray.toList := h
  exact h2.sl
/-- half chosen: block q1 is for the result, block q2 holds the barcode -/
structure BI (w : World) (g q1 q2 : Nat) (st sp : ByteArray) (gap : Int) (v2 : Value) (ad : Option Addr) (n c : Nat) (l : List ByteArray) (W : World) : Prop where
  z : SAt W q1 28 #[.string ⟨#[]⟩, .string ⟨#[]⟩, .slice none 0 0, .int .i64 0]
  s : SAt W q2 28 #[.string st, .string sp, v2, .int .i64 gap]
  o : Own W w.heap.size 9 ad n c (St l)
  h : Touch g w W
  gw : g < w.heap.size
  q : w.heap.size ≤ q1 ∧ q1 < q2
section
variable {w : World} {g q1 q2 : Nat} {st sp : ByteArray} {gap : Int} {v2 : Value} {ad : Option Addr} {n c : Nat} {l : List ByteArray} {W W' : World}
theorem BI.touch (d : BI w g q1 q2 st sp gap v2 ad n c l W) (ht : Touch g W W') : BI w g q1 q2 st sp gap v2 ad n c l W' := by
  have h1 := d.gw; have h2 := d.q
  exact ⟨d.z.touch ht (by omega), d.s.touch ht (by omega), d.o.touchNe ht h1, d.h.trans ht, h1, h2⟩
theorem BI.ext (d : BI w g q1 q2 st sp gap v2 ad n c l W) (hx : Ext W W') : BI w g q1 q2 st sp gap v2 ad n c l W' :=
  ⟨d.z.ext hx, d.s.ext hx, d.o.ext hx, d.h.ext hx, d.gw, d.q⟩
theorem BI.set (d : BI w g q1 q2 st sp gap v2 ad n c l W) (j : Nat) (u : Value) {st' sp' : ByteArray} {gap' : Int} {v2' : Value} (he : (#[Value.string st, .string sp, v2, .int .i64 gap]).setIfInBounds j u = #[.string st', .string sp', v2', .int .i64 gap']) :
    BI w g q1 q2 st' sp' gap' v2' ad n c l (W.setCell ⟨q2, j, none⟩ u) := by
  have h2 := d.q
  have hs := d.s.set j u
  rw [he] at hs
  exact ⟨d.z.other u (by simp; omega), hs, d.o.setS d.s (by decide) j u, d.h.below (Below.setCell (Below.refl w.heap.size _) (by simp only; omega) u) (Nat.le_refl _), d.gw, h2⟩
theorem BI.app (d : BI w g q1 q2 st sp gap v2 ad n c l W) {s : ByteArray} {ad' : Option Addr} {c' : Nat} (hb : Below w.heap.size W W') (hg : W.grownBy W' (Value.slice ad n c).ownBlock) (ho : Own W' w.heap.size 9 ad' (n + 1) c' (St l ++ [.string s])) :
    BI w g q1 q2 st sp gap v2 ad' (n + 1) c' (l ++ [s]) W' :=
  ⟨d.z.grown hg (row_ne_s (d.o.ne_s d.z (by decide))), d.s.grown hg (row_ne_s (d.o.ne_s d.s (by decide))), by rw [St, List.map_append]; exact ho, d.h.below hb (Nat.le_refl _), d.gw, d.q⟩
end
theorem info_string : (Try.prog.info? 9).map (fun i => (i.zero, i.size, i.bytes)) = some (some (.string ⟨#[]⟩), 1, 16) := by kernel_rfl
/-- a valid barcode, chosen -/
def RetDrawBc (g : Nat) (a : Option Addr) (n c : Nat) (l : List UInt8) (k : Int) (w : World) (e : Ending) (w' : World) : Prop :=
  ∃ (D : Bc) (ad : Option Addr) (m d : Nat) (k' : Int), e = .returned (.agg #[.string D.start, .string D.stop, .slice ad m d, .int .i64 D.gap]) ∧ validBc D = true ∧ D.pats.length = m ∧ Own w' w.heap.size 9 ad m d (St D.pats) ∧ SrcB w' g a n c l k' ∧ k ≤ k' ∧ k' ≤ k + 100 ∧ Touch g w w'
set_option maxHeartbeats 8000000 in
theorem spec_drawBc (g : Nat) (a : Option Addr) (n c : Nat) (l : List UInt8) (k : Int) (w : World) (h : SrcB w g a n c l k) (hk : 0 ≤ k) (hk2 : k ≤ 900000000) :
    Calls Try.prog 56 #[.pointer (some ⟨g, 0, none⟩)] w (RetDrawBc g a n c l k w) := by
  have hgw : g < w.heap.size := h.g
  have HS0 := Lib.hid h
  clear h
  go_enter Try.func56, Try.ntmps56
  go_wp2_with fail
  obtain ⟨wz, hwz⟩ : ∃ wz, wz = w.alloc (.cells #[.string ⟨#[]⟩, .string ⟨#[]⟩, .slice none 0 0, .int .i64 0] 28) := ⟨_, rfl⟩
  have hxz : Ext w wz := by rw [hwz]; exact (by repeat (first | (with_reducible exact Ext.refl _) | (with_reducible refine Ext.drewN ?_ _) | (with_reducible refine Ext.drew ?_) | (with_reducible refine Ext.alloc ?_ _) | ((with_reducible refine Ext.setCell ?_ ?_ _); rotate_left; focus (first | (simp; done) | (simp; omega) | omega)) | assumption | (with_reducible refine Ext.trans ?_ (by assumption))))
  have HZ := Lib.hid (show SAt wz w.heap.size 28 #[.string ⟨#[]⟩, .string ⟨#[]⟩, .slice none 0 0, .int .i64 0] by rw [hwz]; exact SAt.new' _ _ _ rfl)
  have hzs : wz.heap.size = w.heap.size + 1 := by rw [hwz]; simp
  have HTz := Lib.hid (show Touch g w wz from (Touch.refl _ _).ext hxz)
  have HSz := Lib.hid (HS0.out.ext hxz)
  rw [← hwz]
  clear hwz
  refine (pick_b g a n c l k 5 wz HSz.out (by omega) (by omega) (by omega)).mono ?_
  rintro e w1 ⟨x1, k1, rfl, hx10, hx11, hs1, hk1, hk1', ht1⟩
  have HT1 := Lib.hid (HTz.out.trans ht1)
  have HZ1 := Lib.hid (HZ.out.touch ht1 (by omega))
  have HS1 := Lib.hid hs1
  obtain ⟨E, hE⟩ : ∃ E : Nat, 2 + x1 = (E : Int) := Int.eq_ofNat_of_zero_le (by omega)
  have hE6 : 2 ≤ E ∧ E ≤ 6 := by omega
  have h01 : wz.heap.size ≤ w1.heap.size := ht1.size
  clear hs1 ht1
  go_wp2_with fail
  refine (pick_b g a n c l k1 5 w1 HS1.out (by omega) (by omega) (by omega)).mono ?_
  rintro e w2 ⟨x2, k2, rfl, hx20, hx21, hs2, hk2, hk2', ht2⟩
  have HT2 := Lib.hid (HT1.out.trans ht2)
  have HZ2 := Lib.hid (HZ1.out.touch ht2 (by omega))
  have HS2 := Lib.hid hs2
  obtain ⟨M, hM⟩ : ∃ M : Nat, (E : Int) + 1 + x2 = (M : Int) := Int.eq_ofNat_of_zero_le (by omega)
  have hM6 : E + 1 ≤ M ∧ M ≤ E + 5 := by omega
  have h02 : w1.heap.size ≤ w2.heap.size := ht2.size
  clear hs2 ht2 hx10 hx11 hx20 hx21
  go_wp2_with fail
  obtain ⟨q1, hq1⟩ : ∃ q1, q1 = w.heap.size := ⟨_, rfl⟩
  obtain ⟨e0, he0⟩ : ∃ e0, e0 = w2.heap.size := ⟨_, rfl⟩
  obtain ⟨wb, hwb⟩ : ∃ wb, wb = (w2.alloc (Obj.cells #[] 9)).alloc (Obj.cells #[.string ⟨#[]⟩, .string ⟨#[]⟩, .slice (some ⟨w2.heap.size, 0, none⟩) 0 0, .int .i64 0] 28) := ⟨_, rfl⟩
  have hxb : Ext w2 wb := by rw [hwb]; exact (by repeat (first | (with_reducible exact Ext.refl _) | (with_reducible refine Ext.drewN ?_ _) | (with_reducible refine Ext.drew ?_) | (with_reducible refine Ext.alloc ?_ _) | ((with_reducible refine Ext.setCell ?_ ?_ _); rotate_left; focus (first | (simp; done) | (simp; omega) | omega)) | assumption | (with_reducible refine Ext.trans ?_ (by assumption))))
  have HD0 := Lib.hid (show BI w g q1 (e0 + 1) ⟨#[]⟩ ⟨#[]⟩ 0 (.slice (some ⟨e0, 0, none⟩) 0 0) (some ⟨e0, 0, none⟩) 0 0 [] wb from by
    refine ⟨by rw [hq1]; exact HZ2.out.ext hxb, by rw [hwb, he0]; exact SAt.new' _ _ _ (by simp), ?_, HT2.out.ext hxb, hgw, by omega⟩
    rw [hwb, he0]; exact (Own.lit0' w2 9 (by omega) rfl).alloc' _)
  have HSb := Lib.hid (HS2.out.ext hxb)
  rw [← hq1, ← he0] at *
  rw [← hwb]
  have HQ1 := Lib.hid hq1
  obtain ⟨q2, hq2⟩ : ∃ q2, q2 = e0 + 1 := ⟨_, rfl⟩
  rw [← hq2] at HD0 ⊢
  clear hq2 hq1 he0 hwb
  refine (pick_b g a n c l k2 8 wb HSb.out (by omega) (by omega) (by omega)).mono ?_
  rintro e w3 ⟨r0, k3, rfl, hr0, hr1, hs3, hk3, hk3', ht3⟩
  obtain ⟨R, hR⟩ : ∃ R : Nat, 1 + r0 = (R : Int) := Int.eq_ofNat_of_zero_le (by omega)
  have hR8 : 1 ≤ R ∧ R ≤ 8 := by omega
  have HD3 := Lib.hid (HD0.out.touch ht3)
  have HS3 := Lib.hid hs3
  have hk3b : k ≤ k3 ∧ k3 ≤ k + 6 := by omega
  clear hs3 ht3 hr0 hr1 HD0 HSb HZ HZ1 HZ2 HS0 HSz HTz HT1 HT2 HS1 HS2 hxz hxb hzs h01 h02 hk1 hk1' hk2' hk3 hk3' hE hM
  go_wp2
  go_loopw [6, 7] (fun kc _ wr => ∃ (x r : Nat) (ad : Option Addr) (cc : Nat) (pats : List ByteArray) (kk : Int), x + r ≤ R ∧ (1 ≤ x ∨ r = R) ∧ kc = .int .i64 r ∧ Hid (pats.length = x) ∧ Hid (PatsOk E M pats) ∧
      Hid (BI w g q1 q2 ⟨#[]⟩ ⟨#[]⟩ 0 (.slice ad x cc) ad x cc pats wr) ∧ Hid (SrcB wr g a n c l kk) ∧ k ≤ kk ∧ kk + 2 * r ≤ k + 30) (fun kc _ _ => (intOf kc).toNat)
  case atStart => exact ⟨0, R, _, 0, [], k3, by omega, .inr rfl, by first | rw [hR] | rfl, rfl, PatsOk.nil E M, HD3.out, HS3.out, by omega, by omega⟩
  case round =>
    clear HD3 HS3 hk3b hR
    obtain ⟨x, r, ad, cc, pats, kk, hxr, hx1, rfl, HL, HP, HD, HS, hka, hkb⟩ := hrel
    by_cases hr : 0 < r
    · have HDp := Lib.hid (spec_drawPat g a n c l kk E M wr HS.out (by omega) (by omega) hE6.1 hE6.2 hM6.1 hM6.2)
      go_wp2_with fail
      refine HDp.out.mono ?_
      rintro e w6 ⟨s, k6, rfl, hpo, hs6, hk6, hk6', ht6⟩
      have HD6 := Lib.hid (HD.out.touch ht6)
      have HS6 := Lib.hid hs6
      have HPo := Lib.hid hpo
      have c2 := HD6.out.s.cell 2 (by simp)
      try simp only [List.getElem_toArray, List.getElem_cons_succ, List.getElem_cons_zero] at c2
      clear hpo hs6 ht6 HDp HD HS
      go_wp2_with fail
      refine (spec_has ad x cc pats s w6 HD6.out.o.sl (by omega)).mono ?_
      rintro e w7 ⟨rfl, hx7⟩
      have HD7 := Lib.hid (HD6.out.ext hx7)
      have HS7 := Lib.hid (HS6.out.ext hx7)
      have hw7 := HD7.out.h.size
      clear c2 hx7 HD6 HS6
      have c2 := HD7.out.s.cell 2 (by simp)
      have fr7 := fun j => HD7.out.s.frozen j
      have hlt7 := HD7.out.s.lt
      try simp only [List.getElem_toArray, List.getElem_cons_succ, List.getElem_cons_zero] at c2
      cases hh : pats.any fun x => s.toList == x.toList
      · have HPN := Lib.hid (HP.out.push HPo.out hh)
        clear hh
        go_wp2_with (at_builtin; refine law_append1 _ rfl _ _ 22 rfl 9 (.string ⟨#[]⟩) 16 und_strings info_string rfl w.heap.size ad x cc _ _ rfl rfl rfl HD7.out.o hw7 (by omega) (by omega) ?_; intro ad' cc' w8 ho8 hb8 hg8; have HD8 := Lib.hid (HD7.out.app hb8 hg8 ho8); have HS8 := Lib.hid (HS7.out.below hb8 hgw); have c28 := HD8.out.s.cell 2 (by simp); have fr8 := fun j => HD8.out.s.frozen j; have hlt8 := HD8.out.s.lt; clear ho8 hb8 hg8; (try simp only [List.getElem_toArray, List.getElem_cons_succ, List.getElem_cons_zero] at c28))
        exact ⟨⟨x + 1, r - 1, ad', cc', pats ++ [s], k6, by omega, .inl (by omega), by go_num, by rw [Hid, List.length_append, HL.out, List.length_singleton], HPN.out, HD8.out.set 2 (.slice ad' (x + 1) cc') rfl, HS8.out.below (Below.setCell (Below.refl w.heap.size w8) (p := ⟨q2, 2, none⟩) (by have := HD8.out.q; simp only; omega) _) hgw, by omega, by omega⟩, by simp [intOf]; omega⟩
      · have hx1' : 1 ≤ x := by
          rcases Nat.eq_zero_or_pos x with h0 | h0
          · have h1 := HL.out
            rw [h0, List.length_eq_zero_iff] at h1
            rw [h1] at hh; cases hh
          · exact h0
        clear hh
        go_wp2
        exact ⟨⟨x, r - 1, ad, cc, pats, k6, by omega, .inl hx1', by go_num, HL.out, HP.out, HD7.out, HS7.out, by omega, by omega⟩, by simp [intOf]; omega⟩
    · obtain rfl : r = 0 := by omega
      have hx8 : 1 ≤ x ∧ x ≤ 8 := by omega
      clear hr hx1 hxr hR8
      go_wp2_with fail
      refine (src_text g a n c l kk (some ⟨wr.heap.size, 0, none⟩) 7 7 stopsL _ (HS.out.ext ((Ext.refl _).alloc _)) (by omega) (by omega) (strs_lit wr stopsL (by decide)) (by omega) (by omega) (fun x hx => by cases hx; have := HS.out.g; simp only; omega)).mono ?_
      rintro e w9 ⟨sp, k9, rfl, hsp, hs9, hk9, hk9', ht9⟩
      have HD9 := Lib.hid ((HD.out.ext ((Ext.refl _).alloc _)).touch ht9)
      have HS9 := Lib.hid hs9
      have HSp := Lib.hid hsp
      have c1 := HD9.out.s.cell 1 (by simp)
      have fr := fun j => HD9.out.s.frozen j
      have hlt := HD9.out.s.lt
      try simp only [List.getElem_toArray, List.getElem_cons_succ, List.getElem_cons_zero] at c1
      clear hs9 ht9 hsp HD HS
      have hkk9 : k ≤ k9 ∧ k9 ≤ k + 32 := by omega
      clear hka hkb hk9 hk9'
      have HD9b := Lib.hid (HD9.out.set 1 (.string sp) rfl)
      have HS9b := Lib.hid (HS9.out.below (Below.setCell (Below.refl w.heap.size w9) (p := ⟨q2, 1, none⟩) (by have := HD9.out.q; simp only; omega) (.string sp)) hgw)
      by_cases hev : (E : Int) % 2 = 0
      · go_wp2_with fail
        obtain ⟨w9b, hw9b⟩ : ∃ W, W = w9.setCell ⟨q2, 1, none⟩ (.string sp) := ⟨_, rfl⟩
        have hsz9 : w9b.heap.size = w9.heap.size := by rw [hw9b]; simp
        rw [← hw9b] at HD9b HS9b ⊢
        clear hw9b c1 fr hlt HD9 HS9
        refine (src_text g a n c l k9 (some ⟨w9.heap.size, 0, none⟩) 5 5 evensL _ (HS9b.out.ext ((Ext.refl _).alloc _)) (by omega) (by omega) (by rw [← hsz9]; exact strs_lit w9b evensL (by decide)) (by omega) (by omega) (fun x hx => by cases hx; have := HS9b.out.g; simp only; omega)).mono ?_
        rintro e w10 ⟨st, k10, rfl, hst, hs10, hk10, hk10', ht10⟩
        have HD10 := Lib.hid ((HD9b.out.ext ((Ext.refl _).alloc _)).touch ht10)
        have HS10 := Lib.hid hs10
        have HSt := Lib.hid hst
        have c0 := HD10.out.s.cell 0 (by simp)
        have fr := fun j => HD10.out.s.frozen j
        have hlt := HD10.out.s.lt
        try simp only [List.getElem_toArray, List.getElem_cons_zero] at c0
        clear hs10 ht10 hst HD9b HS9b hsz9
        have HD10b := Lib.hid (HD10.out.set 0 (.string st) rfl)
        have HS10b := Lib.hid (HS10.out.below (Below.setCell (Below.refl w.heap.size w10) (p := ⟨q2, 0, none⟩) (by have := HD10.out.q; simp only; omega) (.string st)) hgw)
        have c1 := HD10.out.s.cell 1 (by simp)
        have c2 := HD10.out.s.cell 2 (by simp)
        have c3 := HD10.out.s.cell 3 (by simp)
        have z0 := HD10.out.z.cell 0 (by simp)
        have z1 := HD10.out.z.cell 1 (by simp)
        have z2 := HD10.out.z.cell 2 (by simp)
        have z3 := HD10.out.z.cell 3 (by simp)
        have frz := fun j => HD10.out.z.frozen j
        have hltz := HD10.out.z.lt
        have hqq := HD10.out.q.2
        try simp only [List.getElem_toArray, List.getElem_cons_succ, List.getElem_cons_zero] at c1 c2 c3 z0 z1 z2 z3
        have HV := Lib.hid (drawn_valid hE6 hM6 (by rw [HL.out]; exact hx8) HP.out HSp.out (st := st) (gap := 0) (.inl ⟨by omega, HSt.out, rfl⟩))
        go_wp2
        have zz := HD10b.out.z
        refine bodyPost_ret (v := .agg #[.string st, .string sp, .slice ad x cc, .int .i64 0]) ?_ rfl ?_
        · simp [results, Try.results56, go_sem, z0, z1, z2, z3]
        · have hq := HD10b.out.q
          exact ⟨⟨st, sp, pats, 0⟩, ad, x, cc, k10, rfl, HV.out, HL.out, ((((HD10b.out.o.setS zz (by decide) 0 (.string st)).setS (zz.set 0 (.string st)) (by decide) 1 (.string sp)).setS ((zz.set 0 (.string st)).set 1 (.string sp)) (by decide) 2 (.slice ad x cc)).setS (((zz.set 0 (.string st)).set 1 (.string sp)).set 2 (.slice ad x cc)) (by decide) 3 (.int .i64 0)), HS10b.out.below (B := w.heap.size) (by repeat (first | (with_reducible exact Below.refl _ _) | ((with_reducible refine Below.setCell ?_ ?_ _); rotate_left; focus (simp only; omega)))) hgw, by omega, by omega, HD10b.out.h.below (B := w.heap.size) (by repeat (first | (with_reducible exact Below.refl _ _) | ((with_reducible refine Below.setCell ?_ ?_ _); rotate_left; focus (simp only; omega)))) (Nat.le_refl _)⟩
      · go_wp2_with fail
        obtain ⟨w9b, hw9b⟩ : ∃ W, W = w9.setCell ⟨q2, 1, none⟩ (.string sp) := ⟨_, rfl⟩
        have hsz9 : w9b.heap.size = w9.heap.size := by rw [hw9b]; simp
        rw [← hw9b] at HD9b HS9b ⊢
        clear hw9b c1 fr hlt HD9 HS9
        refine (src_text g a n c l k9 (some ⟨w9.heap.size, 0, none⟩) 5 5 oddsL _ (HS9b.out.ext ((Ext.refl _).alloc _)) (by omega) (by omega) (by rw [← hsz9]; exact strs_lit w9b oddsL (by decide)) (by omega) (by omega) (fun x hx => by cases hx; have := HS9b.out.g; simp only; omega)).mono ?_
        rintro e w10 ⟨st, k10, rfl, hst, hs10, hk10, hk10', ht10⟩
        have HD10 := Lib.hid ((HD9b.out.ext ((Ext.refl _).alloc _)).touch ht10)
        have HS10 := Lib.hid hs10
        have HSt := Lib.hid hst
        have c0 := HD10.out.s.cell 0 (by simp)
        have fr := fun j => HD10.out.s.frozen j
        have hlt := HD10.out.s.lt
        try simp only [List.getElem_toArray, List.getElem_cons_zero] at c0
        clear hs10 ht10 hst HD9b HS9b hsz9
        have HD10b := Lib.hid (HD10.out.set 0 (.string st) rfl)
        have HS10b := Lib.hid (HS10.out.below (Below.setCell (Below.refl w.heap.size w10) (p := ⟨q2, 0, none⟩) (by have := HD10.out.q; simp only; omega) (.string st)) hgw)
        go_wp2_with fail
        obtain ⟨w10b, hw10b⟩ : ∃ W, W = w10.setCell ⟨q2, 0, none⟩ (.string st) := ⟨_, rfl⟩
        rw [← hw10b] at HD10b HS10b ⊢
        clear hw10b c0 fr hlt HD10 HS10
        refine (pick_b g a n c l k10 3 w10b HS10b.out (by omega) (by omega) (by omega)).mono ?_
        rintro e w11 ⟨g0, k11, rfl, hg0, hg1, hs11, hk11, hk11', ht11⟩
        have HD11 := Lib.hid (HD10b.out.touch ht11)
        have HS11 := Lib.hid hs11
        clear hs11 ht11 HD10b HS10b
        have c0 := HD11.out.s.cell 0 (by simp)
        have c1 := HD11.out.s.cell 1 (by simp)
        have c2 := HD11.out.s.cell 2 (by simp)
        have c3 := HD11.out.s.cell 3 (by simp)
        have z0 := HD11.out.z.cell 0 (by simp)
        have z1 := HD11.out.z.cell 1 (by simp)
        have z2 := HD11.out.z.cell 2 (by simp)
        have z3 := HD11.out.z.cell 3 (by simp)
        have fr := fun j => HD11.out.s.frozen j
        have hlt := HD11.out.s.lt
        have frz := fun j => HD11.out.z.frozen j
        have hltz := HD11.out.z.lt
        have hqq := HD11.out.q.2
        try simp only [List.getElem_toArray, List.getElem_cons_succ, List.getElem_cons_zero] at c0 c1 c2 c3 z0 z1 z2 z3
        have HV := Lib.hid (drawn_valid hE6 hM6 (by rw [HL.out]; exact hx8) HP.out HSp.out (st := st) (gap := 1 + g0) (.inr ⟨by omega, HSt.out, by omega, by omega⟩))
        have HD11b := Lib.hid (HD11.out.set 3 (.int .i64 (1 + g0)) rfl)
        have HS11b := Lib.hid (HS11.out.below (Below.setCell (Below.refl w.heap.size w11) (p := ⟨q2, 3, none⟩) (by have := HD11.out.q; simp only; omega) (.int .i64 (1 + g0))) hgw)
        go_wp2
        have zz := HD11b.out.z
        refine bodyPost_ret (v := .agg #[.string st, .string sp, .slice ad x cc, .int .i64 (1 + g0)]) ?_ rfl ?_
        · simp [results, Try.results56, go_sem, z0, z1, z2, z3]
        · have hq := HD11b.out.q
          exact ⟨⟨st, sp, pats, 1 + g0⟩, ad, x, cc, k11, rfl, HV.out, HL.out, ((((HD11b.out.o.setS zz (by decide) 0 (.string st)).setS (zz.set 0 (.string st)) (by decide) 1 (.string sp)).setS ((zz.set 0 (.string st)).set 1 (.string sp)) (by decide) 2 (.slice ad x cc)).setS (((zz.set 0 (.string st)).set 1 (.string sp)).set 2 (.slice ad x cc)) (by decide) 3 (.int .i64 (1 + g0))), HS11b.out.below (B := w.heap.size) (by repeat (first | (with_reducible exact Below.refl _ _) | ((with_reducible refine Below.setCell ?_ ?_ _); rotate_left; focus (simp only; omega)))) hgw, by omega, by omega, HD11b.out.h.below (B := w.heap.size) (by repeat (first | (with_reducible exact Below.refl _ _) | ((with_reducible refine Below.setCell ?_ ?_ _); rotate_left; focus (simp only; omega)))) (Nat.le_refl _)⟩
/-- a valid barcode of the call's own -/
def RetR8Bc (w : World) (e : Ending) (w' : World) : Prop :=
  ∃ (D : Bc) (ad : Option Addr) (m d : Nat), e = .returned (.agg #[.string D.start, .string D.stop, .slice ad m d, .int .i64 D.gap]) ∧ validBc D = true ∧ D.pats.length = m ∧ Strs w' ad m d D.pats ∧ Ext w w'
set_option maxHeartbeats 1000000 in
theorem spec_R8Barcode (a : Option Addr) (n c : Nat) (l : List UInt8) (w : World) (h : Bytes w a n c l) (hn : n ≤ 1048576) : Calls Try.prog 20 #[.slice a n c] w (RetR8Bc w) := by
  have HB := Lib.hid h
  clear h
  go_enter Try.func20, Try.ntmps20
  go_wp2_with fail
  obtain ⟨wz, hwz⟩ : ∃ wz, wz = w.alloc (.cells #[.string ⟨#[]⟩, .string ⟨#[]⟩, .slice none 0 0, .int .i64 0] 28) := ⟨_, rfl⟩
  have hxz : Ext w wz := by rw [hwz]; exact (by repeat (first | (with_reducible exact Ext.refl _) | (with_reducible refine Ext.drewN ?_ _) | (with_reducible refine Ext.drew ?_) | (with_reducible refine Ext.alloc ?_ _) | ((with_reducible refine Ext.setCell ?_ ?_ _); rotate_left; focus (first | (simp; done) | (simp; omega) | omega)) | assumption | (with_reducible refine Ext.trans ?_ (by assumption))))
  have HZ := Lib.hid (show SAt wz w.heap.size 28 #[.string ⟨#[]⟩, .string ⟨#[]⟩, .slice none 0 0, .int .i64 0] by rw [hwz]; exact SAt.new' _ _ _ rfl)
  have hzs : wz.heap.size = w.heap.size + 1 := by rw [hwz]; simp
  rw [← hwz]
  clear hwz
  refine (from_b a n c l wz (HB.out.ext hxz) (by omega)).mono ?_
  rintro e w1 ⟨rfl, hs1, hx1, hz1⟩
  obtain ⟨g, hg⟩ : ∃ g, g = wz.heap.size := ⟨_, rfl⟩
  rw [← hg] at hs1 hz1 ⊢
  have hgw : w.heap.size < g := by omega
  have HS1 := Lib.hid hs1
  have HZ1 := Lib.hid (HZ.out.ext hx1)
  have hxw1 : Ext w w1 := hxz.trans hx1
  clear hs1 HZ hzs hz1 hg hxz hx1 HB
  go_wp2_with fail
  refine (spec_drawBc g a n c l 0 w1 HS1.out (by omega) (by omega)).mono ?_
  rintro e w2 ⟨D, ad, m, d, k', rfl, hv, hl, ho, _, _, _, ht⟩
  have HZ2 := Lib.hid (HZ1.out.touch ht (by omega))
  have hxw2 : Ext w w2 := hxw1.touch ht (by omega)
  have HO := Lib.hid ho
  have HV := Lib.hid hv
  have HL := Lib.hid hl
  have z0 := HZ2.out.cell 0 (by simp)
  have z1 := HZ2.out.cell 1 (by simp)
  have z2 := HZ2.out.cell 2 (by simp)
  have z3 := HZ2.out.cell 3 (by simp)
  have frz := fun j => HZ2.out.frozen j
  have hltz := HZ2.out.lt
  try simp only [List.getElem_toArray, List.getElem_cons_succ, List.getElem_cons_zero] at z0 z1 z2 z3
  clear ho hv hl ht HS1 HZ1
  go_wp2_with fail
  refine bodyPost_ret (v := .agg #[.string D.start, .string D.stop, .slice ad m d, .int .i64 D.gap]) ?_ rfl ?_
  · simp [results, Try.results20, go_sem, z0, z1, z2, z3]
  · have zz := HZ2.out
    refine ⟨D, ad, m, d, rfl, HV.out, HL.out, Own.sl ((((HO.out.setS zz (by decide) 0 (.string D.start)).setS (zz.set 0 (.string D.start)) (by decide) 1 (.string D.stop)).setS ((zz.set 0 (.string D.start)).set 1 (.string D.stop)) (by decide) 2 (.slice ad m d)).setS (((zz.set 0 (.string D.start)).set 1 (.string D.stop)).set 2 (.slice ad m d)) (by decide) 3 (.int .i64 D.gap)), ?_⟩
    exact (by repeat (first | (with_reducible exact Ext.refl _) | (with_reducible assumption) | (with_reducible refine Ext.drewN ?_ _) | (with_reducible refine Ext.drew ?_) | (with_reducible refine Ext.alloc ?_ _) | ((with_reducible refine Ext.setCell ?_ ?_ _); rotate_left; focus (first | (simp; done) | (simp; omega) | omega)) | (with_reducible refine Ext.trans ?_ (by with_reducible assumption))))
end Go.Proofs.Ytnmkckghfckgbaa
