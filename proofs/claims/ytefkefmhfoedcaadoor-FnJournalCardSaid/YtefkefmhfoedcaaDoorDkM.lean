/- Walks: a desk is drawn. -/
import Derived.Test.YtefkefmhfoedcaaDoorDkS
import Derived.Deep.CutRange
namespace Go.Proofs.YtefkefmhfoedcaaDoor
set_option maxRecDepth 100000
open Go.RowKit Go.Sort

theorem DkO.keepB {w W : World} {lo q : Nat} {ts : List ByteArray} {us : List (List Value)} {a : Option Addr} {n c : Nat} {b : Option Addr} {d : Nat} (h : DkO w lo q ts us a n c b d) (hlo : lo ≤ q) (hk : KeepB lo w.heap.size w W) : DkO W lo q ts us a n c b d :=
  ⟨(hk q hlo h.bx.lt).trans h.bx, OwnS.keepB h.ns (fun x h1 h2 => hk x h1 h2), h.ss.keepB (fun x h1 h2 => hk x h1 h2), h.tl, h.ul, h.u4, fun u hu => (h.wv u hu).keep hk, h.nm⟩
/-- the rows of a desk that is a value -/
structure DkV (w : World) (lo : Nat) (ts : List ByteArray) (us : List (List Value)) (a : Option Addr) (n c : Nat) (b : Option Addr) (d : Nat) : Prop where
  ns : OwnS 1 w lo 9 a n c (St ts)
  ss : OwnS 4 w lo 67 b n d us.flatten
  tl : ts.length = n
  ul : us.length = n
  u4 : ∀ u ∈ us, u.length = 4
  wv : ∀ u ∈ us, WV w lo u
  nm : ∀ t ∈ ts, LnOk 8 t
theorem DkO.v {w : World} {lo q : Nat} {ts : List ByteArray} {us : List (List Value)} {a : Option Addr} {n c : Nat} {b : Option Addr} {d : Nat} (h : DkO w lo q ts us a n c b d) : DkV w lo ts us a n c b d := ⟨h.ns, h.ss, h.tl, h.ul, h.u4, h.wv, h.nm⟩
theorem WV.mono {w : World} {lo lo' : Nat} {u : List Value} (h : WV w lo u) (hb : lo' ≤ lo) : WV w lo' u := by
  obtain ⟨X, a, n, c, h1, h2⟩ := h
  exact ⟨X, a, n, c, h1, OwnS.mono (show OwnS 1 w lo 2 a n c (I X.weights) from h2) hb⟩
theorem DkV.mono {w : World} {lo lo' : Nat} {ts : List ByteArray} {us : List (List Value)} {a : Option Addr} {n c : Nat} {b : Option Addr} {d : Nat} (h : DkV w lo ts us a n c b d) (hb : lo' ≤ lo) : DkV w lo' ts us a n c b d :=
  ⟨h.ns.mono hb, h.ss.mono hb, h.tl, h.ul, h.u4, fun u hu => (h.wv u hu).mono hb, h.nm⟩
theorem DkV.keepB {w W : World} {lo : Nat} {ts : List ByteArray} {us : List (List Value)} {a : Option Addr} {n c : Nat} {b : Option Addr} {d : Nat} (h : DkV w lo ts us a n c b d) (hk : KeepB lo w.heap.size w W) : DkV W lo ts us a n c b d :=
  ⟨OwnS.keepB h.ns (fun x h1 h2 => hk x h1 h2), h.ss.keepB (fun x h1 h2 => hk x h1 h2), h.tl, h.ul, h.u4, fun u hu => (h.wv u hu).keep hk, h.nm⟩
def RetDk (g : Nat) (a : Option Addr) (n c : Nat) (l : List UInt8) (k : Int) (w : World) (e : Ending) (w' : World) : Prop :=
  ∃ (ts : List ByteArray) (us : List (List Value)) (da : Option Addr) (dn dc : Nat) (db : Option Addr) (dd : Nat) (k' : Int), e = .returned (.agg #[.slice da dn dc, .slice db dn dd]) ∧ DkV w' w.heap.size ts us da dn dc db dd ∧ dn ≤ 3 ∧ SrcB w' g a n c l k' ∧ k ≤ k' ∧ k' ≤ k + 200 ∧ Touch g w w'
set_option maxHeartbeats 4000000 in
theorem spec_drawDk (g : Nat) (a : Option Addr) (n c : Nat) (l : List UInt8) (k : Int) (w : World) (h : SrcB w g a n c l k) (hk : 0 ≤ k) (hk2 : k ≤ 9999999) :
    Calls Tryd.prog 13 #[.pointer (some ⟨g, 0, none⟩)] w (RetDk g a n c l k w) := by
  have HS := Lib.hid h
  have hgw := h.g
  clear h
  go_enter Tryd.func13, Tryd.ntmps13
  go_wp2_with fail
  obtain ⟨q2, hq2⟩ : ∃ q, q = w.heap.size := ⟨_, rfl⟩
  obtain ⟨q, hq⟩ : ∃ q', q' = q2 + 1 := ⟨_, rfl⟩
  obtain ⟨w1, hw1⟩ : ∃ W, W = w.alloc (.cells #[.slice none 0 0, .slice none 0 0] 28) := ⟨_, rfl⟩
  have hs1 : w1.heap.size = q := by rw [hw1, hq, hq2]; simp
  obtain ⟨w2, hw2⟩ : ∃ W, W = w1.alloc (.cells #[.slice none 0 0, .slice none 0 0] 28) := ⟨_, rfl⟩
  have hx1 : Ext w w1 := by rw [hw1]; exact (by repeat (first | (with_reducible exact Ext.refl _) | (with_reducible refine Ext.drewN ?_ _) | (with_reducible refine Ext.drew ?_) | (with_reducible refine Ext.alloc ?_ _) | ((with_reducible refine Ext.setCell ?_ ?_ _); rotate_left; focus (first | (simp; done) | (simp; omega) | omega)) | assumption | (with_reducible refine Ext.trans ?_ (by assumption))))
  have hx2 : Ext w1 w2 := by rw [hw2]; exact (by repeat (first | (with_reducible exact Ext.refl _) | (with_reducible refine Ext.drewN ?_ _) | (with_reducible refine Ext.drew ?_) | (with_reducible refine Ext.alloc ?_ _) | ((with_reducible refine Ext.setCell ?_ ?_ _); rotate_left; focus (first | (simp; done) | (simp; omega) | omega)) | assumption | (with_reducible refine Ext.trans ?_ (by assumption))))
  have HZ := Lib.hid (SAt.ext (show SAt w1 q2 28 #[.slice none 0 0, .slice none 0 0] by rw [hw1, hq2]; exact SAt.new' _ _ _ rfl) hx2)
  have HB := Lib.hid (show SAt w2 q 28 #[.slice none 0 0, .slice none 0 0] by rw [hw2]; exact SAt.new' _ _ _ hs1.symm)
  have hgq : g < q := by omega
  have hgq2 : q2 ≠ g := by omega
  have hq2q : q2 < q := by omega
  have hwq : w.heap.size ≤ q := by omega
  have hwq2 : w.heap.size ≤ q2 := by omega
  have HX2 := Lib.hid (hx1.trans hx2)
  rw [← hw1, ← hq2, ← hw2, ← hq]
  clear hw1 hw2 hq hx1 hx2 hs1 hq2
  refine (pick_b g a n c l k 4 w2 (HS.out.ext HX2.out) (by omega) (by omega) (by omega)).mono ?_
  rintro e w3 ⟨m0, k3, rfl, hm0, hm1, hs3, hk3, hk3', ht3⟩
  obtain ⟨M, rfl⟩ := Int.eq_ofNat_of_zero_le hm0
  have hM : M ≤ 3 := by omega
  clear hm0 hm1
  have HS3 := Lib.hid hs3
  have HZ3 := Lib.hid (HZ.out.touch ht3 hgq2)
  have HD3 := Lib.hid (show DkO w3 q q [] [] none 0 0 none 0 from ⟨HB.out.touch ht3 (by omega), Own.nil _ _ _, ⟨rfl, .inl ⟨rfl, rfl⟩⟩, rfl, rfl, (fun u hu => by simp at hu), (fun u hu => by simp at hu), (fun u hu => by simp at hu)⟩)
  have HT3 := Lib.hid (((Touch.refl g w).ext HX2.out).trans ht3)
  clear hs3 ht3 HZ HB HX2 HS
  go_wp2_with fail
  go_loopw [4] (fun v4 wr => ∃ (m : Nat) (ts : List ByteArray) (us : List (List Value)) (da : Option Addr) (dn dc : Nat) (db : Option Addr) (dd : Nat) (kk : Int), v4 = .int .i64 (m : Int) ∧ dn + m ≤ 3 ∧ Hid (DkO wr q q ts us da dn dc db dd) ∧ Hid (SAt wr q2 28 #[.slice none 0 0, .slice none 0 0]) ∧ Hid (SrcB wr g a n c l kk) ∧ k ≤ kk ∧ kk + 60 * (m : Int) ≤ k + 182 ∧ Hid (Touch g w wr)) (fun v4 _ => (intOf v4).toNat)
  case atStart => exact ⟨M, [], [], none, 0, 0, none, 0, k3, rfl, by omega, HD3, HZ3, HS3, by omega, by omega, HT3⟩
  case round =>
    obtain ⟨m, ts, us, da, dn, dc, db, dd, kk, rfl, hdm, HD, HZ, HS, hkk, hkk', HT⟩ := hrel
    clear HD3 HZ3 HS3 HT3
    have hsz := HT.out.size
    by_cases hlt : 0 < m
    · go_wp2_with fail
      obtain ⟨bL, hbL⟩ : ∃ b, b = wr.heap.size := ⟨_, rfl⟩
      obtain ⟨w5, hw5⟩ : ∃ W, W = wr.alloc (.cells #[.string ⟨#[97]⟩, .string ⟨#[98]⟩, .string ⟨#[98, 111, 111, 107]⟩, .string ⟨#[116, 114, 97, 100, 101]⟩, .string ⟨#[120]⟩] 9) := ⟨_, rfl⟩
      have hx5 : Ext wr w5 := by rw [hw5]; exact (by repeat (first | (with_reducible exact Ext.refl _) | (with_reducible refine Ext.drewN ?_ _) | (with_reducible refine Ext.drew ?_) | (with_reducible refine Ext.alloc ?_ _) | ((with_reducible refine Ext.setCell ?_ ?_ _); rotate_left; focus (first | (simp; done) | (simp; omega) | omega)) | assumption | (with_reducible refine Ext.trans ?_ (by assumption))))
      have HI5 := Lib.hid (show Strs w5 (some ⟨bL, 0, none⟩) 5 5 ([⟨#[97]⟩, ⟨#[98]⟩, ⟨#[98, 111, 111, 107]⟩, ⟨#[116, 114, 97, 100, 101]⟩, ⟨#[120]⟩] : List ByteArray) by rw [hw5, hbL]; exact strs_litD wr ([⟨#[97]⟩, ⟨#[98]⟩, ⟨#[98, 111, 111, 107]⟩, ⟨#[116, 114, 97, 100, 101]⟩, ⟨#[120]⟩] : List ByteArray) 5 rfl (by omega))
      have hbg : bL ≠ g := by omega
      rw [← hw5, ← hbL]
      clear hw5 hbL
      refine (src_textD g a n c l kk (some ⟨bL, 0, none⟩) 5 5 _ w5 (HS.out.ext hx5) (by omega) (by omega) HI5.out (by omega) (by omega) (fun x hx => by cases hx; exact hbg)).mono ?_
      rintro e w6 ⟨s, k6, rfl, hsm, hs6, hk6, hk6', ht6⟩
      have hall : (([⟨#[97]⟩, ⟨#[98]⟩, ⟨#[98, 111, 111, 107]⟩, ⟨#[116, 114, 97, 100, 101]⟩, ⟨#[120]⟩] : List ByteArray).all fun t => lnB 8 t && nameB t) = true := by decide +kernel
      have hs8 := List.all_eq_true.1 hall s hsm
      rw [Bool.and_eq_true] at hs8
      have HLs := Lib.hid (lnB_ok hs8.1)
      have HNs := Lib.hid hs8.2
      clear hall hs8 hsm
      have HS6 := Lib.hid hs6
      have HT6 := Lib.hid ((Touch.refl g wr).ext hx5 |>.trans ht6)
      clear hs6 ht6 HI5 hx5
      go_wp2_with fail
      refine (spec_draw03 g a n c l k6 w6 HS6.out (by omega) (by omega)).mono ?_
      rintro e w7 ⟨X, ra, rn, rc, k7, rfl, ho7, hl7, _, _, _, _, _, _, _, _, _, hs7, hk7, hk7', ht7⟩
      have HT7 := Lib.hid (HT6.out.trans ht7)
      have HD7 := Lib.hid (HD.out.keepB (Nat.le_refl _) (HT7.out.keepB hgq (Nat.le_refl _)))
      have HZ7 := Lib.hid (HZ.out.touch HT7.out hgq2)
      have HO7 := Lib.hid (Own.mono ho7 (show q ≤ w6.heap.size by have := HD.out.bx.lt; have := HT6.out.size; omega))
      have HS7 := Lib.hid hs7
      clear ho7 hs7 ht7 HS6 HT6 HD HZ HS
      go_wp2_with fail
      refine (spec_setD q q ts us da dn dc db dd s X ra rn rc w7 HD7.out (Nat.le_refl _) (by omega) HO7.out HLs.out HNs.out).mono ?_
      rintro e w8 ⟨yes, ts', us', da', dn', dc', db', dd', rfl, hd8, hn8, hb8⟩
      have HD8 := Lib.hid hd8
      have HZ8 := Lib.hid (show SAt w8 q2 28 #[.slice none 0 0, .slice none 0 0] from (hb8.block q2 hq2q).trans HZ7.out)
      have HS8 := Lib.hid (HS7.out.below hb8 hgq)
      have HT8 := Lib.hid ((HT.out.trans HT7.out).below hb8 hwq)
      clear hd8 hb8
      go_wp2_with fail
      exact ⟨⟨m - 1, ts', us', da', dn', dc', db', dd', k7, by congr 1; omega, by omega, HD8, HZ8, HS8, by omega, by omega, HT8⟩, by simp [intOf]; omega⟩
    · obtain rfl : m = 0 := by omega
      have c0 := HD.out.bx.cell 0 (by simp)
      have c1 := HD.out.bx.cell 1 (by simp)
      have z0 := HZ.out.cell 0 (by simp)
      have z1 := HZ.out.cell 1 (by simp)
      have fr := fun j => HZ.out.frozen j
      have hltz := HZ.out.lt
      try simp only [List.getElem_toArray, List.getElem_cons_succ, List.getElem_cons_zero] at c0 c1 z0 z1
      go_wp2_with fail
      refine bodyPost_ret (v := .agg #[.slice da dn dc, .slice db dn dd]) ?_ rfl ?_
      · simp [results, Tryd.results13, go_sem, z0, z1]
      · have hB : Below q2 wr ((wr.setCell ⟨q2, 0, none⟩ (.slice da dn dc)).setCell ⟨q2, 1, none⟩ (.slice db dn dd)) :=
          Below.setCell (Below.setCell (Below.refl q2 wr) (p := ⟨q2, 0, none⟩) (Nat.le_refl q2) _) (p := ⟨q2, 1, none⟩) (Nat.le_refl q2) _
        exact ⟨ts, us, da, dn, dc, db, dd, kk, rfl, DkV.mono (DkV.keepB HD.out.v (fun x h1 h2 => by rw [Below.heap_setCell _ _ _ _ (show x ≠ q2 by omega), Below.heap_setCell _ _ _ _ (show x ≠ q2 by omega)])) hwq, by omega, HS.out.below hB (by omega), hkk, by omega, HT.out.below hB hwq2⟩
def RetDkB (w : World) (e : Ending) (w' : World) : Prop :=
  ∃ (ts : List ByteArray) (us : List (List Value)) (da : Option Addr) (dn dc : Nat) (db : Option Addr) (dd : Nat), e = .returned (.agg #[.slice da dn dc, .slice db dn dd]) ∧ DkV w' w.heap.size ts us da dn dc db dd ∧ dn ≤ 3 ∧ Ext w w'
set_option maxHeartbeats 4000000 in
theorem spec_B10Desk (a : Option Addr) (n c : Nat) (l : List UInt8) (w : World) (h : Bytes w a n c l) (hn : n ≤ 4611686018427387904) :
    Calls Tryd.prog 6 #[.slice a n c] w (RetDkB w) := by
  have HS := Lib.hid h
  clear h
  go_enter Tryd.func6, Tryd.ntmps6
  go_wp2_with fail
  obtain ⟨q2, hq2⟩ : ∃ q, q = w.heap.size := ⟨_, rfl⟩
  obtain ⟨w1, hw1⟩ : ∃ W, W = w.alloc (.cells #[.slice none 0 0, .slice none 0 0] 28) := ⟨_, rfl⟩
  have hs1 : w1.heap.size = q2 + 1 := by rw [hw1, hq2]; simp
  have hx1 : Ext w w1 := by rw [hw1]; exact (by repeat (first | (with_reducible exact Ext.refl _) | (with_reducible refine Ext.drewN ?_ _) | (with_reducible refine Ext.drew ?_) | (with_reducible refine Ext.alloc ?_ _) | ((with_reducible refine Ext.setCell ?_ ?_ _); rotate_left; focus (first | (simp; done) | (simp; omega) | omega)) | assumption | (with_reducible refine Ext.trans ?_ (by assumption))))
  have HZ := Lib.hid (show SAt w1 q2 28 #[.slice none 0 0, .slice none 0 0] by rw [hw1, hq2]; exact SAt.new' _ _ _ rfl)
  have hwq2 : w.heap.size ≤ q2 := by omega
  have HX1 := Lib.hid hx1
  rw [← hw1, ← hq2]
  clear hw1 hx1 hq2
  refine (from_b a n c l w1 (HS.out.ext HX1.out) hn).mono ?_
  rintro e w2 ⟨rfl, hs2, hx2, hz2⟩
  obtain ⟨g, hg⟩ : ∃ g, g = w1.heap.size := ⟨_, rfl⟩
  rw [← hg] at hs2 hz2 ⊢
  have hgq : q2 < g := by omega
  have HS2 := Lib.hid hs2
  have HZ2 := Lib.hid (HZ.out.ext hx2)
  have HX2 := Lib.hid (HX1.out.trans hx2)
  have hg2 : g < w2.heap.size := by omega
  have hwg : w.heap.size ≤ g := by omega
  clear hs2 hx2 hz2 hg hs1 HS HZ HX1
  go_wp2_with fail
  refine (spec_drawDk g a n c l 0 w2 HS2.out (by omega) (by omega)).mono ?_
  rintro e w3 ⟨ts, us, da, dn, dc, db, dd, k3, rfl, hd3, hd33, _, _, _, ht3⟩
  have HD3 := Lib.hid hd3
  have HZ3 := Lib.hid (HZ2.out.touch ht3 (by omega))
  have HX3 := Lib.hid (HX2.out.touch ht3 hwg)
  have hsz3 := ht3.size
  clear hd3 ht3
  have z0 := HZ3.out.cell 0 (by simp)
  have z1 := HZ3.out.cell 1 (by simp)
  have fr := fun j => HZ3.out.frozen j
  have hltz := HZ3.out.lt
  try simp only [List.getElem_toArray, List.getElem_cons_succ, List.getElem_cons_zero] at z0 z1
  go_wp2_with fail
  refine bodyPost_ret (v := .agg #[.slice da dn dc, .slice db dn dd]) ?_ rfl ?_
  · simp [results, Tryd.results6, go_sem, z0, z1]
  · have hB : Below q2 w3 ((w3.setCell ⟨q2, 0, none⟩ (.slice da dn dc)).setCell ⟨q2, 1, none⟩ (.slice db dn dd)) :=
      Below.setCell (Below.setCell (Below.refl q2 w3) (p := ⟨q2, 0, none⟩) (Nat.le_refl q2) _) (p := ⟨q2, 1, none⟩) (Nat.le_refl q2) _
    exact ⟨ts, us, da, dn, dc, db, dd, rfl, DkV.mono (DkV.keepB HD3.out (fun x h1 h2 => by rw [Below.heap_setCell _ _ _ _ (show x ≠ q2 by omega), Below.heap_setCell _ _ _ _ (show x ≠ q2 by omega)])) (by omega), by omega, Below.trans HX3.out (Below.mono hB hwq2)⟩
end Go.Proofs.YtefkefmhfoedcaaDoor

/- Walks: a line for a desk is drawn. -/
namespace Go.Proofs.YtefkefmhfoedcaaDoor
set_option maxRecDepth 100000
open Go.RowKit Go.Sort

theorem flat_get (us : List (List Value)) (k j : Nat) (h4 : ∀ u ∈ us, u.length = 4) (hk : k < us.length) (hj : j < 4) : us.flatten[k * 4 + j]? = us[k][j]? := by
  have h := flat_drop us k h4
  have h1 : (us.flatten.drop (k * 4))[j]? = us.flatten[k * 4 + j]? := by rw [List.getElem?_drop]
  rw [← h1, h, List.drop_eq_getElem_cons hk, List.flatten_cons, List.getElem?_append_left (by rw [h4 _ (List.getElem_mem hk)]; exact hj)]
/-- the k-th system of a desk, in every later world -/
theorem DkO.sys {w : World} {lo q : Nat} {ts : List ByteArray} {us : List (List Value)} {a : Option Addr} {n c : Nat} {b : Option Addr} {d : Nat} (h : DkO w lo q ts us a n c b d) (k : Nat) (hk : k < n) :
    ∃ (g : Nat) (X : Wt) (xa : Option Addr) (xn xc : Nat), b = some ⟨g, 0, none⟩ ∧ ∀ W, KeepB lo w.heap.size w W → WtO W g (k * 4) X xa xn xc := by
  have hku : k < us.length := by rw [h.ul]; exact hk
  obtain ⟨X, xa, xn, xc, hu, ho⟩ := h.wv us[k] (List.getElem_mem hku)
  obtain ⟨g, hg⟩ : ∃ g, b = some ⟨g, 0, none⟩ := by
    rcases h.ss.2 with ⟨hv, _⟩ | ⟨g, cap, cur, hv, _⟩
    · simp at hv; omega
    · simp only [Value.slice.injEq] at hv; exact ⟨g, hv.1⟩
  refine ⟨g, X, xa, xn, xc, hg, fun W hK => ?_⟩
  subst hg
  have hs : OwnS 4 W lo 67 (some ⟨g, 0, none⟩) n d us.flatten := h.ss.keepB (fun x h1 h2 => hK x h1 h2)
  have hc : ∀ j, j < 4 → W.cell? ⟨g, k * 4 + j, none⟩ = us[k][j]? := fun j hj => by
    rw [World.ownsRow.cellAt hs (k * 4 + j) (by omega)]; exact flat_get us k j h.u4 hku hj
  rw [hu] at hc
  exact ⟨hc 0 (by omega), hc 1 (by omega), hc 2 (by omega), hc 3 (by omega), Own.sl (Own.keepB ho hK)⟩
theorem WtTouch {w w' : World} {g : Nat} {a : Option Addr} {n c : Nat} {l : List Int} (h : Ints w a n c l) (ht : Touch g w w') (hne : ∀ x, a = some x → x.block ≠ g) : Ints w' a n c l := by
  refine ⟨Sl.len h, Sl.cap h, fun h0 => ?_⟩
  obtain ⟨b1, off, ha, hc⟩ := Sl.cells h h0
  exact ⟨b1, off, ha, fun k hk => (World.cell?_of_block (w := w) (ht.block b1 (World.block_lt_of_cell? w _ (hc k hk)) (hne _ ha))).trans (hc k hk)⟩
/-- a line that is drawn -/
def RetDl (g : Nat) (a : Option Addr) (n c : Nat) (l : List UInt8) (k : Int) (w : World) (e : Ending) (w' : World) : Prop :=
  ∃ s k', e = .returned (.string s) ∧ LnOk 600 s ∧ SrcB w' g a n c l k' ∧ k ≤ k' ∧ k' ≤ k + 200 ∧ Touch g w w'
theorem spec_decD (x : Int) (w : World) (h0 : -1 ≤ x) (h1 : x ≤ 100) : Calls Tryd.prog 30 #[.int .i64 x] w (RetLn 21 w) := by
  by_cases h : x = -1
  · subst h; exact spec_decM w
  · obtain ⟨n, rfl⟩ := Int.eq_ofNat_of_zero_le (show 0 ≤ x by omega)
    exact (spec_dec n w (by omega)).mono fun e w' ⟨h2, h3⟩ => ⟨_, h2, dec_ln _ (by omega) (by omega), h3⟩
set_option maxHeartbeats 8000000 in
theorem spec_drawLine (g lo q : Nat) (ts : List ByteArray) (us : List (List Value)) (da : Option Addr) (dn dc : Nat) (db : Option Addr) (dd : Nat) (a : Option Addr) (n c : Nat) (l : List UInt8) (k : Int) (w0 w : World)
    (hD : DkO w0 lo q ts us da dn dc db dd) (hlo : lo ≤ q) (hg0 : w0.heap.size ≤ g) (hK : KeepB lo w0.heap.size w0 w) (hn3 : dn ≤ 3) (h : SrcB w g a n c l k) (hk : 0 ≤ k) (hk2 : k ≤ 9999999) :
    Calls Tryd.prog 12 #[.pointer (some ⟨g, 0, none⟩), .pointer (some ⟨q, 0, none⟩)] w (RetDl g a n c l k w) := by
  have HS := Lib.hid h
  have hgw := h.g
  have HKp := Lib.hid (fun W (ht : Touch g w W) => show KeepB lo w0.heap.size w0 W from hK.trans ((ht.keepB0 hgw).mono (Nat.zero_le _) hg0))
  have HDk := Lib.hid (fun W (ht : Touch g w W) => hD.keepB hlo (HKp.out W ht))
  have HSy := Lib.hid (fun j (hj : j < dn) => hD.sys j hj)
  have HTl := Lib.hid hD.tl
  have HNm := Lib.hid hD.nm
  have hqg : q ≠ g := by have := hD.bx.lt; omega
  clear h hD hK
  go_enter Tryd.func12, Tryd.ntmps12
  go_wp2_with fail
  have HT0 := Lib.hid (Touch.refl g w)
  obtain ⟨bL1, hbL1⟩ : ∃ b, b = w.heap.size := ⟨_, rfl⟩
  obtain ⟨wL1, hwL1⟩ : ∃ V, V = w.alloc (.cells #[.string ⟨#[97]⟩, .string ⟨#[98]⟩, .string ⟨#[110, 105, 120]⟩, .string ⟨#[]⟩] 9) := ⟨_, rfl⟩
  have hxL1 : Ext w wL1 := by rw [hwL1]; exact (by repeat (first | (with_reducible exact Ext.refl _) | (with_reducible refine Ext.drewN ?_ _) | (with_reducible refine Ext.drew ?_) | (with_reducible refine Ext.alloc ?_ _) | ((with_reducible refine Ext.setCell ?_ ?_ _); rotate_left; focus (first | (simp; done) | (simp; omega) | omega)) | assumption | (with_reducible refine Ext.trans ?_ (by assumption))))
  have HIL1 := Lib.hid (show Strs wL1 (some ⟨bL1, 0, none⟩) 4 4 ([⟨#[97]⟩, ⟨#[98]⟩, ⟨#[110, 105, 120]⟩, ⟨#[]⟩] : List ByteArray) by rw [hwL1, hbL1]; exact strs_litD w ([⟨#[97]⟩, ⟨#[98]⟩, ⟨#[110, 105, 120]⟩, ⟨#[]⟩] : List ByteArray) 4 rfl (by omega))
  have hbg1 : bL1 ≠ g := by have := HS.out.g; omega
  rw [← hwL1, ← hbL1]
  clear hwL1 hbL1
  refine (src_textD g a n c l k (some ⟨bL1, 0, none⟩) 4 4 _ wL1 (HS.out.ext hxL1) (by omega) (by omega) HIL1.out (by omega) (by omega) (fun x hx => by cases hx; exact hbg1)).mono ?_
  rintro e w1 ⟨nm, k1, rfl, hsm1, hs1, hk1, hk1', ht1⟩
  have HLnm := Lib.hid (lnB_all (N := 8) (show (([⟨#[97]⟩, ⟨#[98]⟩, ⟨#[110, 105, 120]⟩, ⟨#[]⟩] : List ByteArray).all (lnB 8)) = true by decide +kernel) nm hsm1)
  have HS1 := Lib.hid hs1
  have HT1 := Lib.hid ((HT0.out.ext hxL1).trans ht1)
  have sznm := HLnm.out.sz
  clear hs1 ht1 hsm1 HIL1 hxL1
  clear HS HT0
  have hg1 := HS1.out.g
  have q0 := (HDk.out w1 HT1.out).bx.cell 0 (by simp)
  try simp only [List.getElem_toArray, List.getElem_cons_zero] at q0
  go_upto_region 3 with fail
  go_cut [27] from 17 to 27 (fun v wx => ∃ (y : Bool) (kk : Int), v = .bool y ∧ (y = true → 0 < dn) ∧ SrcB wx g a n c l kk ∧ k ≤ kk ∧ kk ≤ k + 4 ∧ Touch g w wx)
  case first =>
    by_cases hn0 : 0 < dn
    · go_wp2_with ((go_at_call 24; (with_reducible refine (one_b g a n c l k1 6 w1 HS1.out (by omega) (by omega) (by omega)).mono ?_); rintro e w9 ⟨yes2, k9, rfl, hs9, hk9, hk9', ht9⟩; cases yes2))
      all_goals
        go_meet
        exact ⟨_, k9, rfl, fun _ => hn0, hs9, by omega, by omega, HT1.out.trans ht9⟩
    · go_wp2_with fail
      go_meet
      exact ⟨_, k1, rfl, fun h => by simp at h, HS1.out, by omega, by omega, HT1.out⟩
  case rest =>
    obtain ⟨y, k2, rfl, hy, hs2, hk2a, hk2b, ht2⟩ := hcut
    have HS2 := Lib.hid hs2
    have HT2 := Lib.hid ht2
    clear hs2 ht2 HS1 HT1 q0 hg1 hk1 hk1'
    generalize wc = w2 at *
    go_upto_if 27 with fail
    go_cut [5, 6] from 28 to 68 (fun v5 v6 wx => ∃ (nm word : ByteArray) (kk : Int), v5 = .string nm ∧ v6 = .string word ∧ LnOk 8 nm ∧ LnOk 20 word ∧ SrcB wx g a n c l kk ∧ k ≤ kk ∧ kk ≤ k + 60 ∧ Touch g w wx)
    case first =>
      cases y
      · go_wp2_with fail
        go_meet
        exact ⟨nm, _, k2, rfl, rfl, HLnm.out, lnB_ok (by decide +kernel), HS2.out, by omega, by omega, HT2.out⟩
      · have hdn := hy rfl
        clear hy
        have hg2 := HS2.out.g
        have q0 := (HDk.out w2 HT2.out).bx.cell 0 (by simp)
        try simp only [List.getElem_toArray, List.getElem_cons_zero] at q0
        go_wp2_with fail
        refine (pick_b g a n c l k2 dn w2 HS2.out (by omega) (by omega) (by omega)).mono ?_
        rintro e w3 ⟨j0, k3, rfl, hj0, hj1, hs3, hk3, hk3', ht3⟩
        obtain ⟨j, rfl⟩ := Int.eq_ofNat_of_zero_le hj0
        have hj : j < dn := by omega
        clear hj0 hj1
        have HS3 := Lib.hid hs3
        have HT3 := Lib.hid (HT2.out.trans ht3)
        have hg3 := hs3.g
        clear hs3 ht3 HS2 HT2 q0 hg2
        have HD3 := Lib.hid (HDk.out w3 HT3.out)
        have q0 := HD3.out.bx.cell 0 (by simp)
        have q1 := HD3.out.bx.cell 1 (by simp)
        try simp only [List.getElem_toArray, List.getElem_cons_succ, List.getElem_cons_zero] at q0 q1
        obtain ⟨gb, X, xa, xn, xc, rfl, hsy⟩ := HSy.out j hj
        have HSj := Lib.hid (fun W (ht : Touch g w W) => hsy W (HKp.out W ht))
        clear hsy
        have hv3 : Strs w3 da dn dc ts := Own.sl (show Own w3 lo 9 da dn dc (St ts) from HD3.out.ns)
        obtain ⟨nb, noff, hnx, hncell⟩ := hv3.ix (P := Tryd.prog) 24 9 und_strs cell_str
        have hxx : Ext w3 w3 := Ext.refl _
        obtain ⟨i, hi, his⟩ := cellsOf_sizeN cell_wt (by omega)
        have hix : ∀ w', (Instr.indexAt 26 (.slice (some ⟨gb, 0, none⟩) dn dd) (.int .i64 j)).run Tryd.prog w' = .ok (.pointer (some ⟨gb, j * 4, none⟩)) w' := fun w' => by
          have : (⟨gb, 0, none⟩ : Addr).add (j * 4) = ⟨gb, j * 4, none⟩ := by unfold Addr.add; simp; exact fun h => h.symm
          simp [Instr.indexAt, asIntOf, run_underlying und_sys, sizeOf, typeInfo, hi, his, Addr.add_lit, hj]
        have HIs := Lib.hid (spec_isO gb (j * 4) X xa xn xc w3 (HSj.out w3 HT3.out))
        have HLg := Lib.hid (HNm.out (gs ts j) (gs_mem (by rw [HTl.out]; exact hj)))
        clear hi his hv3
        go_wp2_with fail
        refine HIs.out.mono ?_
        rintro e w4 ⟨rfl, m4, rfl⟩
        have HT4 := Lib.hid (HT3.out.ext ((Ext.refl _).drewN m4))
        have HS4 := Lib.hid (HS3.out.ext ((Ext.refl _).drewN m4))
        have hwt := HSj.out _ HT4.out
        have hxl : X.weights.length = xn := hwt.ws.len
        generalize w3.drewN m4 = w4 at *
        clear hnx hncell hxx q0 q1 HD3 HIs HS3 HT3 hg3
        cases hv : validB X
        · clear hwt hxl hix
          go_wp2_with fail
          go_meet
          exact ⟨_, _, k3, rfl, rfl, HLg.out, lnB_ok (by decide +kernel), HS4.out, by omega, by omega, HT4.out⟩
        · have hbd : (2 ≤ X.base ∧ X.base ≤ 36) ∧ 1 ≤ xn ∧ xn ≤ 20 := by
            simp only [validB, manyB, baseB, inB, Bool.and_eq_true, decide_eq_true_eq] at hv
            omega
          clear hv hwt
          go_upto_region 7 with fail
          obtain ⟨C0, hC0⟩ : ∃ C : World → Prop, C = fun w' => Touch g w w' := ⟨_, rfl⟩
          have hin : C0 w4.drew := by rw [hC0]; exact HT4.out.ext ((Ext.refl _).drew)
          have hpk : ∀ z, Touch g w (World.pk C0 w4.drew z) := fun z => by have := pk_in hin z; rw [hC0] at this; rw [hC0]; exact this
          have p1 : ∀ z, (World.pk C0 w4.drew z).cell? ⟨q, 1, none⟩ = some (.slice (some ⟨gb, 0, none⟩) dn dd) := fun z => (HDk.out _ (hpk z)).bx.cell 1 (by simp)
          have y0 := fun z => (HSj.out _ (hpk z)).c0
          have y3 := fun z => (HSj.out _ (hpk z)).c3
          have HPk := Lib.hid (spec_drawDigs g a n c l k3 X.base xn w4.drew (HS4.out.ext ((Ext.refl _).drew)) (by omega) (by omega) (by omega) (by omega) (by omega))
          have Hhpk := Lib.hid hpk; clear hpk; have Hhin := Lib.hid hin; clear hin; have HhC0 := Lib.hid hC0; clear hC0
          refine wp_region_pk C0 20 Hhin.out rfl (by kernel_rfl) (by kernel_rfl) (by kernel_rfl) (by kernel_rfl) ?_
          simp only [List.take_succ_cons, List.take_zero, List.drop_succ_cons, List.drop_zero]
          (repeat (first | (refine mix_q rfl ?_; go_big_quiet_step (fail); refine wpQuiet_nil ?_; show wpMix _ _ _ _ _ _ _) | (refine mix_s rfl ?_; go_wp2_with (first
            | (go_at_call 27; (with_reducible refine HPk.out.mono ?_); rintro e w5 ⟨ra, rc, ds, k5, rfl, ho5, hl5, hb5, hs5, hk5, hk5', ht5⟩; have HS5 := Lib.hid hs5; have HT5 := Lib.hid ((HT4.out.ext ((Ext.refl _).drew)).trans ht5); have HO5 := Lib.hid (show Ints w5 ra xn rc ds from ho5.sl); have HB5 := Lib.hid (show Dig36 ds from fun x hx => by have := hb5 x hx; omega); have HL5 := Lib.hid hl5; clear hs5 ht5 ho5 hb5 hl5)
            | (go_at_call 26; (with_reducible refine (spec_from ra xn rc ds w5 HO5.out HB5.out (by omega)).mono ?_); rintro e w6 ⟨rfl, hx6⟩; have HS6 := Lib.hid (HS5.out.ext hx6); have HT6 := Lib.hid (HT5.out.ext hx6); clear hx6)); first | refine ⟨pk_of (by rw [HhC0.out]; exact HT6.out), ?_⟩ | refine ⟨rfl, rfl, pk_of (by rw [HhC0.out]; exact HT6.out), ?_⟩ | refine ⟨pk_of (by rw [HhC0.out]; exact HT5.out), ?_⟩ | refine ⟨rfl, rfl, pk_of (by rw [HhC0.out]; exact HT5.out), ?_⟩)))
          refine mix_nil ?_
          clear Hhpk Hhin HhC0 p1 y0 y3
          go_wp2_with fail
          go_meet
          exact ⟨_, _, k5, rfl, rfl, HLg.out, (text_ln ds HB5.out).le (by rw [HL5.out]; omega), HS6.out, by omega, by omega, HT6.out⟩
    case rest =>
      clear HLnm sznm HS2 HT2 hy hk2a hk2b
      obtain ⟨nm, word, k3, rfl, rfl, hnm3, hwd3, hs3, hk3a, hk3b, ht3⟩ := hcut
      have HLnm := Lib.hid hnm3
      have HLwd := Lib.hid hwd3
      have sznm := hnm3.sz
      have szwd := hwd3.sz
      have HS3 := Lib.hid hs3
      have HT3 := Lib.hid ht3
      clear hs3 ht3 hnm3 hwd3
      generalize wc = w3 at *
      go_wp2_with fail
      refine (pick_b g a n c l k3 8 w3 HS3.out (by omega) (by omega) (by omega)).mono ?_
      rintro e w4 ⟨x, k4, rfl, hx0, hx1, hs4, hk4, hk4', ht4⟩
      have HS4 := Lib.hid hs4
      have HT4 := Lib.hid (HT3.out.trans ht4)
      clear hs4 ht4 HS3 HT3
      have hx8 : x = 0 ∨ x = 1 ∨ x = 2 ∨ x = 3 ∨ x = 4 ∨ x = 5 ∨ x = 6 ∨ x = 7 := by omega
      clear hx0 hx1
      have HSp := Lib.hid (lnB_ok (N := 1) (s := ⟨#[32]⟩) (by decide +kernel))
      rcases hx8 with rfl | rfl | rfl | rfl | rfl | rfl | rfl | rfl
      · go_wp2_with fail
        obtain ⟨bL5, hbL5⟩ : ∃ b, b = w4.heap.size := ⟨_, rfl⟩
        obtain ⟨wL5, hwL5⟩ : ∃ V, V = w4.alloc (.cells #[.string ⟨#[]⟩, .string ⟨#[119, 104, 97, 116]⟩, .string ⟨#[115, 101, 116]⟩, .string ⟨#[115, 101, 116, 32, 97]⟩, .string ⟨#[115, 101, 116, 32, 97, 32, 49, 48, 47, 49, 48, 47, 48, 47, 51, 32, 49]⟩, .string ⟨#[115, 101, 116, 32, 97, 32, 49, 48, 47, 49, 48, 47, 48, 47, 51, 32, 32, 49]⟩, .string ⟨#[115, 104, 111, 119]⟩, .string ⟨#[115, 117, 109, 32, 97]⟩, .string ⟨#[99, 104, 101, 99, 107, 32, 97, 32, 49, 32, 50]⟩, .string ⟨#[102, 105, 108, 108, 32, 97, 32, 49, 50]⟩, .string ⟨#[117, 110, 115, 101, 101, 110, 32, 97, 32, 49]⟩, .string ⟨#[107, 110, 111, 119, 110, 32, 48, 32, 55, 57, 57, 50, 55, 51, 57, 56, 55, 49, 51]⟩, .string ⟨#[107, 110, 111, 119, 110, 32, 49, 32, 52, 48, 48, 54, 51, 56, 49, 51, 51, 51, 57, 51, 49]⟩, .string ⟨#[107, 110, 111, 119, 110, 32, 57, 32, 49]⟩] 9) := ⟨_, rfl⟩
        have hxL5 : Ext w4 wL5 := by rw [hwL5]; exact (by repeat (first | (with_reducible exact Ext.refl _) | (with_reducible refine Ext.drewN ?_ _) | (with_reducible refine Ext.drew ?_) | (with_reducible refine Ext.alloc ?_ _) | ((with_reducible refine Ext.setCell ?_ ?_ _); rotate_left; focus (first | (simp; done) | (simp; omega) | omega)) | assumption | (with_reducible refine Ext.trans ?_ (by assumption))))
        have HIL5 := Lib.hid (show Strs wL5 (some ⟨bL5, 0, none⟩) 14 14 ([⟨#[]⟩, ⟨#[119, 104, 97, 116]⟩, ⟨#[115, 101, 116]⟩, ⟨#[115, 101, 116, 32, 97]⟩, ⟨#[115, 101, 116, 32, 97, 32, 49, 48, 47, 49, 48, 47, 48, 47, 51, 32, 49]⟩, ⟨#[115, 101, 116, 32, 97, 32, 49, 48, 47, 49, 48, 47, 48, 47, 51, 32, 32, 49]⟩, ⟨#[115, 104, 111, 119]⟩, ⟨#[115, 117, 109, 32, 97]⟩, ⟨#[99, 104, 101, 99, 107, 32, 97, 32, 49, 32, 50]⟩, ⟨#[102, 105, 108, 108, 32, 97, 32, 49, 50]⟩, ⟨#[117, 110, 115, 101, 101, 110, 32, 97, 32, 49]⟩, ⟨#[107, 110, 111, 119, 110, 32, 48, 32, 55, 57, 57, 50, 55, 51, 57, 56, 55, 49, 51]⟩, ⟨#[107, 110, 111, 119, 110, 32, 49, 32, 52, 48, 48, 54, 51, 56, 49, 51, 51, 51, 57, 51, 49]⟩, ⟨#[107, 110, 111, 119, 110, 32, 57, 32, 49]⟩] : List ByteArray) by rw [hwL5, hbL5]; exact strs_litD w4 ([⟨#[]⟩, ⟨#[119, 104, 97, 116]⟩, ⟨#[115, 101, 116]⟩, ⟨#[115, 101, 116, 32, 97]⟩, ⟨#[115, 101, 116, 32, 97, 32, 49, 48, 47, 49, 48, 47, 48, 47, 51, 32, 49]⟩, ⟨#[115, 101, 116, 32, 97, 32, 49, 48, 47, 49, 48, 47, 48, 47, 51, 32, 32, 49]⟩, ⟨#[115, 104, 111, 119]⟩, ⟨#[115, 117, 109, 32, 97]⟩, ⟨#[99, 104, 101, 99, 107, 32, 97, 32, 49, 32, 50]⟩, ⟨#[102, 105, 108, 108, 32, 97, 32, 49, 50]⟩, ⟨#[117, 110, 115, 101, 101, 110, 32, 97, 32, 49]⟩, ⟨#[107, 110, 111, 119, 110, 32, 48, 32, 55, 57, 57, 50, 55, 51, 57, 56, 55, 49, 51]⟩, ⟨#[107, 110, 111, 119, 110, 32, 49, 32, 52, 48, 48, 54, 51, 56, 49, 51, 51, 51, 57, 51, 49]⟩, ⟨#[107, 110, 111, 119, 110, 32, 57, 32, 49]⟩] : List ByteArray) 14 rfl (by omega))
        have hbg5 : bL5 ≠ g := by have := HS4.out.g; omega
        rw [← hwL5, ← hbL5]
        clear hwL5 hbL5
        refine (src_textD g a n c l k4 (some ⟨bL5, 0, none⟩) 14 14 _ wL5 (HS4.out.ext hxL5) (by omega) (by omega) HIL5.out (by omega) (by omega) (fun x hx => by cases hx; exact hbg5)).mono ?_
        rintro e w5 ⟨s, k5, rfl, hsm5, hs5, hk5, hk5', ht5⟩
        have HLs := Lib.hid (lnB_all (N := 600) (show (([⟨#[]⟩, ⟨#[119, 104, 97, 116]⟩, ⟨#[115, 101, 116]⟩, ⟨#[115, 101, 116, 32, 97]⟩, ⟨#[115, 101, 116, 32, 97, 32, 49, 48, 47, 49, 48, 47, 48, 47, 51, 32, 49]⟩, ⟨#[115, 101, 116, 32, 97, 32, 49, 48, 47, 49, 48, 47, 48, 47, 51, 32, 32, 49]⟩, ⟨#[115, 104, 111, 119]⟩, ⟨#[115, 117, 109, 32, 97]⟩, ⟨#[99, 104, 101, 99, 107, 32, 97, 32, 49, 32, 50]⟩, ⟨#[102, 105, 108, 108, 32, 97, 32, 49, 50]⟩, ⟨#[117, 110, 115, 101, 101, 110, 32, 97, 32, 49]⟩, ⟨#[107, 110, 111, 119, 110, 32, 48, 32, 55, 57, 57, 50, 55, 51, 57, 56, 55, 49, 51]⟩, ⟨#[107, 110, 111, 119, 110, 32, 49, 32, 52, 48, 48, 54, 51, 56, 49, 51, 51, 51, 57, 51, 49]⟩, ⟨#[107, 110, 111, 119, 110, 32, 57, 32, 49]⟩] : List ByteArray).all (lnB 600)) = true by decide +kernel) s hsm5)
        have HS5 := Lib.hid hs5
        have HT5 := Lib.hid ((HT4.out.ext hxL5).trans ht5)
        have szs := HLs.out.sz
        clear hs5 ht5 hsm5 HIL5 hxL5
        go_wp2_with fail
        go_ret
        exact ⟨_, k5, rfl, HLs.out, HS5.out, by omega, by omega, HT5.out⟩
      · go_wp2_with fail
        refine (spec_draw03 g a n c l k4 w4 HS4.out (by omega) (by omega)).mono ?_
        rintro e w5 ⟨X, ra, rn, rc, k5, rfl, ho5, hl5, hb1, hb2, hb3, hb4, hb5, hb6, hb7, hb8, hb9, hs5, hk5, hk5', ht5⟩
        have HS5 := Lib.hid hs5
        have HT5 := Lib.hid (HT4.out.trans ht5)
        have HW5 := Lib.hid (show Ints w5 ra rn rc X.weights from ho5.sl)
        have HWne := Lib.hid (show ∀ x, ra = some x → x.block ≠ g from fun x hx => by
          have h1 := HS4.out.g
          rcases ho5.2 with ⟨hv, _⟩ | ⟨g', cap, cur, hv, hb, _⟩
          · simp at hv; rw [hv.1] at hx; cases hx
          · simp only [Value.slice.injEq] at hv; rw [hv.1] at hx; cases hx; simp only; omega)
        clear hs5 ht5 ho5 hl5
        go_wp2_with fail
        obtain ⟨q3, hq3⟩ : ∃ q, q = w5.heap.size := ⟨_, rfl⟩
        obtain ⟨wB, hwB⟩ : ∃ W, W = w5.alloc (.cells #[.int .i64 X.base, .int .i64 X.modulus, .int .i64 X.target, .slice ra rn rc] 67) := ⟨_, rfl⟩
        have hsB : wB.heap.size = q3 + 1 := by rw [hwB, hq3]; simp
        have hxB : Ext w5 wB := by rw [hwB]; exact (by repeat (first | (with_reducible exact Ext.refl _) | (with_reducible refine Ext.drewN ?_ _) | (with_reducible refine Ext.drew ?_) | (with_reducible refine Ext.alloc ?_ _) | ((with_reducible refine Ext.setCell ?_ ?_ _); rotate_left; focus (first | (simp; done) | (simp; omega) | omega)) | assumption | (with_reducible refine Ext.trans ?_ (by assumption))))
        have HQB := Lib.hid (show SAt wB q3 67 #[.int .i64 X.base, .int .i64 X.modulus, .int .i64 X.target, .slice ra rn rc] by rw [hwB, hq3]; exact SAt.new' _ _ _ rfl)
        have hgq : g < q3 := by have := HS5.out.g; omega
        have HSB := Lib.hid (HS5.out.ext hxB)
        have HTB := Lib.hid (HT5.out.ext hxB)
        have HWB := Lib.hid (HW5.out.ext hxB)
        rw [← hwB, ← hq3]
        clear hwB hq3
        obtain ⟨bL6, hbL6⟩ : ∃ b, b = q3 + 1 := ⟨_, rfl⟩
        obtain ⟨wL6, hwL6⟩ : ∃ V, V = wB.alloc (.cells #[.string ⟨#[97]⟩, .string ⟨#[98]⟩, .string ⟨#[110, 101, 119]⟩, .string ⟨#[120]⟩, .string ⟨#[98, 111, 111, 107]⟩, .string ⟨#[81]⟩] 9) := ⟨_, rfl⟩
        have hxL6 : Ext wB wL6 := by rw [hwL6]; exact (by repeat (first | (with_reducible exact Ext.refl _) | (with_reducible refine Ext.drewN ?_ _) | (with_reducible refine Ext.drew ?_) | (with_reducible refine Ext.alloc ?_ _) | ((with_reducible refine Ext.setCell ?_ ?_ _); rotate_left; focus (first | (simp; done) | (simp; omega) | omega)) | assumption | (with_reducible refine Ext.trans ?_ (by assumption))))
        have HIL6 := Lib.hid (show Strs wL6 (some ⟨bL6, 0, none⟩) 6 6 ([⟨#[97]⟩, ⟨#[98]⟩, ⟨#[110, 101, 119]⟩, ⟨#[120]⟩, ⟨#[98, 111, 111, 107]⟩, ⟨#[81]⟩] : List ByteArray) by rw [hwL6, hbL6, ← hsB]; exact strs_litD wB ([⟨#[97]⟩, ⟨#[98]⟩, ⟨#[110, 101, 119]⟩, ⟨#[120]⟩, ⟨#[98, 111, 111, 107]⟩, ⟨#[81]⟩] : List ByteArray) 6 rfl (by omega))
        have hbg6 : bL6 ≠ g := by have := HSB.out.g; omega
        rw [← hwL6, ← hbL6]
        clear hwL6 hbL6
        refine (src_textD g a n c l k5 (some ⟨bL6, 0, none⟩) 6 6 _ wL6 (HSB.out.ext hxL6) (by omega) (by omega) HIL6.out (by omega) (by omega) (fun x hx => by cases hx; exact hbg6)).mono ?_
        rintro e w6 ⟨fr, k6, rfl, hsm6, hs6, hk6, hk6', ht6⟩
        have HLfr := Lib.hid (lnB_all (N := 5) (show (([⟨#[97]⟩, ⟨#[98]⟩, ⟨#[110, 101, 119]⟩, ⟨#[120]⟩, ⟨#[98, 111, 111, 107]⟩, ⟨#[81]⟩] : List ByteArray).all (lnB 5)) = true by decide +kernel) fr hsm6)
        have HS6 := Lib.hid hs6
        have HT6 := Lib.hid ((HTB.out.ext hxL6).trans ht6)
        have szfr := HLfr.out.sz
        have HQ6 := Lib.hid ((HQB.out.ext hxL6).touch ht6 (by omega))
        have HW6 := Lib.hid (show Ints w6 ra rn rc X.weights from WtTouch (HWB.out.ext hxL6) ht6 HWne.out)
        clear hs6 ht6 hsm6 HIL6 hxL6
        have hrule : ∀ i v, (#[Value.int .i64 X.base, .int .i64 X.modulus, .int .i64 X.target, .slice ra rn rc])[i]? = some v → ∀ w', Ext w6 w' → w'.cell? ⟨q3, i, none⟩ = some v := fun i v hv w' hx => by
          obtain ⟨hi, rfl⟩ := Array.getElem?_eq_some_iff.1 hv
          exact (HQ6.out.ext hx).cell i hi
        go_wp2_with fail
        refine (spec_wtTextD q3 X ra rn rc w6 (hrule 0 _ rfl) (hrule 1 _ rfl) (hrule 2 _ rfl) (hrule 3 _ rfl) HW6.out (by omega) (by omega) (by omega) (by omega) (by omega) (fun x hx => by have := hb9 x hx; omega)).mono ?_
        rintro e w7 ⟨s, rfl, hl7, hx7⟩
        have HLs := Lib.hid hl7
        have szs := hl7.sz
        have HS7 := Lib.hid (HS6.out.ext hx7)
        have HT7 := Lib.hid (HT6.out.ext hx7)
        clear hl7 hx7
        go_wp2_with fail
        go_ret
        exact ⟨_, k6, rfl, (((((lnB_ok (N := 4) (s := ⟨#[115, 101, 116, 32]⟩) (by decide +kernel)).app HLfr.out).app HSp.out).app HLs.out).le (by omega)), HS7.out, by omega, by omega, HT7.out⟩
      · go_wp2_with fail
        obtain ⟨bL5, hbL5⟩ : ∃ b, b = w4.heap.size := ⟨_, rfl⟩
        obtain ⟨wL5, hwL5⟩ : ∃ V, V = w4.alloc (.cells #[.string ⟨#[115, 117, 109, 32]⟩, .string ⟨#[99, 104, 101, 99, 107, 32]⟩] 9) := ⟨_, rfl⟩
        have hxL5 : Ext w4 wL5 := by rw [hwL5]; exact (by repeat (first | (with_reducible exact Ext.refl _) | (with_reducible refine Ext.drewN ?_ _) | (with_reducible refine Ext.drew ?_) | (with_reducible refine Ext.alloc ?_ _) | ((with_reducible refine Ext.setCell ?_ ?_ _); rotate_left; focus (first | (simp; done) | (simp; omega) | omega)) | assumption | (with_reducible refine Ext.trans ?_ (by assumption))))
        have HIL5 := Lib.hid (show Strs wL5 (some ⟨bL5, 0, none⟩) 2 2 ([⟨#[115, 117, 109, 32]⟩, ⟨#[99, 104, 101, 99, 107, 32]⟩] : List ByteArray) by rw [hwL5, hbL5]; exact strs_litD w4 ([⟨#[115, 117, 109, 32]⟩, ⟨#[99, 104, 101, 99, 107, 32]⟩] : List ByteArray) 2 rfl (by omega))
        have hbg5 : bL5 ≠ g := by have := HS4.out.g; omega
        rw [← hwL5, ← hbL5]
        clear hwL5 hbL5
        refine (src_textD g a n c l k4 (some ⟨bL5, 0, none⟩) 2 2 _ wL5 (HS4.out.ext hxL5) (by omega) (by omega) HIL5.out (by omega) (by omega) (fun x hx => by cases hx; exact hbg5)).mono ?_
        rintro e w5 ⟨op, k5, rfl, hsm5, hs5, hk5, hk5', ht5⟩
        have HLop := Lib.hid (lnB_all (N := 6) (show (([⟨#[115, 117, 109, 32]⟩, ⟨#[99, 104, 101, 99, 107, 32]⟩] : List ByteArray).all (lnB 6)) = true by decide +kernel) op hsm5)
        have HS5 := Lib.hid hs5
        have HT5 := Lib.hid ((HT4.out.ext hxL5).trans ht5)
        have szop := HLop.out.sz
        clear hs5 ht5 hsm5 HIL5 hxL5
        go_wp2_with fail
        go_ret
        exact ⟨_, k5, rfl, ((((HLop.out.app HLnm.out).app HSp.out).app HLwd.out).le (by omega)), HS5.out, by omega, by omega, HT5.out⟩
      · go_wp2_with fail
        refine (pick_b g a n c l k4 7 w4 HS4.out (by omega) (by omega) (by omega)).mono ?_
        rintro e w5 ⟨z, k5, rfl, hz0, hz1, hs5, hk5, hk5', ht5⟩
        have HS5 := Lib.hid hs5
        have HT5 := Lib.hid (HT4.out.trans ht5)
        clear hs5 ht5
        go_wp2_with fail
        refine (spec_decD (z - 1) w5 (by omega) (by omega)).mono ?_
        rintro e w6 ⟨s, rfl, hl6, hx6⟩
        have HLs := Lib.hid hl6
        have szs := hl6.sz
        have HS6 := Lib.hid (HS5.out.ext hx6)
        have HT6 := Lib.hid (HT5.out.ext hx6)
        clear hl6 hx6
        go_wp2_with fail
        go_ret
        exact ⟨_, k5, rfl, (((((((lnB_ok (N := 5) (s := ⟨#[102, 105, 108, 108, 32]⟩) (by decide +kernel)).app HLnm.out).app HSp.out).app HLwd.out).app HSp.out).app HLs.out).le (by omega)), HS6.out, by omega, by omega, HT6.out⟩
      · go_wp2_with fail
        refine (spec_drawKindD g a n c l k4 w4 HS4.out (by omega) (by omega)).mono ?_
        rintro e w5 ⟨y, k5, rfl, hy0, hy1, hs5, hk5, hk5', ht5⟩
        have HS5 := Lib.hid hs5
        have HT5 := Lib.hid (HT4.out.trans ht5)
        clear hs5 ht5
        go_wp2_with fail
        refine (spec_decD (y) w5 (by omega) (by omega)).mono ?_
        rintro e w6 ⟨s, rfl, hl6, hx6⟩
        have HLs := Lib.hid hl6
        have szs := hl6.sz
        have HS6 := Lib.hid (HS5.out.ext hx6)
        have HT6 := Lib.hid (HT5.out.ext hx6)
        clear hl6 hx6
        go_wp2_with fail
        refine (pick_b g a n c l k5 6 w6 HS6.out (by omega) (by omega) (by omega)).mono ?_
        rintro e w7 ⟨z, k7, rfl, hz0, hz1, hs7, hk7, hk7', ht7⟩
        have HS7 := Lib.hid hs7
        have HT7 := Lib.hid (HT6.out.trans ht7)
        clear hs7 ht7
        go_wp2_with fail
        refine (spec_decD (z - 1) w7 (by omega) (by omega)).mono ?_
        rintro e w8 ⟨t, rfl, hl8, hx8⟩
        have HLt := Lib.hid hl8
        have szt := hl8.sz
        have HS8 := Lib.hid (HS7.out.ext hx8)
        have HT8 := Lib.hid (HT7.out.ext hx8)
        clear hl8 hx8
        go_wp2_with fail
        go_ret
        exact ⟨_, k7, rfl, (((((((lnB_ok (N := 7) (s := ⟨#[117, 110, 115, 101, 101, 110, 32]⟩) (by decide +kernel)).app HLnm.out).app HSp.out).app HLs.out).app HSp.out).app HLt.out).le (by omega)), HS8.out, by omega, by omega, HT8.out⟩
      · go_wp2_with fail
        refine (pick_b g a n c l k4 6 w4 HS4.out (by omega) (by omega) (by omega)).mono ?_
        rintro e w5 ⟨z, k5, rfl, hz0, hz1, hs5, hk5, hk5', ht5⟩
        have HS5 := Lib.hid hs5
        have HT5 := Lib.hid (HT4.out.trans ht5)
        clear hs5 ht5
        go_wp2_with fail
        refine (spec_decD (z) w5 (by omega) (by omega)).mono ?_
        rintro e w6 ⟨s, rfl, hl6, hx6⟩
        have HLs := Lib.hid hl6
        have szs := hl6.sz
        have HS6 := Lib.hid (HS5.out.ext hx6)
        have HT6 := Lib.hid (HT5.out.ext hx6)
        clear hl6 hx6
        go_wp2_with fail
        refine (pick_b g a n c l k5 12 w6 HS6.out (by omega) (by omega) (by omega)).mono ?_
        rintro e w7 ⟨y0, k7, rfl, hy00, hy01, hs7, hk7, hk7', ht7⟩
        have HS7 := Lib.hid hs7
        have HT7 := Lib.hid (HT6.out.trans ht7)
        clear hs7 ht7
        obtain ⟨m, rfl⟩ := Int.eq_ofNat_of_zero_le hy00
        have hm : m ≤ 11 := by omega
        clear hy00 hy01
        go_wp2_with fail
        refine (spec_drawDigs g a n c l k7 10 m w7 HS7.out (by omega) (by omega) (by omega) (by omega) (by omega)).mono ?_
        rintro e w8 ⟨ra, rc, ds, k8, rfl, ho8, hl8, hb8, hs8, hk8, hk8', ht8⟩
        have HO8 := Lib.hid (show Ints w8 ra m rc ds from ho8.sl)
        have HB8 := Lib.hid (show Dig36 ds from fun x hx => by have := hb8 x hx; omega)
        have HLt := Lib.hid (show LnOk 11 (textOf ds) from (text_ln ds HB8.out).le (by rw [hl8]; omega))
        have szt := HLt.out.sz
        have HS8 := Lib.hid hs8
        have HT8 := Lib.hid (HT7.out.trans ht8)
        clear ho8 hl8 hb8 hs8 ht8
        go_wp2_with fail
        refine (spec_from ra m rc ds w8 HO8.out HB8.out (by omega)).mono ?_
        rintro e w9 ⟨rfl, hx9⟩
        have HS9 := Lib.hid (HS8.out.ext hx9)
        have HT9 := Lib.hid (HT8.out.ext hx9)
        clear hx9
        go_wp2_with fail
        go_ret
        exact ⟨_, k8, rfl, (((((lnB_ok (N := 6) (s := ⟨#[107, 110, 111, 119, 110, 32]⟩) (by decide +kernel)).app HLs.out).app HSp.out).app HLt.out).le (by omega)), HS9.out, by omega, by omega, HT9.out⟩
      · go_wp2_with fail
        go_ret
        exact ⟨_, k4, rfl, (((lnB_ok (N := 7) (s := ⟨#[114, 101, 112, 111, 114, 116, 32]⟩) (by decide +kernel)).app HLnm.out).le (by omega)), HS4.out, by omega, by omega, HT4.out⟩
      · go_wp2_with fail
        obtain ⟨bL5, hbL5⟩ : ∃ b, b = w4.heap.size := ⟨_, rfl⟩
        obtain ⟨wL5, hwL5⟩ : ∃ V, V = w4.alloc (.cells #[.string ⟨#[115, 104, 111, 119, 32]⟩, .string ⟨#[100, 114, 111, 112, 32]⟩] 9) := ⟨_, rfl⟩
        have hxL5 : Ext w4 wL5 := by rw [hwL5]; exact (by repeat (first | (with_reducible exact Ext.refl _) | (with_reducible refine Ext.drewN ?_ _) | (with_reducible refine Ext.drew ?_) | (with_reducible refine Ext.alloc ?_ _) | ((with_reducible refine Ext.setCell ?_ ?_ _); rotate_left; focus (first | (simp; done) | (simp; omega) | omega)) | assumption | (with_reducible refine Ext.trans ?_ (by assumption))))
        have HIL5 := Lib.hid (show Strs wL5 (some ⟨bL5, 0, none⟩) 2 2 ([⟨#[115, 104, 111, 119, 32]⟩, ⟨#[100, 114, 111, 112, 32]⟩] : List ByteArray) by rw [hwL5, hbL5]; exact strs_litD w4 ([⟨#[115, 104, 111, 119, 32]⟩, ⟨#[100, 114, 111, 112, 32]⟩] : List ByteArray) 2 rfl (by omega))
        have hbg5 : bL5 ≠ g := by have := HS4.out.g; omega
        rw [← hwL5, ← hbL5]
        clear hwL5 hbL5
        refine (src_textD g a n c l k4 (some ⟨bL5, 0, none⟩) 2 2 _ wL5 (HS4.out.ext hxL5) (by omega) (by omega) HIL5.out (by omega) (by omega) (fun x hx => by cases hx; exact hbg5)).mono ?_
        rintro e w5 ⟨op, k5, rfl, hsm5, hs5, hk5, hk5', ht5⟩
        have HLop := Lib.hid (lnB_all (N := 5) (show (([⟨#[115, 104, 111, 119, 32]⟩, ⟨#[100, 114, 111, 112, 32]⟩] : List ByteArray).all (lnB 5)) = true by decide +kernel) op hsm5)
        have HS5 := Lib.hid hs5
        have HT5 := Lib.hid ((HT4.out.ext hxL5).trans ht5)
        have szop := HLop.out.sz
        clear hs5 ht5 hsm5 HIL5 hxL5
        go_wp2_with fail
        go_ret
        exact ⟨_, k5, rfl, ((HLop.out.app HLnm.out).le (by omega)), HS5.out, by omega, by omega, HT5.out⟩
end Go.Proofs.YtefkefmhfoedcaaDoor

/- Walks: lines for a desk are drawn. -/
namespace Go.Proofs.YtefkefmhfoedcaaDoor
set_option maxRecDepth 100000
open Go.RowKit Go.Sort

/-- at most six lines -/
def RetLs (w : World) (e : Ending) (w' : World) : Prop :=
  ∃ (ls : List ByteArray) (ad : Option Addr) (n c : Nat), e = .returned (.slice ad n c) ∧ Own w' w.heap.size 9 ad n c (St ls) ∧ ls.length = n ∧ n ≤ 6 ∧ (∀ s ∈ ls, LnOk 600 s) ∧ Ext w w'
set_option maxHeartbeats 4000000 in
theorem spec_B10Lines (lo : Nat) (ts : List ByteArray) (us : List (List Value)) (da : Option Addr) (dn dc : Nat) (db : Option Addr) (dd : Nat) (a : Option Addr) (n c : Nat) (l : List UInt8) (w : World)
    (hD : DkV w lo ts us da dn dc db dd) (hlo : lo ≤ w.heap.size) (hn3 : dn ≤ 3) (h : Bytes w a n c l) (hn : n ≤ 4611686018427387904) :
    Calls Tryd.prog 5 #[.slice a n c, .agg #[.slice da dn dc, .slice db dn dd]] w (RetLs w) := by
  have HD := Lib.hid hD
  have HB := Lib.hid h
  clear hD h
  go_enter Tryd.func5, Tryd.ntmps5
  go_wp2_with fail
  obtain ⟨q, hq⟩ : ∃ q, q = w.heap.size := ⟨_, rfl⟩
  obtain ⟨w0, hw0⟩ : ∃ W, W = w.alloc (.cells #[.slice da dn dc, .slice db dn dd] 28) := ⟨_, rfl⟩
  have hs0 : w0.heap.size = q + 1 := by rw [hw0, hq]; simp
  have hx0 : Ext w w0 := by rw [hw0]; exact (by repeat (first | (with_reducible exact Ext.refl _) | (with_reducible refine Ext.drewN ?_ _) | (with_reducible refine Ext.drew ?_) | (with_reducible refine Ext.alloc ?_ _) | ((with_reducible refine Ext.setCell ?_ ?_ _); rotate_left; focus (first | (simp; done) | (simp; omega) | omega)) | assumption | (with_reducible refine Ext.trans ?_ (by assumption))))
  have HD0 := Lib.hid (show DkO w0 lo q ts us da dn dc db dd from by
    have hv := HD.out.keepB (KeepB.ext hx0 (Nat.le_refl _))
    exact ⟨by rw [hw0, hq]; exact SAt.new' _ _ _ rfl, hv.ns, hv.ss, hv.tl, hv.ul, hv.u4, hv.wv, hv.nm⟩)
  have hloq : lo ≤ q := by omega
  have hwq : w.heap.size ≤ q := by omega
  have HX0 := Lib.hid hx0
  rw [← hw0, ← hq]
  clear hw0 hx0 hq HD
  refine (from_b a n c l w0 (HB.out.ext HX0.out) hn).mono ?_
  rintro e w1 ⟨rfl, hs1, hx1, hz1⟩
  obtain ⟨g, hg⟩ : ∃ g, g = w0.heap.size := ⟨_, rfl⟩
  rw [← hg] at hs1 hz1 ⊢
  have hg0 : w0.heap.size ≤ g := by omega
  have hwg : w.heap.size ≤ g := by omega
  have HS1 := Lib.hid hs1
  have HX1 := Lib.hid (HX0.out.trans hx1)
  have HK1 := Lib.hid (show KeepB lo w0.heap.size w0 w1 from KeepB.ext hx1 (Nat.le_refl _))
  clear hs1 hx1 HX0 HB hg
  go_wp2_with fail
  obtain ⟨B, hB⟩ : ∃ B, B = g + 1 := ⟨_, rfl⟩
  obtain ⟨w2, hw2⟩ : ∃ W, W = w1.alloc (.cells #[] 9) := ⟨_, rfl⟩
  have hx2 : Ext w1 w2 := by rw [hw2]; exact (by repeat (first | (with_reducible exact Ext.refl _) | (with_reducible refine Ext.drewN ?_ _) | (with_reducible refine Ext.drew ?_) | (with_reducible refine Ext.alloc ?_ _) | ((with_reducible refine Ext.setCell ?_ ?_ _); rotate_left; focus (first | (simp; done) | (simp; omega) | omega)) | assumption | (with_reducible refine Ext.trans ?_ (by assumption))))
  have HO2 := Lib.hid (show Own w2 B 9 (some ⟨B, 0, none⟩) 0 0 (St []) by rw [hw2, hB, ← hz1]; exact Own.lit0 _ _)
  have hs2 : B ≤ w2.heap.size := by have := hx2.le; omega
  have hgB : g < B := by omega
  have hgw : g < w2.heap.size := by omega
  have HS2 := Lib.hid (HS1.out.ext hx2)
  have HX2 := Lib.hid (HX1.out.trans hx2)
  have HK2 := Lib.hid (HK1.out.trans (KeepB.ext hx2 (show w0.heap.size ≤ w1.heap.size by omega)))
  rw [← hw2, ← hB]
  clear hw2 hB hx2 HS1 HX1 HK1 hz1
  refine (pick_b g a n c l 0 7 w2 HS2.out (by omega) (by omega) (by omega)).mono ?_
  rintro e w3 ⟨m0, k3, rfl, hm0, hm1, hs3, hk3, hk3', ht3⟩
  obtain ⟨M, rfl⟩ := Int.eq_ofNat_of_zero_le hm0
  have hM : M ≤ 6 := by omega
  have hsz3 : B ≤ w3.heap.size := Nat.le_trans hs2 ht3.size
  have HS3 := Lib.hid hs3
  have HX3 := Lib.hid (HX2.out.touch ht3 hwg)
  have HO3 := Lib.hid (own_touch HO2.out ht3 hgB)
  have HK3 := Lib.hid (HK2.out.trans ((ht3.keepB0 hgw).mono (Nat.zero_le _) hg0))
  clear hm0 hm1 hs3 ht3 HS2 HX2 HO2 HK2 hs2 hgw
  have hBw : w.heap.size ≤ B := by omega
  go_wp2_with fail
  go_loopw [6, 7] (fun v6 v7 wr => ∃ (m j : Nat) (ad : Option Addr) (cc : Nat) (ls : List ByteArray) (kk : Int), v7 = .int .i64 (m : Int) ∧ v6 = .slice ad j cc ∧ j + m ≤ 6 ∧ Hid (ls.length = j) ∧ Hid (∀ s ∈ ls, LnOk 600 s) ∧ Hid (Own wr B 9 ad j cc (St ls)) ∧ Hid (SrcB wr g a n c l kk) ∧ 0 ≤ kk ∧ kk ≤ 2 + 200 * (j : Int) ∧ B ≤ wr.heap.size ∧ Hid (KeepB lo w0.heap.size w0 wr) ∧ Hid (Ext w wr)) (fun _ v7 _ => (intOf v7).toNat)
  case atStart => exact ⟨M, 0, _, _, [], k3, rfl, rfl, by omega, rfl, (fun s hs => by simp at hs), HO3, HS3, by omega, by omega, hsz3, HK3, HX3⟩
  case round =>
    obtain ⟨m, j, ad, cc, ls, kk, rfl, rfl, hjm, HL, HN, HO, HS, hkk, hkk', hBr, HK, HX⟩ := hrel
    clear HS3 HX3 HO3 HK3 hsz3
    have hgr := HS.out.g
    by_cases hlt : 0 < m
    · go_wp2_with (first
        | (go_at_call 12; (with_reducible refine (spec_drawLine g lo q ts us da dn dc db dd a n c l kk w0 wr HD0.out hloq hg0 HK.out hn3 HS.out (by omega) (by omega)).mono ?_); rintro e w5 ⟨s, k5, rfl, hl5, hs5, hk5, hk5', ht5⟩; have HLs := Lib.hid hl5; have HS5 := Lib.hid hs5; have HO5 := Lib.hid (own_touch HO.out ht5 hgB); have HK5 := Lib.hid (HK.out.trans ((ht5.keepB0 hgr).mono (Nat.zero_le _) hg0)); have HX5 := Lib.hid (HX.out.touch ht5 hwg); have hB5 : B ≤ w5.heap.size := Nat.le_trans hBr ht5.size; have hsz5 := hl5.sz; have hg5 := hs5.g; clear hl5 hs5 ht5)
        | (at_builtin; refine law_append1 _ rfl _ _ 24 rfl 9 (.string .empty) 16 und_strs info_str rfl B ad j cc (St ls) (.string s) rfl rfl rfl HO5.out hB5 (by omega) (by omega) ?_; intro ad2 cc2 w6 ho6 hb6 hg6; have HO6 := Lib.hid ho6; have HX6 := Lib.hid (Below.trans HX5.out (Below.mono hb6 hBw)); have HS6 := Lib.hid (HS5.out.below hb6 hgB); have HK6 := Lib.hid (show KeepB lo w0.heap.size w0 w6 from HK5.out.trans (fun x h1 h2 => hb6.block x (by omega))); have hB6 : B ≤ w6.heap.size := Nat.le_trans hB5 hb6.size; clear ho6 hb6 hg6))
      exact ⟨⟨m - 1, j + 1, ad2, cc2, ls ++ [s], k5, by congr 1; omega, rfl, by omega, by rw [Hid, List.length_append, HL.out]; rfl, (fun t ht => by rcases List.mem_append.1 ht with ht | ht; exact HN.out t ht; rw [List.mem_singleton] at ht; subst ht; exact HLs.out), by rw [show St (ls ++ [s]) = St ls ++ [Value.string s] by simp [St]]; exact HO6, HS6, by omega, by omega, hB6, HK6, HX6⟩, by simp [intOf]; omega⟩
    · obtain rfl : m = 0 := by omega
      go_wp2_with fail
      go_ret
      exact ⟨ls, ad, j, cc, rfl, Own.mono HO.out hBw, HL.out, by omega, HN.out, HX.out⟩
end Go.Proofs.YtefkefmhfoedcaaDoor
