/- Walks: the registry that a law chooses. -/
import Derived.Test.YtcdoanookiimaaaR8A
namespace Go.Proofs.Ytcdoanookiimaaa
set_option maxRecDepth 100000
open Go.RowKit

/-- the registry is begun -/
def RgCut (w : World) (g _b p : Nat) (a : Option Addr) (n c : Nat) (l : List UInt8) (k : Int) (D : Ch) (ad : Option Addr) (x cc : Nat) (pd : Option Addr) (pc : Nat) (s6 : Value) (wx : World) : Prop :=
  ∃ (q i0 r0 : Nat) (ap k' : Int) (lo hk : Nat), s6 = .pointer (some ⟨q, 0, none⟩) ∧ RgD wx q (w.heap.size + 1) ⟨D, ap, [], []⟩ ad x cc pd p pc (some ⟨i0, 0, none⟩) 0 0 (some ⟨r0, 0, none⟩) 0 0 lo hk ∧ 1 ≤ ap ∧ ap ≤ 3 ∧
    SAt wx w.heap.size 30 #[.int .i64 0, .int .i64 0, .int .i64 0, .int .i64 0, .slice none 0 0, .slice none 0 0, .int .i64 0, .slice none 0 0, .slice none 0 0] ∧ SrcB wx g a n c l k' ∧ 0 ≤ k' ∧ k' ≤ k + 2 ∧ Touch g w wx
/-- words are issued -/
def RInv (w : World) (g q b p : Nat) (a0 : Option Addr) (n0 c0 : Nat) (l : List UInt8) (k : Int) (r : Nat) (W : World) : Prop :=
  ∃ (D : Rg) (a1 : Option Addr) (n1 c1 : Nat) (b1 : Option Addr) (m1 d1 : Nat) (ia1 : Option Addr) (im1 ic1 : Nat) (ra1 : Option Addr) (rm1 rc1 : Nat) (lo hk : Nat), RgD W q (w.heap.size + 1) D a1 n1 c1 b1 m1 d1 ia1 im1 ic1 ra1 rm1 rc1 lo hk ∧ OkRg D ∧ D.revoked = [] ∧ rm1 = 0 ∧ im1 + r ≤ 5 ∧ 1 ≤ D.apart ∧ D.apart ≤ 3 ∧ D.ch.base = b ∧ D.ch.places.length = p ∧ m1 = p ∧ n1 ≤ 3 ∧
    SAt W w.heap.size 30 #[.int .i64 0, .int .i64 0, .int .i64 0, .int .i64 0, .slice none 0 0, .slice none 0 0, .int .i64 0, .slice none 0 0, .slice none 0 0] ∧ SrcB W g a0 n0 c0 l k ∧ Touch g w W
/-- words are revoked -/
def VInv (w : World) (g q : Nat) (D : Rg) (a : Option Addr) (n c : Nat) (b : Option Addr) (m d : Nat) (ia : Option Addr) (im ic lo hk : Nat) (a0 : Option Addr) (n0 c0 : Nat) (l : List UInt8) (t : Nat) (W : World) : Prop :=
  ∃ (L : List Int) (ra : Option Addr) (rm rc : Nat) (k : Int), RgD W q (w.heap.size + 1) (revR D L) a n c b m d ia im ic ra rm rc lo hk ∧ RevOk L t ∧ rm ≤ t ∧ 0 ≤ k ∧ k ≤ 2000 + 2 * t ∧
    SAt W w.heap.size 30 #[.int .i64 0, .int .i64 0, .int .i64 0, .int .i64 0, .slice none 0 0, .slice none 0 0, .int .i64 0, .slice none 0 0, .slice none 0 0] ∧ SrcB W g a0 n0 c0 l k ∧ Touch g w W
/-- a valid registry, chosen -/
def RetDrRg (g : Nat) (w : World) (e : Ending) (w' : World) : Prop :=
  ∃ (D : Rg) (a : Option Addr) (n c : Nat) (b : Option Addr) (m d : Nat) (ia : Option Addr) (im ic : Nat) (ra : Option Addr) (rm rc : Nat), e = .returned (.agg #[.int .i64 D.ch.base, .int .i64 D.ch.states, .int .i64 D.ch.start, .int .i64 D.ch.fin, .slice a n c, .slice b m d, .int .i64 D.apart, .slice ia im ic, .slice ra rm rc]) ∧ validRg D = true ∧ im ≤ 5 ∧ 1 ≤ D.apart ∧ D.apart ≤ 3 ∧ 2 ≤ D.ch.base ∧ D.ch.base ≤ 4 ∧ 1 ≤ m ∧ m ≤ 5 ∧ n ≤ 3 ∧ (∀ W, KeepB w.heap.size w'.heap.size w' W → RgIn W D a n c b m d ia im ic ra rm rc) ∧ Touch g w w'
theorem rg_leaf {w wc : World} {g p : Nat} {a : Option Addr} {n c : Nat} {l : List UInt8} {k : Int} {b : Nat} {D : Ch} {ad : Option Addr} {x cc : Nat} {pd : Option Addr} {pc lo hk : Nat} (W : World) (q i0 r0 : Nat) (ap k' : Int) (_hd : DrawnCh D)
    (hZ : SAt wc w.heap.size 30 #[.int .i64 0, .int .i64 0, .int .i64 0, .int .i64 0, .slice none 0 0, .slice none 0 0, .int .i64 0, .slice none 0 0, .slice none 0 0]) (hT : Touch g w wc) (hch : ∀ V, KeepB lo hk wc V → ChIn V D ad x cc pd p pc) (hg : g < w.heap.size)
    (h1 : w.heap.size < lo) (h2 : lo ≤ hk) (h3 : hk ≤ wc.heap.size)
    (hs : SAt W q 30 #[.int .i64 D.base, .int .i64 D.states, .int .i64 D.start, .int .i64 D.fin, .slice ad x cc, .slice pd p pc, .int .i64 ap, .slice (some ⟨i0, 0, none⟩) 0 0, .slice (some ⟨r0, 0, none⟩) 0 0])
    (hi : Own W (w.heap.size + 1) 9 (some ⟨i0, 0, none⟩) 0 0 []) (hr : Own W hk 2 (some ⟨r0, 0, none⟩) 0 0 []) (hi0 : wc.heap.size ≤ i0) (_hr0 : wc.heap.size ≤ r0) (hq : wc.heap.size ≤ q)
    (hap : 1 ≤ ap ∧ ap ≤ 3) (hsr : SrcB W g a n c l k') (hk' : 0 ≤ k' ∧ k' ≤ k + 2) (ht : Touch g wc W) : RgCut w g b p a n c l k D ad x cc pd pc (.pointer (some ⟨q, 0, none⟩)) W :=
  ⟨q, i0, r0, ap, k', lo, hk, rfl, ⟨hs, fun V hV => hch V ((ht.keepB (by omega) h3).trans hV), hi, fun y hy => (by cases hy; simp only; omega), hr, ⟨by omega, .inr (by omega)⟩, ⟨by omega, h2, Nat.le_trans h3 ht.size⟩⟩, hap.1, hap.2, hZ.touch ht (by omega), hsr, hk'.1, hk'.2, hT.trans ht⟩
set_option maxHeartbeats 16000000 in
theorem spec_drawReg (g : Nat) (a : Option Addr) (n c : Nat) (l : List UInt8) (w : World) (h : SrcB w g a n c l 0) :
    Calls Try.prog 54 #[.pointer (some ⟨g, 0, none⟩)] w (RetDrRg g w) := by
  have hgw := h.g
  have HS0 := Lib.hid h
  clear h
  go_enter Try.func54, Try.ntmps54
  go_wp2_with fail
  obtain ⟨wz, hwz⟩ : ∃ wz, wz = w.alloc (.cells #[.int .i64 0, .int .i64 0, .int .i64 0, .int .i64 0, .slice none 0 0, .slice none 0 0, .int .i64 0, .slice none 0 0, .slice none 0 0] 30) := ⟨_, rfl⟩
  have hxz : Ext w wz := by rw [hwz]; exact (by repeat (first | (with_reducible exact Ext.refl _) | (with_reducible refine Ext.drewN ?_ _) | (with_reducible refine Ext.drew ?_) | (with_reducible refine Ext.alloc ?_ _) | ((with_reducible refine Ext.setCell ?_ ?_ _); rotate_left; focus (first | (simp; done) | (simp; omega) | omega)) | assumption | (with_reducible refine Ext.trans ?_ (by assumption))))
  have HZ := Lib.hid (show SAt wz w.heap.size 30 #[.int .i64 0, .int .i64 0, .int .i64 0, .int .i64 0, .slice none 0 0, .slice none 0 0, .int .i64 0, .slice none 0 0, .slice none 0 0] by rw [hwz]; exact SAt.new' _ _ _ rfl)
  have hzs : wz.heap.size = w.heap.size + 1 := by rw [hwz]; simp
  rw [← hwz]
  clear hwz
  refine (pick_b g a n c l 0 3 wz (HS0.out.ext hxz) (by omega) (by omega) (by omega)).mono ?_
  rintro e w1 ⟨b0, k1, rfl, hb0, hb1, hs1, hk1, hk1', ht1⟩
  have HS1 := Lib.hid hs1
  have HT1 := Lib.hid (show Touch g w w1 from ((Touch.refl g w).ext hxz).trans ht1)
  have HZ1 := Lib.hid (HZ.out.touch ht1 (by omega))
  clear hs1 ht1 HZ HS0
  go_wp2_with fail
  refine (pick_b g a n c l k1 5 w1 HS1.out (by omega) (by omega) (by omega)).mono ?_
  rintro e w2 ⟨p0, k2, rfl, hp0, hp1, hs2, hk2, hk2', ht2⟩
  have HS2 := Lib.hid hs2
  have HT2 := Lib.hid (HT1.out.trans ht2)
  have HZ2 := Lib.hid (HZ1.out.touch ht2 (by omega))
  clear hs2 ht2 HS1 HT1 HZ1
  obtain ⟨b, hb⟩ : ∃ b : Nat, 2 + b0 = (b : Int) := Int.eq_ofNat_of_zero_le (by omega)
  obtain ⟨p, hp⟩ : ∃ p : Nat, 1 + p0 = (p : Int) := Int.eq_ofNat_of_zero_le (by omega)
  have hbp : 2 ≤ b ∧ b ≤ 4 ∧ 1 ≤ p ∧ p ≤ 5 := by omega
  have HC := Lib.hid (spec_drawSized g a n c l k2 b p w2 HS2.out (by omega) (by omega) (by omega) (by omega) (by omega) (by omega))
  go_wp2_with (refine HC.out.mono ?_; rintro e w3 ⟨D, ad, x, cc, pd, pc, k3, rfl, hdr, hDb, hDp, hx3, hch, hs3, hk3, hk3', ht3⟩)
  obtain ⟨q, hq⟩ : ∃ q, q = w3.heap.size := ⟨_, rfl⟩
  obtain ⟨wc, hwc⟩ : ∃ wc, wc = w3.alloc (.cells #[.int .i64 b, .int .i64 D.states, .int .i64 D.start, .int .i64 D.fin, .slice ad x cc, .slice pd p pc] 27) := ⟨_, rfl⟩
  have hxc : Ext w3 wc := by rw [hwc]; exact (by repeat (first | (with_reducible exact Ext.refl _) | (with_reducible refine Ext.drewN ?_ _) | (with_reducible refine Ext.drew ?_) | (with_reducible refine Ext.alloc ?_ _) | ((with_reducible refine Ext.setCell ?_ ?_ _); rotate_left; focus (first | (simp; done) | (simp; omega) | omega)) | assumption | (with_reducible refine Ext.trans ?_ (by assumption))))
  have HB0 := Lib.hid (show SAt wc q 27 #[.int .i64 b, .int .i64 D.states, .int .i64 D.start, .int .i64 D.fin, .slice ad x cc, .slice pd p pc] by rw [hwc, hq]; exact SAt.new' _ _ _ rfl)
  have hcs : wc.heap.size = q + 1 := by rw [hwc, hq]; simp
  rw [← hq, ← hwc]
  have HCH := Lib.hid (show ∀ W, KeepB w2.heap.size q wc W → ChIn W D ad x cc pd p pc from fun W hW => hch W (by rw [hq] at hW; exact (KeepB.ext hxc (Nat.le_refl _)).trans hW))
  have HDR := Lib.hid hdr
  have HDb := Lib.hid hDb
  have HDp := Lib.hid hDp
  have HT3 := Lib.hid ((HT2.out.trans ht3).ext hxc)
  have HS3 := Lib.hid (hs3.ext hxc)
  have HZ3 := Lib.hid ((HZ2.out.touch ht3 (by omega)).ext hxc)
  have h2q : w2.heap.size ≤ q := by rw [hq]; exact ht3.size
  have hzq : w.heap.size < w2.heap.size := HZ2.out.lt
  have HCS := Lib.hid hcs
  clear hch hdr hs3 ht3 hwc hq hxc HS2 HT2 HZ2 HC hcs hzs hDb hDp
  refine (one_b g a n c l k3 3 wc HS3.out (by omega) (by omega) (by omega)).mono ?_
  rintro e w4 ⟨yes, k4, rfl, hs4, hk4, hk4', ht4⟩
  have HS4 := Lib.hid hs4
  have HT4 := Lib.hid (HT3.out.trans ht4)
  have HZ4 := Lib.hid (HZ3.out.touch ht4 (by omega))
  have HB4 := Lib.hid (HB0.out.touch ht4 (by omega))
  have HTC := Lib.hid ht4
  clear hs4 HS3 HT3 HZ3 HB0 ht4
  go_upto_if 22 with fail
  go_cut [3] from 22 to 33 (fun s3 wx => s3 = .int .i64 b ∧ ChCut w g q b p a n c l k4 wx)
  case first =>
    have c1 := HB4.out.cell 1 (by simp)
    have c2 := HB4.out.cell 2 (by simp)
    have c3 := HB4.out.cell 3 (by simp)
    have c4 := HB4.out.cell 4 (by simp)
    have c5 := HB4.out.cell 5 (by simp)
    have fr := fun j => HB4.out.frozen j
    have hlt := HB4.out.lt
    try simp only [List.getElem_toArray, List.getElem_cons_succ, List.getElem_cons_zero] at c1 c2 c3 c4 c5
    cases yes
    · go_wp2_with fail
      go_meet
      exact ⟨rfl, cut_no HDR.out HDb.out HDp.out hx3 HCH.out HB4.out HZ4.out HS4.out HT4.out HTC.out hgw h2q hzq HCS.out⟩
    · obtain ⟨MCb, hmb, hob⟩ := made_row b (by omega)
      obtain ⟨MCp, hmp, hop⟩ := made_row p (by omega)
      have HOB := Lib.hid hob
      have HOP := Lib.hid hop
      clear hob hop
      go_upto_region 8 with fail
      obtain ⟨W1, hW1⟩ : ∃ W1, W1 = ((w4.setCell ⟨q, 1, none⟩ (.int .i64 1)).setCell ⟨q, 2, none⟩ (.int .i64 0)).setCell ⟨q, 3, none⟩ (.int .i64 0) := ⟨_, rfl⟩
      have HB1 := Lib.hid (show SAt W1 q 27 #[.int .i64 b, .int .i64 1, .int .i64 0, .int .i64 0, .slice ad x cc, .slice pd p pc] by rw [hW1]; exact ((HB4.out.set 1 _).set 2 _).set 3 _)
      rw [← hW1]
      have HW1 := Lib.hid hW1
      clear hW1 c1 c2 c3 c4 c5 fr hlt
      have c4 := HB1.out.cell 4 (by simp)
      have c5 := HB1.out.cell 5 (by simp)
      have fr := fun j => HB1.out.frozen j
      have hlt := HB1.out.lt
      try simp only [List.getElem_toArray, List.getElem_cons_succ, List.getElem_cons_zero] at c4 c5
      have hlt1 : q < W1.heap.size + 1 := by omega
      have hlt2 : q < W1.heap.size + 1 + 1 := by omega
      have hlt3 : q < W1.heap.size + 1 + 1 + 1 := by omega
      go_wp2_with fail
      go_meet
      refine ⟨rfl, cut_yes (w4 := w4) (W1 := W1) (by omega) (by omega) (by omega) (by omega) HOB.out HOP.out HB4.out HZ4.out HS4.out HT4.out hgw (by omega) HW1.out rfl rfl rfl rfl⟩
  case rest =>
    obtain ⟨rfl, D2, ad2, x2, cc2, pd2, pc2, lo, hk, hdr, hDb, hDp, hx2, hch, hS, hZ, hs, ht, hl1, hl2, hl3, hwq⟩ := hcut
    clear HDR HDb HDp HCH HB4 HZ4 HS4 HT4 HTC HCS hx3
    have HD := Lib.hid hdr
    have HDb := Lib.hid hDb
    have HDp := Lib.hid hDp
    have HCh := Lib.hid hch
    have HS := Lib.hid hS
    have HZ := Lib.hid hZ
    have HSr := Lib.hid hs
    have HT := Lib.hid ht
    have kc0 : ∀ w' : World, SAt w' q 27 #[.int .i64 D2.base, .int .i64 D2.states, .int .i64 D2.start, .int .i64 D2.fin, .slice ad2 x2 cc2, .slice pd2 p pc2] → w'.cell? ⟨q, 0, none⟩ = some (.int .i64 D2.base) := fun w' h => h.cell 0 (by simp)
    have kc1 : ∀ w' : World, SAt w' q 27 #[.int .i64 D2.base, .int .i64 D2.states, .int .i64 D2.start, .int .i64 D2.fin, .slice ad2 x2 cc2, .slice pd2 p pc2] → w'.cell? ⟨q, 1, none⟩ = some (.int .i64 D2.states) := fun w' h => h.cell 1 (by simp)
    have kc2 : ∀ w' : World, SAt w' q 27 #[.int .i64 D2.base, .int .i64 D2.states, .int .i64 D2.start, .int .i64 D2.fin, .slice ad2 x2 cc2, .slice pd2 p pc2] → w'.cell? ⟨q, 2, none⟩ = some (.int .i64 D2.start) := fun w' h => h.cell 2 (by simp)
    have kc3 : ∀ w' : World, SAt w' q 27 #[.int .i64 D2.base, .int .i64 D2.states, .int .i64 D2.start, .int .i64 D2.fin, .slice ad2 x2 cc2, .slice pd2 p pc2] → w'.cell? ⟨q, 3, none⟩ = some (.int .i64 D2.fin) := fun w' h => h.cell 3 (by simp)
    have kc4 : ∀ w' : World, SAt w' q 27 #[.int .i64 D2.base, .int .i64 D2.states, .int .i64 D2.start, .int .i64 D2.fin, .slice ad2 x2 cc2, .slice pd2 p pc2] → w'.cell? ⟨q, 4, none⟩ = some (.slice ad2 x2 cc2) := fun w' h => h.cell 4 (by simp)
    have kc5 : ∀ w' : World, SAt w' q 27 #[.int .i64 D2.base, .int .i64 D2.states, .int .i64 D2.start, .int .i64 D2.fin, .slice ad2 x2 cc2, .slice pd2 p pc2] → w'.cell? ⟨q, 5, none⟩ = some (.slice pd2 p pc2) := fun w' h => h.cell 5 (by simp)
    have hqg : q ≠ g := by omega
    have hqw : q < wc.heap.size := hS.lt
    have hqa : q ≠ wc.heap.size := by omega
    have hqb : q ≠ wc.heap.size + 1 := by omega
    have hqc : q ≠ wc.heap.size + 1 + 1 := by omega
    have hgc : g < wc.heap.size := by omega
    clear hdr hDb hDp hch hS hZ hs ht
    have hk40 : 0 ≤ k4 ∧ k4 ≤ 1010 := by omega
    have HPk := Lib.hid (fun W (h : Ext wc W) => pick_b g a n c l k4 3 W (HSr.out.ext h) hk40.1 (by omega) (by omega))
    clear hk1 hk1' hk2 hk2' hk3 hk3' hk4 hk4' hb0 hb1 hp0 hp1 hb hp h2q hzq
    go_upto_region 10 with fail
    go_cut [6] from 34 to 40 (fun s6 wx => RgCut w g b p a n c l k4 D2 ad2 x2 cc2 pd2 pc2 s6 wx)
    case first =>
      go_region_held3 (fun w' => SAt w' q 27 #[.int .i64 D2.base, .int .i64 D2.states, .int .i64 D2.start, .int .i64 D2.fin, .slice ad2 x2 cc2, .slice pd2 p pc2]) ((repeat (first | ((with_reducible refine SAt.other ?_ _ ?_); rotate_left; focus (first | exact hqa | exact hqb | exact hqc)) | (with_reducible refine SAt.alloc ?_ _) | (with_reducible refine SAt.drew ?_) | (with_reducible refine SAt.touch ?_ ht5 hqg) | (with_reducible exact HS.out)))) ((go_at_call 75; (with_reducible refine (HPk.out _ (by repeat (first | (with_reducible exact Ext.refl _) | (with_reducible assumption) | (with_reducible refine Ext.drewN ?_ _) | (with_reducible refine Ext.drew ?_) | (with_reducible refine Ext.alloc ?_ _) | ((with_reducible refine Ext.setCell ?_ ?_ _); rotate_left; focus (first | (simp; done) | (simp; omega) | omega)) | (with_reducible refine Ext.trans ?_ (by with_reducible assumption))))).mono ?_); rintro e w5 ⟨ap0, k5, rfl, ha0, ha1, hs5, hk5, hk5', ht5⟩; have hap : IntKind.i64.wrap (1 + ap0) = 1 + ap0 := (by simp [IntKind.wrap, IntKind.bits, IntKind.signed]; omega); have hsz5 := ht5.size; simp at hsz5; obtain ⟨hc5, hf5⟩ := tcell (B := wc.heap.size) ht5 (by omega); (try (have hcx0 := fun o => hc5 wc.heap.size o (by omega) (by first | (simp; done) | (simp; omega)))); (try (have hfx0 := fun o => hf5 wc.heap.size o (by omega) (by first | (simp; done) | (simp; omega)))); (try (have hl5a : wc.heap.size < w5.heap.size := by omega)); (try (have hcx1 := fun o => hc5 (wc.heap.size + 1) o (by omega) (by first | (simp; done) | (simp; omega)))); (try (have hfx1 := fun o => hf5 (wc.heap.size + 1) o (by omega) (by first | (simp; done) | (simp; omega)))); (try (have hl5b : (wc.heap.size + 1) < w5.heap.size := by omega)); (try (have hcx2 := fun o => hc5 (wc.heap.size + 1 + 1) o (by omega) (by first | (simp; done) | (simp; omega)))); (try (have hfx2 := fun o => hf5 (wc.heap.size + 1 + 1) o (by omega) (by first | (simp; done) | (simp; omega)))); (try (have hl5c : (wc.heap.size + 1 + 1) < w5.heap.size := by omega)); clear hc5 hf5))
      all_goals (go_wp2_with fail; go_meet)
      all_goals
        refine rg_leaf (w := w) (g := g) (p := p) (b := b) (a := a) (n := n) (c := c) (l := l) (k := k4) (wc := wc) _ _ ?_ ?_ (1 + ap0) k5 HD.out HZ.out HT.out HCh.out hgw hl1 hl2 hl3 ?_ ?_ ?_ ?_ ?_ ?_ ?_ ?_ ?_ ?_
        rotate_left 2
        · repeat (first | ((with_reducible refine SAt.new' _ _ _ ?_) <;> (first | omega | (simp; done) | (simp; omega))) | (with_reducible refine SAt.alloc ?_ _) | (with_reducible refine SAt.drew ?_) | (with_reducible refine SAt.w9 (z0 := .int .i64 0) (z1 := .int .i64 0) (z2 := .int .i64 0) (z3 := .int .i64 0) (z4 := .slice none 0 0) (z5 := .slice none 0 0) (z6 := .int .i64 0) (z7 := .slice none 0 0) (z8 := .slice none 0 0) ?_ _ _ _ _ _ _ _ _ _) | ((with_reducible refine SAt.touch ?_ ht5 ?_); rotate_left; focus omega))
        · repeat (first | ((with_reducible refine Own.lit0' _ _ ?_ ?_) <;> (first | omega | (simp; done) | (simp; omega))) | (with_reducible refine Own.alloc' ?_ _) | (with_reducible refine Own.drew ?_) | ((with_reducible refine Own.otherN ?_ _ ?_); rotate_left; focus (first | omega | (simp; done) | (simp; omega))) | ((with_reducible refine Own.touchNe ?_ ht5 ?_); rotate_left; focus omega))
        · repeat (first | ((with_reducible refine Own.lit0' _ _ ?_ ?_) <;> (first | omega | (simp; done) | (simp; omega))) | (with_reducible refine Own.alloc' ?_ _) | (with_reducible refine Own.drew ?_) | ((with_reducible refine Own.otherN ?_ _ ?_); rotate_left; focus (first | omega | (simp; done) | (simp; omega))) | ((with_reducible refine Own.touchNe ?_ ht5 ?_); rotate_left; focus omega))
        · first | omega | (simp; done) | (simp; omega)
        · first | omega | (simp; done) | (simp; omega)
        · first | omega | (simp; done) | (simp; omega)
        · omega
        · exact hs5.below (by repeat (first | ((with_reducible refine Below.setCell ?_ ?_ _); rotate_left; focus (first | omega | (simp; done) | (simp; omega))) | ((with_reducible refine Below.alloc ?_ ?_ _); rotate_left; focus (first | omega | (simp; done) | (simp; omega))) | (with_reducible refine Below.drew ?_) | (with_reducible refine Below.refl _ _))) hgc
        · omega
        · exact (((Touch.refl g wc).ext (by repeat (first | (with_reducible exact Ext.refl _) | (with_reducible assumption) | (with_reducible refine Ext.drewN ?_ _) | (with_reducible refine Ext.drew ?_) | (with_reducible refine Ext.alloc ?_ _) | ((with_reducible refine Ext.setCell ?_ ?_ _); rotate_left; focus (first | (simp; done) | (simp; omega) | omega)) | (with_reducible refine Ext.trans ?_ (by with_reducible assumption))))).trans ht5).below (B := wc.heap.size) (by repeat (first | ((with_reducible refine Below.setCell ?_ ?_ _); rotate_left; focus (first | omega | (simp; done) | (simp; omega))) | ((with_reducible refine Below.alloc ?_ ?_ _); rotate_left; focus (first | omega | (simp; done) | (simp; omega))) | (with_reducible refine Below.drew ?_) | (with_reducible refine Below.refl _ _))) (Nat.le_refl _)
    case rest =>
      obtain ⟨q6, i0, r0, ap, k5, lo9, hk9, rfl, hR, ha1, ha3, hZ5, hs5, hk50, hk5', ht5⟩ := hcut
      have HR5 := Lib.hid hR
      have HZ5 := Lib.hid hZ5
      have HS5 := Lib.hid hs5
      have HT5 := Lib.hid ht5
      clear hR hZ5 hs5 ht5 HZ HSr HT HS kc0 kc1 kc2 kc3 kc4 kc5 HCh
      go_wp2_with fail
      refine (pick_b g a n c l k5 6 _ HS5.out (by omega) (by omega) (by omega)).mono ?_
      rintro e w6 ⟨j0, k6, rfl, hj0, hj1, hs6, hk6, hk6', ht6⟩
      have HR6 := Lib.hid (HR5.out.touch ht6 (by omega))
      have HZ6 := Lib.hid (HZ5.out.touch ht6 (by omega))
      have HS6 := Lib.hid hs6
      have HT6 := Lib.hid (HT5.out.trans ht6)
      clear hs6 ht6 HR5 HZ5 HS5 HT5
      obtain ⟨j, rfl⟩ := Int.eq_ofNat_of_zero_le hj0
      have hj5 : j ≤ 5 := by omega
      have HOK := Lib.hid (OkRg.new HD.out ha1 (by omega))
      have hk61 : 0 ≤ k6 ∧ k6 ≤ 1020 := by omega
      clear hk6 hk6' hk5' hk50 hj0 hj1 HPk
      go_wp2_with fail
      go_loopw [7, 8, 9] (fun jv _ _ wr => ∃ r : Nat, jv = .int .i64 r ∧ RInv w g q6 b p a n c l k6 r wr) (fun jv _ _ _ => (intOf jv).toNat)
      case atStart => exact ⟨j, rfl, ⟨D2, ap, [], []⟩, ad2, x2, cc2, pd2, p, pc2, some ⟨i0, 0, none⟩, 0, 0, some ⟨r0, 0, none⟩, 0, 0, lo9, hk9, HR6.out, HOK.out, rfl, rfl, by omega, ha1, ha3, HDb.out, HDp.out, rfl, hx2, HZ6.out, HS6.out, HT6.out⟩
      case round =>
        obtain ⟨r, rfl, D, a1, n1, c1, b1, m1, d1, ia1, im1, ic1, ra1, rm1, rc1, lo1, hk1, hR, hok, hrev, rfl, hir, hap1, hap3, hcb, hcp, rfl, hn3, hZ, hs, ht⟩ := hrel
        have HR := Lib.hid hR
        have HOk := Lib.hid hok
        have HRev := Lib.hid hrev
        have HCb := Lib.hid hcb
        have HCp := Lib.hid hcp
        have HZ := Lib.hid hZ
        have HS := Lib.hid hs
        have HT := Lib.hid ht
        have HLi := Lib.hid (show D.issued.length = im1 from by have := hR.is.len; rw [St_len] at this; exact this)
        clear hR hok hrev hcb hcp hZ hs ht HR6 HZ6 HS6 HT6 HD HDb HDp HOK
        obtain ⟨wv, hwv⟩ : ∃ W, W = wr := ⟨_, rfl⟩
        subst hwv
        have hq6 := HR.out.s.lt
        by_cases h0 : 0 < r
        · have HTr := Lib.hid (spec_l10Trial D q6 a1 n1 c1 b1 m1 d1 ia1 im1 ic1 ra1 0 rc1 wv HR.out.rgAt HOk.out)
          have HIn := Lib.hid (HR.out.rgIn (by omega) (by omega) (fun s hs => by
            obtain ⟨i, hi, rfl⟩ := List.mem_iff_getElem.1 hs
            have := HOk.out.s20 i hi
            rw [gs_get hi] at this
            omega))
          cases htb : trialB D
          · rw [htb] at HTr
            clear htb
            go_wp2_with (go_at_call 117; (with_reducible refine HTr.out.mono ?_); rintro e w2 ⟨rfl, hx2⟩)
            refine ⟨⟨r - 1, ?_, D, a1, n1, c1, b1, m1, d1, ia1, im1, ic1, ra1, 0, rc1, lo1, hk1, HR.out.ext hx2, HOk.out, HRev.out, rfl, by omega, hap1, hap3, HCb.out, HCp.out, rfl, hn3, HZ.out.ext hx2, HS.out.ext hx2, HT.out.ext hx2⟩, by simp [intOf]; omega⟩
            congr 1; omega
          · have HTo := Lib.hid (show trialO D = some (trialT D) from by
              cases h : trialO D with
              | none => rw [trialB, h] at htb; cases htb
              | some s => simp [trialT, h])
            rw [htb] at HTr
            clear htb
            have HOk2 := Lib.hid (show OkRg (issR D (trialT D)) from HOk.out.issue (trial_ok HOk.out.ch HOk.out.vc HTo.out).1 (trial_ok HOk.out.ch HOk.out.vc HTo.out).2 (by rw [HLi.out]; omega))
            obtain ⟨s, hs⟩ : ∃ s, s = trialT D := ⟨_, rfl⟩
            rw [← hs] at HTr HOk2
            clear hs HTo
            go_wp2_with (first | (go_at_call 117; (with_reducible refine HTr.out.mono ?_); rintro e w2 ⟨rfl, hx2⟩) | (go_at_call 118; (with_reducible refine (spec_issueD D q6 a1 n1 c1 b1 m1 d1 ia1 im1 ic1 ra1 0 rc1 s w2 (HR.out.rgAt.ext hx2) (HIn.out.ext hx2)).mono ?_); rintro e w3 ⟨a3, c3, b3, d3, ia3, ic3, ra3, rc3, lo3, hk3, rfl, hlo3, hlk3, hkw3, hch3, hos3, hpos3, hor3, hx3⟩; have HS3 := Lib.hid ((HR.out.s.ext hx2).ext hx3); have HCh3 := Lib.hid hch3; have HOs3 := Lib.hid hos3; have HPos3 := Lib.hid hpos3; have HOr3 := Lib.hid hor3; have y0 := HS3.out.cell 0 (by simp); have y1 := HS3.out.cell 1 (by simp); have y2 := HS3.out.cell 2 (by simp); have y3 := HS3.out.cell 3 (by simp); have y4 := HS3.out.cell 4 (by simp); have y5 := HS3.out.cell 5 (by simp); have y6 := HS3.out.cell 6 (by simp); have y7 := HS3.out.cell 7 (by simp); have y8 := HS3.out.cell 8 (by simp); have yf := fun j => HS3.out.frozen j; have yl := HS3.out.lt; (try simp only [List.getElem_toArray, List.getElem_cons_succ, List.getElem_cons_zero] at y0 y1 y2 y3 y4 y5 y6 y7 y8); clear hch3 hos3 hpos3 hor3))
            have hl2 := hx2.le
            have hl3 := hx3.le
            refine ⟨⟨r - 1, ?_, issR D s, a3, n1, c3, b3, m1, d3, ia3, im1 + 1, ic3, ra3, 0, rc3, lo3, hk3, HR.out.put (W2 := w3) (hx2.trans hx3) (by omega) hlk3 hkw3 HCh3.out (HOs3.out.mono hl2) HPos3.out HOr3.out, HOk2.out, HRev.out, rfl, by omega, hap1, hap3, HCb.out, HCp.out, rfl, hn3, ?_, ?_, ?_⟩, by simp [intOf]; omega⟩
            · congr 1; omega
            · have hne : w.heap.size ≠ q6 := by have := HR.out.qb.1; omega
              have hz := (HZ.out.ext hx2).ext hx3
              exact (w9_block hne ..).trans hz
            · exact ((HS.out.ext hx2).ext hx3).below (w9_below (B := w.heap.size + 1) HR.out.qb.1 ..) (by omega)
            · exact w9_touch ((HT.out.ext hx2).ext hx3) (by have := HR.out.qb.1; omega) ..
        · go_wp2_with fail
          clear h0
          go_loopw [10] (fun iv wr => ∃ t : Nat, t ≤ im1 ∧ iv = .int .i64 t ∧ VInv w g q6 D a1 n1 c1 b1 m1 d1 ia1 im1 ic1 lo1 hk1 a n c l t wr) (fun iv _ => im1 - (intOf iv).toNat)
          case atStart =>
            refine ⟨0, Nat.zero_le _, rfl, [], ra1, 0, rc1, k6, ?_, RevOk.nil, Nat.le_refl _, by omega, by omega, HZ.out, HS.out, HT.out⟩
            have e : revR D [] = D := by have := HRev.out; cases D; simp only at this; subst this; rfl
            rw [e]; exact HR.out
          case round =>
            obtain ⟨t, htm, rfl, L, ra, rm, rc, kk, hR, hL, hrm, hk0, hkk, hZ, hs, ht⟩ := hrel
            have HR2 := Lib.hid hR
            have HL := Lib.hid hL
            have HZ2 := Lib.hid hZ
            have HS2 := Lib.hid hs
            have HT2 := Lib.hid ht
            clear hR hL hZ hs ht
            have x7 := HR2.out.s.cell 7 (by simp)
            try simp only [List.getElem_toArray, List.getElem_cons_succ, List.getElem_cons_zero] at x7
            have hq62 := HR2.out.s.lt
            by_cases hlt : t < im1
            · go_wp2_with fail
              refine (one_b g a n c l kk 4 wr HS2.out (by omega) (by omega) (by omega)).mono ?_
              rintro e w2 ⟨yes, k2, rfl, hs2, hk2, hk2', ht2⟩
              have HR3 := Lib.hid (HR2.out.touch ht2 (by omega))
              have HZ3 := Lib.hid (HZ2.out.touch ht2 (by omega))
              have HS3 := Lib.hid hs2
              have HT3 := Lib.hid (HT2.out.trans ht2)
              clear hs2 ht2 x7 hq62
              have x8 := HR3.out.s.cell 8 (by simp)
              try simp only [List.getElem_toArray, List.getElem_cons_succ, List.getElem_cons_zero] at x8
              have hq63 := HR3.out.s.lt
              have hle3 := HR3.out.le
              cases yes
              · go_wp2_with fail
                exact ⟨⟨t + 1, by omega, by go_num, L, ra, rm, rc, k2, HR3.out, HL.out.up, by omega, by omega, by omega, HZ3.out, HS3.out, HT3.out⟩, by simp [intOf]; omega⟩
              · go_wp2_with (at_builtin; refine law_append1 _ rfl _ _ 25 rfl 2 (.int .i64 0) 8 und_int64s info_int64 rfl hk1 ra rm rc (I L) _ rfl rfl rfl HR3.out.rs hle3.2.2 (by omega) (by omega) ?_; intro ad' c' w3 ho3 hb3 hg3; have HS4 := Lib.hid (HR3.out.s.grown hg3 (row_ne_s (HR3.out.rs.ne_s HR3.out.s (by decide)))); have y8 := HS4.out.cell 8 (by simp); (try simp only [List.getElem_toArray, List.getElem_cons_succ, List.getElem_cons_zero] at y8); have yf := HS4.out.frozen 8; have yl := HS4.out.lt)
                have hb3' : Below (w.heap.size + 1) w2 w3 := hb3.mono (by omega)
                have hqb := HR3.out.qb.1
                refine ⟨⟨t + 1, by omega, by go_num, L ++ [(t : Int)], ad', rm + 1, c', k2, HR3.out.rev ho3 hb3 hg3, HL.out.add, by omega, by omega, by omega, ?_, ?_, ?_⟩, by simp [intOf]; omega⟩
                · exact (Below.heap_setCell _ _ _ _ (by simp only; omega)).trans ((hb3'.block _ (by omega)).trans HZ3.out)
                · exact HS3.out.below (Below.setCell hb3' (p := ⟨q6, 8, none⟩) hqb _) (by omega)
                · exact HT3.out.below (Below.setCell hb3' (p := ⟨q6, 8, none⟩) hqb _) (by omega)
            · obtain rfl : t = im1 := by omega
              have x0 := HR2.out.s.cell 0 (by simp)
              have x1 := HR2.out.s.cell 1 (by simp)
              have x2' := HR2.out.s.cell 2 (by simp)
              have x3 := HR2.out.s.cell 3 (by simp)
              have x4 := HR2.out.s.cell 4 (by simp)
              have x5 := HR2.out.s.cell 5 (by simp)
              have x6 := HR2.out.s.cell 6 (by simp)
              have x8 := HR2.out.s.cell 8 (by simp)
              have z0 := HZ2.out.cell 0 (by simp)
              have z1 := HZ2.out.cell 1 (by simp)
              have z2 := HZ2.out.cell 2 (by simp)
              have z3 := HZ2.out.cell 3 (by simp)
              have z4 := HZ2.out.cell 4 (by simp)
              have z5 := HZ2.out.cell 5 (by simp)
              have z6 := HZ2.out.cell 6 (by simp)
              have z7 := HZ2.out.cell 7 (by simp)
              have z8 := HZ2.out.cell 8 (by simp)
              have zf := fun j => HZ2.out.frozen j
              have zl := HZ2.out.lt
              try simp only [List.getElem_toArray, List.getElem_cons_succ, List.getElem_cons_zero] at x0 x1 x2' x3 x4 x5 x6 x8 z0 z1 z2 z3 z4 z5 z6 z7 z8
              go_wp2_with fail
              refine bodyPost_ret (v := .agg #[.int .i64 (revR D L).ch.base, .int .i64 (revR D L).ch.states, .int .i64 (revR D L).ch.start, .int .i64 (revR D L).ch.fin, .slice a1 n1 c1, .slice b1 m1 d1, .int .i64 (revR D L).apart, .slice ia1 t ic1, .slice ra rm rc]) ?_ rfl ?_
              · simp [results, Try.results54, go_sem, z0, z1, z2, z3, z4, z5, z6, z7, z8]
              · have hval := (HOk.out.rev' HL.out (by rw [HLi.out]; exact Nat.le_refl _)).valid
                have hpl := HCp.out
                refine ⟨revR D L, a1, n1, c1, b1, m1, d1, ia1, t, ic1, ra, rm, rc, rfl, hval, by omega, hap1, hap3, by show 2 ≤ D.ch.base; rw [HCb.out]; omega, by show D.ch.base ≤ 4; rw [HCb.out]; omega, by omega, by omega, hn3, fun V hV => HR2.out.inn (q0 := w.heap.size) (by omega) (by omega) (by omega) (fun s hs => by
                  obtain ⟨i, hi, rfl⟩ := List.mem_iff_getElem.1 hs
                  have hi' : i < D.issued.length := hi
                  have := HOk.out.s20 i hi'
                  rw [gs_get hi'] at this
                  exact Nat.le_trans this (by omega)) ((KeepB.trans (fun x h1 h2 => w9_block (by omega) ..) (hV.mono (Nat.le_succ _) (by rw [w9_size]; exact Nat.le_refl _)))), w9_touch HT2.out (Nat.le_refl _) ..⟩
/-- a valid registry of a law -/
def RetR8Rg (w : World) (e : Ending) (w' : World) : Prop :=
  ∃ (D : Rg) (a : Option Addr) (n c : Nat) (b : Option Addr) (m d : Nat) (ia : Option Addr) (im ic : Nat) (ra : Option Addr) (rm rc : Nat), e = .returned (.agg #[.int .i64 D.ch.base, .int .i64 D.ch.states, .int .i64 D.ch.start, .int .i64 D.ch.fin, .slice a n c, .slice b m d, .int .i64 D.apart, .slice ia im ic, .slice ra rm rc]) ∧ validRg D = true ∧ im ≤ 5 ∧ 1 ≤ D.apart ∧ D.apart ≤ 3 ∧ 2 ≤ D.ch.base ∧ D.ch.base ≤ 4 ∧ 1 ≤ m ∧ m ≤ 5 ∧ n ≤ 3 ∧ RgIn w' D a n c b m d ia im ic ra rm rc ∧ Ext w w'
set_option maxHeartbeats 4000000 in
theorem spec_R8Rg (a : Option Addr) (n c : Nat) (l : List UInt8) (w : World) (h : Bytes w a n c l) (hn : n ≤ 1048576) : Calls Try.prog 12 #[.slice a n c] w (RetR8Rg w) := by
  have HB := Lib.hid h
  clear h
  go_enter Try.func12, Try.ntmps12
  go_wp2_with fail
  obtain ⟨wz, hwz⟩ : ∃ wz, wz = w.alloc (.cells #[.int .i64 0, .int .i64 0, .int .i64 0, .int .i64 0, .slice none 0 0, .slice none 0 0, .int .i64 0, .slice none 0 0, .slice none 0 0] 30) := ⟨_, rfl⟩
  have hxz : Ext w wz := by rw [hwz]; exact (by repeat (first | (with_reducible exact Ext.refl _) | (with_reducible refine Ext.drewN ?_ _) | (with_reducible refine Ext.drew ?_) | (with_reducible refine Ext.alloc ?_ _) | ((with_reducible refine Ext.setCell ?_ ?_ _); rotate_left; focus (first | (simp; done) | (simp; omega) | omega)) | assumption | (with_reducible refine Ext.trans ?_ (by assumption))))
  have HZ := Lib.hid (show SAt wz w.heap.size 30 #[.int .i64 0, .int .i64 0, .int .i64 0, .int .i64 0, .slice none 0 0, .slice none 0 0, .int .i64 0, .slice none 0 0, .slice none 0 0] by rw [hwz]; exact SAt.new' _ _ _ rfl)
  have hzs : wz.heap.size = w.heap.size + 1 := by rw [hwz]; simp
  rw [← hwz]
  clear hwz
  refine (from_b a n c l wz (HB.out.ext hxz) (by omega)).mono ?_
  rintro e w1 ⟨rfl, hs1, hx1, hz1⟩
  obtain ⟨g, hg⟩ : ∃ g, g = wz.heap.size := ⟨_, rfl⟩
  rw [← hg] at hs1 hz1 ⊢
  have HS1 := Lib.hid hs1
  have HX1 := Lib.hid (hxz.trans hx1)
  have HZ1 := Lib.hid (HZ.out.ext hx1)
  have hgw : w.heap.size < g := by omega
  have hle : w.heap.size ≤ g := by omega
  have HZ1s := Lib.hid HZ1.out.lt
  clear hs1 hx1 hg HZ HB hxz hzs hz1
  go_wp2_with fail
  refine (spec_drawReg g a n c l w1 HS1.out).mono ?_
  rintro e w2 ⟨D, a1, n1, c1, b1, m1, d1, ia1, im1, ic1, ra1, rm1, rc1, rfl, hval, hi5, ha1, ha3, hb2, hb4, hm1, hm5, hn3, hin, ht2⟩
  have HIn := Lib.hid hin
  have HX2 := Lib.hid (HX1.out.touch ht2 hle)
  have HZ2 := Lib.hid (HZ1.out.touch ht2 (by omega))
  have HVal := Lib.hid hval
  clear hin ht2 HZ1 HX1 HS1 hval
  have z0 := HZ2.out.cell 0 (by simp)
  have z1 := HZ2.out.cell 1 (by simp)
  have z2 := HZ2.out.cell 2 (by simp)
  have z3 := HZ2.out.cell 3 (by simp)
  have z4 := HZ2.out.cell 4 (by simp)
  have z5 := HZ2.out.cell 5 (by simp)
  have z6 := HZ2.out.cell 6 (by simp)
  have z7 := HZ2.out.cell 7 (by simp)
  have z8 := HZ2.out.cell 8 (by simp)
  have zf := fun j => HZ2.out.frozen j
  have zl := HZ2.out.lt
  try simp only [List.getElem_toArray, List.getElem_cons_succ, List.getElem_cons_zero] at z0 z1 z2 z3 z4 z5 z6 z7 z8
  go_wp2_with fail
  refine bodyPost_ret (v := .agg #[.int .i64 D.ch.base, .int .i64 D.ch.states, .int .i64 D.ch.start, .int .i64 D.ch.fin, .slice a1 n1 c1, .slice b1 m1 d1, .int .i64 D.apart, .slice ia1 im1 ic1, .slice ra1 rm1 rc1]) ?_ rfl ?_
  · simp [results, Try.results12, go_sem, z0, z1, z2, z3, z4, z5, z6, z7, z8]
  · have hl1 : w.heap.size + 1 ≤ w1.heap.size := by have := HZ1s.out; omega
    refine ⟨D, a1, n1, c1, b1, m1, d1, ia1, im1, ic1, ra1, rm1, rc1, rfl, HVal.out, hi5, ha1, ha3, hb2, hb4, hm1, hm5, hn3, HIn.out _ (fun x h1 h2 => w9_block (by omega) ..), HX2.out.below (w9_below (Nat.le_refl _) ..)⟩
end Go.Proofs.Ytcdoanookiimaaa
