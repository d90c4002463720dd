/- Walks: a chain with a given base and so many places, chosen. -/
import Derived.Test.YtbcfbkhbangeoaaR8C
import Derived.Test.YtbcfbkhbangeoaaEvenB
namespace Go.Proofs.Ytbcfbkhbangeoaa
set_option maxRecDepth 100000
open Go.RowKit

def RetLike (b p : Nat) (w : World) (e : Ending) (w' : World) : Prop :=
  ∃ (D : Ch) (ad : Option Addr) (x cc : Nat) (pd : Option Addr) (pc : Nat), e = .returned (.agg #[.int .i64 D.base, .int .i64 D.states, .int .i64 D.start, .int .i64 D.fin, .slice ad x cc, .slice pd p pc]) ∧ DrawnCh D ∧ D.base = b ∧ D.places.length = p ∧ D.states ≤ 6 ∧ x ≤ 3 ∧ ChIn w' D ad x cc pd p pc ∧ Ext w w'
theorem even3_drawn {b p : Nat} (hb : 2 ≤ b) (hb2 : b ≤ 10) (hp : 1 ≤ p) (hp2 : p ≤ 5) {t : List (List Int)} (ht : TabOk 3 b t) : DrawnCh ⟨b, 3, 1, 2, [t], List.replicate p 0⟩ :=
  ⟨by simp only; omega, by simp only; omega, by simp only; omega, by simp only; omega, by simp only; omega, by simp only; omega, by simp, by simp, by simp; omega, by simp; omega, fun u hu => by obtain rfl := List.mem_singleton.1 hu; exact ht, fun k hk => by obtain ⟨_, rfl⟩ := List.mem_replicate.1 hk; simp⟩
set_option maxHeartbeats 4000000 in
theorem spec_R8Like (a : Option Addr) (n c : Nat) (l : List UInt8) (b p : Nat) (w : World) (h : Bytes w a n c l) (hn : n ≤ 1048576) (hb : 2 ≤ b) (hb2 : b ≤ 10) (hp : 1 ≤ p) (hp2 : p ≤ 5) : Calls Try.prog 15 #[.slice a n c, .int .i64 b, .int .i64 p] w (RetLike b p w) := by
  have HB := Lib.hid h
  clear h
  go_enter Try.func15, Try.ntmps15
  go_wp2_with fail
  obtain ⟨wz, hwz⟩ : ∃ wz, wz = w.alloc (.cells #[.int .i64 0, .int .i64 0, .int .i64 0, .int .i64 0, .slice none 0 0, .slice none 0 0] 30) := ⟨_, rfl⟩
  have hxz : Ext w wz := by rw [hwz]; exact (by repeat (first | (with_reducible exact Ext.refl _) | (with_reducible refine Ext.drewN ?_ _) | (with_reducible refine Ext.drew ?_) | (with_reducible refine Ext.alloc ?_ _) | ((with_reducible refine Ext.setCell ?_ ?_ _); rotate_left; focus (first | (simp; done) | (simp; omega) | omega)) | assumption | (with_reducible refine Ext.trans ?_ (by assumption))))
  have HZ := Lib.hid (show SAt wz w.heap.size 30 #[.int .i64 0, .int .i64 0, .int .i64 0, .int .i64 0, .slice none 0 0, .slice none 0 0] by rw [hwz]; exact SAt.new' _ _ _ rfl)
  have hzs : wz.heap.size = w.heap.size + 1 := by rw [hwz]; simp
  rw [← hwz]
  clear hwz
  refine (from_b a n c l wz (HB.out.ext hxz) (by omega)).mono ?_
  rintro e w1 ⟨rfl, hs1, hx1, hz1⟩
  obtain ⟨g, hg⟩ : ∃ g, g = wz.heap.size := ⟨_, rfl⟩
  rw [← hg] at hs1 hz1 ⊢
  have HS1 := Lib.hid hs1
  have HX1 := Lib.hid (hxz.trans hx1)
  have HZ1 := Lib.hid (HZ.out.ext hx1)
  have hgw : w.heap.size < g := by omega
  have hle : w.heap.size ≤ g := by omega
  clear hs1 hx1 hg HZ HB hxz
  go_wp2_with fail
  refine (spec_drawSized g a n c l 0 b p w1 HS1.out (by omega) (by omega) hb hb2 hp hp2).mono ?_
  rintro e w6 ⟨D, ad, x, cc, pd, pc, k6, rfl, hdr, hDb, hDp, hx3, hch, hs6, hk6, hk6', ht6⟩
  have HCH := Lib.hid hch
  have HDR := Lib.hid hdr
  have HX6 := Lib.hid (HX1.out.touch ht6 hle)
  have HZ6 := Lib.hid (HZ1.out.touch ht6 (by omega))
  have HS6 := Lib.hid hs6
  have h56 : w1.heap.size ≤ w6.heap.size := ht6.size
  have hq5 : w.heap.size < w1.heap.size := HZ1.out.lt
  have hg6 : g < w6.heap.size := hs6.g
  have HDb := Lib.hid hDb
  have HDp := Lib.hid hDp
  have hS1 := hdr.s1
  have hS10 := hdr.s36
  clear hch hdr ht6 hs6 hDb hDp HS1 HX1 HZ1
  by_cases h6 : 6 < D.states
  · obtain ⟨wh, hwh⟩ : ∃ wh, wh = w6.alloc (.cells #[.int .i64 D.base, .int .i64 3, .int .i64 1, .int .i64 2, .slice ad x cc, .slice pd p pc] 30) := ⟨_, rfl⟩
    have hx6h : Ext w6 wh := by rw [hwh]; exact (by repeat (first | (with_reducible exact Ext.refl _) | (with_reducible refine Ext.drewN ?_ _) | (with_reducible refine Ext.drew ?_) | (with_reducible refine Ext.alloc ?_ _) | ((with_reducible refine Ext.setCell ?_ ?_ _); rotate_left; focus (first | (simp; done) | (simp; omega) | omega)) | assumption | (with_reducible refine Ext.trans ?_ (by assumption))))
    have HSh := Lib.hid (show SAt wh w6.heap.size 30 #[.int .i64 D.base, .int .i64 3, .int .i64 1, .int .i64 2, .slice ad x cc, .slice pd p pc] by rw [hwh]; exact SAt.new' _ _ _ rfl)
    have HBh := Lib.hid (HS6.out.ext hx6h)
    obtain ⟨S3, hS3⟩ : ∃ S : Nat, S = 3 := ⟨_, rfl⟩
    have HT := Lib.hid (spec_drawTable g a n c l k6 S3 b wh HBh.out (by omega) (by omega) (by omega) (by omega) hb2)
    rw [show ((S3 : Nat) : Int) = 3 by omega] at HT
    obtain ⟨MC, hmk, hmo⟩ := made_ints p (by omega)
    have HMO := Lib.hid (show ∀ (W : World) (B g : Nat), B ≤ g → g = W.heap.size → Own (W.alloc (.cells MC 2)) B 2 (some ⟨g, 0, none⟩) p p (I (List.replicate p 0)) from fun W B g hB hg => by subst hg; exact (hmo W).mono hB)
    clear hmo
    go_wp2_with fail
    rw [← hwh]
    have hzh : wh.heap.size = w6.heap.size + 1 := by rw [hwh]; simp
    clear hwh
    refine HT.out.mono ?_
    rintro e w8 ⟨ad2, cc2, t, k8, rfl, htab, hmat, hs8, hk8, hk8', ht8⟩
    subst hS3
    have hx8 : Ext w w8 := (HX6.out.trans hx6h).touch ht8 hle
    have h8 : wh.heap.size ≤ w8.heap.size := ht8.size
    have HS8 := Lib.hid (show SAt w8 w6.heap.size 30 #[.int .i64 D.base, .int .i64 3, .int .i64 1, .int .i64 2, .slice ad x cc, .slice pd p pc] from (ht8.block _ HSh.out.lt (by omega)).trans HSh.out)
    have HZ8 := Lib.hid (show SAt w8 w.heap.size 30 #[.int .i64 0, .int .i64 0, .int .i64 0, .int .i64 0, .slice none 0 0, .slice none 0 0] from (ht8.block _ (by omega) (by omega)).trans (HZ6.out.ext hx6h))
    have HM8 := Lib.hid hmat
    have HTb := Lib.hid htab
    clear htab hmat hs8 ht8 HT HBh HSh HZ6 HS6 HCH hk8 hk8' hx6h
    have g0 := HS8.out.cell 0 (by simp)
    have g1 := HS8.out.cell 1 (by simp)
    have g2 := HS8.out.cell 2 (by simp)
    have g3 := HS8.out.cell 3 (by simp)
    have g4 := HS8.out.cell 4 (by simp)
    have g5 := HS8.out.cell 5 (by simp)
    have gf := fun j => HS8.out.frozen j
    have glt := HS8.out.lt
    have z0 := HZ8.out.cell 0 (by simp)
    have z1 := HZ8.out.cell 1 (by simp)
    have z2 := HZ8.out.cell 2 (by simp)
    have z3 := HZ8.out.cell 3 (by simp)
    have z4 := HZ8.out.cell 4 (by simp)
    have z5 := HZ8.out.cell 5 (by simp)
    have zf := fun j => HZ8.out.frozen j
    have zlt := HZ8.out.lt
    have hne : w6.heap.size ≠ w.heap.size := by omega
    have hne' : w.heap.size ≠ w6.heap.size := by omega
    try simp only [List.getElem_toArray, List.getElem_cons_succ, List.getElem_cons_zero] at g0 g1 g2 g3 g4 g5 z0 z1 z2 z3 z4 z5
    go_wp2_with fail
    refine bodyPost_ret (v := .agg #[.int .i64 D.base, .int .i64 3, .int .i64 1, .int .i64 2, .slice (some ⟨w8.heap.size, 0, none⟩) 1 1, .slice (some ⟨w8.heap.size + 1, 0, none⟩) p p]) ?_ rfl ?_
    · simp [results, Try.results15, go_sem, z0, z1, z2, z3, z4, z5, zlt]
    · have hst : SmallCh ⟨(D.base : Int), 3, 1, 2, [t], List.replicate p 0⟩ := fun u hu => by
        obtain rfl := List.mem_singleton.1 hu
        exact ⟨by have := HTb.out.1; omega, fun r hr => by have := (HTb.out.2 r hr).1; omega⟩
      refine ⟨⟨D.base, 3, 1, 2, [t], List.replicate p 0⟩, some ⟨w8.heap.size, 0, none⟩, 1, 1, some ⟨w8.heap.size + 1, 0, none⟩, p, rfl, by rw [HDb.out]; exact even3_drawn hb hb2 hp hp2 HTb.out, HDb.out, by simp, by simp only; omega, by omega, ChIn.mk (cube1 (a1 := ad2) (n1 := 3) (c1 := cc2) (Own.sl (B := wh.heap.size) (E := 81) ?_) (OwnMat.mat (B := wh.heap.size) (E1 := 23) (E0 := 2) ?_)) (Own.ints (B := wh.heap.size) (E := 2) ?_) (by omega) (by omega) hst, ?_⟩
      · refine Own.alloc' (own_lit1g _ _ _ h8 (by simp)) _
      · exact HM8.out.keepB (KeepB.chg (lo' := 0) (hi' := wh.heap.size) (by clear HMO HTb HS8 HZ8 g0 g1 g2 g3 g4 g5 gf z0 z1 z2 z3 z4 z5 zf; exact (by repeat (first | (with_reducible exact Chg.refl _ _ _) | (with_reducible assumption) | (with_reducible refine Chg.drewQ ?_) | (with_reducible refine Chg.allocQ ?_ _) | ((with_reducible refine Chg.setQ ?_ _ _ ?_ ?_); rotate_left; (focus (first | (simp; done) | (simp; omega) | omega)); (focus (first | (simp; done) | (simp; omega) | omega)))))) (Nat.le_refl _) (.inl (Nat.le_refl _)))
      · exact HMO.out _ _ _ (by omega) (by simp)
      · clear HMO HTb HS8 HZ8 g0 g1 g2 g3 g4 g5 gf z0 z1 z2 z3 z4 z5 zf hst
        exact (by repeat (first | (with_reducible exact Ext.refl _) | (with_reducible assumption) | (with_reducible refine Ext.drewN ?_ _) | (with_reducible refine Ext.drew ?_) | (with_reducible refine Ext.alloc ?_ _) | ((with_reducible refine Ext.setCell ?_ ?_ _); rotate_left; focus (first | (simp; done) | (simp; omega) | omega)) | (with_reducible refine Ext.trans ?_ (by with_reducible assumption))))
  · have z0 := HZ6.out.cell 0 (by simp)
    have z1 := HZ6.out.cell 1 (by simp)
    have z2 := HZ6.out.cell 2 (by simp)
    have z3 := HZ6.out.cell 3 (by simp)
    have z4 := HZ6.out.cell 4 (by simp)
    have z5 := HZ6.out.cell 5 (by simp)
    have fr := fun j => HZ6.out.frozen j
    have hlt := HZ6.out.lt
    have hne : w6.heap.size ≠ w.heap.size := by omega
    try simp only [List.getElem_toArray, List.getElem_cons_succ, List.getElem_cons_zero] at z0 z1 z2 z3 z4 z5
    go_wp2_with fail
    refine bodyPost_ret (v := .agg #[.int .i64 D.base, .int .i64 D.states, .int .i64 D.start, .int .i64 D.fin, .slice ad x cc, .slice pd p pc]) ?_ rfl ?_
    · simp [results, Try.results15, go_sem, z0, z1, z2, z3, z4, z5, hlt]
    · clear z0 z1 z2 z3 z4 z5 fr hzs hn hb hb2 hp hp2 hz1 hgw hle h56 hg6 hne
      have hk : ∀ W, Chg w.heap.size (w.heap.size + 1) w6 W → KeepB w1.heap.size w6.heap.size w6 W := fun W hc => KeepB.chg hc (Nat.le_refl _) (.inl hq5)
      have hx6 := HX6.out
      refine ⟨D, ad, x, cc, pd, pc, rfl, HDR.out, HDb.out, HDp.out, by omega, hx3, HCH.out _ (hk _ ?_), ?_⟩
      · clear HCH HDR HZ6 HS6 hk
        exact (by repeat (first | (with_reducible exact Chg.refl _ _ _) | (with_reducible assumption) | (with_reducible refine Chg.drewQ ?_) | (with_reducible refine Chg.allocQ ?_ _) | ((with_reducible refine Chg.setQ ?_ _ _ ?_ ?_); rotate_left; (focus (first | (simp; done) | (simp; omega) | omega)); (focus (first | (simp; done) | (simp; omega) | omega)))))
      · clear HCH HDR HZ6 HS6 hk
        exact (by repeat (first | (with_reducible exact Ext.refl _) | (with_reducible assumption) | (with_reducible refine Ext.drewN ?_ _) | (with_reducible refine Ext.drew ?_) | (with_reducible refine Ext.alloc ?_ _) | ((with_reducible refine Ext.setCell ?_ ?_ _); rotate_left; focus (first | (simp; done) | (simp; omega) | omega)) | (with_reducible refine Ext.trans ?_ (by with_reducible assumption))))
end Go.Proofs.Ytbcfbkhbangeoaa
