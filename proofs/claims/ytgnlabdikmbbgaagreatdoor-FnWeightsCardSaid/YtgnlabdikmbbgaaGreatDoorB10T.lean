/- Walks: one of some numbers is drawn. -/
import Derived.Test.YtgnlabdikmbbgaaGreatDoorDrawD
import Derived.Test.YtgnlabdikmbbgaaGreatDoorUnd
import Derived.Test.YtgnlabdikmbbgaaGreatDoorWSum
import Derived.Test.YtgnlabdikmbbgaaGreatDoorText
import Derived.Deep.CutRange
namespace Go.Proofs.YtgnlabdikmbbgaaGreatDoor
set_option maxRecDepth 100000
open Go.RowKit

theorem Touch.toTwo {g : Nat} {w w' : World} (h : Touch g w w') : Two g g w w' := ⟨h.os, h.tape, h.output, h.size, fun k hk h1 _ => h.block k hk h1⟩
def RetAm (L : List Int) (g : Nat) (a : Option Addr) (n c : Nat) (l : List UInt8) (k : Int) (w : World) (e : Ending) (w' : World) : Prop :=
  ∃ x k' : Int, e = .returned (.int .i64 x) ∧ x ∈ L ∧ SrcB w' g a n c l k' ∧ k ≤ k' ∧ k' ≤ k + 2 ∧ Touch g w w'
set_option maxHeartbeats 2000000 in
theorem spec_among (g : Nat) (a : Option Addr) (n c : Nat) (l : List UInt8) (k : Int) (la : Option Addr) (m lc : Nat) (L : List Int) (w : World) (h : SrcB w g a n c l k) (hk : 0 ≤ k) (hk2 : k ≤ 999999999) (hL : Ints w la m lc L) (hne : ∀ x, la = some x → x.block ≠ g) (hm : 1 ≤ m) (hm2 : m ≤ 1048576) :
    Calls Tryz.prog 30 #[.pointer (some ⟨g, 0, none⟩), .slice la m lc] w (RetAm L g a n c l k w) := by
  have HP := Lib.hid (pick_b g a n c l k m w h hk hk2 (by omega))
  have HL := Lib.hid hL
  have HN := Lib.hid hne
  have HLn := Lib.hid hL.len
  clear h hL hne
  go_enter Tryz.func30, Tryz.ntmps30
  go_wp2_with ((with_reducible refine HP.out.mono ?_); rintro e w6 ⟨x, k6, rfl, x0, x1, hs6, k60, k61, hy6⟩; have hxm : x < m := (by omega); obtain ⟨i, rfl⟩ := Int.eq_ofNat_of_zero_le x0; have him : i < m := (by omega); have HS6 := Lib.hid hs6; have HT6 := Lib.hid hy6; obtain ⟨bq, oq, hixq, hcellq⟩ := (HL.out.two hy6.toTwo (fun x hx => ⟨HN.out x hx, HN.out x hx⟩)).ix (P := Tryz.prog) 24 2 und_int64s cell_int64; have hx6 : Ext w6 w6 := Ext.refl _; clear hs6 hy6)
  go_ret
  exact ⟨_, k6, rfl, gi_mem (by rw [HLn.out]; exact him), HS6.out, k60, k61, HT6.out⟩
end Go.Proofs.YtgnlabdikmbbgaaGreatDoor

/- Walks: digits that are drawn. -/
namespace Go.Proofs.YtgnlabdikmbbgaaGreatDoor
set_option maxRecDepth 100000
open Go.RowKit

def RetDigs (b : Int) (m g : Nat) (a : Option Addr) (n c : Nat) (l : List UInt8) (k : Int) (w : World) (e : Ending) (w' : World) : Prop :=
  ∃ (ra : Option Addr) (rc : Nat) (ds : List Int) (k' : Int), e = .returned (.slice ra m rc) ∧ Own w' w.heap.size 2 ra m rc (I ds) ∧ ds.length = m ∧ (∀ x ∈ ds, 0 ≤ x ∧ x < b) ∧ SrcB w' g a n c l k' ∧ k ≤ k' ∧ k' ≤ k + 2 * m ∧ Touch g w w'
theorem own_touch {w w' : World} {B g : Nat} {E : TypeId} {a : Option Addr} {n c : Nat} {vs : List Value} (h : Own w B E a n c vs) (ht : Touch g w w') (hg : g < B) : Own w' B E a n c vs := Own.keepB h (ht.keepB hg (Nat.le_refl _))
set_option maxHeartbeats 2000000 in
theorem spec_drawDigs (g : Nat) (a : Option Addr) (n c : Nat) (l : List UInt8) (k b : Int) (m : Nat) (w : World) (h : SrcB w g a n c l k) (hk : 0 ≤ k) (hk2 : k ≤ 99999999) (hb : 2 ≤ b) (hb2 : b ≤ 36) (hm : m ≤ 20) :
    Calls Tryz.prog 34 #[.pointer (some ⟨g, 0, none⟩), .int .i64 b, .int .i64 m] w (RetDigs b m g a n c l k w) := by
  have HS := Lib.hid h
  have hg := h.g
  clear h
  go_enter Tryz.func34, Tryz.ntmps34
  go_wp2_with fail
  go_loopw [2, 7] (fun v2 v7 wr => ∃ (j : Nat) (ra : Option Addr) (rc : Nat) (ds : List Int) (k' : Int), j ≤ m ∧ v2 = .int .i64 ((m : Int) - j) ∧ v7 = .slice ra j rc ∧ Hid (Own wr w.heap.size 2 ra j rc (I ds)) ∧ Hid (ds.length = j) ∧ Hid (∀ x ∈ ds, 0 ≤ x ∧ x < b) ∧ Hid (SrcB wr g a n c l k') ∧ k ≤ k' ∧ k' ≤ k + 2 * j ∧ Touch g w wr) (fun v2 _ _ => (intOf v2).toNat)
  case atStart => exact ⟨0, _, _, [], k, Nat.zero_le _, by simp, rfl, Own.lit0 _ _, rfl, (fun x hx => by simp at hx), HS.out.ext ((Ext.refl _).alloc _), Int.le_refl _, by simp, (Touch.refl g w).ext ((Ext.refl _).alloc _)⟩
  case round =>
    obtain ⟨j, ra, rc, ds, k', hj, rfl, rfl, HO, HL, HB, HSr, hk3, hk4, ht⟩ := hrel
    have hszr := ht.size
    by_cases hlt : j < m
    · have HP := Lib.hid (pick_b g a n c l k' b _ HSr.out (by omega) (by omega) (by omega))
      go_wp2_with (first | (at_builtin; refine law_append1 _ rfl _ _ 24 rfl 2 (.int .i64 0) 8 und_int64s info_int64 rfl w.heap.size ra j rc _ _ rfl rfl rfl HO6.out hsz6 (by omega) (by omega) ?_; intro ra' rc' w7 ho7 hb7 _; have HO7 := Lib.hid ho7; have HS7 := Lib.hid (HS6.out.below hb7 hg); have ht7 : Touch g w w7 := ht6.below hb7 (Nat.le_refl _); clear ho7 hb7) | ((with_reducible refine HP.out.mono ?_); rintro e w6 ⟨x, k6, rfl, x0, x1, hs6, k60, k61, hy6⟩; have HS6 := Lib.hid hs6; have ht6 : Touch g w w6 := ht.trans hy6; have hsz6 := ht6.size; have HO6 := Lib.hid (own_touch HO.out hy6 hg); clear hs6))
      exact ⟨⟨j + 1, ra', rc', ds ++ [x], k6, by omega, by congr 1; omega, rfl, by rw [Hid, I_append]; exact HO7.out, by rw [Hid, List.length_append, HL.out]; rfl, (fun y hy => by rw [List.mem_append] at hy; rcases hy with hy | hy; exact HB.out y hy; simp only [List.mem_singleton] at hy; subst hy; omega), HS7.out, by omega, by omega, ht7⟩, by simp [intOf] <;> omega⟩
    · obtain rfl : j = m := by omega
      go_wp2_with fail
      go_ret
      exact ⟨ra, rc, ds, k', rfl, HO.out, HL.out, HB.out, HSr.out, hk3, hk4, ht⟩
/-- a word of m symbols over a base -/
def RetWd (b : Int) (m : Nat) (w : World) (e : Ending) (w' : World) : Prop := ∃ ds : List Int, e = .returned (.string (textOf ds)) ∧ ds.length = m ∧ (∀ x ∈ ds, 0 ≤ x ∧ x < b) ∧ Ext w w'
set_option maxHeartbeats 2000000 in
theorem spec_B10Word (a : Option Addr) (n c : Nat) (l : List UInt8) (X : Wt) (a2 : Option Addr) (m c2 : Nat) (w : World) (hb : Bytes w a n c l) (hn : n ≤ 4611686018427387904) (hw : Ints w a2 m c2 X.weights) (h2 : 2 ≤ X.base) (h36 : X.base ≤ 36) (hm : m ≤ 20) :
    Calls Tryz.prog 8 #[.slice a n c, .agg #[.int .i64 X.base, .int .i64 X.modulus, .int .i64 X.target, .slice a2 m c2]] w (RetWd X.base m w) := by
  have HB := Lib.hid (isWt_box w X.base X.modulus X.target X.weights a2 m c2 26 hw)
  have HF := Lib.hid (fun W (h : Ext w W) => from_b a n c l W (hb.ext h) hn)
  clear hb hw
  go_enter Tryz.func8, Tryz.ntmps8
  go_wp2_with fail
  obtain ⟨p, hp⟩ : ∃ p, p = w.heap.size := ⟨_, rfl⟩
  obtain ⟨wz, hwz⟩ : ∃ W, W = w.alloc (.cells #[.int .i64 X.base, .int .i64 X.modulus, .int .i64 X.target, .slice a2 m c2] 26) := ⟨_, rfl⟩
  have hxz : Ext w wz := by rw [hwz]; exact (by repeat (first | (with_reducible exact Ext.refl _) | (with_reducible refine Ext.drewN ?_ _) | (with_reducible refine Ext.drew ?_) | (with_reducible refine Ext.alloc ?_ _) | ((with_reducible refine Ext.setCell ?_ ?_ _); rotate_left; focus (first | (simp; done) | (simp; omega) | omega)) | assumption | (with_reducible refine Ext.trans ?_ (by assumption))))
  have HW := Lib.hid (show IsWt wz p X a2 m c2 from by rw [hwz, hp]; exact HB.out)
  rw [← hwz, ← hp]
  clear hwz hp HB
  refine (HF.out _ hxz).mono ?_
  rintro e w1 ⟨rfl, hs1, hx1, _⟩
  obtain ⟨g, hg⟩ : ∃ g, g = wz.heap.size := ⟨_, rfl⟩
  rw [← hg] at hs1 ⊢
  have hgz : wz.heap.size ≤ g := by omega
  clear hg
  have HW1 := Lib.hid (HW.out.ext hx1)
  obtain ⟨d0, _, _, d3, _⟩ := HW1.out
  have HD := Lib.hid (spec_drawDigs g a n c l 0 X.base m w1 hs1 (by omega) (by omega) h2 h36 hm)
  have HX1 := Lib.hid hx1
  clear hs1 hx1
  go_wp2_with (first | ((with_reducible refine HD.out.mono ?_); rintro e w2 ⟨ra, rc, ds, k', rfl, ho, hl, hb, _, _, _, ht⟩; have HO2 := Lib.hid ho; have HL := Lib.hid hl; have HBd := Lib.hid hb; have HT2 := Lib.hid ht; have HFr := Lib.hid (spec_from ra m rc ds w2 ho.ints (fun d hd => by have := hb d hd; omega) (by omega)); clear ho hl hb ht) | ((with_reducible refine HFr.out.mono ?_); rintro e w3 ⟨rfl, hx3⟩))
  go_ret
  have ht := HT2.out
  have hx1 := HX1.out
  have hx2 : Ext wz w2 := hx1.below ⟨ht.os, ht.tape, ht.output, ht.size, fun i hi => ht.block i (Nat.lt_of_lt_of_le hi hx1.size) (by omega)⟩
  exact ⟨ds, rfl, HL.out, HBd.out, hxz.trans (hx2.trans hx3)⟩
end Go.Proofs.YtgnlabdikmbbgaaGreatDoor

/- Walks: a weighting that is drawn. -/
namespace Go.Proofs.YtgnlabdikmbbgaaGreatDoor
set_option maxRecDepth 100000
open Go.RowKit

theorem ints_lit (w : World) (l : List Int) (n : Nat) (hl : l.length = n) (hn : n ≤ 1000) : Ints (w.alloc (.cells (I l).toArray 2)) (some ⟨w.heap.size, 0, none⟩) n n l := by
  subst hl
  have h := World.ownsRow_lit (e := 2) (size := 1) (base := w.heap.size) w (I l).toArray l.length (Nat.le_refl _) (by unfold maxLen; omega) (by simp [I_len])
  have h2 : Own (w.alloc (.cells (I l).toArray 2)) w.heap.size 2 (some ⟨w.heap.size, 0, none⟩) l.length l.length (I l).toArray.toList := h
  exact h2.sl
theorem ext_touch {w a b : World} {g : Nat} (h : Ext w a) (ht : Touch g a b) (hg : w.heap.size ≤ g) : Ext w b :=
  h.below ⟨ht.os, ht.tape, ht.output, ht.size, fun i hi => ht.block i (Nat.lt_of_lt_of_le hi h.size) (by omega)⟩
/-- a weighting whose weights are the call's own -/
def RetWtO (w : World) (e : Ending) (w' : World) : Prop :=
  ∃ (X : Wt) (a : Option Addr) (n c : Nat), e = .returned (.agg #[.int .i64 X.base, .int .i64 X.modulus, .int .i64 X.target, .slice a n c]) ∧ Own w' w.heap.size 2 a n c (I X.weights) ∧ X.weights.length = n ∧
    X.base ∈ ([10, 10, 2, 3, 5, 7, 11] : List Int) ∧ 2 ≤ X.modulus ∧ X.modulus ≤ 13 ∧ 0 ≤ X.target ∧ X.target < X.modulus ∧ 1 ≤ n ∧ n ≤ 4 ∧ (∀ x ∈ X.weights, 0 ≤ x ∧ x < X.modulus) ∧ Ext w w'
/-- where the ways meet: the modulus -/
def ModCut (q1 g : Nat) (a : Option Addr) (n c : Nat) (l : List UInt8) (w : World) (v : Value) (W : World) : Prop :=
  ∃ m k : Int, v = .int .i64 m ∧ 2 ≤ m ∧ m ≤ 13 ∧ SrcB W g a n c l k ∧ 0 ≤ k ∧ k ≤ 6 ∧ SAt W q1 26 #[.int .i64 0, .int .i64 0, .int .i64 0, .slice none 0 0] ∧ Ext w W
set_option maxHeartbeats 4000000 in
theorem spec_B10Weighting (a : Option Addr) (n c : Nat) (l : List UInt8) (w : World) (hb : Bytes w a n c l) (hn : n ≤ 4611686018427387904) :
    Calls Tryz.prog 7 #[.slice a n c] w (RetWtO w) := by
  have HF := Lib.hid (fun W (h : Ext w W) => from_b a n c l W (hb.ext h) hn)
  clear hb
  go_enter Tryz.func7, Tryz.ntmps7
  go_wp2_with fail
  obtain ⟨q1, hq1⟩ : ∃ q1, q1 = w.heap.size := ⟨_, rfl⟩
  obtain ⟨wz, hwz⟩ : ∃ W, W = w.alloc (.cells #[.int .i64 0, .int .i64 0, .int .i64 0, .slice none 0 0] 26) := ⟨_, rfl⟩
  have hxz : Ext w wz := by rw [hwz]; exact (by repeat (first | (with_reducible exact Ext.refl _) | (with_reducible refine Ext.drewN ?_ _) | (with_reducible refine Ext.drew ?_) | (with_reducible refine Ext.alloc ?_ _) | ((with_reducible refine Ext.setCell ?_ ?_ _); rotate_left; focus (first | (simp; done) | (simp; omega) | omega)) | assumption | (with_reducible refine Ext.trans ?_ (by assumption))))
  have HZ := Lib.hid (show SAt wz q1 26 #[.int .i64 0, .int .i64 0, .int .i64 0, .slice none 0 0] by rw [hwz, hq1]; exact SAt.new' _ _ _ rfl)
  have hqz : w.heap.size ≤ q1 := by omega
  rw [← hwz, ← hq1]
  clear hwz hq1
  refine (HF.out _ hxz).mono ?_
  rintro e w1 ⟨rfl, hs1, hx1, hz1⟩
  obtain ⟨g, hg⟩ : ∃ g, g = wz.heap.size := ⟨_, rfl⟩
  rw [← hg] at hs1 ⊢
  have hgz : w.heap.size ≤ g := by have := hxz.le; omega
  have hq1g : q1 ≠ g := by have := HZ.out.lt; omega
  clear hg hz1
  have HZ1 := Lib.hid (HZ.out.ext hx1)
  have HS1 := Lib.hid hs1
  have hxw1 : Ext w w1 := hxz.trans hx1
  clear hs1 hx1
  go_wp2_with fail
  obtain ⟨bL, hbL⟩ : ∃ b, b = w1.heap.size := ⟨_, rfl⟩
  obtain ⟨w2, hw2⟩ : ∃ W, W = w1.alloc (.cells #[.int .i64 10, .int .i64 10, .int .i64 2, .int .i64 3, .int .i64 5, .int .i64 7, .int .i64 11] 2) := ⟨_, rfl⟩
  have hx2 : Ext w1 w2 := by rw [hw2]; exact (by repeat (first | (with_reducible exact Ext.refl _) | (with_reducible refine Ext.drewN ?_ _) | (with_reducible refine Ext.drew ?_) | (with_reducible refine Ext.alloc ?_ _) | ((with_reducible refine Ext.setCell ?_ ?_ _); rotate_left; focus (first | (simp; done) | (simp; omega) | omega)) | assumption | (with_reducible refine Ext.trans ?_ (by assumption))))
  have HI2 := Lib.hid (show Ints w2 (some ⟨bL, 0, none⟩) 7 7 [10, 10, 2, 3, 5, 7, 11] by rw [hw2, hbL]; exact ints_lit w1 [10, 10, 2, 3, 5, 7, 11] 7 rfl (by omega))
  have hbg : bL ≠ g := by have := HS1.out.g; omega
  rw [← hw2, ← hbL]
  clear hw2 hbL
  refine (spec_among g a n c l 0 (some ⟨bL, 0, none⟩) 7 7 [10, 10, 2, 3, 5, 7, 11] w2 (HS1.out.ext hx2) (by omega) (by omega) HI2.out (fun x hx => by cases hx; exact hbg) (by omega) (by omega)).mono ?_
  rintro e w3 ⟨bs, k3, rfl, hbs, hs3, hk3, hk3', ht3⟩
  have HBs := Lib.hid hbs
  have HS3 := Lib.hid hs3
  have HZ3 := Lib.hid ((HZ1.out.ext hx2).touch ht3 hq1g)
  have hxw3 : Ext w w3 := ext_touch (hxw1.trans hx2) ht3 hgz
  have hbs2 : 2 ≤ bs ∧ bs ≤ 11 := by simp at hbs; omega
  clear hbs hs3 ht3 hx2 HI2 hbg HS1 HZ1 hxw1 hxz HZ
  go_upto_if 15 with ((go_at_call 31; (with_reducible refine (one_b g a n c l k3 3 w3 HS3.out (by omega) (by omega) (by omega)).mono ?_); rintro e w4 ⟨yes, k4, rfl, hs4, hk4, hk4', ht4⟩))
  have HS4 := Lib.hid hs4
  have HZ4 := Lib.hid (HZ3.out.touch ht4 hq1g)
  have hxw4 : Ext w w4 := ext_touch hxw3 ht4 hgz
  clear hs4 ht4 HS3 HZ3 hxw3
  go_cut [5] from 16 to 18 (fun v5 wx => ModCut q1 g a n c l w v5 wx)
  case first =>
    cases yes
    · go_wp2_with fail
      go_meet
      exact ⟨bs, k4, rfl, hbs2.1, by omega, HS4.out, by omega, by omega, HZ4.out, hxw4⟩
    · go_wp2_with ((go_at_call 32; (with_reducible refine (pick_b g a n c l k4 12 w4 HS4.out (by omega) (by omega) (by omega)).mono ?_); rintro e w5 ⟨x, k5, rfl, hx0, hx1, hs5, hk5, hk5', ht5⟩))
      go_meet
      exact ⟨2 + x, k5, by go_num, by omega, by omega, hs5, by omega, by omega, HZ4.out.touch ht5 hq1g, ext_touch hxw4 ht5 hgz⟩
  case rest =>
    obtain ⟨m, k5, rfl, hm2, hm13, hs5, hk5, hk5', hz5, hxw5⟩ := hcut
    have HS5 := Lib.hid hs5
    have HZ5 := Lib.hid hz5
    clear hs5 hz5 HS4 HZ4 hxw4
    generalize wc = w5 at *
    go_wp2_with ((go_at_call 32; (with_reducible refine (pick_b g a n c l k5 m w5 HS5.out (by omega) (by omega) (by omega)).mono ?_); rintro e w6 ⟨tg, k6, rfl, ht0, ht1, hs6, hk6, hk6', ht6⟩; have HS6 := Lib.hid hs6; have HZ6 := Lib.hid (HZ5.out.touch ht6 hq1g); have hxw6 : Ext w w6 := ext_touch hxw5 ht6 hgz; clear hs6 ht6))
    obtain ⟨q2, hq2⟩ : ∃ q, q = w6.heap.size := ⟨_, rfl⟩
    obtain ⟨w7, hw7⟩ : ∃ W, W = w6.alloc (.cells #[.int .i64 bs, .int .i64 m, .int .i64 tg, .slice none 0 0] 26) := ⟨_, rfl⟩
    have hx7 : Ext w6 w7 := by rw [hw7]; exact (by repeat (first | (with_reducible exact Ext.refl _) | (with_reducible refine Ext.drewN ?_ _) | (with_reducible refine Ext.drew ?_) | (with_reducible refine Ext.alloc ?_ _) | ((with_reducible refine Ext.setCell ?_ ?_ _); rotate_left; focus (first | (simp; done) | (simp; omega) | omega)) | assumption | (with_reducible refine Ext.trans ?_ (by assumption))))
    have HQ7 := Lib.hid (show SAt w7 q2 26 #[.int .i64 bs, .int .i64 m, .int .i64 tg, .slice none 0 0] by rw [hw7, hq2]; exact SAt.new' _ _ _ rfl)
    have HZ7 := Lib.hid (HZ6.out.ext hx7)
    have HS7 := Lib.hid (HS6.out.ext hx7)
    have hxw7 : Ext w w7 := hxw6.trans hx7
    have hg2 : g < q2 := by have := HS6.out.g; omega
    have h12 : q1 ≠ q2 := by have := HZ6.out.lt; omega
    rw [← hw7, ← hq2]
    clear hw7 hq2 hx7 HZ6 HS6 hxw6 HZ5 HS5 hxw5
    refine (pick_b g a n c l k6 4 w7 HS7.out (by omega) (by omega) (by omega)).mono ?_
    rintro e w8 ⟨N0, k8, rfl, hN0, hN1, hs8, hk8, hk8', ht8⟩
    obtain ⟨N, hN⟩ : ∃ N : Nat, 1 + N0 = (N : Int) := Int.eq_ofNat_of_zero_le (by omega)
    have hN4 : 1 ≤ N ∧ N ≤ 4 := by omega
    have HS8 := Lib.hid hs8
    have HQ8 := Lib.hid (HQ7.out.touch ht8 (by omega))
    have HZ8 := Lib.hid (HZ7.out.touch ht8 hq1g)
    have hxw8 : Ext w w8 := ext_touch hxw7 ht8 hgz
    have HBw := Lib.hid (show IntKind.i64.wrap (1 + N0) = (N : Int) by rw [hN]; simp [IntKind.wrap, IntKind.bits, IntKind.signed]; omega)
    clear hs8 ht8 HQ7 HZ7 HS7 hxw7
    obtain ⟨B, hB⟩ : ∃ B, B = w8.heap.size := ⟨_, rfl⟩
    have hgB : g < B := by have := HS8.out.g; omega
    have hB0 : w.heap.size ≤ B := by have := hxw8.le; omega
    have hB8 : B ≤ w8.heap.size := by omega
    clear hB
    go_wp2_with fail
    go_loopw [7] (fun v7 wr => ∃ (j : Nat) (ra : Option Addr) (rc : Nat) (ws : List Int) (kk : Int), j ≤ N ∧ v7 = .int .i64 ((N : Int) - j) ∧ Hid (ws.length = j) ∧ Hid (∀ x ∈ ws, 0 ≤ x ∧ x < m) ∧ Hid (Own wr B 2 ra j rc (I ws)) ∧ Hid (SAt wr q2 26 #[.int .i64 bs, .int .i64 m, .int .i64 tg, .slice ra j rc]) ∧ Hid (SAt wr q1 26 #[.int .i64 0, .int .i64 0, .int .i64 0, .slice none 0 0]) ∧ Hid (SrcB wr g a n c l kk) ∧ 0 ≤ kk ∧ kk ≤ 10 + 2 * j ∧ B ≤ wr.heap.size ∧ Ext w wr) (fun v7 _ => (intOf v7).toNat)
    case atStart => exact ⟨0, none, 0, [], k8, Nat.zero_le _, by first | (simp; done) | (congr 1; omega), rfl, (fun x hx => by simp at hx), Own.nil _ _ _, HQ8.out, HZ8.out, HS8.out, by omega, by omega, hB8, hxw8⟩
    case round =>
      obtain ⟨j, ra, rc, ws, kk, hj, rfl, HL, HR, HO, HQ, HZr, HSr, hkk, hkk', hBr, hxr⟩ := hrel
      by_cases hlt : j < N
      · go_wp2
        obtain ⟨C0, hC0⟩ : ∃ C : World → Prop, C = fun w' => SAt w' q2 26 #[.int .i64 bs, .int .i64 m, .int .i64 tg, .slice ra j rc] := ⟨_, rfl⟩
        have hin : C0 wr.drew := by rw [hC0]; exact HQ.out.drew
        have hpk : ∀ z, SAt (World.pk C0 wr.drew z) q2 26 #[.int .i64 bs, .int .i64 m, .int .i64 tg, .slice ra j rc] := fun z => by have := pk_in hin z; rw [hC0] at this; rw [hC0]; exact this
        have k3 : ∀ z, (World.pk C0 wr.drew z).cell? ⟨q2, 3, none⟩ = some (.slice ra j rc) := fun z => (hpk z).cell 3 (by simp)
        have HPk := Lib.hid (pick_b g a n c l kk m wr.drew (HSr.out.ext ((Ext.refl _).drew)) (by omega) (by omega) (by omega))
        have Hhpk := Lib.hid hpk; clear hpk; have Hhin := Lib.hid hin; clear hin; have HhC0 := Lib.hid hC0; clear hC0
        refine wp_region_pk C0 8 Hhin.out rfl (by kernel_rfl) (by kernel_rfl) (by kernel_rfl) (by kernel_rfl) ?_
        simp only [List.take_succ_cons, List.take_zero, List.drop_succ_cons, List.drop_zero]
        (repeat (first | (refine mix_q rfl ?_; go_big_quiet_step (fail); refine wpQuiet_nil ?_; show wpMix _ _ _ _ _ _ _) | (refine mix_s rfl ?_; go_wp2_with (first
          | (go_at_call 32; (with_reducible refine HPk.out.mono ?_); rintro e w9 ⟨u, k9, rfl, hu0, hu1, hs9, hk9, hk9', ht9⟩; have HQ9 := Lib.hid ((HQ.out.ext ((Ext.refl _).drew)).touch ht9 (by omega)); have HZ9 := Lib.hid ((HZr.out.ext ((Ext.refl _).drew)).touch ht9 hq1g); have HS9 := Lib.hid hs9; have HO9 := Lib.hid (own_touch (HO.out.ext ((Ext.refl _).drew)) ht9 hgB); have hx9 : Ext w w9 := ext_touch (hxr.trans ((Ext.refl _).drew)) ht9 hgz; have hB9 : B ≤ w9.heap.size := Nat.le_trans hBr (show wr.drew.heap.size ≤ w9.heap.size from ht9.size); clear hs9 ht9)
          | (at_builtin; refine law_append1 w9 rfl _ _ 24 rfl 2 (.int .i64 0) 8 und_int64s info_int64 rfl B ra j rc _ _ rfl rfl (by simp [Act.eval, go_sem]) HO9.out hB9 (by omega) (by omega) ?_; intro ra' rc' w10 ho10 hb10 hg10; have HO10 := Lib.hid ho10; have HQ10 := Lib.hid (HQ9.out.grown hg10 (row_ne_s (HO9.out.ne_s HQ9.out (by decide)))); have HZ10 := Lib.hid (HZ9.out.grown hg10 (row_ne_s (HO9.out.ne_s HZ9.out (by decide)))); have HS10 := Lib.hid (HS9.out.below hb10 hgB); have hx10 : Ext w w10 := Ext.below hx9 (Below.mono hb10 hB0); have hB10 : B ≤ w10.heap.size := Nat.le_trans hB9 hg10.size; clear hb10 hg10 ho10)); first | refine ⟨pk_of (by rw [HhC0.out]; exact HQ10.out), ?_⟩ | refine ⟨rfl, rfl, pk_of (by rw [HhC0.out]; exact HQ10.out), ?_⟩ | refine ⟨pk_of (by rw [HhC0.out]; exact HQ9.out), ?_⟩ | refine ⟨rfl, rfl, pk_of (by rw [HhC0.out]; exact HQ9.out), ?_⟩ | refine ⟨pk_of (by rw [HhC0.out]; exact HQ9.out.alloc _), ?_⟩ | refine ⟨rfl, rfl, pk_of (by rw [HhC0.out]; exact HQ9.out.alloc _), ?_⟩)))
        refine mix_nil ?_
        have c3 := HQ10.out.cell 3 (by simp)
        have fr := HQ10.out.frozen 3
        have hlt10 := HQ10.out.lt
        try simp only [List.getElem_toArray, List.getElem_cons_succ, List.getElem_cons_zero] at c3
        go_wp2
        have hq20 : B ≤ w10.heap.size := hB10
        exact ⟨⟨j + 1, ra', rc', ws ++ [u], k9, by omega, by congr 1; omega, by rw [Hid, List.length_append, HL.out]; rfl, (fun y hy => by rw [List.mem_append] at hy; rcases hy with hy | hy; exact HR.out y hy; simp only [List.mem_singleton] at hy; subst hy; omega), by rw [Hid, I_append]; exact HO10.out.setS HQ10.out (by decide) _ _, HQ10.out.set 3 (.slice ra' (j + 1) rc'), HZ10.out.other _ h12, HS10.out.below (Below.setCell (Below.refl q2 w10) (p := ⟨q2, 3, none⟩) (Nat.le_refl q2) _) hg2, by omega, by omega, by simpa [World.setCell] using hq20, hx10.setCell (by simp only; omega) _⟩, by simp [intOf]; omega⟩
      · obtain rfl : j = N := by omega
        have c0 := HQ.out.cell 0 (by simp)
        have c1 := HQ.out.cell 1 (by simp)
        have c2 := HQ.out.cell 2 (by simp)
        have c3 := HQ.out.cell 3 (by simp)
        have z0 := HZr.out.cell 0 (by simp)
        have z1 := HZr.out.cell 1 (by simp)
        have z2 := HZr.out.cell 2 (by simp)
        have z3 := HZr.out.cell 3 (by simp)
        have fr := fun j => HZr.out.frozen j
        have hlt := HZr.out.lt
        try simp only [List.getElem_toArray, List.getElem_cons_succ, List.getElem_cons_zero] at c0 c1 c2 c3 z0 z1 z2 z3
        go_wp2_with fail
        refine bodyPost_ret (v := .agg #[.int .i64 bs, .int .i64 m, .int .i64 tg, .slice ra j rc]) ?_ rfl ?_
        · simp [results, Tryz.results7, go_sem, z0, z1, z2, z3]
        · have o1 := (HO.out.setS HZr.out (by decide) 0 (.int .i64 bs))
          have s1 := HZr.out.set 0 (.int .i64 bs)
          have o2 := o1.setS s1 (by decide) 1 (.int .i64 m)
          have s2 := s1.set 1 (.int .i64 m)
          have o3 := o2.setS s2 (by decide) 2 (.int .i64 tg)
          have s3 := s2.set 2 (.int .i64 tg)
          have o4 := o3.setS s3 (by decide) 3 (.slice ra j rc)
          refine ⟨⟨bs, m, tg, ws⟩, ra, j, rc, rfl, o4.mono hB0, HL.out, HBs.out, hm2, hm13, ht0, (show tg < m by omega), by omega, by omega, HR.out, ?_⟩
          repeat (first | with_reducible exact hxr | with_reducible refine Ext.setCell ?_ hqz _)
end Go.Proofs.YtgnlabdikmbbgaaGreatDoor
