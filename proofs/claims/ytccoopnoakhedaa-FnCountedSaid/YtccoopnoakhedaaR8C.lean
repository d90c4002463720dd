/- Walks: what the laws choose out of bytes. -/
import Derived.Test.YtccoopnoakhedaaDraw
import Derived.Test.YtccoopnoakhedaaRankM
import Derived.Test.YtccoopnoakhedaaStrs
import Derived.Test.YtccoopnoakhedaaDrawD
import Derived.Test.YtccoopnoakhedaaDigA
namespace Go.Proofs.Ytccoopnoakhedaa
set_option maxRecDepth 100000
open Go.RowKit

/-- the number that a law chooses -/
def r8 (l : List UInt8) (i n : Int) : Int := if n ≤ 1 ∨ (l.length : Int) ≤ i then 0 else ((l.getD i.toNat 0).toNat : Int) % n
theorem r8_bd (l : List UInt8) (i n : Int) (hn : 1 ≤ n) : 0 ≤ r8 l i n ∧ r8 l i n < n := by
  unfold r8
  split
  · omega
  · exact ⟨Int.emod_nonneg _ (by omega), Int.emod_lt_of_pos _ (by omega)⟩
set_option maxHeartbeats 400000 in
theorem laws_r8 (a : Option Addr) (len c : Nat) (l : List UInt8) (i n : Int) (w : World) (hv : Bytes w a len c l) (_hl : len ≤ 4611686018427387904) (hi : 0 ≤ i) (hi2 : i ≤ 1000000) :
    Calls Try.prog 6 #[.slice a len c, .int .i64 i, .int .i64 n] w (Same (.int .i64 (r8 l i n)) w) := by
  obtain ⟨k, rfl⟩ := Int.eq_ofNat_of_zero_le hi
  by_cases h1 : n ≤ 1
  · have HB := Lib.hid (show r8 l k n = 0 by simp [r8, h1])
    clear hv
    go_enter Try.func6, Try.ntmps6
    go_wp2
    go_ret
    exact ⟨ri HB.out.symm, rfl⟩
  · by_cases h2 : k < len
    · obtain ⟨b, off, hia, x, hx, hxe, hc⟩ := hv.at 22 5 und_bytes cell_uint8 k h2 .i64
      have HB := Lib.hid (show r8 l k n = (x : Int) % n by rw [r8, if_neg (by rw [hv.len]; omega), hxe, Int.toNat_natCast])
      clear hv hxe
      go_enter Try.func6, Try.ntmps6
      go_wp2
      go_ret
      exact ⟨ri HB.out.symm, rfl⟩
    · have HB := Lib.hid (show r8 l k n = 0 by rw [r8, if_pos (by rw [hv.len]; omega)])
      clear hv
      go_enter Try.func6, Try.ntmps6
      go_wp2
      go_ret
      exact ⟨ri HB.out.symm, rfl⟩
set_option maxHeartbeats 400000 in
theorem laws_r8Long (a a' : Option Addr) (n c n' c' : Nat) (w : World) (hn : n ≤ 9223372036854775807) (hn' : n' ≤ 9223372036854775807) :
    Calls Try.prog 4 #[.slice a n c, .slice a' n' c'] w (Same (.bool (decide (48 < n ∨ 48 < n'))) w) := by
  by_cases h : 48 < n
  · go_enter Try.func4, Try.ntmps4
    go_wp2
    go_ret
    exact ⟨rb (by simp), rfl⟩
  · go_enter Try.func4, Try.ntmps4
    go_wp2
    go_ret
    exact ⟨rb (Bool.eq_iff_iff.2 (by simp; omega)), rfl⟩
end Go.Proofs.Ytccoopnoakhedaa

/- Walks: what the laws choose and how they name symbols. -/
namespace Go.Proofs.Ytccoopnoakhedaa
set_option maxRecDepth 100000
open Go.RowKit

theorem sym_all : ∀ m : Fin 36, ((⟨#[48, 49, 50, 51, 52, 53, 54, 55, 56, 57, 65, 66, 67, 68, 69, 70, 71, 72, 73, 74, 75, 76, 77, 78, 79, 80, 81, 82, 83, 84, 85, 86, 87, 88, 89, 90]⟩ : ByteArray).extract m.val (m.val + 1)) = textOf [(m.val : Int)] := by decide +kernel
theorem sym_at (d : Nat) (h : d ≤ 35) : ((⟨#[48, 49, 50, 51, 52, 53, 54, 55, 56, 57, 65, 66, 67, 68, 69, 70, 71, 72, 73, 74, 75, 76, 77, 78, 79, 80, 81, 82, 83, 84, 85, 86, 87, 88, 89, 90]⟩ : ByteArray).extract d (d + 1)) = textOf [(d : Int)] := sym_all ⟨d, by omega⟩
theorem rs {a b : ByteArray} (h : a = b) : Ending.returned (.string a) = .returned (.string b) := by rw [h]
end Go.Proofs.Ytccoopnoakhedaa

/- Walks: the chain that a law chooses. -/
namespace Go.Proofs.Ytccoopnoakhedaa
set_option maxRecDepth 100000
open Go.RowKit

/-- a valid chain with few words -/
def RetR8Ch (w : World) (e : Ending) (w' : World) : Prop :=
  ∃ (D : Ch) (ad : Option Addr) (x cc : Nat) (pd : Option Addr) (p pc : Nat), e = .returned (.agg #[.int .i64 D.base, .int .i64 D.states, .int .i64 D.start, .int .i64 D.fin, .slice ad x cc, .slice pd p pc]) ∧ DrawnCh D ∧ D.base ^ D.places.length ≤ 256 ∧ D.places.length = p ∧ x ≤ 3 ∧ ChIn w' D ad x cc pd p pc ∧ Ext w w'
theorem pow_few {b : Int} {p : Nat} (h : 2 ≤ b ∧ b ≤ 4 ∧ p ≤ 4 ∨ b = 10 ∧ p ≤ 2) : b ^ p ≤ 256 := by
  have h1 : (b = 2 ∨ b = 3 ∨ b = 4 ∨ b = 10) := by omega
  have h2 : p = 0 ∨ p = 1 ∨ p = 2 ∨ p = 3 ∨ p = 4 := by omega
  rcases h1 with rfl | rfl | rfl | rfl <;> rcases h2 with rfl | rfl | rfl | rfl | rfl <;> first | decide | omega
theorem few_words {D : Ch} (hok : OkCh D) (h : D.base ^ D.places.length ≤ 256) : (wordsA D).length ≤ 256 := by
  have h1 := wordsA_ends D
  have h2 := (ends_bd hok.b2 D.places.length 0 D.start).2
  omega
set_option maxHeartbeats 4000000 in
theorem spec_R8Chain (a : Option Addr) (n c : Nat) (l : List UInt8) (w : World) (h : Bytes w a n c l) (hn : n ≤ 1048576) : Calls Try.prog 5 #[.slice a n c] w (RetR8Ch w) := by
  have HB := Lib.hid h
  clear h
  go_enter Try.func5, Try.ntmps5
  go_wp2_with fail
  obtain ⟨wz, hwz⟩ : ∃ wz, wz = w.alloc (.cells #[.int .i64 0, .int .i64 0, .int .i64 0, .int .i64 0, .slice none 0 0, .slice none 0 0] 27) := ⟨_, rfl⟩
  have hxz : Ext w wz := by rw [hwz]; exact (by repeat (first | (with_reducible exact Ext.refl _) | (with_reducible refine Ext.drewN ?_ _) | (with_reducible refine Ext.drew ?_) | (with_reducible refine Ext.alloc ?_ _) | ((with_reducible refine Ext.setCell ?_ ?_ _); rotate_left; focus (first | (simp; done) | (simp; omega) | omega)) | assumption | (with_reducible refine Ext.trans ?_ (by assumption))))
  have HZ := Lib.hid (show SAt wz w.heap.size 27 #[.int .i64 0, .int .i64 0, .int .i64 0, .int .i64 0, .slice none 0 0, .slice none 0 0] by rw [hwz]; exact SAt.new' _ _ _ rfl)
  have hzs : wz.heap.size = w.heap.size + 1 := by rw [hwz]; simp
  rw [← hwz]
  clear hwz
  refine (from_b a n c l wz (HB.out.ext hxz) (by omega)).mono ?_
  rintro e w1 ⟨rfl, hs1, hx1, hz1⟩
  obtain ⟨g, hg⟩ : ∃ g, g = wz.heap.size := ⟨_, rfl⟩
  rw [← hg] at hs1 hz1 ⊢
  have HS1 := Lib.hid hs1
  have HX1 := Lib.hid (hxz.trans hx1)
  have HZ1 := Lib.hid (HZ.out.ext hx1)
  have hgw : w.heap.size < g := by omega
  have hle : w.heap.size ≤ g := by omega
  clear hs1 hx1 hg HZ HB hxz
  go_wp2_with fail
  refine (pick_b g a n c l 0 3 w1 HS1.out (by omega) (by omega) (by omega)).mono ?_
  rintro e w2 ⟨b0, k2, rfl, hb0, hb1, hs2, hk2, hk2', ht2⟩
  have HS2 := Lib.hid hs2
  have HX2 := Lib.hid (HX1.out.touch ht2 hle)
  have HZ2 := Lib.hid (HZ1.out.touch ht2 (by omega))
  clear hs2 ht2 HS1 HX1 HZ1
  go_wp2_with fail
  refine (pick_b g a n c l k2 4 w2 HS2.out (by omega) (by omega) (by omega)).mono ?_
  rintro e w3 ⟨p0, k3, rfl, hp0, hp1, hs3, hk3, hk3', ht3⟩
  have HS3 := Lib.hid hs3
  have HX3 := Lib.hid (HX2.out.touch ht3 hle)
  have HZ3 := Lib.hid (HZ2.out.touch ht3 (by omega))
  clear hs3 ht3 HS2 HX2 HZ2
  go_wp2_with fail
  refine (one_b g a n c l k3 4 w3 HS3.out (by omega) (by omega) (by omega)).mono ?_
  rintro e w4 ⟨yes, k4, rfl, hs4, hk4, hk4', ht4⟩
  have HS4 := Lib.hid hs4
  have HX4 := Lib.hid (HX3.out.touch ht4 hle)
  have HZ4 := Lib.hid (HZ3.out.touch ht4 (by omega))
  clear hs4 ht4 HS3 HX3 HZ3
  obtain ⟨b, hb⟩ : ∃ b : Nat, 2 + b0 = (b : Int) := Int.eq_ofNat_of_zero_le (by omega)
  obtain ⟨p, hp⟩ : ∃ p : Nat, 1 + p0 = (p : Int) := Int.eq_ofNat_of_zero_le (by omega)
  have HEND := Lib.hid (show ∀ (b p : Nat) (W5 W6 : World) (D : Ch) (ad : Option Addr) (x cc : Nat) (pd : Option Addr) (pc : Nat), True from fun _ _ _ _ _ _ _ _ _ _ => trivial)
  clear HEND
  cases yes
  · have hbp : 2 ≤ b ∧ b ≤ 4 ∧ 1 ≤ p ∧ p ≤ 4 := by omega
    have hfew : (2 ≤ (b : Int) ∧ (b : Int) ≤ 4 ∧ p ≤ 4 ∨ (b : Int) = 10 ∧ p ≤ 2) := by omega
    have HC := Lib.hid (spec_drawSized g a n c l k4 b p w4 HS4.out (by omega) (by omega) (by omega) (by omega) (by omega) (by omega))
    go_wp2_with fail
    obtain ⟨w5, hw5⟩ : ∃ W, W = w4 := ⟨_, rfl⟩
    have HX5 := Lib.hid (show Ext w w5 from by rw [hw5]; exact HX4.out)
    have HZ5 := Lib.hid (show SAt w5 w.heap.size 27 _ from by rw [hw5]; exact HZ4.out)
    rw [← hw5] at HC ⊢
    clear hw5
    refine HC.out.mono ?_
    rintro e w6 ⟨D, ad, x, cc, pd, pc, k6, rfl, hdr, hDb, hDp, hx3, hch, hs6, hk6, hk6', ht6⟩
    have HCH := Lib.hid hch
    have HDR := Lib.hid hdr
    have HX6 := Lib.hid (HX5.out.touch ht6 hle)
    have HZ6 := Lib.hid (HZ5.out.touch ht6 (by omega))
    have h56 : w5.heap.size ≤ w6.heap.size := ht6.size
    have hq5 : w.heap.size < w5.heap.size := HZ5.out.lt
    have HF := Lib.hid (show D.base ^ D.places.length ≤ 256 by rw [hDb, hDp]; exact pow_few hfew)
    have HDp := Lib.hid hDp
    have z0 := HZ6.out.cell 0 (by simp)
    have z1 := HZ6.out.cell 1 (by simp)
    have z2 := HZ6.out.cell 2 (by simp)
    have z3 := HZ6.out.cell 3 (by simp)
    have z4 := HZ6.out.cell 4 (by simp)
    have z5 := HZ6.out.cell 5 (by simp)
    have fr := fun j => HZ6.out.frozen j
    have hlt := HZ6.out.lt
    try simp only [List.getElem_toArray, List.getElem_cons_succ, List.getElem_cons_zero] at z0 z1 z2 z3 z4 z5
    clear hch hdr ht6 hs6 hDb hDp
    go_wp2
    refine bodyPost_ret (v := .agg #[.int .i64 D.base, .int .i64 D.states, .int .i64 D.start, .int .i64 D.fin, .slice ad x cc, .slice pd p pc]) ?_ rfl ?_
    · simp [results, Try.results5, go_sem, z0, z1, z2, z3, z4, z5]
    · have hk : ∀ W, Chg w.heap.size (w.heap.size + 1) w6 W → KeepB w5.heap.size w6.heap.size w6 W := fun W hc => KeepB.chg hc (Nat.le_refl _) (.inl hq5)
      refine ⟨D, ad, x, cc, pd, p, pc, rfl, HDR.out, HF.out, HDp.out, hx3, HCH.out _ (hk _ (by repeat (first | (with_reducible exact Chg.refl _ _ _) | (with_reducible assumption) | ((with_reducible refine Chg.trans ?_ (Chg.setP _ _ _ ?_ ?_)); rotate_left; (focus (first | (simp; done) | (simp; omega) | omega)); (focus (first | (simp; done) | (simp; omega) | omega))) | (with_reducible refine Chg.trans ?_ (Chg.ext (Ext.alloc (Ext.refl _) _) _ _)) | (with_reducible refine Chg.trans ?_ (Chg.ext (Ext.drew (Ext.refl _)) _ _)) | (with_reducible refine Chg.trans ?_ (Chg.ext (Ext.drewN (Ext.refl _) _) _ _))))), ?_⟩
      have hx6 := HX6.out
      exact (by repeat (first | (with_reducible exact Ext.refl _) | (with_reducible assumption) | (with_reducible refine Ext.drewN ?_ _) | (with_reducible refine Ext.drew ?_) | (with_reducible refine Ext.alloc ?_ _) | ((with_reducible refine Ext.setCell ?_ ?_ _); rotate_left; focus (first | (simp; done) | (simp; omega) | omega)) | (with_reducible refine Ext.trans ?_ (by with_reducible assumption))))
  · go_wp2_with fail
    refine (pick_b g a n c l k4 2 w4 HS4.out (by omega) (by omega) (by omega)).mono ?_
    rintro e w5 ⟨p2, k5, rfl, hp2, hp3, hs5, hk5, hk5', ht5⟩
    have HS5 := Lib.hid hs5
    have HX5 := Lib.hid (HX4.out.touch ht5 hle)
    have HZ5 := Lib.hid (HZ4.out.touch ht5 (by omega))
    clear hs5 ht5 HS4 HX4 HZ4 hb hp
    obtain ⟨pT, hp⟩ : ∃ pT : Nat, 1 + p2 = (pT : Int) := Int.eq_ofNat_of_zero_le (by omega)
    obtain ⟨bT, hb⟩ : ∃ bT : Nat, bT = 10 := ⟨_, rfl⟩
    have hfew : (2 ≤ (bT : Int) ∧ (bT : Int) ≤ 4 ∧ pT ≤ 4 ∨ (bT : Int) = 10 ∧ pT ≤ 2) := by omega
    have HC := Lib.hid (spec_drawSized g a n c l k5 bT pT w5 HS5.out (by omega) (by omega) (by omega) (by omega) (by omega) (by omega))
    rw [show (Value.int .i64 (bT : Int)) = .int .i64 10 by rw [hb]; rfl] at HC
    clear hb
    go_wp2_with fail
    refine HC.out.mono ?_
    rintro e w6 ⟨D, ad, x, cc, pd, pc, k6, rfl, hdr, hDb, hDp, hx3, hch, hs6, hk6, hk6', ht6⟩
    have HCH := Lib.hid hch
    have HDR := Lib.hid hdr
    have HX6 := Lib.hid (HX5.out.touch ht6 hle)
    have HZ6 := Lib.hid (HZ5.out.touch ht6 (by omega))
    have h56 : w5.heap.size ≤ w6.heap.size := ht6.size
    have hq5 : w.heap.size < w5.heap.size := HZ5.out.lt
    have HF := Lib.hid (show D.base ^ D.places.length ≤ 256 by rw [hDb, hDp]; exact pow_few hfew)
    have HDp := Lib.hid hDp
    have z0 := HZ6.out.cell 0 (by simp)
    have z1 := HZ6.out.cell 1 (by simp)
    have z2 := HZ6.out.cell 2 (by simp)
    have z3 := HZ6.out.cell 3 (by simp)
    have z4 := HZ6.out.cell 4 (by simp)
    have z5 := HZ6.out.cell 5 (by simp)
    have fr := fun j => HZ6.out.frozen j
    have hlt := HZ6.out.lt
    try simp only [List.getElem_toArray, List.getElem_cons_succ, List.getElem_cons_zero] at z0 z1 z2 z3 z4 z5
    clear hch hdr ht6 hs6 hDb hDp
    go_wp2
    refine bodyPost_ret (v := .agg #[.int .i64 D.base, .int .i64 D.states, .int .i64 D.start, .int .i64 D.fin, .slice ad x cc, .slice pd pT pc]) ?_ rfl ?_
    · simp [results, Try.results5, go_sem, z0, z1, z2, z3, z4, z5]
    · have hk : ∀ W, Chg w.heap.size (w.heap.size + 1) w6 W → KeepB w5.heap.size w6.heap.size w6 W := fun W hc => KeepB.chg hc (Nat.le_refl _) (.inl hq5)
      refine ⟨D, ad, x, cc, pd, pT, pc, rfl, HDR.out, HF.out, HDp.out, hx3, HCH.out _ (hk _ (by repeat (first | (with_reducible exact Chg.refl _ _ _) | (with_reducible assumption) | ((with_reducible refine Chg.trans ?_ (Chg.setP _ _ _ ?_ ?_)); rotate_left; (focus (first | (simp; done) | (simp; omega) | omega)); (focus (first | (simp; done) | (simp; omega) | omega))) | (with_reducible refine Chg.trans ?_ (Chg.ext (Ext.alloc (Ext.refl _) _) _ _)) | (with_reducible refine Chg.trans ?_ (Chg.ext (Ext.drew (Ext.refl _)) _ _)) | (with_reducible refine Chg.trans ?_ (Chg.ext (Ext.drewN (Ext.refl _) _) _ _))))), ?_⟩
      have hx6 := HX6.out
      exact (by repeat (first | (with_reducible exact Ext.refl _) | (with_reducible assumption) | (with_reducible refine Ext.drewN ?_ _) | (with_reducible refine Ext.drew ?_) | (with_reducible refine Ext.alloc ?_ _) | ((with_reducible refine Ext.setCell ?_ ?_ _); rotate_left; focus (first | (simp; done) | (simp; omega) | omega)) | (with_reducible refine Ext.trans ?_ (by with_reducible assumption))))
end Go.Proofs.Ytccoopnoakhedaa
