/- Walks: one of some numbers is drawn. -/
import Derived.Test.YtefkefmhfoedcaaDoorDrawD
import Derived.Test.YtefkefmhfoedcaaDoorUnd
import Derived.Test.YtefkefmhfoedcaaDoorWSum
import Derived.Test.YtefkefmhfoedcaaDoorText
import Derived.Deep.CutRange
namespace Go.Proofs.YtefkefmhfoedcaaDoor
set_option maxRecDepth 100000
open Go.RowKit

theorem Touch.toTwo {g : Nat} {w w' : World} (h : Touch g w w') : Two g g w w' := ⟨h.os, h.tape, h.output, h.size, fun k hk h1 _ => h.block k hk h1⟩
def RetAm (L : List Int) (g : Nat) (a : Option Addr) (n c : Nat) (l : List UInt8) (k : Int) (w : World) (e : Ending) (w' : World) : Prop :=
  ∃ x k' : Int, e = .returned (.int .i64 x) ∧ x ∈ L ∧ SrcB w' g a n c l k' ∧ k ≤ k' ∧ k' ≤ k + 2 ∧ Touch g w w'
set_option maxHeartbeats 2000000 in
theorem spec_among (g : Nat) (a : Option Addr) (n c : Nat) (l : List UInt8) (k : Int) (la : Option Addr) (m lc : Nat) (L : List Int) (w : World) (h : SrcB w g a n c l k) (hk : 0 ≤ k) (hk2 : k ≤ 999999999) (hL : Ints w la m lc L) (hne : ∀ x, la = some x → x.block ≠ g) (hm : 1 ≤ m) (hm2 : m ≤ 1048576) :
    Calls Tryd.prog 43 #[.pointer (some ⟨g, 0, none⟩), .slice la m lc] w (RetAm L g a n c l k w) := by
  have HP := Lib.hid (pick_b g a n c l k m w h hk hk2 (by omega))
  have HL := Lib.hid hL
  have HN := Lib.hid hne
  have HLn := Lib.hid hL.len
  clear h hL hne
  go_enter Tryd.func43, Tryd.ntmps43
  go_wp2_with ((with_reducible refine HP.out.mono ?_); rintro e w6 ⟨x, k6, rfl, x0, x1, hs6, k60, k61, hy6⟩; have hxm : x < m := (by omega); obtain ⟨i, rfl⟩ := Int.eq_ofNat_of_zero_le x0; have him : i < m := (by omega); have HS6 := Lib.hid hs6; have HT6 := Lib.hid hy6; obtain ⟨bq, oq, hixq, hcellq⟩ := (HL.out.two hy6.toTwo (fun x hx => ⟨HN.out x hx, HN.out x hx⟩)).ix (P := Tryd.prog) 65 2 und_int64s cell_int64; have hx6 : Ext w6 w6 := Ext.refl _; clear hs6 hy6)
  go_ret
  exact ⟨_, k6, rfl, gi_mem (by rw [HLn.out]; exact him), HS6.out, k60, k61, HT6.out⟩
end Go.Proofs.YtefkefmhfoedcaaDoor

/- Walks: digits that are drawn. -/
namespace Go.Proofs.YtefkefmhfoedcaaDoor
set_option maxRecDepth 100000
open Go.RowKit

def RetDigs (b : Int) (m g : Nat) (a : Option Addr) (n c : Nat) (l : List UInt8) (k : Int) (w : World) (e : Ending) (w' : World) : Prop :=
  ∃ (ra : Option Addr) (rc : Nat) (ds : List Int) (k' : Int), e = .returned (.slice ra m rc) ∧ Own w' w.heap.size 2 ra m rc (I ds) ∧ ds.length = m ∧ (∀ x ∈ ds, 0 ≤ x ∧ x < b) ∧ SrcB w' g a n c l k' ∧ k ≤ k' ∧ k' ≤ k + 2 * m ∧ Touch g w w'
theorem own_touch {w w' : World} {B g : Nat} {E : TypeId} {a : Option Addr} {n c : Nat} {vs : List Value} (h : Own w B E a n c vs) (ht : Touch g w w') (hg : g < B) : Own w' B E a n c vs := Own.keepB h (ht.keepB hg (Nat.le_refl _))
set_option maxHeartbeats 2000000 in
theorem spec_drawDigs (g : Nat) (a : Option Addr) (n c : Nat) (l : List UInt8) (k b : Int) (m : Nat) (w : World) (h : SrcB w g a n c l k) (hk : 0 ≤ k) (hk2 : k ≤ 99999999) (hb : 2 ≤ b) (hb2 : b ≤ 36) (hm : m ≤ 20) :
    Calls Tryd.prog 27 #[.pointer (some ⟨g, 0, none⟩), .int .i64 b, .int .i64 m] w (RetDigs b m g a n c l k w) := by
  have HS := Lib.hid h
  have hg := h.g
  clear h
  go_enter Tryd.func27, Tryd.ntmps27
  go_wp2_with fail
  go_loopw [2, 7] (fun v2 v7 wr => ∃ (j : Nat) (ra : Option Addr) (rc : Nat) (ds : List Int) (k' : Int), j ≤ m ∧ v2 = .int .i64 ((m : Int) - j) ∧ v7 = .slice ra j rc ∧ Hid (Own wr w.heap.size 2 ra j rc (I ds)) ∧ Hid (ds.length = j) ∧ Hid (∀ x ∈ ds, 0 ≤ x ∧ x < b) ∧ Hid (SrcB wr g a n c l k') ∧ k ≤ k' ∧ k' ≤ k + 2 * j ∧ Touch g w wr) (fun v2 _ _ => (intOf v2).toNat)
  case atStart => exact ⟨0, _, _, [], k, Nat.zero_le _, by simp, rfl, Own.lit0 _ _, rfl, (fun x hx => by simp at hx), HS.out.ext ((Ext.refl _).alloc _), Int.le_refl _, by simp, (Touch.refl g w).ext ((Ext.refl _).alloc _)⟩
  case round =>
    obtain ⟨j, ra, rc, ds, k', hj, rfl, rfl, HO, HL, HB, HSr, hk3, hk4, ht⟩ := hrel
    have hszr := ht.size
    by_cases hlt : j < m
    · have HP := Lib.hid (pick_b g a n c l k' b _ HSr.out (by omega) (by omega) (by omega))
      go_wp2_with (first | (at_builtin; refine law_append1 _ rfl _ _ 65 rfl 2 (.int .i64 0) 8 und_int64s info_int64 rfl w.heap.size ra j rc _ _ rfl rfl rfl HO6.out hsz6 (by omega) (by omega) ?_; intro ra' rc' w7 ho7 hb7 _; have HO7 := Lib.hid ho7; have HS7 := Lib.hid (HS6.out.below hb7 hg); have ht7 : Touch g w w7 := ht6.below hb7 (Nat.le_refl _); clear ho7 hb7) | ((with_reducible refine HP.out.mono ?_); rintro e w6 ⟨x, k6, rfl, x0, x1, hs6, k60, k61, hy6⟩; have HS6 := Lib.hid hs6; have ht6 : Touch g w w6 := ht.trans hy6; have hsz6 := ht6.size; have HO6 := Lib.hid (own_touch HO.out hy6 hg); clear hs6))
      exact ⟨⟨j + 1, ra', rc', ds ++ [x], k6, by omega, by congr 1; omega, rfl, by rw [Hid, I_append]; exact HO7.out, by rw [Hid, List.length_append, HL.out]; rfl, (fun y hy => by rw [List.mem_append] at hy; rcases hy with hy | hy; exact HB.out y hy; simp only [List.mem_singleton] at hy; subst hy; omega), HS7.out, by omega, by omega, ht7⟩, by simp [intOf] <;> omega⟩
    · obtain rfl : j = m := by omega
      go_wp2_with fail
      go_ret
      exact ⟨ra, rc, ds, k', rfl, HO.out, HL.out, HB.out, HSr.out, hk3, hk4, ht⟩
end Go.Proofs.YtefkefmhfoedcaaDoor

/- Walks: a weighting that is drawn. -/
namespace Go.Proofs.YtefkefmhfoedcaaDoor
set_option maxRecDepth 100000
open Go.RowKit

theorem ints_lit (w : World) (l : List Int) (n : Nat) (hl : l.length = n) (hn : n ≤ 1000) : Ints (w.alloc (.cells (I l).toArray 2)) (some ⟨w.heap.size, 0, none⟩) n n l := by
  subst hl
  have h := World.ownsRow_lit (e := 2) (size := 1) (base := w.heap.size) w (I l).toArray l.length (Nat.le_refl _) (by unfold maxLen; omega) (by simp [I_len])
  have h2 : Own (w.alloc (.cells (I l).toArray 2)) w.heap.size 2 (some ⟨w.heap.size, 0, none⟩) l.length l.length (I l).toArray.toList := h
  exact h2.sl
theorem ext_touch {w a b : World} {g : Nat} (h : Ext w a) (ht : Touch g a b) (hg : w.heap.size ≤ g) : Ext w b :=
  h.below ⟨ht.os, ht.tape, ht.output, ht.size, fun i hi => ht.block i (Nat.lt_of_lt_of_le hi h.size) (by omega)⟩
/-- a weighting whose weights are the call's own -/
def RetWtO (w : World) (e : Ending) (w' : World) : Prop :=
  ∃ (X : Wt) (a : Option Addr) (n c : Nat), e = .returned (.agg #[.int .i64 X.base, .int .i64 X.modulus, .int .i64 X.target, .slice a n c]) ∧ Own w' w.heap.size 2 a n c (I X.weights) ∧ X.weights.length = n ∧
    X.base ∈ ([10, 10, 2, 3, 5, 7, 11] : List Int) ∧ 2 ≤ X.modulus ∧ X.modulus ≤ 13 ∧ 0 ≤ X.target ∧ X.target < X.modulus ∧ 1 ≤ n ∧ n ≤ 4 ∧ (∀ x ∈ X.weights, 0 ≤ x ∧ x < X.modulus) ∧ Ext w w'
/-- where the ways meet: the modulus -/
def ModCut (q1 g : Nat) (a : Option Addr) (n c : Nat) (l : List UInt8) (w : World) (v : Value) (W : World) : Prop :=
  ∃ m k : Int, v = .int .i64 m ∧ 2 ≤ m ∧ m ≤ 13 ∧ SrcB W g a n c l k ∧ 0 ≤ k ∧ k ≤ 6 ∧ SAt W q1 67 #[.int .i64 0, .int .i64 0, .int .i64 0, .slice none 0 0] ∧ Ext w W
end Go.Proofs.YtefkefmhfoedcaaDoor
