/- Walks: choices: a source and its bytes together. -/
import Derived.Test.YtcdoanookiimaaaDraw
namespace Go.Proofs.Ytcdoanookiimaaa
set_option maxRecDepth 100000
open Go.RowKit

theorem Touch.ext {g : Nat} {a w w' : World} (h : Touch g a w) (k : Ext w w') : Touch g a w' :=
  ⟨(Below.os k).trans h.os, (Below.tape k).trans h.tape, (Below.output k).trans h.output, Nat.le_trans h.size k.le, fun i hi hne => (Below.block k i (Nat.lt_of_lt_of_le hi h.size)).trans (h.block i hi hne)⟩
theorem Touch.below {g B : Nat} {a w w' : World} (h : Touch g a w) (k : Below B w w') (hB : a.heap.size ≤ B) : Touch g a w' :=
  ⟨(Below.os k).trans h.os, (Below.tape k).trans h.tape, (Below.output k).trans h.output, Nat.le_trans h.size k.size, fun i hi hne => (Below.block k i (Nat.lt_of_lt_of_le hi hB)).trans (h.block i hi hne)⟩
/-- block g holds a source over the bytes l, which lie ahead of it -/
structure SrcB (w : World) (g : Nat) (a : Option Addr) (n c : Nat) (l : List UInt8) (k : Int) : Prop where
  s : Src w g a n c k
  b : Bytes w a n c l
  lt : 0 < n → ∀ x, a = some x → x.block < g
  nn : n ≤ 4611686018427387904
theorem SrcB.g {w : World} {g : Nat} {a : Option Addr} {n c : Nat} {l : List UInt8} {k : Int} (h : SrcB w g a n c l k) : g < w.heap.size := World.block_lt_of_cell? w ⟨g, 0, none⟩ h.s.c0
theorem SrcB.below {w w' : World} {g B : Nat} {a : Option Addr} {n c : Nat} {l : List UInt8} {k : Int} (h : SrcB w g a n c l k) (hb : Below B w w') (hB : g < B) : SrcB w' g a n c l k := by
  refine ⟨h.s.below hb hB, ⟨Sl.len h.b, Sl.cap h.b, fun h0 => ?_⟩, h.lt, h.nn⟩
  obtain ⟨b1, off, ha, hc⟩ := Sl.cells h.b h0
  refine ⟨b1, off, ha, fun k hk => (hb.cell (p := ⟨b1, off + k, none⟩) ?_).trans (hc k hk)⟩
  have := h.lt h0 _ ha
  simp only at this ⊢
  omega
theorem SrcB.ext {w w' : World} {g : Nat} {a : Option Addr} {n c : Nat} {l : List UInt8} {k : Int} (h : SrcB w g a n c l k) (hx : Ext w w') : SrcB w' g a n c l k := h.below hx h.g
theorem SrcB.to {w w' : World} {g : Nat} {a : Option Addr} {n c : Nat} {l : List UInt8} {k k' : Int} (h : SrcB w g a n c l k) (ht : Touch g w w') (hs : Src w' g a n c k') : SrcB w' g a n c l k' :=
  ⟨hs, touch_bytes h.b ht (fun h0 x hx => by have := h.lt h0 x hx; omega), h.lt, h.nn⟩
/-- a number below m, chosen -/
def RetPk (g : Nat) (a : Option Addr) (n c : Nat) (l : List UInt8) (k m : Int) (w : World) (e : Ending) (w' : World) : Prop :=
  ∃ x k' : Int, e = .returned (.int .i64 x) ∧ 0 ≤ x ∧ (x < m ∨ (x = 0 ∧ m ≤ 1)) ∧ SrcB w' g a n c l k' ∧ k ≤ k' ∧ k' ≤ k + 2 ∧ Touch g w w'
theorem pick_b (g : Nat) (a : Option Addr) (n c : Nat) (l : List UInt8) (k m : Int) (w : World) (h : SrcB w g a n c l k) (hk : 0 ≤ k) (hk2 : k ≤ 999999999) (hm : m ≤ 4611686018427387904) :
    Calls Try.prog 75 #[.pointer (some ⟨g, 0, none⟩), .int .i64 m] w (RetPk g a n c l k m w) :=
  (src_pick g a n c l k m w h.s h.b (fun h0 x hx => by have := h.lt h0 x hx; omega) hk hk2 h.nn hm).mono fun _ _ ⟨x, k', h1, h2, h3, h4, h5, h6, h7⟩ => ⟨x, k', h1, h2, h3, h.to h7 h4, h5, h6, h7⟩
/-- yes or no, chosen -/
def RetOne (g : Nat) (a : Option Addr) (n c : Nat) (l : List UInt8) (k : Int) (w : World) (e : Ending) (w' : World) : Prop :=
  ∃ (x : Bool) (k' : Int), e = .returned (.bool x) ∧ SrcB w' g a n c l k' ∧ k ≤ k' ∧ k' ≤ k + 2 ∧ Touch g w w'
set_option maxHeartbeats 400000 in
theorem one_b (g : Nat) (a : Option Addr) (n c : Nat) (l : List UInt8) (k m : Int) (w : World) (h : SrcB w g a n c l k) (hk : 0 ≤ k) (hk2 : k ≤ 999999999) (hm : m ≤ 4611686018427387904) :
    Calls Try.prog 76 #[.pointer (some ⟨g, 0, none⟩), .int .i64 m] w (RetOne g a n c l k w) := by
  have HP := Lib.hid (pick_b g a n c l k m w h hk hk2 hm)
  clear h
  go_enter Try.func76, Try.ntmps76
  go_wp2_with (refine HP.out.mono ?_; rintro e w1 ⟨x, k1, rfl, hx0, hx1, hs, hk1, hk2, ht⟩)
  go_ret
  exact ⟨_, k1, rfl, hs, hk1, hk2, ht⟩
/-- a source of one's own -/
def RetFrom (a : Option Addr) (n c : Nat) (l : List UInt8) (w : World) (e : Ending) (w' : World) : Prop :=
  e = .returned (.pointer (some ⟨w.heap.size, 0, none⟩)) ∧ SrcB w' w.heap.size a n c l 0 ∧ Ext w w' ∧ w'.heap.size = w.heap.size + 1
theorem from_b (a : Option Addr) (n c : Nat) (l : List UInt8) (w : World) (h : Bytes w a n c l) (hn : n ≤ 4611686018427387904) : Calls Try.prog 53 #[.slice a n c] w (RetFrom a n c l w) :=
  (src_from a n c w).mono fun _ _ ⟨h1, h2, h3, h4⟩ => ⟨h1, ⟨h2, h.ext h3, bytes_old h, hn⟩, h3, h4⟩
end Go.Proofs.Ytcdoanookiimaaa
