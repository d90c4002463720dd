/- Walks: undetected errors, in the program. -/
import Derived.Test.YtbcfbkhbangeoaaBegs
import Derived.Test.YtbcfbkhbangeoaaChgs
import Derived.Test.YtbcfbkhbangeoaaDraw
namespace Go.Proofs.Ytbcfbkhbangeoaa
set_option maxRecDepth 100000
open Go.RowKit

/-- two blocks apart, nothing that was there has changed -/
structure Two (a b : Nat) (w w' : World) : Prop where
  os : w'.os = w.os
  tape : w'.tape = w.tape
  output : w'.output = w.output
  size : w.heap.size ≤ w'.heap.size
  block : ∀ k, k < w.heap.size → k ≠ a → k ≠ b → w'.heap[k]? = w.heap[k]?
section
variable {p q : Nat} {a b c : World}
theorem Two.refl (p q : Nat) (w : World) : Two p q w w := ⟨rfl, rfl, rfl, Nat.le_refl _, fun _ _ _ _ => rfl⟩
theorem Two.trans (h : Two p q a b) (k : Two p q b c) : Two p q a c :=
  ⟨k.os.trans h.os, k.tape.trans h.tape, k.output.trans h.output, Nat.le_trans h.size k.size, fun i hi h1 h2 => (k.block i (Nat.lt_of_lt_of_le hi h.size) h1 h2).trans (h.block i hi h1 h2)⟩
theorem Two.of_ext (h : Ext a b) : Two p q a b := ⟨Below.os h, Below.tape h, Below.output h, h.le, fun k hk _ _ => Below.block h k hk⟩
theorem Two.ext (h : Two p q a b) (k : Ext b c) : Two p q a c := h.trans (Two.of_ext k)
theorem Two.set1 (p q : Nat) (w : World) (u : Value) : Two p q w (w.setCell ⟨p, 0, none⟩ u) := ⟨rfl, rfl, rfl, by simp [World.setCell], fun i _ h1 _ => Below.heap_setCell _ _ _ _ h1⟩
theorem Two.set2 (p q : Nat) (w : World) (u : Value) : Two p q w (w.setCell ⟨q, 0, none⟩ u) := ⟨rfl, rfl, rfl, by simp [World.setCell], fun i _ _ h1 => Below.heap_setCell _ _ _ _ h1⟩
theorem Two.drew (h : Two p q a b) : Two p q a b.drew := ⟨h.os, h.tape, h.output, h.size, h.block⟩
theorem Ext.two {B0 : World} (h : Ext B0 a) (k : Two p q a b) (hp : B0.heap.size ≤ p) (hq : B0.heap.size ≤ q) : Ext B0 b :=
  h.below ⟨k.os, k.tape, k.output, k.size, fun i hi => k.block i (Nat.lt_of_lt_of_le hi h.size) (by omega) (by omega)⟩
theorem VarAt.two {x : Nat} {T : TypeId} {v : Value} (h : VarAt a x T v) (k : Two p q a b) (hp : x ≠ p) (hq : x ≠ q) : VarAt b x T v := (k.block x h.lt hp hq).trans h
theorem Ints.two {ad : Option Addr} {n m : Nat} {l : List Int} (h : Ints a ad n m l) (k : Two p q a b) (hp : ∀ x, ad = some x → x.block ≠ p ∧ x.block ≠ q) : Ints b ad n m l := by
  refine ⟨Sl.len h, Sl.cap h, fun h0 => ?_⟩
  obtain ⟨b1, off, ha, hc⟩ := Sl.cells h h0
  have hn := hp _ ha
  exact ⟨b1, off, ha, fun k' hk => (World.cell?_of_block (w := a) (k.block b1 (World.block_lt_of_cell? a _ (hc k' hk)) hn.1 hn.2)).trans (hc k' hk)⟩
theorem Two.keepB {lo hi : Nat} (k : Two p q a b) (hp : p < lo) (hq : q < lo) (hh : hi ≤ a.heap.size) : KeepB lo hi a b := fun x h1 h2 => k.block x (by omega) (by omega) (by omega)
end
set_option maxHeartbeats 400000 in
theorem impl_errLen0 (w : World) : Calls Try.prog 76 #[.int .i64 0] w (Same (.int .i64 1) w) := by
  go_enter Try.func76, Try.ntmps76
  go_wp2
  go_ret
  exact ⟨rfl, rfl⟩
end Go.Proofs.Ytbcfbkhbangeoaa
