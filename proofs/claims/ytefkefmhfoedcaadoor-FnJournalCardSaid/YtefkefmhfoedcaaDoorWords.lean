/- Walks: bases, powers, words and their digits, in the program and in the reference. -/
import Derived.Test.YtefkefmhfoedcaaDoorW2
import Derived.Lib.Bytealg
namespace Go.Proofs.YtefkefmhfoedcaaDoor
set_option maxRecDepth 100000
open Go.RowKit

def baseB (b : Int) : Bool := inB b 2 36
theorem baseB_t {b : Int} (h : baseB b = true) : 2 ≤ b ∧ b ≤ 36 := inB_t.1 h

set_option maxHeartbeats 400000 in
theorem spec_base (b : Int) (w : World) : Calls Tryd.prog 51 #[.int .i64 b] w (Same (.bool (baseB b)) w) := by
  go_enter Tryd.func51, Tryd.ntmps51
  go_wp2_with (go_at_call 40; refine (spec_in _ _ _ _).mono ?_; rintro e w' ⟨rfl, rfl⟩)
  go_ret
  exact ⟨rfl, rfl⟩

/-! ### digits -/
def dig (c : UInt8) : Int := if 48 ≤ c.toNat ∧ c.toNat ≤ 57 then (c.toNat : Int) - 48 else if 65 ≤ c.toNat ∧ c.toNat ≤ 90 then (c.toNat : Int) - 65 + 10 else -1
theorem dig_bd (c : UInt8) : -1 ≤ dig c ∧ dig c ≤ 35 := by unfold dig; split <;> (try split) <;> omega
theorem u8_sub {n : Nat} {m : Nat} (h : m ≤ n) (h2 : n < 256) : IntKind.u8.wrap ((n : Int) - m) = (n : Int) - m := by
  simp [IntKind.wrap, IntKind.bits, IntKind.signed]; omega

theorem dig_all : ∀ c : UInt8, dig c = Lib.indexByte [48, 49, 50, 51, 52, 53, 54, 55, 56, 57, 65, 66, 67, 68, 69, 70, 71, 72, 73, 74, 75, 76, 77, 78, 79, 80, 81, 82, 83, 84, 85, 86, 87, 88, 89, 90] c := by
  intro c
  obtain ⟨⟨n⟩⟩ := c
  revert n
  decide +kernel

set_option maxHeartbeats 400000 in
theorem bytealg_index (s : ByteArray) (c : Int) (w : World) : (callFunc 50 #[.string s, .int .u8 c]).run Tryd.prog w = .ok (.value (.int .i64 (Lib.indexByte s.data.toList c.toNat.toUInt8))) w := by
  rw [run_callFunc_extern Tryd.func50 (by kernel_rfl) (by kernel_rfl) (by kernel_rfl) (e := Extern.BytealgIndexByte.indexByte) (by kernel_rfl), Lib.run_indexByteString]
  rfl

set_option maxHeartbeats 400000 in
theorem strings_indexByte (s : ByteArray) (c : Int) (w : World) : Calls Tryd.prog 20 #[.string s, .int .u8 c] w (Same (.int .i64 (Lib.indexByte s.data.toList c.toNat.toUInt8)) w) := by
  have hb := bytealg_index s c
  go_enter Tryd.func20, Tryd.ntmps20
  go_wp2
  go_ret
  exact ⟨rfl, rfl⟩


def digs (s : List UInt8) : List Int := s.map dig
theorem size_eq (s : ByteArray) : s.data.toList.length = s.size := by simp
theorem byte_at (s : ByteArray) (k : Nat) (h : k < s.size) : s[k] = s.data.toList.getD k 0 := by
  rw [List.getD_eq_getElem?_getD, List.getElem?_eq_getElem (by simpa using h)]; rfl

theorem digs_snoc (s : ByteArray) (k : Nat) (h : k < s.size) : digs (s.data.toList.take (k + 1)) = digs (s.data.toList.take k) ++ [dig s[k]] := by
  rw [take_snoc _ 0 k (by simpa using h), digs, List.map_append, byte_at s k h]; rfl



/-- s is a word over the base, of at most so many symbols -/
def wordB (s : List UInt8) (base : Int) (most : Int) : Bool := (s.all fun c => inB (dig c) 0 (base - 1)) && (baseB base && decide ((s.length : Int) ≤ most))

theorem allc_no {p : UInt8 → Bool} {s : ByteArray} {k : Nat} (hk : k < s.size) (h : p s[k] = false) : s.data.toList.all p = false := by
  rw [List.all_eq_false]; exact ⟨_, getD_mem s.data.toList 0 k (by simpa using hk), by rw [← byte_at s k hk, h]; simp⟩
theorem allc_step {p : UInt8 → Bool} {s : ByteArray} {k : Nat} (hk : k < s.size) (h : p s[k] = true) (hp : (s.data.toList.take k).all p = true) : (s.data.toList.take (k + 1)).all p = true := by
  rw [take_snoc s.data.toList 0 k (by simpa using hk), List.all_append, hp, ← byte_at s k hk]; simp [h]


/-- a slice and a bool: the slice holds vs if it is true, else it is nil -/
def RetIf (E : TypeId) (b : Bool) (vs : List Value) (w : World) (e : Ending) (w' : World) : Prop :=
  ∃ a n c, e = .returned (.tuple #[.slice a n c, .bool b]) ∧ Ext w w' ∧ (b = true → Own w' w.heap.size E a n c vs)
theorem RetIf.no {E : TypeId} {b : Bool} {vs : List Value} {w w' : World} (hb : b = false) (hx : Ext w w') : RetIf E b vs w (.returned (.tuple #[.slice none 0 0, .bool false])) w' :=
  ⟨none, 0, 0, by rw [hb], hx, fun h => by rw [hb] at h; cases h⟩
theorem RetIf.yes {E : TypeId} {b : Bool} {vs : List Value} {w w' : World} {a : Option Addr} {n c : Nat} (hb : b = true) (ho : Own w' w.heap.size E a n c vs) (hx : Ext w w') : RetIf E b vs w (.returned (.tuple #[.slice a n c, .bool true])) w' :=
  ⟨a, n, c, by rw [hb], hx, fun _ => ho⟩

theorem RetIf.mk {E : TypeId} {b b' : Bool} {vs : List Value} {w w' : World} {a : Option Addr} {n c : Nat} (hb : b = b') (hx : Ext w w') (ho : b = true → Own w' w.heap.size E a n c vs) : RetIf E b vs w (.returned (.tuple #[.slice a n c, .bool b'])) w' :=
  ⟨a, n, c, by rw [hb], hx, ho⟩
theorem wordB_base {s : List UInt8} {base most : Int} (h : baseB base = false) : wordB s base most = false := by simp [wordB, h]
theorem wordB_long {s : List UInt8} {base most : Int} (h : most < s.length) : wordB s base most = false := by simp [wordB]; intros; omega
theorem wordB_bad {s : List UInt8} {base most : Int} (h : (s.all fun c => inB (dig c) 0 (base - 1)) = false) : wordB s base most = false := by rw [wordB, h]; rfl
theorem wordB_yes {s : List UInt8} {base most : Int} (h : (s.all fun c => inB (dig c) 0 (base - 1)) = true) (hb : baseB base = true) (hl : (s.length : Int) ≤ most) : wordB s base most = true := by rw [wordB, h, hb]; simpa using hl
theorem u8_back (c : UInt8) : ((c.toNat : Int)).toNat.toUInt8 = c := by simp


end Go.Proofs.YtefkefmhfoedcaaDoor
