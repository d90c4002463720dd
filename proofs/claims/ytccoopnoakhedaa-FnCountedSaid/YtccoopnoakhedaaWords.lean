/- Walks: bases, powers, words and their digits, in the program and in the reference. -/
import Derived.Test.YtccoopnoakhedaaW2
import Derived.Lib.Bytealg
namespace Go.Proofs.Ytccoopnoakhedaa
set_option maxRecDepth 100000
open Go.RowKit

def baseB (b : Int) : Bool := inB b 2 36
theorem baseB_t {b : Int} (h : baseB b = true) : 2 ≤ b ∧ b ≤ 36 := inB_t.1 h

set_option maxHeartbeats 400000 in
theorem impl_base (b : Int) (w : World) : Calls Try.prog 36 #[.int .i64 b] w (Same (.bool (baseB b)) w) := by
  go_enter Try.func36, Try.ntmps36
  go_wp2_with (go_at_call 23; refine (impl_in _ _ _ _).mono ?_; rintro e w' ⟨rfl, rfl⟩)
  go_ret
  exact ⟨rfl, rfl⟩

def dig (c : UInt8) : Int := if 48 ≤ c.toNat ∧ c.toNat ≤ 57 then (c.toNat : Int) - 48 else if 65 ≤ c.toNat ∧ c.toNat ≤ 90 then (c.toNat : Int) - 65 + 10 else -1
theorem dig_bd (c : UInt8) : -1 ≤ dig c ∧ dig c ≤ 35 := by unfold dig; split <;> (try split) <;> omega
theorem u8_sub {n : Nat} {m : Nat} (h : m ≤ n) (h2 : n < 256) : IntKind.u8.wrap ((n : Int) - m) = (n : Int) - m := by
  simp [IntKind.wrap, IntKind.bits, IntKind.signed]; omega

theorem dig_all : ∀ c : UInt8, dig c = Lib.indexByte [48, 49, 50, 51, 52, 53, 54, 55, 56, 57, 65, 66, 67, 68, 69, 70, 71, 72, 73, 74, 75, 76, 77, 78, 79, 80, 81, 82, 83, 84, 85, 86, 87, 88, 89, 90] c := by
  intro c
  obtain ⟨⟨n⟩⟩ := c
  revert n
  decide +kernel

set_option maxHeartbeats 400000 in
theorem bytealg_index (s : ByteArray) (c : Int) (w : World) : (callFunc 74 #[.string s, .int .u8 c]).run Try.prog w = .ok (.value (.int .i64 (Lib.indexByte s.data.toList c.toNat.toUInt8))) w := by
  rw [run_callFunc_extern Try.func74 (by kernel_rfl) (by kernel_rfl) (by kernel_rfl) (e := Extern.BytealgIndexByte.indexByte) (by kernel_rfl), Lib.run_indexByteString]
  rfl

set_option maxHeartbeats 400000 in
theorem strings_indexByte (s : ByteArray) (c : Int) (w : World) : Calls Try.prog 65 #[.string s, .int .u8 c] w (Same (.int .i64 (Lib.indexByte s.data.toList c.toNat.toUInt8)) w) := by
  have hb := bytealg_index s c
  go_enter Try.func65, Try.ntmps65
  go_wp2
  go_ret
  exact ⟨rfl, rfl⟩


def digs (s : List UInt8) : List Int := s.map dig
theorem size_eq (s : ByteArray) : s.data.toList.length = s.size := by simp
theorem byte_at (s : ByteArray) (k : Nat) (h : k < s.size) : s[k] = s.data.toList.getD k 0 := by
  rw [List.getD_eq_getElem?_getD, List.getElem?_eq_getElem (by simpa using h)]; rfl

theorem digs_snoc (s : ByteArray) (k : Nat) (h : k < s.size) : digs (s.data.toList.take (k + 1)) = digs (s.data.toList.take k) ++ [dig s[k]] := by
  rw [take_snoc _ 0 k (by simpa using h), digs, List.map_append, byte_at s k h]; rfl



/-- s is a word over the base, of at most so many symbols -/
def wordB (s : List UInt8) (base : Int) (most : Int) : Bool := (s.all fun c => inB (dig c) 0 (base - 1)) && (baseB base && decide ((s.length : Int) ≤ most))

theorem allc_no {p : UInt8 → Bool} {s : ByteArray} {k : Nat} (hk : k < s.size) (h : p s[k] = false) : s.data.toList.all p = false := by
  rw [List.all_eq_false]; exact ⟨_, getD_mem s.data.toList 0 k (by simpa using hk), by rw [← byte_at s k hk, h]; simp⟩
theorem allc_step {p : UInt8 → Bool} {s : ByteArray} {k : Nat} (hk : k < s.size) (h : p s[k] = true) (hp : (s.data.toList.take k).all p = true) : (s.data.toList.take (k + 1)).all p = true := by
  rw [take_snoc s.data.toList 0 k (by simpa using hk), List.all_append, hp, ← byte_at s k hk]; simp [h]


/-- a slice and a bool: the slice holds vs if it is true, else it is nil -/
def RetIf (E : TypeId) (b : Bool) (vs : List Value) (w : World) (e : Ending) (w' : World) : Prop :=
  ∃ a n c, e = .returned (.tuple #[.slice a n c, .bool b]) ∧ Ext w w' ∧ (b = true → Own w' w.heap.size E a n c vs)
theorem RetIf.no {E : TypeId} {b : Bool} {vs : List Value} {w w' : World} (hb : b = false) (hx : Ext w w') : RetIf E b vs w (.returned (.tuple #[.slice none 0 0, .bool false])) w' :=
  ⟨none, 0, 0, by rw [hb], hx, fun h => by rw [hb] at h; cases h⟩
theorem RetIf.yes {E : TypeId} {b : Bool} {vs : List Value} {w w' : World} {a : Option Addr} {n c : Nat} (hb : b = true) (ho : Own w' w.heap.size E a n c vs) (hx : Ext w w') : RetIf E b vs w (.returned (.tuple #[.slice a n c, .bool true])) w' :=
  ⟨a, n, c, by rw [hb], hx, fun _ => ho⟩

theorem RetIf.mk {E : TypeId} {b b' : Bool} {vs : List Value} {w w' : World} {a : Option Addr} {n c : Nat} (hb : b = b') (hx : Ext w w') (ho : b = true → Own w' w.heap.size E a n c vs) : RetIf E b vs w (.returned (.tuple #[.slice a n c, .bool b'])) w' :=
  ⟨a, n, c, by rw [hb], hx, ho⟩
theorem wordB_base {s : List UInt8} {base most : Int} (h : baseB base = false) : wordB s base most = false := by simp [wordB, h]
theorem wordB_long {s : List UInt8} {base most : Int} (h : most < s.length) : wordB s base most = false := by simp [wordB]; intros; omega
theorem wordB_bad {s : List UInt8} {base most : Int} (h : (s.all fun c => inB (dig c) 0 (base - 1)) = false) : wordB s base most = false := by rw [wordB, h]; rfl
theorem wordB_yes {s : List UInt8} {base most : Int} (h : (s.all fun c => inB (dig c) 0 (base - 1)) = true) (hb : baseB base = true) (hl : (s.length : Int) ≤ most) : wordB s base most = true := by rw [wordB, h, hb]; simpa using hl
theorem u8_back (c : UInt8) : ((c.toNat : Int)).toNat.toUInt8 = c := by simp

set_option maxHeartbeats 1000000 in
theorem impl_digitsOf (s : ByteArray) (base most : Int) (w : World) (_hs : s.size ≤ 4611686018427387904) (h0 : 0 ≤ most) (h1 : most ≤ 1048576) :
    Calls Try.prog 50 #[.string s, .int .i64 base, .int .i64 most] w (RetIf 2 (wordB s.data.toList base most) (I (digs s.data.toList)) w) := by
  cases hb : baseB base
  · have HC := Lib.hid (impl_base base w)
    rw [hb] at HC
    have HW := Lib.hid (wordB_base (s := s.data.toList) (most := most) hb)
    clear hb
    go_enter Try.func50, Try.ntmps50
    go_wp2_with (refine HC.out.mono ?_; rintro e w' ⟨rfl, rfl⟩)
    go_ret2
    exact RetIf.no HW.out (Ext.refl _)
  · have HC := Lib.hid (impl_base base w)
    rw [hb] at HC
    have HB := Lib.hid hb
    have hbb := baseB_t hb
    clear hb
    by_cases hl : (s.size : Int) ≤ most
    · go_enter Try.func50, Try.ntmps50
      go_wp2_with (refine HC.out.mono ?_; rintro e w' ⟨rfl, rfl⟩)
      go_loopw [8, 9, 10, 23] (fun v _ _ i wr => ∃ (k : Nat) (ad : Option Addr) (c : Nat), k ≤ s.size ∧ i = .int .i64 k ∧ v = .slice ad k c ∧ Own wr w.heap.size 2 ad k c (I (digs (s.data.toList.take k))) ∧ Ext w wr ∧ (s.data.toList.take k).all (fun c => inB (dig c) 0 (base - 1)) = true) (fun _ _ _ i _ => s.size - (intOf i).toNat)
      case atStart => exact ⟨0, _, _, Nat.zero_le _, rfl, rfl, Own.lit0 w _, (Ext.refl w).alloc _, rfl⟩
      case round =>
        obtain ⟨k, ad, c, hk, rfl, rfl, ho, hx, hp⟩ := hrel
        have HO := Lib.hid ho
        have HP := Lib.hid hp
        clear ho hp
        by_cases hlt : k < s.size
        · have hi := strings_indexByte ⟨#[48, 49, 50, 51, 52, 53, 54, 55, 56, 57, 65, 66, 67, 68, 69, 70, 71, 72, 73, 74, 75, 76, 77, 78, 79, 80, 81, 82, 83, 84, 85, 86, 87, 88, 89, 90]⟩ (s[k].toNat) wr
          rw [u8_back, ← dig_all s[k]] at hi
          have hd := dig_bd s[k]
          have HI := Lib.hid hi
          clear hi
          have HN := Lib.hid (digs_snoc s k hlt)
          have HS := Lib.hid (fun h => allc_step (p := fun c => inB (dig c) 0 (base - 1)) hlt h HP.out)
          have HF := Lib.hid (fun h => allc_no (p := fun c => inB (dig c) 0 (base - 1)) hlt h)
          generalize dig s[k] = d at *
          go_wp2_with (first | (go_at_call 65; refine HI.out.mono ?_; rintro e w' ⟨rfl, rfl⟩) | (go_at_call 23; refine (impl_in _ _ _ _).mono ?_; rintro e w' ⟨rfl, rfl⟩) | (at_builtin; refine law_append1 _ rfl _ _ 25 rfl 2 (.int .i64 0) 8 und_int64s info_int64 rfl w.heap.size ad k c _ _ rfl rfl rfl HO.out hx.le (by omega) (by omega) ?_; intro ad' c' w1 ho1 hb1 _))
          · have h : (!inB d 0 (base - 1)) = true := by assumption
            go_ret2
            exact RetIf.no (wordB_bad (HF.out (by simpa using h))) hx
          · have h : (!inB d 0 (base - 1)) = false := by assumption
            refine ⟨⟨k + 1, ad', c', by omega, by go_num, rfl, ?_, hx.below hb1, HS.out (by simpa using h)⟩, by simp [intOf]; omega⟩
            rw [HN.out, I_append]
            exact ho1
        · go_wp2
          go_ret2
          have hk' : k = s.size := by omega
          subst hk'
          have h1 := HP.out
          have h2 := HO.out
          rw [take_full (by simp)] at h1 h2
          exact RetIf.yes (wordB_yes h1 HB.out (by simpa using hl)) h2 hx
    · go_enter Try.func50, Try.ntmps50
      go_wp2_with (refine HC.out.mono ?_; rintro e w' ⟨rfl, rfl⟩)
      go_ret2
      exact RetIf.no (wordB_long (by simp; omega)) (Ext.refl _)

set_option maxHeartbeats 400000 in
theorem impl_DigitsOf (s : ByteArray) (base : Int) (w : World) (hs : s.size ≤ 4611686018427387904) :
    Calls Try.prog 26 #[.string s, .int .i64 base] w (RetIf 2 (wordB s.data.toList base 20) (I (digs s.data.toList)) w) := by
  have H := Lib.hid (impl_digitsOf s base 20 w hs (by omega) (by omega))
  go_enter Try.func26, Try.ntmps26
  go_wp2_with (refine H.out.mono ?_; rintro e w' ⟨a, n, c, rfl, hx, ho⟩)
  go_ret2
  exact ⟨a, n, c, rfl, hx, ho⟩
end Go.Proofs.Ytccoopnoakhedaa
