/- Walks: small functions of the first chapter, and the laws' own helpers on lists of numbers. -/
import Derived.Test.YtccoopnoakhedaaBase
namespace Go.Proofs.Ytccoopnoakhedaa
set_option maxRecDepth 100000
open Go.RowKit

def inB (n lo hi : Int) : Bool := decide (lo ≤ n) && decide (n ≤ hi)
theorem inB_t {n lo hi : Int} : inB n lo hi = true ↔ lo ≤ n ∧ n ≤ hi := by simp [inB]
theorem inB_f {n lo hi : Int} : inB n lo hi = false ↔ n < lo ∨ hi < n := by simp [inB]; omega

set_option maxHeartbeats 400000 in
theorem impl_in (n lo hi : Int) (w : World) : Calls Try.prog 23 #[.int .i64 n, .int .i64 lo, .int .i64 hi] w (Same (.bool (inB n lo hi)) w) := by
  by_cases h1 : lo ≤ n
  · go_enter Try.func23, Try.ntmps23
    go_wp2
    go_ret
    exact ⟨by simp [inB, h1], rfl⟩
  · go_enter Try.func23, Try.ntmps23
    go_wp2
    go_ret
    exact ⟨by simp [inB]; omega, rfl⟩

/-- all numbers are from 0 to n - 1 -/
def belowB (l : List Int) (n : Int) : Bool := l.all fun x => inB x 0 (n - 1)

theorem all_no {p : Int → Bool} {l : List Int} {k : Nat} {x : Int} (hk : k < l.length) (hx : x = l.getD k 0) (h : p x = false) : l.all p = false := by
  rw [List.all_eq_false]; exact ⟨_, getD_mem l 0 k hk, by rw [← hx, h]; simp⟩
theorem all_step {p : Int → Bool} {l : List Int} {k : Nat} {x : Int} (hk : k < l.length) (hx : x = l.getD k 0) (h : p x = true) (hp : (l.take k).all p = true) : (l.take (k + 1)).all p = true := by
  rw [take_snoc l 0 k hk, List.all_append, hp, ← hx]; simp [h]
theorem take_full {α : Type} {l : List α} {k : Nat} (h : l.length ≤ k) : l.take k = l := List.take_of_length_le h

def idx {α : Type} (p : α → Bool) (l : List α) : Int := match l.findIdx? p with | some i => (i : Int) | none => -1
theorem idx_none {α : Type} {p : α → Bool} {l : List α} (h : ∀ x ∈ l, p x = false) : idx p l = -1 := by
  unfold idx; rw [List.findIdx?_eq_none_iff.2 (by simpa using h)]
theorem idx_hit {α : Type} {p : α → Bool} {l : List α} {k : Nat} {d x : α} (hk : k < l.length) (hx : x = l.getD k d) (h : p x = true) (hp : ∀ y ∈ l.take k, p y = false) : idx p l = k := by
  have e : x = l[k] := by rw [hx, List.getD_eq_getElem?_getD, List.getElem?_eq_getElem hk]; rfl
  unfold idx; rw [(List.findIdx?_eq_some_iff_getElem (xs := l) (p := p) (i := k)).2 ⟨hk, by rw [← e]; exact h, fun j hj => ?_⟩]
  have := hp l[j] (by rw [List.mem_take_iff_getElem]; exact ⟨j, by omega, rfl⟩)
  simp [this]
theorem idx_ge {α : Type} (p : α → Bool) (l : List α) : decide (0 ≤ idx p l) = l.any p := by
  unfold idx
  cases h : l.findIdx? p with
  | none => rw [List.findIdx?_eq_none_iff] at h; simp; intro x hx; simpa using h x hx
  | some i => rw [List.findIdx?_eq_some_iff_getElem] at h; obtain ⟨hi, h1, _⟩ := h; simp; exact ⟨_, List.getElem_mem hi, h1⟩
def NoneIn {α : Type} (p : α → Bool) (l : List α) : Prop := ∀ y ∈ l, p y = false
theorem NoneIn.step {α : Type} {p : α → Bool} {l : List α} {k : Nat} {d x : α} (hk : k < l.length) (hx : x = l.getD k d) (h : p x = false) (hp : NoneIn p (l.take k)) : NoneIn p (l.take (k + 1)) := by
  intro y hy
  rw [take_snoc l d k hk, List.mem_append] at hy
  rcases hy with hy | hy
  · exact hp y hy
  · simp at hy; rw [hy, ← List.getD_eq_getElem?_getD, ← hx]; exact h

def ofI (f : Int → Bool) : Value → Bool | .int _ x => f x | _ => false
theorem mem_I {v : Value} {l : List Int} (h : v ∈ I l) : ∃ x ∈ l, v = .int .i64 x := by
  obtain ⟨x, hx, rfl⟩ := List.mem_map.1 h; exact ⟨x, hx, rfl⟩

/-- function f, handed on with what it has captured, answers p for each value of vs, and changes nothing that was there at w -/
def Answers (f : Nat) (caps : Array Value) (w : World) (vs : List Value) (p : Value → Bool) : Prop :=
  (∀ args w', (callFunc f args).run Try.prog w' = .ok (.enter f args) w') ∧
  ∀ x ∈ vs, ∀ w', Ext w w' → Calls Try.prog f (#[x] ++ caps) w' (Ret (.bool (p x)) w')

set_option maxHeartbeats 1000000 in
theorem indexFunc_ints (a : Option Addr) (len c : Nat) (l : List Int) (f : Nat) (caps : Array Value) (p : Int → Bool) (q : Value → Bool) (w : World) (hv : Ints w a len c l) (hlen : len ≤ 4611686018427387904)
    (hq : ∀ x, q (.int .i64 x) = p x) (hf : Answers f caps w (I l) q) :
    Calls Try.prog 61 #[.slice a len c, .func (.func f) #[] caps] w (Ret (.int .i64 (idx p l)) w) := by
  have HV := Lib.hid hv
  have HL := Lib.hid hv.len
  have he := hf.1
  have HF := Lib.hid hf.2
  have HQ := Lib.hid hq
  clear hv hf hq
  go_enter Try.func61, Try.ntmps61
  go_wp2
  go_loopw [5, 8] (fun _ i wr => ∃ k : Nat, k ≤ len ∧ i = .int .i64 k ∧ NoneIn p (l.take k) ∧ Ext w wr) (fun _ i _ => len - (intOf i).toNat)
  case atStart => exact ⟨0, Nat.zero_le _, rfl, by simp [NoneIn], Ext.refl _⟩
  case round =>
    obtain ⟨k, hk, rfl, hp, hx⟩ := hrel
    have HP := Lib.hid hp
    clear hp
    by_cases hlt : k < len
    · obtain ⟨b, off, hia, hcell⟩ := (HV.out.ext hx).at 25 2 und_int64s cell_int64 k hlt .i64
      obtain ⟨x, hxx⟩ : ∃ x, x = l.getD k 0 := ⟨_, rfl⟩
      rw [← hxx] at hcell
      have HX := Lib.hid hxx
      have HC := Lib.hid (HF.out (.int .i64 x) (by rw [hxx]; exact List.mem_map_of_mem (getD_mem l 0 k (by rw [HL.out]; exact hlt))) _ hx)
      clear hxx
      rw [HQ.out] at HC
      cases hpx : p x
      · rw [hpx] at HC
        have HPX := Lib.hid hpx
        clear hpx
        go_wp2_with (refine HC.out.mono ?_; rintro e w' ⟨rfl, hx2⟩)
        exact ⟨⟨k + 1, by omega, by go_num, NoneIn.step (by rw [HL.out]; exact hlt) HX.out HPX.out HP.out, hx.trans hx2⟩, by simp [intOf]; omega⟩
      · rw [hpx] at HC
        have HPX := Lib.hid hpx
        clear hpx
        go_wp2_with (refine HC.out.mono ?_; rintro e w' ⟨rfl, hx2⟩)
        go_ret
        exact ⟨ri (idx_hit (by rw [HL.out]; exact hlt) HX.out HPX.out HP.out).symm, hx.trans hx2⟩
    · go_wp2
      go_ret
      exact ⟨ri (idx_none (by have := HP.out; rwa [take_full (by rw [HL.out]; omega)] at this)).symm, hx⟩

set_option maxHeartbeats 400000 in
theorem containsFunc_ints (a : Option Addr) (len c : Nat) (l : List Int) (f : Nat) (caps : Array Value) (p : Int → Bool) (q : Value → Bool) (w : World) (hv : Ints w a len c l) (hlen : len ≤ 4611686018427387904)
    (hq : ∀ x, q (.int .i64 x) = p x) (hf : Answers f caps w (I l) q) :
    Calls Try.prog 38 #[.slice a len c, .func (.func f) #[] caps] w (Ret (.bool (l.any p)) w) := by
  have HC := Lib.hid (indexFunc_ints a len c l f caps p q w hv hlen hq hf)
  have HA := Lib.hid (idx_ge p l)
  clear hv hq hf
  go_enter Try.func38, Try.ntmps38
  go_wp2_with (refine HC.out.mono ?_; rintro e w' ⟨rfl, hx2⟩)
  go_ret
  exact ⟨rb HA.out, hx2⟩

end Go.Proofs.Ytccoopnoakhedaa
