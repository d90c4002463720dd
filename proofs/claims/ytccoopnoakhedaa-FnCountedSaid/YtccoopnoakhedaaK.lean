/- Words for the walks: a slice known at every index, whatever the world behind; strings. Conditions: none. -/
import Derived.Test.YtccoopnoakhedaaW1
namespace Go.Proofs.Ytccoopnoakhedaa
set_option maxRecDepth 100000
open Go.RowKit

theorem Ext_drewN {a w : World} (n : Nat) : Ext a (w.drewN n) ↔ Ext a w := ⟨fun h => ⟨h.os, h.tape, h.output, h.size, h.block⟩, fun h => h.drewN n⟩
theorem Ext_drew {a w : World} : Ext a w.drew ↔ Ext a w := Ext_drewN 1
theorem Ext_alloc {a w : World} {o : Obj} (h : Ext a w) : Ext a (w.alloc o) ↔ True := ⟨fun _ => trivial, fun _ => h.alloc o⟩
theorem Ext_set {a w : World} {p : Addr} {u : Value} (h : Ext a w) (hp : a.heap.size ≤ p.block) : Ext a (w.setCell p u) ↔ True := ⟨fun _ => trivial, fun _ => h.setCell hp u⟩
theorem Ext_refl (w : World) : Ext w w ↔ True := ⟨fun _ => trivial, fun _ => Ext.refl w⟩
attribute [go_sem] Ext_drewN Ext_drew Ext_alloc Ext_set Ext_refl

/-- the k-th number -/
def gi (l : List Int) (k : Nat) : Int := l.getD k 0
/-- the k-th value -/
def gv (l : List Value) (k : Nat) : Value := l.getD k undef
/-- the k-th text -/
def gs (l : List ByteArray) (k : Nat) : ByteArray := l.getD k .empty
theorem gi_mem {l : List Int} {k : Nat} (h : k < l.length) : gi l k ∈ l := getD_mem l 0 k h
theorem gs_mem {l : List ByteArray} {k : Nat} (h : k < l.length) : gs l k ∈ l := getD_mem l .empty k h
theorem gv_I {l : List Int} {k : Nat} (h : k < l.length) : gv (I l) k = .int .i64 (gi l k) := I_getD l k h
theorem gi_get {l : List Int} {k : Nat} (h : k < l.length) : gi l k = l[k] := by simp [gi, h]
theorem gs_get {l : List ByteArray} {k : Nat} (h : k < l.length) : gs l k = l[k] := by simp [gs, h]
theorem take_gi {l : List Int} {k : Nat} (h : k < l.length) : l.take (k + 1) = l.take k ++ [gi l k] := take_snoc l 0 k h
theorem take_gs {l : List ByteArray} {k : Nat} (h : k < l.length) : l.take (k + 1) = l.take k ++ [gs l k] := take_snoc l .empty k h

/-- where a slice's cells lie: for each index the address; for each address the value, at w and behind it -/
structure At (P : Program) (T : TypeId) (w : World) (a : Option Addr) (n c : Nat) (vs : List Value) (b off : Nat) : Prop where
  ix : ∀ (i : Int) (K : IntKind) (w' : World), 0 ≤ i → i < n → (Instr.indexAt T (.slice a n c) (.int K i)).run P w' = .ok (.pointer (some ⟨b, off + i.toNat, none⟩)) w'
  cell : ∀ (k : Nat) (w' : World), k < n → Ext w w' → w'.cell? ⟨b, off + k, none⟩ = some (gv vs k)
theorem Sl.ix {P : Program} {w : World} {a : Option Addr} {n c : Nat} {vs : List Value} (h : Sl w a n c vs) (T E : TypeId) (ht : P.underlying T = some (.slice E)) (he : P.cellsOf E = 1) :
    ∃ b off, At P T w a n c vs b off := by
  obtain ⟨i, hi, hs⟩ := cellsOf_size he (by omega)
  by_cases h0 : 0 < n
  · obtain ⟨b, off, rfl, hc⟩ := h.cells h0
    refine ⟨b, off, ⟨fun x K w' hx hn => ?_, fun k w' hk hx => hx.cell (hc k hk)⟩⟩
    obtain ⟨k, rfl⟩ := Int.eq_ofNat_of_zero_le hx
    have hk : k < n := by omega
    simp [Instr.indexAt, asIntOf, run_underlying ht, sizeOf, typeInfo, hi, hs, Addr.add_lit, hk]
  · exact ⟨0, 0, ⟨fun x K w' hx hn => by omega, fun k w' hk => by omega⟩⟩
/-- for numbers -/
structure AtI (P : Program) (T : TypeId) (w : World) (a : Option Addr) (n c : Nat) (l : List Int) (b off : Nat) : Prop where
  ix : ∀ (i : Int) (K : IntKind) (w' : World), 0 ≤ i → i < n → (Instr.indexAt T (.slice a n c) (.int K i)).run P w' = .ok (.pointer (some ⟨b, off + i.toNat, none⟩)) w'
  cell : ∀ (k : Nat) (w' : World), k < n → Ext w w' → w'.cell? ⟨b, off + k, none⟩ = some (.int .i64 (gi l k))
theorem Ints.ix {P : Program} {w : World} {a : Option Addr} {n c : Nat} {l : List Int} (h : Ints w a n c l) (T E : TypeId) (ht : P.underlying T = some (.slice E)) (he : P.cellsOf E = 1) :
    ∃ b off, AtI P T w a n c l b off := by
  obtain ⟨b, off, h1, h2⟩ := Sl.ix h T E ht he
  exact ⟨b, off, h1, fun k w' hk hx => by rw [h2 k w' hk hx, gv_I (by rw [h.len]; exact hk)]⟩

/-- texts -/
def St (l : List ByteArray) : List Value := l.map .string
theorem St_len (l : List ByteArray) : (St l).length = l.length := by simp [St]
theorem gv_St {l : List ByteArray} {k : Nat} (h : k < l.length) : gv (St l) k = .string (gs l k) := by
  simp [gv, gs, St, List.getD_eq_getElem?_getD, h]
def Strs (w : World) (a : Option Addr) (n c : Nat) (l : List ByteArray) : Prop := Sl w a n c (St l)
theorem Strs.len {w : World} {a : Option Addr} {n c : Nat} {l : List ByteArray} (h : Strs w a n c l) : l.length = n := (St_len l).symm.trans (Sl.len h)
theorem Strs.ext {w w' : World} {a : Option Addr} {n c : Nat} {l : List ByteArray} (h : Strs w a n c l) (hx : Ext w w') : Strs w' a n c l := Sl.ext h hx
structure AtS (P : Program) (T : TypeId) (w : World) (a : Option Addr) (n c : Nat) (l : List ByteArray) (b off : Nat) : Prop where
  ix : ∀ (i : Int) (K : IntKind) (w' : World), 0 ≤ i → i < n → (Instr.indexAt T (.slice a n c) (.int K i)).run P w' = .ok (.pointer (some ⟨b, off + i.toNat, none⟩)) w'
  cell : ∀ (k : Nat) (w' : World), k < n → Ext w w' → w'.cell? ⟨b, off + k, none⟩ = some (.string (gs l k))
theorem Strs.ix {P : Program} {w : World} {a : Option Addr} {n c : Nat} {l : List ByteArray} (h : Strs w a n c l) (T E : TypeId) (ht : P.underlying T = some (.slice E)) (he : P.cellsOf E = 1) :
    ∃ b off, AtS P T w a n c l b off := by
  obtain ⟨b, off, h1, h2⟩ := Sl.ix h T E ht he
  exact ⟨b, off, h1, fun k w' hk hx => by rw [h2 k w' hk hx, gv_St (by rw [h.len]; exact hk)]⟩

/-- s[:hi] -/
theorem Sl.pre {P : Program} {w : World} {a : Option Addr} {n c : Nat} {vs : List Value} (h : Sl w a n c vs) (T E : TypeId) (ht : P.underlying T = some (.slice E)) (he : P.cellsOf E = 1) (hel : P.elem T = E)
    (hi : Nat) (hn : hi ≤ n) : ∃ a', (∀ w' (K : IntKind), (Instr.sliceAt T (.slice a n c) none (some (.int K hi)) none).run P w' = .ok (.slice a' hi c) w') ∧ Sl w a' hi c (vs.take hi) := by
  obtain ⟨i, hi', hs⟩ := cellsOf_size he (by omega)
  have ht' : P.underlying T = some (.slice (P.elem T)) := by rw [hel]; exact ht
  have hc := h.cap
  refine ⟨if c = 0 then a else a.map (·.add 0), fun w' K => ?_, by simp [h.len]; omega, by omega, fun h0 => ?_⟩
  · rw [run_sliceAt_slice w' T _ _ _ _ ht', run_slice_h w' T a n c ht' K hi (by omega) (by omega)]
    simp [sizeOf, typeInfo, hel, hi', hs, Result.andThen, sliced]
  · obtain ⟨b, off, ha, hcell⟩ := h.cells (by omega)
    rw [if_neg (by omega), ha]
    refine ⟨b, off, by simp [Addr.add_lit], fun k hk => ?_⟩
    rw [hcell k (by omega)]
    simp [List.getD_eq_getElem?_getD, hk]
/-- s[lo:] -/
theorem Sl.suf {P : Program} {w : World} {a : Option Addr} {n c : Nat} {vs : List Value} (h : Sl w a n c vs) (T E : TypeId) (ht : P.underlying T = some (.slice E)) (he : P.cellsOf E = 1) (hel : P.elem T = E)
    (lo : Nat) (hn : lo ≤ n) : ∃ a', (∀ w' (K : IntKind), (Instr.sliceAt T (.slice a n c) (some (.int K lo)) none none).run P w' = .ok (.slice a' (n - lo) (c - lo)) w') ∧ Sl w a' (n - lo) (c - lo) (vs.drop lo) := by
  obtain ⟨i, hi', hs⟩ := cellsOf_size he (by omega)
  have ht' : P.underlying T = some (.slice (P.elem T)) := by rw [hel]; exact ht
  have hc := h.cap
  refine ⟨if c = lo then a else a.map (·.add lo), fun w' K => ?_, by simp [h.len], by omega, fun h0 => ?_⟩
  · rw [run_sliceAt_slice w' T _ _ _ _ ht', run_slice_l w' T a n c ht' K lo (by omega) (by omega)]
    simp [sizeOf, typeInfo, hel, hi', hs, Result.andThen, sliced]
  · obtain ⟨b, off, ha, hcell⟩ := h.cells (by omega)
    rw [if_neg (by omega), ha]
    refine ⟨b, off + lo, by simp [Addr.add_lit], fun k hk => ?_⟩
    rw [Nat.add_assoc, hcell (lo + k) (by omega)]
    simp [List.getD_eq_getElem?_getD]
theorem Ints.pre {P : Program} {w : World} {a : Option Addr} {n c : Nat} {l : List Int} (h : Ints w a n c l) (T E : TypeId) (ht : P.underlying T = some (.slice E)) (he : P.cellsOf E = 1) (hel : P.elem T = E)
    (hi : Nat) (hn : hi ≤ n) : ∃ a', (∀ w' (K : IntKind), (Instr.sliceAt T (.slice a n c) none (some (.int K hi)) none).run P w' = .ok (.slice a' hi c) w') ∧ Ints w a' hi c (l.take hi) := by
  obtain ⟨a', h1, h2⟩ := Sl.pre h T E ht he hel hi hn
  exact ⟨a', h1, by unfold Ints I; rw [List.map_take]; exact h2⟩
theorem Ints.suf {P : Program} {w : World} {a : Option Addr} {n c : Nat} {l : List Int} (h : Ints w a n c l) (T E : TypeId) (ht : P.underlying T = some (.slice E)) (he : P.cellsOf E = 1) (hel : P.elem T = E)
    (lo : Nat) (hn : lo ≤ n) : ∃ a', (∀ w' (K : IntKind), (Instr.sliceAt T (.slice a n c) (some (.int K lo)) none none).run P w' = .ok (.slice a' (n - lo) (c - lo)) w') ∧ Ints w a' (n - lo) (c - lo) (l.drop lo) := by
  obtain ⟨a', h1, h2⟩ := Sl.suf h T E ht he hel lo hn
  exact ⟨a', h1, by unfold Ints I; rw [List.map_drop]; exact h2⟩
theorem Strs.pre {P : Program} {w : World} {a : Option Addr} {n c : Nat} {l : List ByteArray} (h : Strs w a n c l) (T E : TypeId) (ht : P.underlying T = some (.slice E)) (he : P.cellsOf E = 1) (hel : P.elem T = E)
    (hi : Nat) (hn : hi ≤ n) : ∃ a', (∀ w' (K : IntKind), (Instr.sliceAt T (.slice a n c) none (some (.int K hi)) none).run P w' = .ok (.slice a' hi c) w') ∧ Strs w a' hi c (l.take hi) := by
  obtain ⟨a', h1, h2⟩ := Sl.pre h T E ht he hel hi hn
  exact ⟨a', h1, by unfold Strs St; rw [List.map_take]; exact h2⟩
theorem Strs.suf {P : Program} {w : World} {a : Option Addr} {n c : Nat} {l : List ByteArray} (h : Strs w a n c l) (T E : TypeId) (ht : P.underlying T = some (.slice E)) (he : P.cellsOf E = 1) (hel : P.elem T = E)
    (lo : Nat) (hn : lo ≤ n) : ∃ a', (∀ w' (K : IntKind), (Instr.sliceAt T (.slice a n c) (some (.int K lo)) none none).run P w' = .ok (.slice a' (n - lo) (c - lo)) w') ∧ Strs w a' (n - lo) (c - lo) (l.drop lo) := by
  obtain ⟨a', h1, h2⟩ := Sl.suf h T E ht he hel lo hn
  exact ⟨a', h1, by unfold Strs St; rw [List.map_drop]; exact h2⟩
end Go.Proofs.Ytccoopnoakhedaa
