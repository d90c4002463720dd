/- Walks: choices out of bytes. -/
import Derived.Test.YtcdoanookiimaaaTuples
namespace Go.Proofs.Ytcdoanookiimaaa
set_option maxRecDepth 100000
open Go.RowKit

def U8 (l : List UInt8) : List Value := l.map fun c => .int .u8 c.toNat
/-- the slice (a, n, ..) holds the bytes l -/
def Bytes (w : World) (a : Option Addr) (n c : Nat) (l : List UInt8) : Prop := Sl w a n c (U8 l)
theorem Bytes.len {w : World} {a : Option Addr} {n c : Nat} {l : List UInt8} (h : Bytes w a n c l) : l.length = n := by have := Sl.len h; simpa [U8] using this
theorem Bytes.ext {w w' : World} {a : Option Addr} {n c : Nat} {l : List UInt8} (h : Bytes w a n c l) (hx : Ext w w') : Bytes w' a n c l := Sl.ext h hx
theorem und_bytes : Try.prog.underlying 22 = some (.slice 5) := Try.underlying22
theorem cell_uint8 : Try.prog.cellsOf 5 = 1 := by kernel_rfl
theorem Bytes.at {P : Program} {w : World} {a : Option Addr} {n c : Nat} {l : List UInt8} (h : Bytes w a n c l) (T E : TypeId) (ht : P.underlying T = some (.slice E)) (he : P.cellsOf E = 1)
    (k : Nat) (hk : k < n) (K : IntKind) : ∃ b off, (∀ w', (Instr.indexAt T (.slice a n c) (.int K k)).run P w' = .ok (.pointer (some ⟨b, off, none⟩)) w') ∧ ∃ x : Nat, x < 256 ∧ x = (l.getD k 0).toNat ∧ w.cell? ⟨b, off, none⟩ = some (.int .u8 x) := by
  obtain ⟨b, off, h1, h2⟩ := Sl.at h T E ht he k hk K
  refine ⟨b, off, h1, (l.getD k 0).toNat, (l.getD k 0).toNat_lt, rfl, ?_⟩
  rw [h2]
  have : k < l.length := by rw [h.len]; exact hk
  simp [U8, List.getD_eq_getElem?_getD, this]


/-- block b holds a source of choices -/
structure Src (w : World) (b : Nat) (a : Option Addr) (n c : Nat) (k : Int) : Prop where
  c0 : w.cell? ⟨b, 0, none⟩ = some (.slice a n c)
  c1 : w.cell? ⟨b, 1, none⟩ = some (.int .i64 k)
  c2 : ∃ s : Int, w.cell? ⟨b, 2, none⟩ = some (.int .u64 s)
  fr : ∀ j, w.frozen? ⟨b, j, none⟩ = false

theorem u64_and255 (x : Int) : 0 ≤ bits .and .u64 x 255 ∧ bits .and .u64 x 255 ≤ 255 := by
  have h : (BitVec.ofInt 64 x &&& BitVec.ofInt 64 255).toNat ≤ 255 := by
    rw [BitVec.toNat_and]
    exact Nat.le_trans Nat.and_le_right (by decide)
  have e : bits .and .u64 x 255 = IntKind.u64.wrap ((BitVec.ofInt 64 x &&& BitVec.ofInt 64 255).toNat : Int) := rfl
  rw [e]
  generalize (BitVec.ofInt 64 x &&& BitVec.ofInt 64 255).toNat = n at *
  have : IntKind.u64.wrap (n : Int) = n := by simp [IntKind.wrap, IntKind.bits, IntKind.signed]; omega
  omega
theorem wrap_and255 (x : Int) : 0 ≤ wrap64 (bits .and .u64 x 255) ∧ wrap64 (bits .and .u64 x 255) ≤ 255 := by
  have := u64_and255 x
  rw [IntWalk.wrap64_in _ (by omega)]
  exact this

def RetNext (b : Nat) (a : Option Addr) (n c : Nat) (k : Int) (w : World) (e : Ending) (w' : World) : Prop :=
  ∃ x : Int, e = .returned (.int .i64 x) ∧ (0 ≤ x ∧ x ≤ 255) ∧ Src w' b a n c (k + 1) ∧ Touch b w w'
theorem src_upd {w : World} {b : Nat} {a : Option Addr} {n c : Nat} {k k' s' : Int} (h : Src w b a n c k) (m m' : Nat) : Src ((((w.drewN m).setCell ⟨b, 1, none⟩ (.int .i64 k')).setCell ⟨b, 2, none⟩ (.int .u64 s')).drewN m') b a n c k' ∧ Touch b w ((((w.drewN m).setCell ⟨b, 1, none⟩ (.int .i64 k')).setCell ⟨b, 2, none⟩ (.int .u64 s')).drewN m') := by
  obtain ⟨c0, c1, ⟨s, c2⟩, fr⟩ := h
  refine ⟨⟨?_, ?_, ⟨s', ?_⟩, fun j => ?_⟩, ?_⟩
  · rw [World.cell?_drewN, World.cell?_setCell_other _ _ _ _ (by simp), World.cell?_setCell_other _ _ _ _ (by simp), World.cell?_drewN]; exact c0
  · rw [World.cell?_drewN, World.cell?_setCell_other _ _ _ _ (by simp)]
    exact World.cell?_setCell_same _ _ _ (u := .int .i64 k) (by rw [World.cell?_drewN]; exact c1)
  · rw [World.cell?_drewN]
    exact World.cell?_setCell_same _ _ _ (u := .int .u64 s) (by rw [World.cell?_setCell_other _ _ _ _ (by simp), World.cell?_drewN]; exact c2)
  · show World.frozen? (((w.drewN m).setCell ⟨b, 1, none⟩ (.int .i64 k')).setCell ⟨b, 2, none⟩ (.int .u64 s')) ⟨b, j, none⟩ = false
    rw [World.frozen?_setCell, World.frozen?_setCell]; exact fr j
  · refine ⟨rfl, rfl, rfl, by simp [World.setCell, World.drewN], fun i _ hi => ?_⟩
    show (((w.drewN m).setCell ⟨b, 1, none⟩ (.int .i64 k')).setCell ⟨b, 2, none⟩ (.int .u64 s')).heap[i]? = w.heap[i]?
    rw [Below.heap_setCell _ _ _ _ hi, Below.heap_setCell _ _ _ _ hi]; rfl

set_option maxHeartbeats 1000000 in
theorem src_next (b : Nat) (a : Option Addr) (n c : Nat) (l : List UInt8) (k : Int) (w : World) (h : Src w b a n c k) (hl : Bytes w a n c l) (hk : 0 ≤ k) (hk2 : k ≤ 1000000000) (_hn : n ≤ 4611686018427387904) :
    Calls Try.prog 140 #[.pointer (some ⟨b, 0, none⟩)] w (RetNext b a n c k w) := by
  have HU := Lib.hid (fun k' s' m m' => src_upd h (k' := k') (s' := s') m m')
  obtain ⟨c0, c1, ⟨s, c2⟩, fr⟩ := h
  obtain ⟨k, rfl⟩ := Int.eq_ofNat_of_zero_le hk
  have fr1 := fr 1
  have fr2 := fr 2
  have HFR := Lib.hid fr
  clear fr
  by_cases h2 : k < n
  · obtain ⟨b1, off, hia, x, hx, hxe, hc⟩ := hl.at 22 5 und_bytes cell_uint8 k h2 .i64
    clear hl hxe
    go_enter Try.func140, Try.ntmps140
    go_wp2
    go_quiet (fail)
    go_wp2
    go_quiet (fail)
    go_wp2
    go_quiet (fail)
    go_wp2
    go_ret
    exact ⟨_, rfl, ⟨by omega, by omega⟩, HU.out _ _ _ _⟩
  · clear hl
    go_enter Try.func140, Try.ntmps140
    go_wp2
    go_quiet (fail)
    go_wp2
    go_quiet (fail)
    go_wp2
    go_ret
    exact ⟨_, rfl, wrap_and255 _, HU.out _ _ _ _⟩

theorem Touch.refl (g : Nat) (w : World) : Touch g w w := ⟨rfl, rfl, rfl, Nat.le_refl _, fun _ _ _ => rfl⟩
theorem Touch.trans {g : Nat} {a b c : World} (h : Touch g a b) (k : Touch g b c) : Touch g a c :=
  ⟨k.os.trans h.os, k.tape.trans h.tape, k.output.trans h.output, Nat.le_trans h.size k.size, fun i hi hne => (k.block i (Nat.lt_of_lt_of_le hi h.size) hne).trans (h.block i hi hne)⟩
theorem Ext.touch {a w w' : World} (h : Ext a w) {g : Nat} (ht : Touch g w w') (hg : a.heap.size ≤ g) : Ext a w' :=
  h.below ⟨ht.os, ht.tape, ht.output, ht.size, fun k hk => ht.block k (Nat.lt_of_lt_of_le hk h.size) (by omega)⟩
theorem Src.below {w w' : World} {b : Nat} {a : Option Addr} {n c : Nat} {k : Int} (h : Src w b a n c k) {B : Nat} (hb : Below B w w') (hB : b < B) : Src w' b a n c k := by
  obtain ⟨c0, c1, ⟨s, c2⟩, fr⟩ := h
  exact ⟨(hb.cell (p := ⟨b, 0, none⟩) hB).trans c0, (hb.cell (p := ⟨b, 1, none⟩) hB).trans c1, ⟨s, (hb.cell (p := ⟨b, 2, none⟩) hB).trans c2⟩, fun j => (hb.frozen (p := ⟨b, j, none⟩) hB).trans (fr j)⟩
theorem Own.touchNe {w w' : World} {B : Nat} {E : TypeId} {a : Option Addr} {n c g : Nat} {vs : List Value} (h : Own w B E a n c vs) (ht : Touch g w w') (hB : g < B) : Own w' B E a n c vs := by
  refine ⟨h.1, ?_⟩
  rcases h.2 with h2 | ⟨g', cap, cur, hv, hB', hg, r⟩
  · exact .inl h2
  · exact .inr ⟨g', cap, cur, hv, hB', by rw [ht.block g' (Array.getElem?_eq_some_iff.1 hg).1 (by omega)]; exact hg, r⟩
theorem Src.new (w : World) (a : Option Addr) (n c : Nat) (T : TypeId) : Src (w.alloc (.cells #[.slice a n c, .int .i64 0, .int .u64 0] T)) w.heap.size a n c 0 :=
  ⟨by go_simp, by go_simp, ⟨0, by go_simp⟩, fun j => by simp [World.frozen?_alloc_new]⟩

/-- a number below n, chosen -/
def RetPick (b : Nat) (a : Option Addr) (n c : Nat) (k m : Int) (w : World) (e : Ending) (w' : World) : Prop :=
  ∃ x k' : Int, e = .returned (.int .i64 x) ∧ 0 ≤ x ∧ (x < m ∨ (x = 0 ∧ m ≤ 1)) ∧ Src w' b a n c k' ∧ k ≤ k' ∧ k' ≤ k + 2 ∧ Touch b w w'
theorem touch_bytes {w w' : World} {a : Option Addr} {n c : Nat} {l : List UInt8} {b : Nat} (h : Bytes w a n c l) (ht : Touch b w w') (hb : 0 < n → ∀ x, a = some x → x.block ≠ b) : Bytes w' a n c l := by
  refine ⟨Sl.len h, Sl.cap h, fun h0 => ?_⟩
  obtain ⟨b1, off, ha, hc⟩ := Sl.cells h h0
  exact ⟨b1, off, ha, fun k hk => (World.cell?_of_block (w := w) (ht.block b1 (World.block_lt_of_cell? w _ (hc k hk)) (hb h0 _ ha))).trans (hc k hk)⟩
set_option maxHeartbeats 1000000 in
theorem src_pick (b : Nat) (a : Option Addr) (n c : Nat) (l : List UInt8) (k m : Int) (w : World) (h : Src w b a n c k) (hl : Bytes w a n c l) (hab : 0 < n → ∀ x, a = some x → x.block ≠ b) (hk : 0 ≤ k) (hk2 : k ≤ 999999999) (hn : n ≤ 4611686018427387904) (hm : m ≤ 4611686018427387904) :
    Calls Try.prog 75 #[.pointer (some ⟨b, 0, none⟩), .int .i64 m] w (RetPick b a n c k m w) := by
  have HN := Lib.hid (src_next b a n c l k w h hl hk (by omega) hn)
  have HN2 := Lib.hid (fun w' (h' : Src w' b a n c (k + 1)) (ht : Touch b w w') => src_next b a n c l (k + 1) w' h' (touch_bytes hl ht hab) (by omega) (by omega) hn)
  have HS := Lib.hid h
  clear h hl hab
  by_cases h1 : m ≤ 1
  · go_enter Try.func75, Try.ntmps75
    go_wp2
    go_ret
    exact ⟨0, k, rfl, by omega, .inr ⟨rfl, h1⟩, HS.out, by omega, by omega, Touch.refl _ _⟩
  · by_cases h2 : m ≤ 200
    · go_enter Try.func75, Try.ntmps75
      go_wp2_with (refine HN.out.mono ?_; rintro e w' ⟨x, rfl, ⟨hx0, hx1⟩, hs, ht⟩)
      go_ret
      exact ⟨_, k + 1, rfl, Int.emod_nonneg _ (by omega), .inl (Int.emod_lt_of_pos _ (by omega)), hs, by omega, by omega, ht⟩
    · go_enter Try.func75, Try.ntmps75
      go_wp2_with fail
      refine HN.out.mono ?_
      rintro e w' ⟨x, rfl, ⟨hx0, hx1⟩, hs, ht⟩
      have HC := Lib.hid (HN2.out w' hs ht)
      have HT := Lib.hid ht
      clear hs ht
      go_wp2_with fail
      refine HC.out.mono ?_
      rintro e w2 ⟨y, rfl, ⟨hy0, hy1⟩, hs2, ht2⟩
      go_wp2
      go_ret
      exact ⟨_, k + 1 + 1, rfl, Int.emod_nonneg _ (by omega), .inl (Int.emod_lt_of_pos _ (by omega)), hs2, by omega, by omega, HT.out.trans ht2⟩

def RetSrc (a : Option Addr) (n c : Nat) (w : World) (e : Ending) (w' : World) : Prop :=
  e = .returned (.pointer (some ⟨w.heap.size, 0, none⟩)) ∧ Src w' w.heap.size a n c 0 ∧ Ext w w' ∧ w'.heap.size = w.heap.size + 1
set_option maxHeartbeats 400000 in
theorem src_from (a : Option Addr) (n c : Nat) (w : World) : Calls Try.prog 53 #[.slice a n c] w (RetSrc a n c w) := by
  go_enter Try.func53, Try.ntmps53
  go_wp2
  go_ret
  exact ⟨rfl, Src.new w a n c _, (by repeat (first | (with_reducible exact Ext.refl _) | (with_reducible refine Ext.drewN ?_ _) | (with_reducible refine Ext.drew ?_) | (with_reducible refine Ext.alloc ?_ _) | ((with_reducible refine Ext.setCell ?_ ?_ _); rotate_left; focus (first | (simp; done) | (simp; omega) | omega)))), by simp⟩
theorem bytes_old {w : World} {a : Option Addr} {n c : Nat} {l : List UInt8} (hl : Bytes w a n c l) : 0 < n → ∀ x, a = some x → x.block < w.heap.size := fun h0 x hx => by
  obtain ⟨b, off, ha, hc⟩ := Sl.cells hl h0
  rw [hx] at ha
  simp only [Option.some.injEq] at ha
  subst ha
  exact World.block_lt_of_cell? w _ (hc 0 h0)

end Go.Proofs.Ytcdoanookiimaaa
