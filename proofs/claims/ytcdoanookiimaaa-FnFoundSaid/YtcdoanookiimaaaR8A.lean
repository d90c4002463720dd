/- Words for the registry that a law chooses: what the walk cuts at. -/
import Derived.Test.YtcdoanookiimaaaDrawD
import Derived.Test.YtcdoanookiimaaaIss
import Derived.Test.YtcdoanookiimaaaTrial
namespace Go.Proofs.Ytcdoanookiimaaa
set_option maxRecDepth 100000
open Go.RowKit

theorem made_row (n : Nat) (hn : n ≤ 1048576) : ∃ MC : Array Value, (∀ W, (Instr.makeSlice 25 (.int .i64 (n : Int)) (.int .i64 (n : Int))).run Try.prog W = .ok (.slice (some ⟨W.heap.size, 0, none⟩) n n) (W.alloc (.cells MC 2))) ∧
    ∀ W : World, Own (W.alloc (.cells MC 2)) W.heap.size 2 (some ⟨W.heap.size, 0, none⟩) n n (I (List.replicate n 0)) := by
  obtain ⟨i, hi, hz0, hz1, hz2⟩ := info_parts info_int64
  refine ⟨madeCells (Value.int .i64 0).cells (n * 1), fun W => ?_, fun W => ?_⟩
  · have hr := run_make (P := Try.prog) W 25 2 i (.int .i64 0) und_int64s hi hz0 .i64 .i64 n n (by omega) (Int.le_refl _) (by rw [hz2]; omega) (by omega)
    simp only [Int.toNat_natCast, hz1] at hr
    exact hr
  · have h := World.ownsRow_lit (e := 2) (size := 1) (base := W.heap.size) W (madeCells (Value.int .i64 0).cells (n * 1)) n (Nat.le_refl _) (by unfold maxLen; omega) (by simp [size_madeCells])
    rw [made_one _ _ rfl, ← I_replicate] at h
    exact h
theorem lit_one (w : World) (E : TypeId) (v : Value) {B g : Nat} (hB : B ≤ g) (hg : g = w.heap.size) : Own (w.alloc (.cells #[v] E)) B E (some ⟨g, 0, none⟩) 1 1 [v] := by subst hg; exact (own_lit1 w E v).mono hB
theorem one_drawn {b p : Nat} (hb : 2 ≤ b) (hb2 : b ≤ 10) (hp : 1 ≤ p) (hp2 : p ≤ 5) : DrawnCh ⟨b, 1, 0, 0, [[List.replicate b 0]], List.replicate p 0⟩ :=
  ⟨by simp only; omega, by simp only; omega, by simp only; omega, by simp only; omega, by simp only; omega, by simp only; omega, by simp, by simp, by simp; omega, by simp; omega,
    fun u hu => by
      obtain rfl := List.mem_singleton.1 hu
      refine ⟨by simp, fun r hr => ?_⟩
      obtain rfl := List.mem_singleton.1 hr
      exact ⟨by simp, fun d hd => by obtain ⟨_, rfl⟩ := List.mem_replicate.1 hd; simp⟩,
    fun k hk => by obtain ⟨_, rfl⟩ := List.mem_replicate.1 hk; simp⟩
/-- the chain is chosen -/
def ChCut (w : World) (g q b p : Nat) (a : Option Addr) (n c : Nat) (l : List UInt8) (k : Int) (wx : World) : Prop :=
  ∃ (D : Ch) (ad : Option Addr) (x cc : Nat) (pd : Option Addr) (pc lo hk : Nat), DrawnCh D ∧ D.base = b ∧ D.places.length = p ∧ x ≤ 3 ∧ (∀ W, KeepB lo hk wx W → ChIn W D ad x cc pd p pc) ∧
    SAt wx q 27 #[.int .i64 D.base, .int .i64 D.states, .int .i64 D.start, .int .i64 D.fin, .slice ad x cc, .slice pd p pc] ∧
    SAt wx w.heap.size 30 #[.int .i64 0, .int .i64 0, .int .i64 0, .int .i64 0, .slice none 0 0, .slice none 0 0, .int .i64 0, .slice none 0 0, .slice none 0 0] ∧
    SrcB wx g a n c l k ∧ Touch g w wx ∧ w.heap.size < lo ∧ lo ≤ hk ∧ hk ≤ wx.heap.size ∧ w.heap.size < q
theorem cut_no {w w2 wc w4 : World} {g q b p : Nat} {a : Option Addr} {n c : Nat} {l : List UInt8} {k : Int} {D : Ch} {ad : Option Addr} {x cc : Nat} {pd : Option Addr} {pc : Nat} (h1 : DrawnCh D) (h2 : D.base = b) (h3 : D.places.length = p) (h4 : x ≤ 3)
    (h5 : ∀ W, KeepB w2.heap.size q wc W → ChIn W D ad x cc pd p pc) (h6 : SAt w4 q 27 #[.int .i64 b, .int .i64 D.states, .int .i64 D.start, .int .i64 D.fin, .slice ad x cc, .slice pd p pc])
    (h7 : SAt w4 w.heap.size 30 #[.int .i64 0, .int .i64 0, .int .i64 0, .int .i64 0, .slice none 0 0, .slice none 0 0, .int .i64 0, .slice none 0 0, .slice none 0 0]) (h8 : SrcB w4 g a n c l k) (h9 : Touch g w w4)
    (ht : Touch g wc w4) (hg : g < w.heap.size) (hq : w2.heap.size ≤ q) (hw : w.heap.size < w2.heap.size) (hc : wc.heap.size = q + 1) : ChCut w g q b p a n c l k w4 :=
  ⟨D, ad, x, cc, pd, pc, w2.heap.size, q, h1, h2, h3, h4, fun W hW => h5 W (KeepB.trans (fun y hy1 hy2 => ht.block y (by omega) (by omega)) hW), by rw [h2]; exact h6, h7, h8, h9, hw, hq, by have := ht.size; omega, by omega⟩
theorem cut_yes {w w4 W1 W2 W3 W4 W5 : World} {g q b p : Nat} {a : Option Addr} {n c : Nat} {l : List UInt8} {k : Int} {MCb MCp : Array Value} {S0 S1 S2 : Int} {ad pd : Option Addr} {x cc pc : Nat} (hb : 2 ≤ b) (hb2 : b ≤ 10) (hp : 1 ≤ p) (hp2 : p ≤ 5)
    (hMb : ∀ W : World, Own (W.alloc (.cells MCb 2)) W.heap.size 2 (some ⟨W.heap.size, 0, none⟩) b b (I (List.replicate b 0)))
    (hMp : ∀ W : World, Own (W.alloc (.cells MCp 2)) W.heap.size 2 (some ⟨W.heap.size, 0, none⟩) p p (I (List.replicate p 0)))
    (h6 : SAt w4 q 27 #[.int .i64 b, .int .i64 S0, .int .i64 S1, .int .i64 S2, .slice ad x cc, .slice pd p pc])
    (h7 : SAt w4 w.heap.size 30 #[.int .i64 0, .int .i64 0, .int .i64 0, .int .i64 0, .slice none 0 0, .slice none 0 0, .int .i64 0, .slice none 0 0, .slice none 0 0]) (h8 : SrcB w4 g a n c l k) (h9 : Touch g w w4) (hg : g < w.heap.size) (hwq : w.heap.size < q)
    (e1 : W1 = ((w4.setCell ⟨q, 1, none⟩ (.int .i64 1)).setCell ⟨q, 2, none⟩ (.int .i64 0)).setCell ⟨q, 3, none⟩ (.int .i64 0))
    (e2 : W2 = (W1.setCell ⟨q, 4, none⟩ (.slice (some ⟨W1.heap.size + 1 + 1, 0, none⟩) 1 1)).setCell ⟨q, 5, none⟩ (.slice (some ⟨W1.heap.size + 1 + 1 + 1, 0, none⟩) p p))
    (e3 : W3 = W2.alloc (.cells MCb 2)) (e4 : W4 = W3.alloc (.cells #[.slice (some ⟨W1.heap.size, 0, none⟩) b b] 25))
    (e5 : W5 = (W4.alloc (.cells #[.slice (some ⟨W1.heap.size + 1, 0, none⟩) 1 1] 88)).alloc (.cells MCp 2)) : ChCut w g q b p a n c l k W5 := by
  have hql := h6.lt
  have s1 : W1.heap.size = w4.heap.size := by rw [e1]; simp [World.setCell]
  rw [s1] at e2 e4 e5
  have s2 : W2.heap.size = w4.heap.size := by rw [e2]; simp [World.setCell, s1]
  have s3 : W3.heap.size = w4.heap.size + 1 := by rw [e3]; simp [s2]
  have s4 : W4.heap.size = w4.heap.size + 2 := by rw [e4]; simp [s3]
  have s5 : W5.heap.size = w4.heap.size + 4 := by rw [e5]; simp [s4]
  have A1 : SAt W1 q 27 #[.int .i64 b, .int .i64 1, .int .i64 0, .int .i64 0, .slice ad x cc, .slice pd p pc] := by rw [e1]; exact ((h6.set 1 _).set 2 _).set 3 _
  have A2 : SAt W2 q 27 #[.int .i64 b, .int .i64 1, .int .i64 0, .int .i64 0, .slice (some ⟨w4.heap.size + 1 + 1, 0, none⟩) 1 1, .slice (some ⟨w4.heap.size + 1 + 1 + 1, 0, none⟩) p p] := by rw [e2]; exact (A1.set 4 _).set 5 _
  have A5 : SAt W5 q 27 #[.int .i64 b, .int .i64 1, .int .i64 0, .int .i64 0, .slice (some ⟨w4.heap.size + 1 + 1, 0, none⟩) 1 1, .slice (some ⟨w4.heap.size + 1 + 1 + 1, 0, none⟩) p p] := by rw [e5, e4, e3]; exact (((A2.alloc _).alloc _).alloc _).alloc _
  have Z5 : SAt W5 w.heap.size 30 #[.int .i64 0, .int .i64 0, .int .i64 0, .int .i64 0, .slice none 0 0, .slice none 0 0, .int .i64 0, .slice none 0 0, .slice none 0 0] := by
    have hne : w.heap.size ≠ q := by omega
    rw [e5, e4, e3, e2, e1]
    exact ((((((((h7.other _ hne).other _ hne).other _ hne).other _ hne).other _ hne).alloc _).alloc _).alloc _).alloc _
  have hbl : Below q w4 W5 := by
    have st : ∀ (W : World) (i : Nat) (v : Value), Below q w4 W → Below q w4 (W.setCell ⟨q, i, none⟩ v) := fun W i v hW => Below.setCell hW (p := ⟨q, i, none⟩) (Nat.le_refl _) v
    have hA : Below q w4 W2 := by rw [e2, e1]; exact st _ _ _ (st _ _ _ (st _ _ _ (st _ _ _ (st _ _ _ (Below.refl q w4)))))
    rw [e5]
    refine Below.alloc (Below.alloc ?_ (by omega) _) (by simp; omega) _
    rw [e4]
    refine Below.alloc ?_ (by omega) _
    rw [e3]
    exact Below.alloc hA (by omega) _
  have B3 : Own W3 w4.heap.size 2 (some ⟨w4.heap.size, 0, none⟩) b b (I (List.replicate b 0)) := by have := hMb W2; rw [s2, ← e3] at this; exact this
  have B4 : Own W4 w4.heap.size 25 (some ⟨w4.heap.size + 1, 0, none⟩) 1 1 [.slice (some ⟨w4.heap.size, 0, none⟩) b b] := by rw [e4]; exact lit_one W3 _ _ (by omega) s3.symm
  have B3' : Own W4 w4.heap.size 2 (some ⟨w4.heap.size, 0, none⟩) b b (I (List.replicate b 0)) := by rw [e4]; exact B3.alloc' _
  have T5 : Own W5 w4.heap.size 88 (some ⟨w4.heap.size + 1 + 1, 0, none⟩) 1 1 [.slice (some ⟨w4.heap.size + 1, 0, none⟩) 1 1] := by
    rw [e5]; exact (lit_one W4 _ _ (by omega) s4.symm).alloc' _
  have M5 : OwnMat W5 w4.heap.size 25 2 (some ⟨w4.heap.size + 1, 0, none⟩) 1 1 [List.replicate b 0] := by
    rw [e5]
    refine ⟨rfl, _, (B4.alloc' _).alloc' _, fun k hk => ?_⟩
    obtain rfl : k = 0 := by omega
    exact ⟨_, b, b, rfl, (B3'.alloc' _).alloc' _⟩
  have P5 : Own W5 w4.heap.size 2 (some ⟨w4.heap.size + 1 + 1 + 1, 0, none⟩) p p (I (List.replicate p 0)) := by
    have := hMp (W4.alloc (.cells #[.slice (some ⟨w4.heap.size + 1, 0, none⟩) 1 1] 88))
    rw [← e5, show (W4.alloc (.cells #[.slice (some ⟨w4.heap.size + 1, 0, none⟩) 1 1] 88)).heap.size = w4.heap.size + 1 + 1 + 1 by simp [s4]] at this
    exact this.mono (by omega)
  refine ⟨⟨b, 1, 0, 0, [[List.replicate b 0]], List.replicate p 0⟩, _, 1, 1, _, p, w4.heap.size, W5.heap.size, one_drawn hb hb2 hp hp2, rfl, by simp, by omega, fun W hW => ⟨⟨rfl, _, (T5.keepB hW).sl, fun k hk => ?_⟩, (P5.keepB hW).ints, by omega, by omega, (one_drawn hb hb2 hp hp2).small⟩, A5, Z5, h8.below hbl (by omega), h9.below hbl (by omega), by omega, by omega, Nat.le_refl _, hwq⟩
  obtain rfl : k = 0 := by omega
  exact ⟨_, 1, 1, rfl, (M5.keepB hW).mat⟩
/-- what a choice leaves: for the walk behind it -/
theorem tcell {g B : Nat} {W w1 : World} (h : Touch g W w1) (hg : g < B) : (∀ b o, B ≤ b → b < W.heap.size → w1.cell? ⟨b, o, none⟩ = W.cell? ⟨b, o, none⟩) ∧ (∀ b o, B ≤ b → b < W.heap.size → w1.frozen? ⟨b, o, none⟩ = W.frozen? ⟨b, o, none⟩) :=
  ⟨fun b o hB hb => World.cell?_of_block (h.block b hb (by omega)), fun b o hB hb => by
    have := h.block b hb (by omega)
    simp only [World.frozen?, this]⟩
/-- the block q holds a registry of the call's own: the chain lies from lo to hk, the revoked ones above it -/
structure RgD (W : World) (q B : Nat) (D : Rg) (a : Option Addr) (n c : Nat) (b : Option Addr) (m d : Nat) (ia : Option Addr) (im ic : Nat) (ra : Option Addr) (rm rc : Nat) (lo hk : Nat) : Prop where
  s : SAt W q 30 #[.int .i64 D.ch.base, .int .i64 D.ch.states, .int .i64 D.ch.start, .int .i64 D.ch.fin, .slice a n c, .slice b m d, .int .i64 D.apart, .slice ia im ic, .slice ra rm rc]
  ch : ∀ W', KeepB lo hk W W' → ChIn W' D.ch a n c b m d
  is : Own W B 9 ia im ic (St D.issued)
  pos : ∀ g, ia = some g → g.block < lo ∨ hk ≤ g.block
  rs : Own W hk 2 ra rm rc (I D.revoked)
  qb : B ≤ q ∧ (q < lo ∨ hk ≤ q)
  le : B ≤ lo ∧ lo ≤ hk ∧ hk ≤ W.heap.size
section
variable {W W' : World} {q B : Nat} {D : Rg} {a : Option Addr} {n c : Nat} {b : Option Addr} {m d : Nat} {ia : Option Addr} {im ic : Nat} {ra : Option Addr} {rm rc : Nat} {lo hk : Nat}
theorem RgD.ext (h : RgD W q B D a n c b m d ia im ic ra rm rc lo hk) (hx : Ext W W') : RgD W' q B D a n c b m d ia im ic ra rm rc lo hk :=
  ⟨h.s.ext hx, fun V hV => h.ch V ((KeepB.ext hx h.le.2.2).trans hV), h.is.ext hx, h.pos, h.rs.ext hx, h.qb, h.le.1, h.le.2.1, Nat.le_trans h.le.2.2 hx.le⟩
theorem RgD.touch (h : RgD W q B D a n c b m d ia im ic ra rm rc lo hk) {g : Nat} (ht : Touch g W W') (hg : g < B) : RgD W' q B D a n c b m d ia im ic ra rm rc lo hk := by
  have h1 := h.le; have h2 := h.qb
  exact ⟨h.s.touch ht (by omega), fun V hV => h.ch V ((ht.keepB (by omega) h1.2.2).trans hV), h.is.touchNe ht hg, h.pos, h.rs.touchNe ht (by omega), h.qb, h1.1, h1.2.1, Nat.le_trans h1.2.2 ht.size⟩
theorem RgD.rgIn (h : RgD W q B D a n c b m d ia im ic ra rm rc lo hk) (hi : im ≤ 5) (hr : rm ≤ 5) (hz : ∀ s ∈ D.issued, s.size ≤ 1048576) : RgIn W D a n c b m d ia im ic ra rm rc := ⟨h.ch W (KeepB.refl _ _ _), h.is.sl, h.rs.ints, by omega, by omega, hz⟩
theorem RgD.rgAt (h : RgD W q B D a n c b m d ia im ic ra rm rc lo hk) : RgAt W q D a n c b m d ia im ic ra rm rc := by
  have hc := h.ch W (KeepB.refl _ _ _)
  exact ⟨⟨fun w' hx => hx.cell (h.s.cell 0 (by simp)), fun w' hx => hx.cell (h.s.cell 1 (by simp)), fun w' hx => hx.cell (h.s.cell 2 (by simp)), fun w' hx => hx.cell (h.s.cell 3 (by simp)), fun w' hx => hx.cell (h.s.cell 4 (by simp)), fun w' hx => hx.cell (h.s.cell 5 (by simp)), hc.ts, hc.ps⟩,
    fun w' hx => hx.cell (h.s.cell 6 (by simp)), fun w' hx => hx.cell (h.s.cell 7 (by simp)), fun w' hx => hx.cell (h.s.cell 8 (by simp)), h.is.sl, h.rs.ints⟩
end
theorem KeepB.nine {lo hk q : Nat} {w : World} (h : q < lo) (v0 v1 v2 v3 v4 v5 v6 v7 v8 : Value) :
    KeepB lo hk w (((((((((w.setCell ⟨q, 0, none⟩ v0).setCell ⟨q, 1, none⟩ v1).setCell ⟨q, 2, none⟩ v2).setCell ⟨q, 3, none⟩ v3).setCell ⟨q, 4, none⟩ v4).setCell ⟨q, 5, none⟩ v5).setCell ⟨q, 6, none⟩ v6).setCell ⟨q, 7, none⟩ v7).setCell ⟨q, 8, none⟩ v8) :=
  (((((((((KeepB.refl lo hk w).setO _ v0 (.inl h)).setO _ v1 (.inl h)).setO _ v2 (.inl h)).setO _ v3 (.inl h)).setO _ v4 (.inl h)).setO _ v5 (.inl h)).setO _ v6 (.inl h)).setO _ v7 (.inl h)).setO _ v8 (.inl h)
/-- nine stores into one block -/
abbrev W9 (w : World) (q : Nat) (v0 v1 v2 v3 v4 v5 v6 v7 v8 : Value) : World := (((((((((w.setCell ⟨q, 0, none⟩ v0).setCell ⟨q, 1, none⟩ v1).setCell ⟨q, 2, none⟩ v2).setCell ⟨q, 3, none⟩ v3).setCell ⟨q, 4, none⟩ v4).setCell ⟨q, 5, none⟩ v5).setCell ⟨q, 6, none⟩ v6).setCell ⟨q, 7, none⟩ v7).setCell ⟨q, 8, none⟩ v8)
theorem SAt.w9 {w : World} {g : Nat} {T : TypeId} {z0 z1 z2 z3 z4 z5 z6 z7 z8 : Value} (h : SAt w g T #[z0, z1, z2, z3, z4, z5, z6, z7, z8]) (v0 v1 v2 v3 v4 v5 v6 v7 v8 : Value) :
    SAt (W9 w g v0 v1 v2 v3 v4 v5 v6 v7 v8) g T #[v0, v1, v2, v3, v4, v5, v6, v7, v8] := by
  have h0 : SAt (w.setCell ⟨g, 0, none⟩ v0) g T #[v0, z1, z2, z3, z4, z5, z6, z7, z8] := h.set 0 v0
  have h1 : SAt ((w.setCell ⟨g, 0, none⟩ v0).setCell ⟨g, 1, none⟩ v1) g T #[v0, v1, z2, z3, z4, z5, z6, z7, z8] := h0.set 1 v1
  have h2 : SAt (((w.setCell ⟨g, 0, none⟩ v0).setCell ⟨g, 1, none⟩ v1).setCell ⟨g, 2, none⟩ v2) g T #[v0, v1, v2, z3, z4, z5, z6, z7, z8] := h1.set 2 v2
  have h3 : SAt ((((w.setCell ⟨g, 0, none⟩ v0).setCell ⟨g, 1, none⟩ v1).setCell ⟨g, 2, none⟩ v2).setCell ⟨g, 3, none⟩ v3) g T #[v0, v1, v2, v3, z4, z5, z6, z7, z8] := h2.set 3 v3
  have h4 : SAt (((((w.setCell ⟨g, 0, none⟩ v0).setCell ⟨g, 1, none⟩ v1).setCell ⟨g, 2, none⟩ v2).setCell ⟨g, 3, none⟩ v3).setCell ⟨g, 4, none⟩ v4) g T #[v0, v1, v2, v3, v4, z5, z6, z7, z8] := h3.set 4 v4
  have h5 : SAt ((((((w.setCell ⟨g, 0, none⟩ v0).setCell ⟨g, 1, none⟩ v1).setCell ⟨g, 2, none⟩ v2).setCell ⟨g, 3, none⟩ v3).setCell ⟨g, 4, none⟩ v4).setCell ⟨g, 5, none⟩ v5) g T #[v0, v1, v2, v3, v4, v5, z6, z7, z8] := h4.set 5 v5
  have h6 : SAt (((((((w.setCell ⟨g, 0, none⟩ v0).setCell ⟨g, 1, none⟩ v1).setCell ⟨g, 2, none⟩ v2).setCell ⟨g, 3, none⟩ v3).setCell ⟨g, 4, none⟩ v4).setCell ⟨g, 5, none⟩ v5).setCell ⟨g, 6, none⟩ v6) g T #[v0, v1, v2, v3, v4, v5, v6, z7, z8] := h5.set 6 v6
  have h7 : SAt ((((((((w.setCell ⟨g, 0, none⟩ v0).setCell ⟨g, 1, none⟩ v1).setCell ⟨g, 2, none⟩ v2).setCell ⟨g, 3, none⟩ v3).setCell ⟨g, 4, none⟩ v4).setCell ⟨g, 5, none⟩ v5).setCell ⟨g, 6, none⟩ v6).setCell ⟨g, 7, none⟩ v7) g T #[v0, v1, v2, v3, v4, v5, v6, v7, z8] := h6.set 7 v7
  exact h7.set 8 v8
theorem own_w9 {w : World} {B : Nat} {E : TypeId} {a : Option Addr} {n c : Nat} {vs : List Value} (h : Own w B E a n c vs) {q : Nat} (hq : ∀ g, a = some g → g.block ≠ q) (v0 v1 v2 v3 v4 v5 v6 v7 v8 : Value) : Own (W9 w q v0 v1 v2 v3 v4 v5 v6 v7 v8) B E a n c vs :=
  ((((((((h.other v0 hq).other v1 hq).other v2 hq).other v3 hq).other v4 hq).other v5 hq).other v6 hq).other v7 hq).other v8 hq
theorem w9_block {w : World} {q x : Nat} (h : x ≠ q) (v0 v1 v2 v3 v4 v5 v6 v7 v8 : Value) : (W9 w q v0 v1 v2 v3 v4 v5 v6 v7 v8).heap[x]? = w.heap[x]? := by
  unfold W9
  iterate 9 rw [Below.heap_setCell _ _ _ _ (by simpa using h)]
theorem w9_size {w : World} {q : Nat} (v0 v1 v2 v3 v4 v5 v6 v7 v8 : Value) : (W9 w q v0 v1 v2 v3 v4 v5 v6 v7 v8).heap.size = w.heap.size := by simp [W9, World.setCell]
theorem w9_below {w : World} {q B : Nat} (h : B ≤ q) (v0 v1 v2 v3 v4 v5 v6 v7 v8 : Value) : Below B w (W9 w q v0 v1 v2 v3 v4 v5 v6 v7 v8) := by
  have st : ∀ (W : World) (i : Nat) (v : Value), Below B w W → Below B w (W.setCell ⟨q, i, none⟩ v) := fun W i v hW => Below.setCell hW (p := ⟨q, i, none⟩) h v
  exact st _ _ _ (st _ _ _ (st _ _ _ (st _ _ _ (st _ _ _ (st _ _ _ (st _ _ _ (st _ _ _ (st _ _ _ (Below.refl B w)))))))))
theorem w9_touch {g : Nat} {a w : World} {q : Nat} (h : Touch g a w) (hq : a.heap.size ≤ q) (v0 v1 v2 v3 v4 v5 v6 v7 v8 : Value) : Touch g a (W9 w q v0 v1 v2 v3 v4 v5 v6 v7 v8) := h.below (w9_below hq ..) (Nat.le_refl _)
/-- the new registry is stored -/
theorem RgD.put {W W2 : World} {q B : Nat} {D D2 : Rg} {a : Option Addr} {n c : Nat} {b : Option Addr} {m d : Nat} {ia : Option Addr} {im ic : Nat} {ra : Option Addr} {rm rc : Nat} {lo hk : Nat} {a2 : Option Addr} {n2 c2 : Nat} {b2 : Option Addr} {m2 d2 : Nat} {ia2 : Option Addr} {im2 ic2 : Nat} {ra2 : Option Addr} {rm2 rc2 : Nat} {lo2 hk2 : Nat} (h : RgD W q B D a n c b m d ia im ic ra rm rc lo hk) (hx : Ext W W2) (h1 : W.heap.size ≤ lo2) (h2 : lo2 ≤ hk2) (h3 : hk2 ≤ W2.heap.size) (hc : ∀ V, KeepB lo2 hk2 W2 V → ChIn V D2.ch a2 n2 c2 b2 m2 d2)
    (hi : Own W2 W.heap.size 9 ia2 im2 ic2 (St D2.issued)) (hp : ∀ g, ia2 = some g → g.block < lo2 ∨ hk2 ≤ g.block) (hr : Own W2 hk2 2 ra2 rm2 rc2 (I D2.revoked)) :
    RgD (W9 W2 q (.int .i64 D2.ch.base) (.int .i64 D2.ch.states) (.int .i64 D2.ch.start) (.int .i64 D2.ch.fin) (.slice a2 n2 c2) (.slice b2 m2 d2) (.int .i64 D2.apart) (.slice ia2 im2 ic2) (.slice ra2 rm2 rc2)) q B D2 a2 n2 c2 b2 m2 d2 ia2 im2 ic2 ra2 rm2 rc2 lo2 hk2 := by
  have hs := h.s.ext hx
  have hq := h.s.lt
  have hl := h.le
  have hb := h.qb
  exact ⟨hs.w9 .., fun V hV => hc V (KeepB.trans (fun x h1 h2 => w9_block (by omega) ..) hV), own_w9 (hi.mono (by omega)) (hi.ne_s hs (by decide)) .., hp, own_w9 hr (hr.ne_s hs (by decide)) .., ⟨hb.1, .inl (by omega)⟩, ⟨by omega, h2, by rw [w9_size]; exact h3⟩⟩
theorem RgD.inn {W V : World} {q B : Nat} {D : Rg} {a : Option Addr} {n c : Nat} {b : Option Addr} {m d : Nat} {ia : Option Addr} {im ic : Nat} {ra : Option Addr} {rm rc : Nat} {lo hk q0 : Nat} (h : RgD W q B D a n c b m d ia im ic ra rm rc lo hk) (_hq : q0 < B) (hi : im ≤ 5) (hr : rm ≤ 5) (hz : ∀ s ∈ D.issued, s.size ≤ 1048576) (hV : KeepB B W.heap.size W V) : RgIn V D a n c b m d ia im ic ra rm rc := by
  have hl := h.le
  exact ⟨h.ch V (hV.mono hl.1 hl.2.2), (h.is.keepB hV).sl, (h.rs.keepB (hV.mono (by omega) (Nat.le_refl _))).ints, by omega, by omega, hz⟩
def revR (D : Rg) (L : List Int) : Rg := { D with revoked := L }
/-- a number more is revoked -/
theorem RgD.rev {W W' : World} {q B : Nat} {D : Rg} {L : List Int} {a : Option Addr} {n c : Nat} {b : Option Addr} {m d : Nat} {ia : Option Addr} {im ic : Nat} {ra : Option Addr} {rm rc : Nat} {lo hk : Nat} {ad : Option Addr} {ac : Nat} {i : Int} (h : RgD W q B (revR D L) a n c b m d ia im ic ra rm rc lo hk) (ho : Own W' hk 2 ad (rm + 1) ac (I L ++ [.int .i64 i])) (hb : Below hk W W') (hg : W.grownBy W' (Value.slice ra rm rc).ownBlock) :
    RgD (W'.setCell ⟨q, 8, none⟩ (.slice ad (rm + 1) ac)) q B (revR D (L ++ [i])) a n c b m d ia im ic ad (rm + 1) ac lo hk := by
  have hs := h.s.grown hg (row_ne_s (h.rs.ne_s h.s (by decide)))
  have hl := h.le
  have hq := h.qb
  have hi := h.is.grownT h.rs hg (by decide)
  refine ⟨hs.set 8 _, fun V hV => h.ch V (KeepB.trans (fun x h1 h2 => hb.block x (by omega)) (KeepB.trans (KeepB.setO (KeepB.refl lo hk W') _ _ (by simp only; exact hq.2)) hV)), hi.setS hs (by decide) 8 _, h.pos, ?_, hq, ⟨hl.1, hl.2.1, ?_⟩⟩
  · have := ho.setS hs (by decide) 8 (.slice ad (rm + 1) ac)
    rw [show (revR D (L ++ [i])).revoked = L ++ [i] from rfl, I_append]; exact this
  · have := hg.size; simp only [World.setCell, Array.size_modify]; omega
theorem OkRg.valid {R : Rg} (h : OkRg R) : validRg R = true := by
  refine valid_yes ?_ (fun i hi => ?_) (fun k hk => ?_)
  · unfold headRg
    simp only [Bool.and_eq_true, decide_eq_true_eq]
    exact ⟨h.vc, inB_t.2 ⟨h.a1, h.a6⟩, h.n40⟩
  · unfold issB
    simp only [Bool.and_eq_true, List.all_eq_true]
    exact ⟨h.chk i hi, fun k hk => h.far i k (List.mem_range.1 hk) hi⟩
  · unfold revB
    simp only [Bool.and_eq_true, Bool.or_eq_true, decide_eq_true_eq]
    have := h.rev k hk
    refine ⟨inB_t.2 (by omega), ?_⟩
    by_cases h0 : k = 0
    · exact .inl h0
    · exact .inr (h.up k (by omega) hk)
/-- the first revoked ones -/
structure RevOk (L : List Int) (t : Nat) : Prop where
  b : ∀ k, k < L.length → 0 ≤ gi L k ∧ gi L k < t
  u : ∀ k, 0 < k → k < L.length → gi L (k - 1) < gi L k
theorem RevOk.nil : RevOk [] 0 := ⟨fun k hk => by simp at hk, fun k _ hk => by simp at hk⟩
theorem RevOk.up {L : List Int} {t : Nat} (h : RevOk L t) : RevOk L (t + 1) := ⟨fun k hk => by have := h.b k hk; omega, h.u⟩
theorem gi_app_l {L : List Int} {x : Int} {k : Nat} (h : k < L.length) : gi (L ++ [x]) k = gi L k := by simp [gi, List.getD_eq_getElem?_getD, List.getElem?_append_left h]
theorem gi_app_r (L : List Int) (x : Int) : gi (L ++ [x]) L.length = x := by simp [gi, List.getD_eq_getElem?_getD]
theorem RevOk.add {L : List Int} {t : Nat} (h : RevOk L t) : RevOk (L ++ [(t : Int)]) (t + 1) := by
  refine ⟨fun k hk => ?_, fun k h0 hk => ?_⟩
  · simp at hk
    by_cases h1 : k < L.length
    · rw [gi_app_l h1]; have := h.b k h1; omega
    · obtain rfl : k = L.length := by omega
      rw [gi_app_r]; omega
  · simp at hk
    by_cases h1 : k < L.length
    · rw [gi_app_l h1, gi_app_l (by omega)]; exact h.u k h0 h1
    · obtain rfl : k = L.length := by omega
      rw [gi_app_r, gi_app_l (by omega)]; have := h.b (L.length - 1) (by omega); omega
theorem OkRg.rev' {D : Rg} {L : List Int} {t : Nat} (h : OkRg D) (hL : RevOk L t) (ht : t ≤ D.issued.length) : OkRg (revR D L) :=
  ⟨h.ch, h.vc, h.a1, h.a6, h.n40, h.chk, h.size, h.s20, h.far, fun k hk => by have := hL.b k hk; exact ⟨this.1, by have h2 : gi (revR D L).revoked k < t := this.2; show gi (revR D L).revoked k < (D.issued.length : Int); omega⟩, hL.u⟩
theorem OkRg.new {D : Ch} {ap : Int} (h : DrawnCh D) (h1 : 1 ≤ ap) (h6 : ap ≤ 6) : OkRg ⟨D, ap, [], []⟩ :=
  ⟨validCh_ok h.valid, h.valid, h1, h6, by simp, fun i hi => by simp at hi, fun i hi => by simp at hi, fun i hi => by simp at hi, fun i k _ hi => by simp at hi, fun k hk => by simp at hk, fun k _ hk => by simp at hk⟩
end Go.Proofs.Ytcdoanookiimaaa
