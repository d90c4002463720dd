/- Walks: slices of weightings; the laws' helpers on them. -/
import Derived.Test.YtlpbflmgkopklaaWSum
import Derived.Test.YtlpbflmgkopklaaMix2
import Derived.Test.YtlpbflmgkopklaaStrs
namespace Go.Proofs.Ytlpbflmgkopklaa
set_option maxRecDepth 100000
open Go.RowKit

/-- the k-th weighting -/
def gw (L : List Wt) (k : Nat) : Wt := L.getD k ⟨0, 0, 0, []⟩
theorem gw_mem {L : List Wt} {k : Nat} (h : k < L.length) : gw L k ∈ L := getD_mem L _ k h
/-- a weighting's cells in block b from o on -/
structure WtO (w : World) (b o : Nat) (W : Wt) (a : Option Addr) (n c : Nat) : Prop where
  c0 : w.cell? ⟨b, o, none⟩ = some (.int .i64 W.base)
  c1 : w.cell? ⟨b, o + 1, none⟩ = some (.int .i64 W.modulus)
  c2 : w.cell? ⟨b, o + 2, none⟩ = some (.int .i64 W.target)
  c3 : w.cell? ⟨b, o + 3, none⟩ = some (.slice a n c)
  ws : Ints w a n c W.weights
theorem WtO.ext {w w' : World} {b o : Nat} {W : Wt} {a : Option Addr} {n c : Nat} (h : WtO w b o W a n c) (hx : Ext w w') : WtO w' b o W a n c :=
  ⟨hx.cell h.c0, hx.cell h.c1, hx.cell h.c2, hx.cell h.c3, h.ws.ext hx⟩
/-- a slice of weightings -/
def Wts (w : World) (a : Option Addr) (n c : Nat) (L : List Wt) : Prop :=
  L.length = n ∧ n ≤ c ∧ (0 < n → ∃ b off, a = some ⟨b, off, none⟩ ∧ ∀ k, k < n → ∃ a' n' c', WtO w b (off + k * 4) (gw L k) a' n' c')
theorem Wts.ext {w w' : World} {a : Option Addr} {n c : Nat} {L : List Wt} (h : Wts w a n c L) (hx : Ext w w') : Wts w' a n c L :=
  ⟨h.1, h.2.1, fun h0 => let ⟨b, off, e, g⟩ := h.2.2 h0; ⟨b, off, e, fun k hk => let ⟨a', n', c', g2⟩ := g k hk; ⟨a', n', c', g2.ext hx⟩⟩⟩
theorem cellsOf_sizeN {P : Program} {E : TypeId} {s : Nat} (he : P.cellsOf E = s) (h0 : 0 < s) : ∃ i, P.info? E = some i ∧ i.size = s := by
  unfold Program.cellsOf at he
  cases hi : P.info? E with
  | none => rw [hi] at he; simp at he; omega
  | some i => rw [hi] at he; exact ⟨i, rfl, by simpa using he⟩
theorem Wts.at {P : Program} {w : World} {a : Option Addr} {n c : Nat} {L : List Wt} (h : Wts w a n c L) (T E : TypeId) (ht : P.underlying T = some (.slice E)) (he : P.cellsOf E = 4) (k : Nat) (hk : k < n) (K : IntKind) :
    ∃ b o a' n' c', (∀ w', (Instr.indexAt T (.slice a n c) (.int K k)).run P w' = .ok (.pointer (some ⟨b, o, none⟩)) w') ∧ WtO w b o (gw L k) a' n' c' := by
  obtain ⟨b, off, rfl, g⟩ := h.2.2 (by omega)
  obtain ⟨a', n', c', hg⟩ := g k hk
  obtain ⟨i, hi, hs⟩ := cellsOf_sizeN he (by omega)
  refine ⟨b, off + k * 4, a', n', c', fun w' => ?_, hg⟩
  have : (⟨b, off, none⟩ : Addr).add (k * 4) = ⟨b, off + k * 4, none⟩ := by unfold Addr.add; split <;> simp_all
  simp [Instr.indexAt, asIntOf, run_underlying ht, sizeOf, typeInfo, hi, hs, Addr.add_lit, hk]
/-- a row of structs of the call's own -/
def OwnN (s : Nat) (w : World) (B : Nat) (E : TypeId) (g n : Nat) (vs : List Value) : Prop := w.ownsRow B E s (.slice (some ⟨g, 0, none⟩) n n) n vs
theorem OwnN.ext {s : Nat} {w w' : World} {B : Nat} {E : TypeId} {g n : Nat} {vs : List Value} (h : OwnN s w B E g n vs) (hx : Ext w w') : OwnN s w' B E g n vs := by
  refine ⟨h.1, ?_⟩
  rcases h.2 with h2 | ⟨g', cap, cur, hv, hb, hg, r⟩
  · exact .inl h2
  · exact .inr ⟨g', cap, cur, hv, hb, hx.heap hg, r⟩
theorem law_makeN {P : Program} (w : World) {ops : Array Oper} {rest : List Oper} {o : Oper} {a : Act} {Q : Exit → Act → World → Prop}
    (hg : o.guard = none) (l c : Operand) (t : TypeId) (hop : o.op = Op.makeSlice t l c) (e : TypeId) (z : Value) (s bytes : Nat) (h1 : P.underlying t = some (.slice e))
    (h2 : (P.info? e).map (fun i => (i.zero, i.size, i.bytes)) = some (some z, s, bytes)) (kl kc : IntKind) (n : Nat) (hl : a.eval l = .int kl (n : Int)) (hc : a.eval c = .int kc (n : Int))
    (b2 : bytes * n ≤ 281474976710656) (b3 : n ≤ maxLen)
    (hK : ∀ w' vs, OwnN s w' w.heap.size e w.heap.size n vs → Ext w w' → w'.heap.size = w.heap.size + 1 → wpList P ops Q rest (a.put o.dst (.slice (some ⟨w.heap.size, 0, none⟩) n n)) w') :
    wpList P ops Q (o :: rest) a w := by
  obtain ⟨i, hi, hz0, hz1, rfl⟩ : ∃ i, P.info? e = some i ∧ i.zero = some z ∧ i.size = s ∧ i.bytes = bytes := by
    cases hi : P.info? e with
    | none => rw [hi] at h2; cases h2
    | some i =>
      rw [hi] at h2
      simp only [Option.map_some, Option.some.injEq, Prod.mk.injEq] at h2
      exact ⟨i, rfl, h2.1, h2.2.1, h2.2.2⟩
  refine wpList_plain hg fun K hK' => ?_
  have hr := run_make (P := P) w t e i z h1 hi hz0 kl kc n n (by omega) (Int.le_refl _) (by have : ((i.bytes * n : Nat) : Int) ≤ 281474976710656 := by omega
                                                                                            rwa [Int.natCast_mul] at this) (by have := b3; simp [maxLen] at this; omega)
  simp only [Int.toNat_natCast] at hr
  unfold Oper.wp
  simp [execOp, hop, hl, hc, hr, Result.andThen]
  rw [hz1]
  exact hK' _ _ (hK _ _ (World.ownsRow_lit (e := e) (size := s) (base := w.heap.size) w (madeCells z.cells (n * s)) n (Nat.le_refl _) b3 (by simp [size_madeCells])) ((Ext.refl w).alloc _) (by simp))
theorem und_wts : Try.prog.underlying 50 = some (.slice 34) := Try.underlying50
theorem cell_wt : Try.prog.cellsOf 34 = 4 := by kernel_rfl
theorem info_wt : (Try.prog.info? 34).map (fun i => (i.zero, i.size, i.bytes)) = some (some (.agg #[.int .i64 0, .int .i64 0, .int .i64 0, .slice none 0 0]), 4, 48) := by kernel_rfl
theorem und_lwts : Try.prog.underlying 45 = some (.slice 56) := Try.underlying45
theorem cell_lwt : Try.prog.cellsOf 56 = 4 := by kernel_rfl
/-- the first k weightings stand in the row -/
def DoneW (w : World) (g k : Nat) (L : List Wt) (vs : List Value) : Prop := ∀ j, j < k → ∃ a' n' c', vs[j * 4]? = some (.int .i64 (gw L j).base) ∧ vs[j * 4 + 1]? = some (.int .i64 (gw L j).modulus) ∧ vs[j * 4 + 2]? = some (.int .i64 (gw L j).target) ∧ vs[j * 4 + 3]? = some (.slice a' n' c') ∧ Own w (g + 1) 2 a' n' c' (I (gw L j).weights)
theorem DoneW.ext {w w' : World} {g k : Nat} {L : List Wt} {vs : List Value} (h : DoneW w g k L vs) (hx : Ext w w') : DoneW w' g k L vs := fun j hj =>
  let ⟨a', n', c', h0, h1, h2, h3, h4⟩ := h j hj
  ⟨a', n', c', h0, h1, h2, h3, h4.ext hx⟩
theorem OwnN.cell {s : Nat} {w : World} {B : Nat} {E : TypeId} {g n : Nat} {vs : List Value} (h : OwnN s w B E g n vs) (j : Nat) (hj : j < n * s) : w.cell? ⟨g, j, none⟩ = vs[j]? := World.ownsRow.cellAt h j hj
theorem OwnN.frozen {s : Nat} {w : World} {B : Nat} {E : TypeId} {g n : Nat} {vs : List Value} (h : OwnN s w B E g n vs) (j : Nat) : w.frozen? ⟨g, j, none⟩ = false := World.ownsRow.frozenAt h j
theorem OwnN.set {s : Nat} {w : World} {B : Nat} {E : TypeId} {g n : Nat} {vs : List Value} (h : OwnN s w B E g n vs) (j : Nat) (u : Value) : OwnN s (w.setCell ⟨g, j, none⟩ u) B E g n (vs.set j u) := (World.ownsRow.stored h j u).1
theorem OwnN.len {s : Nat} {w : World} {B : Nat} {E : TypeId} {g n : Nat} {vs : List Value} (h : OwnN s w B E g n vs) : vs.length = n * s := h.1
theorem OwnN.at {s : Nat} {P : Program} {w : World} {B : Nat} {E : TypeId} {g n : Nat} {vs : List Value} (h : OwnN s w B E g n vs) (T : TypeId) (ht : P.underlying T = some (.slice E)) (he : P.cellsOf E = s) (h0 : 0 < s) (k : Nat) (hk : k < n) (K : IntKind) :
    (∀ w', (Instr.indexAt T (.slice (some ⟨g, 0, none⟩) n n) (.int K k)).run P w' = .ok (.pointer (some ⟨g, k * s, none⟩)) w') ∧ (∀ j, j < s → ∃ x, w.cell? ⟨g, k * s + j, none⟩ = some x) ∧ ∀ j, w.frozen? ⟨g, j, none⟩ = false := by
  obtain ⟨i, hi, hs⟩ := cellsOf_sizeN he h0
  refine ⟨fun w' => ?_, fun j hj => ?_, h.frozen⟩
  · have : (⟨g, 0, none⟩ : Addr).add (k * s) = ⟨g, k * s, none⟩ := by unfold Addr.add; simp; exact fun h => h.symm
    simp [Instr.indexAt, asIntOf, run_underlying ht, sizeOf, typeInfo, hi, hs, Addr.add_lit, hk]
  · have h1 : k * s + j < n * s := by
      have := Nat.mul_le_mul_right s (show k + 1 ≤ n from hk)
      rw [Nat.add_mul] at this; omega
    rw [h.cell _ h1]
    exact ⟨_, List.getElem?_eq_getElem (by rw [h.len]; exact h1)⟩
/-- a slice of weightings, new -/
def RetWts (L : List Wt) (w : World) (e : Ending) (w' : World) : Prop := ∃ a c, e = .returned (.slice a L.length c) ∧ (∀ W : World, (∀ b, w.heap.size ≤ b → W.heap[b]? = w'.heap[b]?) → Wts W a L.length c L) ∧ Ext w w'
theorem Own.keepB {w W : World} {B : Nat} {E : TypeId} {a : Option Addr} {n c : Nat} {vs : List Value} (h : Own w B E a n c vs) (hk : ∀ b, B ≤ b → W.heap[b]? = w.heap[b]?) : Own W B E a n c vs := by
  refine ⟨h.1, ?_⟩
  rcases h.2 with h2 | ⟨g, cap, cur, hv, hb, hg, r⟩
  · exact .inl h2
  · exact .inr ⟨g, cap, cur, hv, hb, (hk g hb).trans hg, r⟩
theorem OwnN.keepB {s : Nat} {w W : World} {B : Nat} {E : TypeId} {g n : Nat} {vs : List Value} (h : OwnN s w B E g n vs) (hk : ∀ b, B ≤ b → W.heap[b]? = w.heap[b]?) : OwnN s W B E g n vs := by
  refine ⟨h.1, ?_⟩
  rcases h.2 with h2 | ⟨g', cap, cur, hv, hb, hg, r⟩
  · exact .inl h2
  · exact .inr ⟨g', cap, cur, hv, hb, (hk g' hb).trans hg, r⟩
theorem DoneW.store {w : World} {g n k : Nat} {L : List Wt} {vs : List Value} (h : DoneW w g k L vs) (ho : OwnN 4 w g 34 g n vs) (hk : k < n) {a' : Option Addr} {n' c' : Nat} (hw : Own w (g + 1) 2 a' n' c' (I (gw L k).weights)) :
    ∃ vs', OwnN 4 ((((w.setCell ⟨g, k * 4, none⟩ (.int .i64 (gw L k).base)).setCell ⟨g, k * 4 + 1, none⟩ (.int .i64 (gw L k).modulus)).setCell ⟨g, k * 4 + 2, none⟩ (.int .i64 (gw L k).target)).setCell ⟨g, k * 4 + 3, none⟩ (.slice a' n' c')) g 34 g n vs' ∧
      DoneW ((((w.setCell ⟨g, k * 4, none⟩ (.int .i64 (gw L k).base)).setCell ⟨g, k * 4 + 1, none⟩ (.int .i64 (gw L k).modulus)).setCell ⟨g, k * 4 + 2, none⟩ (.int .i64 (gw L k).target)).setCell ⟨g, k * 4 + 3, none⟩ (.slice a' n' c')) g (k + 1) L vs' := by
  refine ⟨_, (((ho.set _ _).set _ _).set _ _).set _ _, ?_⟩
  have below : ∀ {a n c vs} {v0 v1 v2 v3 : Value}, Own w (g + 1) 2 a n c vs → Own ((((w.setCell ⟨g, k * 4, none⟩ v0).setCell ⟨g, k * 4 + 1, none⟩ v1).setCell ⟨g, k * 4 + 2, none⟩ v2).setCell ⟨g, k * 4 + 3, none⟩ v3) (g + 1) 2 a n c vs := fun h => (((h.setBelow (Nat.lt_succ_self _) _).setBelow (Nat.lt_succ_self _) _).setBelow (Nat.lt_succ_self _) _).setBelow (Nat.lt_succ_self _) _
  have hl := ho.len
  intro j hj
  by_cases hjk : j < k
  · obtain ⟨a2, n2, c2, g0, g1, g2, g3, g4⟩ := h j hjk
    refine ⟨a2, n2, c2, ?_, ?_, ?_, ?_, below g4⟩
    all_goals (rw [List.getElem?_set_ne (by omega), List.getElem?_set_ne (by omega), List.getElem?_set_ne (by omega), List.getElem?_set_ne (by omega)]; assumption)
  · obtain rfl : j = k := by omega
    refine ⟨a', n', c', ?_, ?_, ?_, ?_, below hw⟩
    · rw [List.getElem?_set_ne (by omega), List.getElem?_set_ne (by omega), List.getElem?_set_ne (by omega), List.getElem?_set_self (by omega)]
    · rw [List.getElem?_set_ne (by omega), List.getElem?_set_ne (by omega), List.getElem?_set_self (by simp; omega)]
    · rw [List.getElem?_set_ne (by omega), List.getElem?_set_self (by simp; omega)]
    · rw [List.getElem?_set_self (by simp; omega)]
set_option maxHeartbeats 2000000 in
theorem toWts (a : Option Addr) (n c : Nat) (L : List Wt) (w : World) (hv : Wts w a n c L) (hn : n ≤ 4194304) (hm : ∀ W ∈ L, W.weights.length ≤ 4194304) :
    Calls Try.prog 69 #[.slice a n c] w (RetWts L w) := by
  have HV := Lib.hid hv
  have HL := Lib.hid hv.1
  have HM := Lib.hid (fun k (hk : k < n) => hm (gw L k) (gw_mem (by rw [hv.1]; exact hk)))
  clear hv hm
  go_enter Try.func69, Try.ntmps69
  go_wp2_with (at_make; refine law_makeN _ rfl _ _ 50 rfl 34 _ 4 48 und_wts info_wt _ _ n rfl rfl (by omega) (by unfold maxLen; omega) ?_; intro w1 vs0 hown hx hsz)
  obtain ⟨g, hg⟩ : ∃ g, g = w.heap.size := ⟨_, rfl⟩
  have hs0 : g < w1.heap.size := by omega
  have HO0 := Lib.hid (show OwnN 4 w1 g 34 g n vs0 by rw [hg]; exact hown)
  have HD0 := Lib.hid (show DoneW w1 g 0 L vs0 from fun j hj => by omega)
  rw [← hg]
  have Hhg := Lib.hid hg; clear hg
  clear hown hsz
  go_wp2
  go_loopw [4] (fun i wr => ∃ (k : Nat) (vs : List Value), k ≤ n ∧ i = .int .i64 k ∧ Hid (OwnN 4 wr g 34 g n vs) ∧ Hid (DoneW wr g k L vs) ∧ Ext w wr ∧ g < wr.heap.size) (fun i _ => n - (intOf i).toNat)
  case atStart => exact ⟨0, _, Nat.zero_le _, rfl, HO0, HD0, hx, hs0⟩
  case round =>
    obtain ⟨k, vs, hk, rfl, HO, HD, hxr, hsr⟩ := hrel
    by_cases hkn : k < n
    · obtain ⟨b, o, a1, n1, c1, hix, hW⟩ := (HV.out.ext hxr).at (P := Try.prog) 45 56 und_lwts cell_lwt k hkn .i64
      obtain ⟨d0, d1, d2, d3, dw⟩ := hW
      have HT := Lib.hid (toWt (gw L k) a1 n1 c1 wr dw (by have := HM.out k hkn; have := dw.len; omega))
      clear dw
      go_wp2_with ((with_reducible refine HT.out.mono ?_); rintro e w2 ⟨a2, c2, rfl, ho2, hx2⟩; have HO2 := Lib.hid (HO.out.ext hx2); have HD2 := Lib.hid (HD.out.ext hx2); obtain ⟨jx, je, jf⟩ := HO2.out.at (P := Try.prog) 50 und_wts cell_wt (by omega) k hkn .i64; obtain ⟨x0, e0⟩ := je 0 (by omega); obtain ⟨x1, e1⟩ := je 1 (by omega); obtain ⟨x2, e2⟩ := je 2 (by omega); obtain ⟨x3, e3⟩ := je 3 (by omega); clear je; rw [Nat.add_zero] at e0)
      have hgw : w.heap.size ≤ g := by rw [Hhg.out]; exact Nat.le_refl _
      obtain ⟨vs', ho', hd'⟩ := HD2.out.store HO2.out hkn (Own.mono ho2 (by omega))
      exact ⟨⟨k + 1, vs', by omega, by go_num, ho', hd', ((((hxr.trans hx2).setCell hgw _).setCell hgw _).setCell hgw _).setCell hgw _, by have := hx2.size; simp; omega⟩, by simp [intOf]; omega⟩
    · obtain rfl : k = n := by omega
      go_wp2_with fail
      go_ret
      refine ⟨some ⟨g, 0, none⟩, k, by rw [HL.out]; rfl, fun W hK => ⟨rfl, by rw [HL.out]; exact Nat.le_refl _, fun h0 => ⟨g, 0, rfl, fun j hj => ?_⟩⟩, hxr⟩
      rw [← Hhg.out] at hK
      rw [HL.out] at hj
      obtain ⟨a', n', c', g0, g1, g2, g3, g4⟩ := HD.out j hj
      have hO := HO.out.keepB hK
      refine ⟨a', n', c', ?_, ?_, ?_, ?_, (g4.keepB fun b hb => hK b (by omega)).ints⟩
      all_goals (rw [Nat.zero_add, hO.cell _ (by omega)]; assumption)
end Go.Proofs.Ytlpbflmgkopklaa
