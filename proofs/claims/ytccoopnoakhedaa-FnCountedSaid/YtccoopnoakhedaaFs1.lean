/- Words for the walks: a map from numbers to slices that the call itself has made. Conditions: none. -/
import Derived.Test.YtccoopnoakhedaaVar
import Derived.Maps.OwnOps
import Derived.Maps.Views
import Derived.Test.YtccoopnoakhedaaUndA
import Derived.Maps.RangeWalk
import Derived.Maps.OwnSet
import Derived.DeepKeys4
import Derived.Test.YtccoopnoakhedaaCube
import Derived.Test.YtccoopnoakhedaaMix2
import Derived.Test.YtccoopnoakhedaaEnds
import Derived.Test.YtccoopnoakhedaaTyA
import Derived.Test.YtccoopnoakhedaaChW
namespace Go.Proofs.Ytccoopnoakhedaa
set_option maxRecDepth 100000
open Go.RowKit

/-- a value read as itself -/
def heldR (v : Value) : Option (DataW Value × List MemPlace) := some (.held v, [])
/-- block b is a map of at most n numbers to values: M tells them, nil where there is none -/
def FMap (w : World) (b n : Nat) (M : Int → Value) : Prop :=
  ∃ D : DataW Value, w.ownsMap Try.prog 2 heldR b n D ∧ Maps.IsMap D ∧ ∀ x : Int, D.atKey (.int .i64 x) (.held (.slice none 0 0)) = .held (M x)
theorem und_mapF : Try.prog.underlying 86 = some (.map 2 25) := Try.underlying86
theorem keyedF : Maps.Keyed Try.prog 2 := Maps.int_keyed und_int64
theorem zero_rowF (w : World) : (zeroValue 25).run Try.prog w = .ok (.slice none 0 0) w := by kernel_rfl
theorem FMap.made (w : World) : FMap (w.alloc (.map #[] 0)) w.heap.size 0 fun _ => .slice none 0 0 :=
  ⟨.map [], World.ownsMap_made _ _ _ _, Maps.isMap_empty, fun x => by simp [DataW.atKey]⟩
theorem FMap.drew {w : World} {b n : Nat} {M : Int → Value} (h : FMap w b n M) : FMap w.drew b n M := by
  obtain ⟨D, h1, h2, h3⟩ := h
  exact ⟨D, h1.drew, h2, h3⟩
theorem FMap.lt {w : World} {b n : Nat} {M : Int → Value} (h : FMap w b n M) : b < w.heap.size := by
  obtain ⟨D, h1, _, _⟩ := h
  exact h1.lt
theorem FMap.same {w w' : World} {b n : Nat} {M : Int → Value} (h : FMap w b n M) (hb : w'.heap[b]? = w.heap[b]?) : FMap w' b n M := by
  obtain ⟨D, ⟨es, clock, h1, h2⟩, h3, h4⟩ := h
  exact ⟨D, ⟨es, clock, hb.trans h1, h2⟩, h3, h4⟩
theorem FMap.mono {w : World} {b n n' : Nat} {M : Int → Value} (h : FMap w b n M) (hn : n ≤ n') : FMap w b n' M := by
  obtain ⟨D, ⟨es, clock, h1, h2, h5, h6⟩, h3, h4⟩ := h
  exact ⟨D, ⟨es, clock, h1, h2, Nat.le_trans h5 hn, h6⟩, h3, h4⟩
theorem wfF {x : Int} (h0 : 0 ≤ x) (h1 : x ≤ 9223372036854775807) : (Lit.int .i64 x).wf = true := by
  simp [Lit.wf, IntKind.min, IntKind.max, IntKind.signed, IntKind.bits]; omega
theorem FMap.look {w : World} {b n : Nat} {M : Int → Value} (h : FMap w b n M) {y : Int} (h0 : 0 ≤ y) (h1 : y ≤ 9223372036854775807) :
    (Instr.lookup 86 (.map (some b)) (.int .i64 y) false).run Try.prog w = .ok (M y) w := by
  obtain ⟨D, hD, _, hat⟩ := h
  obtain ⟨v, ps, hrun, hv⟩ := hD.lookup keyedF und_mapF (zero_rowF w) (R := heldR) (zd := .held (.slice none 0 0)) (zp := []) rfl (Maps.keyOf_int_mk und_int64 (wfF h0 h1))
  rw [hat y] at hv
  have hvb : v = M y := by
    unfold heldR at hv
    simp at hv
    exact hv.1
  subst hvb
  exact hrun
theorem FMap.put {w : World} {b n : Nat} {M : Int → Value} (h : FMap w b n M) (hn : n < 1048576) {y : Int} (h0 : 0 ≤ y) (h1 : y ≤ 9223372036854775807) (v : Value) :
    ∃ w', (Instr.mapUpdate 86 (.map (some b)) (.int .i64 y) v).run Try.prog w = .ok () w' ∧ FMap w' b (n + 1) (fun x => if x = y then v else M x) ∧ Below b w w' ∧ w.grownBy w' (some b) := by
  obtain ⟨D, hD, hI, hat⟩ := h
  have hkl : WideAt.IsKeyLit (.int .i64 y) := by simp [WideAt.IsKeyLit]
  obtain ⟨w', hrun, hown, hgr⟩ := hD.update keyedF und_mapF (by unfold maxLen; omega) (Maps.keyOf_int_mk und_int64 (wfF h0 h1)) (show heldR v = some (.held v, []) from rfl)
  refine ⟨w', hrun, ⟨_, hown, hI.put _ _, fun z => ?_⟩, (Below.refl b w).grown hgr (Nat.le_of_lt hD.lt) (fun k hk => by cases hk; exact Nat.le_refl _), hgr⟩
  by_cases hz : z = y
  · subst hz
    rw [Maps.atKey_put_same hI hkl]; simp
  · rw [Maps.atKey_put_other (by simpa using hz), hat z]; simp [hz]
end Go.Proofs.Ytccoopnoakhedaa

/- Words for the walks: a set of pairs of numbers that the call itself has made. Conditions: none. -/
namespace Go.Proofs.Ytccoopnoakhedaa
set_option maxRecDepth 100000
open Go.RowKit

def pv (x y : Int) : Value := .agg #[.int .i64 x, .int .i64 y]
def pkL (x y : Int) : Lit := .string (keyBytes [.int .i64 x, .int .i64 y])
def wf2 (x y : Int) : Prop := (Lit.int .i64 x).wf = true ∧ (Lit.int .i64 y).wf = true
theorem und_mapP : Try.prog.underlying 99 = some (.map 101 4) := Try.underlying99
theorem wideP : (match Try.prog.underlying 101 with | some (.array _ _) | some (.struct _) => true | _ => false) = true := by rw [Try.underlying101]
theorem rowP : (101 : TypeId) < Try.prog.types.size := of_decide_eq_true (by kernel_rfl)
theorem typeP : Try.prog.keyType 101 = true := by kernel_rfl
theorem cellsP : Try.prog.cellsOf 101 = 2 := by kernel_rfl
theorem laidP : laidOutB Try.prog = true := by kernel_rfl
theorem zeroP : 0 < Try.prog.types.size := Nat.lt_of_le_of_lt (Nat.zero_le _) rowP
theorem lawP : WideMaps.KeyLaw Try.prog 101 := deep_law_laid laidP (m := 2) (by omega) rowP (by kernel_rfl) wideP
theorem keyedP : Maps.Keyed Try.prog 101 := Maps.Keyed.of_law lawP
theorem formedP (x y : Int) : (pv x y).formed Try.prog 101 = true := by simp [pv, Value.formed, Try.underlying101, cellsP]
theorem litsP {d : Nat} {x y : Int} (h : wf2 x y) : Try.prog.keyLits (d + 2) 101 [.int .i64 x, .int .i64 y] = some [.int .i64 x, .int .i64 y] := by
  unfold Program.keyLits
  simp only [Try.underlying101]
  simp [cellsP, cell_int64, Program.keyLits, h.1, h.2]
theorem keyOfP {x y : Int} (h : wf2 x y) : keyOf Try.prog 101 (pv x y) = some (pkL x y) := by
  unfold keyOf
  rw [Try.underlying101]
  simp only [typeP, formedP, Bool.and_self, if_true]
  obtain ⟨N, hN⟩ : ∃ N, Try.prog.types.size + 1 = N + 2 := ⟨Try.prog.types.size - 1, by have := zeroP; omega⟩
  rw [hN]
  have h1 : (pv x y).cells.toList = [.int .i64 x, .int .i64 y] := rfl
  rw [h1, litsP h]
  rfl
theorem pkL_inj {x y x' y' : Int} (h : wf2 x y) (h' : wf2 x' y') (e : pkL x y = pkL x' y') : x = x' ∧ y = y' := by
  have := lawP.inj (keyOfP h) (by rw [keyOfP h', e])
  simpa [pv] using this
theorem keyOfP_inv {v : Value} {l : Lit} (h : keyOf Try.prog 101 v = some l) : ∃ x y, v = pv x y ∧ wf2 x y ∧ l = pkL x y := by
  obtain ⟨xs, L, rfl, hL, rfl⟩ := keyOf_top wideP h
  obtain ⟨N, hN⟩ : ∃ N, Try.prog.types.size + 1 = N + 2 := ⟨Try.prog.types.size - 1, by have := zeroP; omega⟩
  rw [hN] at hL
  unfold Program.keyLits at hL
  simp only [Try.underlying101, cellsP] at hL
  split at hL
  · rename_i hl
    match hxs : xs.toList, hl.1 with
    | [a, b], _ =>
      rw [hxs] at hL
      simp [cell_int64] at hL
      cases h1 : Try.prog.keyLits (N + 1) 2 [a] with
      | none => rw [h1] at hL; cases hL
      | some la =>
        cases h2 : Try.prog.keyLits (N + 1) 2 [b] with
        | none => rw [h1, h2] at hL; simp at hL
        | some lb =>
          rw [h1, h2] at hL
          simp at hL
          obtain ⟨x, e1, rfl⟩ := keyLits_int' und_int64 h1
          obtain ⟨y, e2, rfl⟩ := keyLits_int' und_int64 h2
          simp only [List.cons.injEq, and_true] at e1 e2
          subst e1 e2
          have w1 : (Lit.int .i64 x).wf = true := by
            simp [Program.keyLits] at h1
            exact h1
          have w2 : (Lit.int .i64 y).wf = true := by
            simp [Program.keyLits] at h2
            exact h2
          refine ⟨x, y, ?_, ⟨w1, w2⟩, ?_⟩
          · have : xs = #[.int .i64 x, .int .i64 y] := by rw [← Array.toList_inj, hxs]
            rw [this]; rfl
          · subst hL; rfl
  · cases hL
theorem wf2_of {x y : Nat} (hx : x ≤ 1000) (hy : y ≤ 1000) : wf2 (x : Int) (y : Int) := ⟨wfF (by omega) (by omega), wfF (by omega) (by omega)⟩
/-- block b is the set of the pairs of L -/
def PMap (w : World) (b : Nat) (L : List (Int × Int)) : Prop :=
  ∃ D : DataW Value, w.ownsMap Try.prog 101 heldR b L.length D ∧ Maps.IsMap D ∧ (∀ x y, wf2 x y → Maps.has D (pkL x y) = decide ((x, y) ∈ L)) ∧ ∀ kl, Maps.has D kl = true → ∃ x y, wf2 x y ∧ kl = pkL x y
theorem keyLitP (x y : Int) : WideAt.IsKeyLit (pkL x y) := by simp [pkL, WideAt.IsKeyLit]
theorem PMap.made (w : World) : PMap (w.alloc (.map #[] 0)) w.heap.size [] :=
  ⟨.map [], World.ownsMap_made _ _ _ _, Maps.isMap_empty, fun x y _ => by simp [Maps.has_eq], fun kl h => by simp [Maps.has_eq] at h⟩
theorem PMap.lt {w : World} {b : Nat} {L : List (Int × Int)} (h : PMap w b L) : b < w.heap.size := by
  obtain ⟨D, h1, _⟩ := h
  exact h1.lt
theorem PMap.same {w w' : World} {b : Nat} {L : List (Int × Int)} (h : PMap w b L) (hb : w'.heap[b]? = w.heap[b]?) : PMap w' b L := by
  obtain ⟨D, ⟨es, clock, h1, h2⟩, h3, h4⟩ := h
  exact ⟨D, ⟨es, clock, hb.trans h1, h2⟩, h3, h4⟩
theorem PMap.ext {w w' : World} {b : Nat} {L : List (Int × Int)} (h : PMap w b L) (k : Ext w w') : PMap w' b L := h.same (Below.block k b h.lt)
theorem PMap.two {w w' : World} {b p q : Nat} {L : List (Int × Int)} (h : PMap w b L) (k : Two p q w w') (hp : b ≠ p) (hq : b ≠ q) : PMap w' b L := h.same (k.block b h.lt hp hq)
theorem PMap.ne_var {W : World} {p b : Nat} {T : TypeId} {v : Value} {L : List (Int × Int)} (h : PMap W b L) (hv : VarAt W p T v) : p ≠ b := by
  rintro rfl
  obtain ⟨D, ⟨es, clock, h1, _⟩, _⟩ := h
  unfold VarAt at hv
  rw [hv] at h1
  cases h1
theorem PMap.ne_row {W : World} {b B : Nat} {L : List (Int × Int)} {E : TypeId} {a : Option Addr} {m c : Nat} {vs : List Value} (h : PMap W b L) (ho : Own W B E a m c vs) : ∀ g, a = some g → g.block ≠ b := by
  rintro g rfl rfl
  obtain ⟨D, ⟨es, clock, h1, _⟩, _⟩ := h
  rcases ho.2 with h2 | ⟨g', cap, cur, hv, _, hg, _⟩
  · obtain ⟨h2, _⟩ := h2; cases h2
  · simp only [Value.slice.injEq, Option.some.injEq, true_and] at hv
    obtain ⟨rfl, _⟩ := hv
    rw [hg] at h1
    cases h1
theorem PMap.grown {w w' : World} {b : Nat} {L : List (Int × Int)} {row : Option Nat} (h : PMap w b L) (hg : w.grownBy w' row) (hne : some b ≠ row) : PMap w' b L := h.same (hg.block b h.lt hne)
theorem PMap.put {w : World} {b : Nat} {L : List (Int × Int)} (h : PMap w b L) (hn : L.length < 1048576) {x y : Int} (hw : wf2 x y) :
    ∃ w', (Instr.mapUpdate 99 (.map (some b)) (pv x y) (.bool true)).run Try.prog w = .ok () w' ∧ PMap w' b ((x, y) :: L) ∧ w.grownBy w' (some b) := by
  obtain ⟨D, hD, hI, hat, hk⟩ := h
  obtain ⟨w', hrun, hown, hgr⟩ := hD.update keyedP und_mapP (by unfold maxLen; omega) (keyOfP hw) (show heldR (.bool true) = some (.held (.bool true), []) from rfl)
  refine ⟨w', hrun, ⟨_, hown, hI.put _ _, fun x' y' hw' => ?_, fun kl hkl => ?_⟩, hgr⟩
  · by_cases e : pkL x' y' = pkL x y
    · obtain ⟨rfl, rfl⟩ := pkL_inj hw' hw e
      rw [Maps.has_put_same hI (keyLitP _ _)]; simp
    · rw [Maps.has_put_other e, hat x' y' hw']
      have : ¬ (x' = x ∧ y' = y) := fun ⟨e1, e2⟩ => e (by rw [e1, e2])
      simp [this]
  · by_cases e : kl = pkL x y
    · exact ⟨x, y, hw, e⟩
    · rw [Maps.has_put_other e] at hkl
      exact hk kl hkl
theorem PMap.len {w : World} {b : Nat} {L : List (Int × Int)} (h : PMap w b L) (hL : ∀ p ∈ L, wf2 p.1 p.2) : ∃ D : DataW Value, w.ownsMap Try.prog 101 heldR b L.length D ∧ (0 < Maps.size D ↔ L ≠ []) := by
  obtain ⟨D, hD, hI, hat, hk⟩ := h
  refine ⟨D, hD, fun h0 => ?_, fun hne => ?_⟩
  · rintro rfl
    have := hD.size_le
    simp at this
    omega
  · obtain ⟨p, hp⟩ := List.exists_mem_of_ne_nil L hne
    have h1 := hat p.1 p.2 (hL p hp)
    rw [decide_eq_true hp] at h1
    obtain ⟨es, rfl⟩ := hI
    rw [Maps.has_eq] at h1
    rw [Maps.size_eq]
    cases es with
    | nil => simp at h1
    | cons a es => simp
end Go.Proofs.Ytccoopnoakhedaa

/- Words for the walks: a slice of rows of bools of the call's own, each in a block of its own. Conditions: none. -/
namespace Go.Proofs.Ytccoopnoakhedaa
set_option maxRecDepth 100000
open Go.RowKit

def Bl (l : List Bool) : List Value := l.map .bool
def gb (l : List Bool) (k : Nat) : Bool := l.getD k false
theorem Bl_getD (l : List Bool) (k : Nat) (h : k < l.length) : (Bl l).getD k undef = .bool (gb l k) := by simp [Bl, gb, List.getD_eq_getElem?_getD, h]
theorem Bl_set (l : List Bool) (k : Nat) (x : Bool) : (Bl l).set k (.bool x) = Bl (l.set k x) := by simp [Bl, List.map_set]
theorem Bl_rep (n : Nat) : Bl (List.replicate n false) = List.replicate n (.bool false) := by simp [Bl]
theorem gb_get {l : List Bool} {k : Nat} (h : k < l.length) : gb l k = l[k] := by simp [gb, h]
def rowO (F : Nat → Nat → Bool) (S k : Nat) : List Bool := (List.range S).map (F k)
theorem rowO_len (F : Nat → Nat → Bool) (S k : Nat) : (rowO F S k).length = S := by simp [rowO]
theorem rowO_gb {F : Nat → Nat → Bool} {S k y : Nat} (h : y < S) : gb (rowO F S k) y = F k y := by rw [gb_get (by rw [rowO_len]; exact h)]; simp [rowO]
def slO (G C : Nat → Nat) (S k : Nat) : Value := .slice (some ⟨G k, 0, none⟩) S (C k)
/-- n rows of S numbers each -/
structure BGrid (w : World) (B : Nat) (E1 E0 : TypeId) (a : Option Addr) (n c S : Nat) (F : Nat → Nat → Bool) (G C : Nat → Nat) : Prop where
  outer : Own w B E1 a n c ((List.range n).map (slO G C S))
  row : ∀ k, k < n → Own w B E0 (Option.some ⟨G k, 0, none⟩) S (C k) (Bl (rowO F S k))
  inj : ∀ j k, j < n → k < n → G j = G k → j = k
def updO (F : Nat → Nat → Bool) (i x : Nat) (v : Bool) : Nat → Nat → Bool := fun j y => if j = i ∧ y = x then v else F j y
theorem updO_same (F : Nat → Nat → Bool) (i x : Nat) (v : Bool) : updO F i x v i x = v := by simp [updO]
theorem updO_row {F : Nat → Nat → Bool} {i x j y : Nat} {v : Bool} (h : j ≠ i) : updO F i x v j y = F j y := by simp [updO, h]
theorem updO_col {F : Nat → Nat → Bool} {i x j y : Nat} {v : Bool} (h : y ≠ x) : updO F i x v j y = F j y := by simp [updO, h]
theorem rowO_upd_same {F : Nat → Nat → Bool} {S i x : Nat} {v : Bool} (_h : x < S) : rowO (updO F i x v) S i = (rowO F S i).set x v := by
  apply List.ext_getElem
  · simp [rowO]
  · intro k h1 h2
    simp only [rowO, List.getElem_map, List.getElem_range, List.getElem_set]
    by_cases e : x = k
    · subst e; simp [updO]
    · rw [if_neg e, updO_col (fun h => e h.symm)]
theorem rowO_upd_ne {F : Nat → Nat → Bool} {S i x k : Nat} {v : Bool} (h : k ≠ i) : rowO (updO F i x v) S k = rowO F S k := by
  unfold rowO; apply List.map_congr_left; intro y _; exact updO_row h
theorem rowO_congr {F F' : Nat → Nat → Bool} {S k : Nat} (h : ∀ y, y < S → F k y = F' k y) : rowO F S k = rowO F' S k := by
  unfold rowO; apply List.map_congr_left; intro y hy; exact h y (List.mem_range.1 hy)
section
variable {w w' : World} {B : Nat} {E1 E0 : TypeId} {a : Option Addr} {n c S : Nat} {F : Nat → Nat → Bool} {G C : Nat → Nat}
theorem BGrid.ext (h : BGrid w B E1 E0 a n c S F G C) (hx : Ext w w') : BGrid w' B E1 E0 a n c S F G C := ⟨h.outer.ext hx, fun k hk => (h.row k hk).ext hx, h.inj⟩
theorem BGrid.mono {B' : Nat} (h : BGrid w B E1 E0 a n c S F G C) (hB : B' ≤ B) : BGrid w B' E1 E0 a n c S F G C := ⟨h.outer.mono hB, fun k hk => (h.row k hk).mono hB, h.inj⟩
theorem BGrid.set (h : BGrid w B E1 E0 a n c S F G C) {i x : Nat} (hi : i < n) (hx : x < S) (v : Bool) (hE : E1 ≠ E0) : BGrid (w.setCell ⟨G i, x, none⟩ (.bool v)) B E1 E0 a n c S (updO F i x v) G C := by
  refine ⟨?_, fun k hk => ?_, h.inj⟩
  · refine Own.other h.outer _ fun g hg => ?_
    exact own_ne_type h.outer (h.row i hi) hE g ⟨G i, 0, none⟩ hg rfl
  · by_cases e : k = i
    · subst e
      rw [rowO_upd_same hx, ← Bl_set]
      exact (h.row k hk).set x _
    · rw [rowO_upd_ne e]
      refine Own.other (h.row k hk) _ fun g hg => ?_
      simp only [Option.some.injEq] at hg
      subst hg
      exact fun he => e (h.inj k i hk hi he)
theorem BGrid.congr {F' : Nat → Nat → Bool} (h : BGrid w B E1 E0 a n c S F G C) (he : ∀ k, k < n → ∀ y, y < S → F k y = F' k y) : BGrid w B E1 E0 a n c S F' G C :=
  ⟨h.outer, fun k hk => by rw [← rowO_congr (he k hk)]; exact h.row k hk, h.inj⟩
theorem BGrid.ge (h : BGrid w B E1 E0 a n c S F G C) {k : Nat} (hk : k < n) : B ≤ G k ∧ G k < w.heap.size := (h.row k hk).lt
/-- where one number lies -/
structure BOne (P : Program) (T1 T0 : TypeId) (w : World) (a : Option Addr) (n c S : Nat) (F : Nat → Nat → Bool) (G C : Nat → Nat) (i x : Nat) (b off : Nat) : Prop where
  ix1 : ∀ (K : IntKind) (w' : World), (Instr.indexAt T1 (.slice a n c) (.int K i)).run P w' = .ok (.pointer (some ⟨b, off, none⟩)) w'
  cell1 : ∀ w', Ext w w' → w'.cell? ⟨b, off, none⟩ = some (.slice (some ⟨G i, 0, none⟩) S (C i))
  ix0 : ∀ (K : IntKind) (w' : World), (Instr.indexAt T0 (.slice (some ⟨G i, 0, none⟩) S (C i)) (.int K x)).run P w' = .ok (.pointer (some ⟨G i, x, none⟩)) w'
  cell0 : ∀ w', Ext w w' → w'.cell? ⟨G i, x, none⟩ = some (.bool (F i x))
  fr : ∀ w', Ext w w' → w'.frozen? ⟨G i, x, none⟩ = false
theorem BGrid.one {P : Program} (h : BGrid w B E1 E0 a n c S F G C) (T1 T0 : TypeId) (ht1 : P.underlying T1 = some (.slice E1)) (he1 : P.cellsOf E1 = 1) (ht0 : P.underlying T0 = some (.slice E0)) (he0 : P.cellsOf E0 = 1) {i x : Nat} (hi : i < n) (hx : x < S) :
    ∃ b off, BOne P T1 T0 w a n c S F G C i x b off := by
  obtain ⟨b, off, h1, h2⟩ := h.outer.sl.one (P := P) T1 E1 ht1 he1 (i : Int) (by omega) (by omega)
  rw [show gv ((List.range n).map (slO G C S)) (i : Int).toNat = .slice (some ⟨G i, 0, none⟩) S (C i) by simp [gv, hi, slO]] at h2
  obtain ⟨h3, h4, h5⟩ := (h.row i hi).at (P := P) T0 ht0 he0 x hx .i64
  have h6 : (Bl (rowO F S i)).getD x undef = .bool (F i x) := by rw [Bl_getD _ _ (by rw [rowO_len]; exact hx), rowO_gb hx]
  rw [h6] at h4
  refine ⟨b, off, h1, h2, fun K w' => ?_, fun w' hxx => hxx.cell h4, fun w' hxx => ?_⟩
  · exact ((h.row i hi).at (P := P) T0 ht0 he0 x hx K).1 w'
  · exact (Below.frozen hxx (h.ge hi).2).trans h5
end
/-! ### laying it out -/
/-- the first k rows are laid, all 0; the slice holds vs -/
structure BGTo (w : World) (B : Nat) (E1 E0 : TypeId) (a : Option Addr) (n c S k : Nat) (vs : List Value) (G : Nat → Nat) : Prop where
  outer : Own w B E1 a n c vs
  at' : ∀ j, j < k → gv vs j = .slice (some ⟨G j, 0, none⟩) S S
  row : ∀ j, j < k → Own w B E0 (Option.some ⟨G j, 0, none⟩) S S (Bl (List.replicate S false))
  inj : ∀ j j', j < k → j' < k → G j = G j' → j = j'
theorem BGTo.done {w : World} {B : Nat} {E1 E0 : TypeId} {a : Option Addr} {n c S : Nat} {vs : List Value} {G : Nat → Nat} (h : BGTo w B E1 E0 a n c S n vs G) : BGrid w B E1 E0 a n c S (fun _ _ => false) G (fun _ => S) := by
  have hl := h.outer.len
  have hvs : vs = (List.range n).map (slO G (fun _ => S) S) := by
    apply List.ext_getElem
    · simpa using hl
    · intro k h1 h2
      have hk : k < n := by omega
      have := h.at' k hk
      simp [gv, List.getD_eq_getElem?_getD, h1] at this
      simp [slO, this]
  refine ⟨by rw [← hvs]; exact h.outer, fun k hk => ?_, h.inj⟩
  have := h.row k hk
  rwa [show rowO (fun _ _ => false) S k = List.replicate S false by simp [rowO, List.map_const']]
theorem BGTo.step {w w5 : World} {B B' : Nat} {E1 E0 : TypeId} {g n c S k : Nat} {vs : List Value} {G : Nat → Nat} (h : BGTo w B E1 E0 (some ⟨g, 0, none⟩) n c S k vs G) (hx : Ext w w5)
    (hr : Own w5 B' E0 (some ⟨w.heap.size, 0, none⟩) S S (List.replicate S (.bool false))) (hk : k < n) (hB : B ≤ w.heap.size) (hE : E1 ≠ E0) :
    BGTo (w5.setCell ⟨g, k, none⟩ (.slice (some ⟨w.heap.size, 0, none⟩) S S)) B E1 E0 (some ⟨g, 0, none⟩) n c S (k + 1) (vs.set k (.slice (some ⟨w.heap.size, 0, none⟩) S S)) (fun j => if j = k then w.heap.size else G j) := by
  have ho5 := h.outer.ext hx
  have hl := h.outer.len
  have hrI : Own w5 B E0 (some ⟨w.heap.size, 0, none⟩) S S (Bl (List.replicate S false)) := by
    rw [Bl_rep]
    refine ⟨hr.1, ?_⟩
    rcases hr.2 with h2 | ⟨b, cap, cur, hv, _, r⟩
    · exact .inl h2
    · simp only [Value.slice.injEq, Option.some.injEq, Addr.mk.injEq, true_and, and_true] at hv
      exact .inr ⟨b, cap, cur, by simp [hv.1, hv.2], by omega, r⟩
  have nw : ∀ j, j < k → G j < w.heap.size := fun j hj => (h.row j hj).lt.2
  refine ⟨ho5.set k _, fun j hj => ?_, fun j hj => ?_, fun j j' hj hj' he => ?_⟩
  · by_cases e : j = k
    · subst e
      simp [gv, List.getD_eq_getElem?_getD, show j < vs.length by omega]
    · have h1 := h.at' j (by omega)
      simp only [gv, List.getD_eq_getElem?_getD] at h1 ⊢
      rw [List.getElem?_set_ne (fun h => e h.symm), h1, if_neg e]
  · have hne : ∀ {b : Nat} {vs' : List Value} {S' c' : Nat} {B2 : Nat}, Own w5 B2 E0 (some ⟨b, 0, none⟩) S' c' vs' → Own (w5.setCell ⟨g, k, none⟩ (.slice (some ⟨w.heap.size, 0, none⟩) S S)) B2 E0 (some ⟨b, 0, none⟩) S' c' vs' := fun ho => by
      refine ho.other _ fun g' hg' => ?_
      exact own_ne_type ho ho5 (fun h => hE h.symm) g' ⟨g, 0, none⟩ hg' rfl
    by_cases e : j = k
    · rw [if_pos e]; exact hne hrI
    · rw [if_neg e]; exact hne ((h.row j (by omega)).ext hx)
  · by_cases e : j = k <;> by_cases e' : j' = k
    · omega
    · rw [if_pos e, if_neg e'] at he; have := nw j' (by omega); omega
    · rw [if_neg e, if_pos e'] at he; have := nw j (by omega); omega
    · rw [if_neg e, if_neg e'] at he; exact h.inj j j' (by omega) (by omega) he
end Go.Proofs.Ytccoopnoakhedaa

/- Walks: the first undetected error at a place: whether an error of some symbols stays undetected from a state, in the program. -/
namespace Go.Proofs.Ytccoopnoakhedaa
set_option maxRecDepth 100000
open Go.RowKit

/-! ### the grids for all places -/
def boT (D : Ch) (n' p S : Nat) : List (List Int) := (List.range S).map fun (s : Nat) => (List.range S).map fun (t : Nat) => bothS D n' (n' - p) (s : Int) (t : Int)
theorem boT_len (D : Ch) (n' p S : Nat) : (boT D n' p S).length = S := by simp [boT]
theorem boT_row {D : Ch} {n' p S s : Nat} (hs : s < S) : gl (boT D n' p S) s = (List.range S).map fun (t : Nat) => bothS D n' (n' - p) (s : Int) (t : Int) := by
  unfold gl boT; simp [hs]
theorem boT_at {D : Ch} {n' p S s t : Nat} (hs : s < S) (ht : t < S) : gi (gl (boT D n' p S) s) t = bothS D n' (n' - p) (s : Int) (t : Int) := by
  rw [boT_row hs, gi_get (by simpa using ht)]; simp
theorem grid_boT {D : Ch} {n' p S : Nat} {w : World} {B : Nat} {E1 E0 : TypeId} {a : Option Addr} {c : Nat} {F : Nat → Nat → Int} {G C : Nat → Nat} (h : Grid w B E1 E0 a S c S F G C)
    (hF : ∀ s, s < S → ∀ t, t < S → F s t = bothS D n' (n' - p) (s : Int) (t : Int)) : Mat w a S c (boT D n' p S) :=
  ⟨boT_len _ _ _ _, _, h.outer.sl, fun k hk => ⟨some ⟨G k, 0, none⟩, S, C k, by simp [gv, hk, slR], by
    rw [boT_row hk, show ((List.range S).map fun (t : Nat) => bothS D n' (n' - p) (k : Int) (t : Int)) = rowF F S k from by
      unfold rowF; exact List.map_congr_left fun t ht => (hF k hk t (List.mem_range.1 ht)).symm]
    exact (h.row k hk).ints⟩⟩
/-- the grids from place p0 on -/
structure BotL (D : Ch) (n' S p0 : Nat) (w : World) (ba : Option Addr) (bc : Nat) : Prop where
  rows : ∃ vs, Sl w ba (n' + 1) bc vs ∧ ∀ j, p0 ≤ j → j ≤ n' → ∃ ga gc, gv vs j = .slice ga S gc ∧ Mat w ga S gc (boT D n' j S)
theorem BotL.ext {D : Ch} {n' S p0 : Nat} {w w' : World} {ba : Option Addr} {bc : Nat} (h : BotL D n' S p0 w ba bc) (hx : Ext w w') : BotL D n' S p0 w' ba bc := by
  obtain ⟨vs, h1, h2⟩ := h.rows
  exact ⟨vs, h1.ext hx, fun j a b => by obtain ⟨ga, gc, h3, h4⟩ := h2 j a b; exact ⟨ga, gc, h3, h4.ext hx⟩⟩
theorem und_grids : Try.prog.underlying 85 = some (.slice 54) := by kernel_rfl
theorem cell_grid1 : Try.prog.cellsOf 54 = 1 := by kernel_rfl
theorem und_bools : Try.prog.underlying 88 = some (.slice 4) := by kernel_rfl
theorem cell_bool1 : Try.prog.cellsOf 4 = 1 := by kernel_rfl
theorem und_brows : Try.prog.underlying 87 = some (.slice 88) := by kernel_rfl
theorem cell_brow1 : Try.prog.cellsOf 88 = 1 := by kernel_rfl
theorem BotL.at {D : Ch} {n' S p0 : Nat} {w : World} {ba : Option Addr} {bc : Nat} (h : BotL D n' S p0 w ba bc) {j x y : Nat} (h1 : p0 ≤ j) (h2 : j ≤ n') (hx : x < S) (hy : y < S) :
    ∃ b1 o1 ga gc b2 o2 a' c' b3 o3, One Try.prog 85 w ba (n' + 1) bc (j : Int) b1 o1 (.slice ga S gc) ∧ One Try.prog 54 w ga S gc (x : Int) b2 o2 (.slice a' S c') ∧ One Try.prog 25 w a' S c' (y : Int) b3 o3 (.int .i64 (bothS D n' (n' - j) (x : Int) (y : Int))) := by
  obtain ⟨vs, hs, hr⟩ := h.rows
  obtain ⟨ga, gc, h3, hm⟩ := hr j h1 h2
  obtain ⟨b1, o1, g1⟩ := hs.one (P := Try.prog) 85 54 und_grids cell_grid1 (j : Int) (by omega) (by omega)
  rw [Int.toNat_natCast, h3] at g1
  obtain ⟨b2, o2, a', m', c', g2, hi⟩ := hm.one (P := Try.prog) 54 25 und_grid cell_row1 (x : Int) (by omega) (by omega)
  rw [Int.toNat_natCast] at hi
  obtain rfl : m' = S := by have h4 := hi.len; rw [boT_row hx] at h4; simpa using h4.symm
  obtain ⟨b3, o3, g3⟩ := hi.one (P := Try.prog) 25 2 und_int64s cell_int64 (y : Int) (by omega) (by omega)
  rw [Int.toNat_natCast, boT_at hx hy] at g3
  exact ⟨b1, o1, ga, gc, b2, o2, a', c', b3, o3, g1, g2, g3⟩
theorem BGrid.two {w w' : World} {B : Nat} {E1 E0 : TypeId} {a : Option Addr} {n c S : Nat} {F : Nat → Nat → Bool} {G C : Nat → Nat} {p q : Nat} (h : BGrid w B E1 E0 a n c S F G C) (k : Two p q w w') (ha : ∀ g, a = some g → g.block ≠ p ∧ g.block ≠ q) (hG : ∀ j, j < n → G j ≠ p ∧ G j ≠ q) : BGrid w' B E1 E0 a n c S F G C := by
  have ho : ∀ {E : TypeId} {ad : Option Addr} {m d : Nat} {vs : List Value}, Own w B E ad m d vs → (∀ g, ad = some g → g.block ≠ p ∧ g.block ≠ q) → Own w' B E ad m d vs := fun ho hne => by
    refine ⟨ho.1, ?_⟩
    rcases ho.2 with h1 | ⟨g, cap, cur, hv, h1, h2, h3⟩
    · exact .inl h1
    · simp only [Value.slice.injEq] at hv
      have h4 := hne _ hv.1
      exact .inr ⟨g, cap, cur, by simp [hv.1, hv.2], h1, (k.block g (Array.getElem?_eq_some_iff.1 h2).1 h4.1 h4.2).trans h2, h3⟩
  exact ⟨ho h.outer ha, fun j hj => ho (h.row j hj) (fun g hg => by injection hg with hg; subst hg; exact hG j hj), h.inj⟩

theorem Two.setO (p q o : Nat) (w : World) (u : Value) : Two p q w (w.setCell ⟨p, o, none⟩ u) := ⟨rfl, rfl, rfl, by simp [World.setCell], fun i _ h1 _ => Below.heap_setCell _ _ _ _ h1⟩
/-! ### the walk's surroundings -/
/-- what the closures read: the chain, the place, the length, the grids -/
structure FEnv (D : Ch) (q S pl r n' : Nat) (a : Option Addr) (n c : Nat) (a' : Option Addr) (c' : Nat) (p1 p2 p3 p4 : Nat) (ba : Option Addr) (bc : Nat) (B0 : World) : Prop where
  ch : ChAt B0 q D a n c a' n' c'
  v1 : VarAt B0 p1 85 (.slice ba (n' + 1) bc)
  v2 : VarAt B0 p2 3 (.int .i64 pl)
  v3 : VarAt B0 p3 3 (.int .i64 r)
  v4 : VarAt B0 p4 76 (.pointer (some ⟨q, 0, none⟩))
  bo : BotL D n' S (pl + r) B0 ba bc
  st : D.states = (S : Int)
/-- does one error stay undetected from a state on -/
def posU (D : Ch) (n' pl r s : Nat) (f t : List Int) : Bool := decide (0 < bothS D n' (n' - (pl + r)) (runS D pl s f) (runS D pl s t))
set_option maxHeartbeats 8000000 in
theorem first2 {D : Ch} {q S pl r n' : Nat} {a : Option Addr} {n c : Nat} {a' : Option Addr} {c' : Nat} {p1 p2 p3 p4 : Nat} {ba : Option Addr} {bc : Nat} {B0 : World}
    (henv : FEnv D q S pl r n' a n c a' c' p1 p2 p3 p4 ba bc B0) (hok : OkCh D) (hpl : pl + r ≤ n') (s : Nat) (hs : s < S) (p5 p6 p7 : Nat) (fa : Option Addr) (fc : Nat) (f : List Int) (ta : Option Addr) (tc : Nat) (t : List Int) (ca : Option Addr) (cc : Nat) (Cn : Nat → Nat → Bool) (G K : Nat → Nat) (W : World) (hx : Ext B0 W)
    (v5 : VarAt W p5 2 (.int .i64 s)) (v6 : VarAt W p6 25 (.slice fa r fc)) (v7 : VarAt W p7 87 (.slice ca (pl + 1) cc)) (hf : Ints W fa r fc f) (ht : Ints W ta r tc t) (hg : BGrid W B0.heap.size 88 4 ca (pl + 1) cc S Cn G K) (hfd : DigC D f) (htd : DigC D t) :
    Calls Try.prog 55 (#[.slice ta r tc] ++ #[.pointer (some ⟨p1, 0, none⟩), .pointer (some ⟨p2, 0, none⟩), .pointer (some ⟨p3, 0, none⟩), .pointer (some ⟨p4, 0, none⟩), .pointer (some ⟨p5, 0, none⟩), .pointer (some ⟨p6, 0, none⟩), .pointer (some ⟨p7, 0, none⟩)]) W
      (fun e w' => e = .returned (.tuple #[]) ∧ BGrid w' B0.heap.size 88 4 ca (pl + 1) cc S (if posU D n' pl r s f t then updO Cn pl s true else Cn) G K ∧ Two (G pl) (G pl) W w') := by
  have HEnv := Lib.hid henv
  have HOK := Lib.hid hok
  have hn' := henv.ch.ps.len
  have HSt := Lib.hid henv.st
  have hlen20 := hok.p20
  have hfl := hf.len
  have htl := ht.len
  have hr1 := runS_bd hok f (pl : Int) (s : Int) hfd (by omega) (by rw [hfl, hn']; omega) (by omega) (by have := henv.st; omega)
  have hr2 := runS_bd hok t (pl : Int) (s : Int) htd (by omega) (by rw [htl, hn']; omega) (by omega) (by have := henv.st; omega)
  obtain ⟨ya, hya⟩ := Int.eq_ofNat_of_zero_le hr1.1
  obtain ⟨yb, hyb⟩ := Int.eq_ofNat_of_zero_le hr2.1
  have hyaS : ya < S := by have := henv.st; omega
  have hybS : yb < S := by have := henv.st; omega
  have HL1 := Lib.hid (fun w' (h : Ext W w') => impl_leads D q a n c a' n' c' (pl : Int) (s : Int) fa r fc f w' ((henv.ch.ext hx).ext h) hok (by omega) (by omega) (by have := henv.st; omega) (hf.ext h) hfd (by omega))
  have HL2 := Lib.hid (fun w' (h : Ext W w') => impl_leads D q a n c a' n' c' (pl : Int) (s : Int) ta r tc t w' ((henv.ch.ext hx).ext h) hok (by omega) (by omega) (by have := henv.st; omega) (ht.ext h) htd (by omega))
  rw [hya] at HL1
  rw [hyb] at HL2
  have HP := Lib.hid (show posU D n' pl r s f t = decide (0 < bothS D n' (n' - (pl + r)) (ya : Int) (yb : Int)) by unfold posU; rw [hya, hyb])
  have cb1 : ∀ w', Ext W w' → w'.cell? ⟨p1, 0, none⟩ = some (.slice ba (n' + 1) bc) := fun w' h => (HEnv.out.v1.ext (hx.trans h)).cell
  have cb2 : ∀ w', Ext W w' → w'.cell? ⟨p2, 0, none⟩ = some (.int .i64 pl) := fun w' h => (HEnv.out.v2.ext (hx.trans h)).cell
  have cb3 : ∀ w', Ext W w' → w'.cell? ⟨p3, 0, none⟩ = some (.int .i64 r) := fun w' h => (HEnv.out.v3.ext (hx.trans h)).cell
  have cb4 : ∀ w', Ext W w' → w'.cell? ⟨p4, 0, none⟩ = some (.pointer (some ⟨q, 0, none⟩)) := fun w' h => (HEnv.out.v4.ext (hx.trans h)).cell
  have cb5 : ∀ w', Ext W w' → w'.cell? ⟨p5, 0, none⟩ = some (.int .i64 s) := fun w' h => (v5.ext h).cell
  have cb6 : ∀ w', Ext W w' → w'.cell? ⟨p6, 0, none⟩ = some (.slice fa r fc) := fun w' h => (v6.ext h).cell
  have HV5 := Lib.hid v5
  have HV7 := Lib.hid v7
  have HG := Lib.hid hg
  obtain ⟨b1, o1, ga, gc, b2, o2, a2, c2, b3, o3, ⟨f1, f2⟩, ⟨f3, f4⟩, ⟨f5, f6⟩⟩ := (henv.bo.ext hx).at (j := pl + r) (Nat.le_refl _) hpl hyaS hybS
  push_cast at f1
  generalize bothS D n' (n' - (pl + r)) (ya : Int) (yb : Int) = vv at *
  generalize posU D n' pl r s f t = uu at *
  obtain ⟨C2, hC2⟩ : ∃ C2, C2 = if uu = true then updO Cn pl s true else Cn := ⟨_, rfl⟩
  rw [← hC2]
  have HC2 := Lib.hid hC2
  clear hC2 henv hok hf ht hfd htd hr1 hr2 hya hyb hfl htl v5 v6 v7 hg
  go_enter Try.func55, Try.ntmps55
  go_wp2_with fail
  have hxW : Ext W W := Ext.refl _
  (refine wp_region_from W (by repeat (first | (with_reducible exact Ext.refl _) | (with_reducible refine Ext.drewN ?_ _) | (with_reducible refine Ext.drew ?_) | (with_reducible refine Ext.alloc ?_ _) | ((with_reducible refine Ext.setCell ?_ ?_ _); rotate_left; focus (first | (simp; done) | (simp; omega) | omega)) | assumption | (with_reducible refine Ext.trans ?_ (by assumption)))) (by kernel_rfl) (by kernel_rfl) (by kernel_rfl) ?_; (repeat (first | (refine mix_q rfl ?_; go_big_quiet_step (fail); refine wpQuiet_nil ?_; show wpMix _ _ _ _ _ _ _) | (refine mix_s rfl ?_; go_wp2_with (first | ((with_reducible refine (HL1.out _ (by repeat (first | (with_reducible exact Ext.refl _) | (with_reducible assumption) | (with_reducible refine Ext.drewN ?_ _) | (with_reducible refine Ext.drew ?_) | (with_reducible refine Ext.alloc ?_ _) | ((with_reducible refine Ext.setCell ?_ ?_ _); rotate_left; focus (first | (simp; done) | (simp; omega) | omega)) | (with_reducible refine Ext.trans ?_ (by with_reducible assumption))))).mono ?_); rintro e w6 ⟨rfl, hy6⟩; have hx6 : Ext W w6 := Ext.trans (by repeat (first | (with_reducible exact Ext.refl _) | (with_reducible assumption) | (with_reducible refine Ext.drewN ?_ _) | (with_reducible refine Ext.drew ?_) | (with_reducible refine Ext.alloc ?_ _) | ((with_reducible refine Ext.setCell ?_ ?_ _); rotate_left; focus (first | (simp; done) | (simp; omega) | omega)) | (with_reducible refine Ext.trans ?_ (by with_reducible assumption)))) hy6; clear hy6) | ((with_reducible refine (HL2.out _ (by repeat (first | (with_reducible exact Ext.refl _) | (with_reducible assumption) | (with_reducible refine Ext.drewN ?_ _) | (with_reducible refine Ext.drew ?_) | (with_reducible refine Ext.alloc ?_ _) | ((with_reducible refine Ext.setCell ?_ ?_ _); rotate_left; focus (first | (simp; done) | (simp; omega) | omega)) | (with_reducible refine Ext.trans ?_ (by with_reducible assumption))))).mono ?_); rintro e w7 ⟨rfl, hy7⟩; have hx7 : Ext W w7 := Ext.trans (by repeat (first | (with_reducible exact Ext.refl _) | (with_reducible assumption) | (with_reducible refine Ext.drewN ?_ _) | (with_reducible refine Ext.drew ?_) | (with_reducible refine Ext.alloc ?_ _) | ((with_reducible refine Ext.setCell ?_ ?_ _); rotate_left; focus (first | (simp; done) | (simp; omega) | omega)) | (with_reducible refine Ext.trans ?_ (by with_reducible assumption)))) hy7; clear hy7)); first | refine ⟨up_of (by repeat (first | (with_reducible exact Ext.refl _) | (with_reducible refine Ext.drewN ?_ _) | (with_reducible refine Ext.drew ?_) | (with_reducible refine Ext.alloc ?_ _) | ((with_reducible refine Ext.setCell ?_ ?_ _); rotate_left; focus (first | (simp; done) | (simp; omega) | omega)) | assumption | (with_reducible refine Ext.trans ?_ (by assumption)))), ?_⟩ | refine ⟨rfl, rfl, up_of (by repeat (first | (with_reducible exact Ext.refl _) | (with_reducible refine Ext.drewN ?_ _) | (with_reducible refine Ext.drew ?_) | (with_reducible refine Ext.alloc ?_ _) | ((with_reducible refine Ext.setCell ?_ ?_ _); rotate_left; focus (first | (simp; done) | (simp; omega) | omega)) | assumption | (with_reducible refine Ext.trans ?_ (by assumption)))), ?_⟩))); refine mix_nil ?_)
  have HG7 := Lib.hid (HG.out.ext hx7)
  have HV77 := Lib.hid (HV7.out.ext hx7)
  by_cases hpos : 0 < vv
  · have hposd : decide (0 < vv) = true := decide_eq_true hpos
    obtain rfl : uu = true := HP.out.trans hposd
    obtain rfl : C2 = updO Cn pl s true := HC2.out
    clear HC2
    obtain ⟨b4, o4, g1, g2, g3, g4, g5⟩ := HG7.out.one (P := Try.prog) 87 88 und_brows cell_brow1 und_bools cell_bool1 (i := pl) (x := s) (by omega) hs
    have c7 : ∀ w', Ext w7 w' → w'.cell? ⟨p7, 0, none⟩ = some (.slice ca (pl + 1) cc) := fun w' h => (HV77.out.ext h).cell
    have c57 : ∀ w', Ext w7 w' → w'.cell? ⟨p5, 0, none⟩ = some (.int .i64 s) := fun w' h => cb5 w' (hx7.trans h)
    have c27 : ∀ w', Ext w7 w' → w'.cell? ⟨p2, 0, none⟩ = some (.int .i64 pl) := fun w' h => cb2 w' (hx7.trans h)
    clear cb1 cb2 cb3 cb4 cb5 cb6 f1 f2 f3 f4 f5 f6 hx6 HL1 HL2
    go_wp2_with fail
    (refine wp_region_upl 6 w7 (by repeat (first | (with_reducible exact Ext.refl _) | (with_reducible refine Ext.drewN ?_ _) | (with_reducible refine Ext.drew ?_) | (with_reducible refine Ext.alloc ?_ _) | ((with_reducible refine Ext.setCell ?_ ?_ _); rotate_left; focus (first | (simp; done) | (simp; omega) | omega)) | assumption | (with_reducible refine Ext.trans ?_ (by assumption)))) rfl (by kernel_rfl) (by kernel_rfl) (seqB_of (by kernel_rfl)) (lastB_of (by kernel_rfl)) ?_; simp only [List.take_succ_cons, List.take_zero, List.drop_succ_cons, List.drop_zero]; (repeat (first | (refine mix_q rfl ?_; go_big_quiet_step (fail); refine wpQuiet_nil ?_; show wpMix _ _ _ _ _ _ _) | (refine mix_s rfl ?_; go_wp2_with (fail); first | refine ⟨up_of (by repeat (first | (with_reducible exact Ext.refl _) | (with_reducible refine Ext.drewN ?_ _) | (with_reducible refine Ext.drew ?_) | (with_reducible refine Ext.alloc ?_ _) | ((with_reducible refine Ext.setCell ?_ ?_ _); rotate_left; focus (first | (simp; done) | (simp; omega) | omega)) | assumption | (with_reducible refine Ext.trans ?_ (by assumption)))), ?_⟩ | refine ⟨rfl, rfl, up_of (by repeat (first | (with_reducible exact Ext.refl _) | (with_reducible refine Ext.drewN ?_ _) | (with_reducible refine Ext.drew ?_) | (with_reducible refine Ext.alloc ?_ _) | ((with_reducible refine Ext.setCell ?_ ?_ _); rotate_left; focus (first | (simp; done) | (simp; omega) | omega)) | assumption | (with_reducible refine Ext.trans ?_ (by assumption)))), ?_⟩))); refine mix_nil ?_)
    go_wp2_with fail
    exact bodyPost_end (v := .tuple #[]) (by simp [results, Try.results55, go_sem]) rfl ⟨rfl, (HG7.out.set (by omega) hs true (by decide)).ext ((Ext.refl _).drew), (Two.of_ext hx7).trans (Two.setO (G pl) (G pl) s w7 _).drew⟩
  · have hposd : decide (0 < vv) = false := decide_eq_false hpos
    obtain rfl : uu = false := HP.out.trans hposd
    obtain rfl : C2 = Cn := HC2.out
    clear HC2
    go_wp2_with fail
    exact bodyPost_end (v := .tuple #[]) (by simp [results, Try.results55, go_sem]) rfl ⟨rfl, HG7.out, Two.of_ext hx7⟩
end Go.Proofs.Ytccoopnoakhedaa

/- Walks: the first undetected error at a place: some symbols from a state, in the program. -/
namespace Go.Proofs.Ytccoopnoakhedaa
set_option maxRecDepth 100000
open Go.RowKit

/-- has a tuple an error that stays undetected from a state on -/
def hasU (D : Ch) (n' pl r s k bs : Nat) (f : List Int) : Bool := (chgL k bs f).any fun t => posU D n' pl r s f t
theorem Two.of_grown {p b : Nat} {w w' : World} (h : w.grownBy w' (some b)) : Two p b w w' := ⟨h.os, h.tape, h.output, h.size, fun k hk _ hne => h.block k hk (by simpa using hne)⟩
theorem FMap.ne_var {W : World} {p b n : Nat} {T : TypeId} {v : Value} {M : Int → Value} (h : FMap W b n M) (hv : VarAt W p T v) : p ≠ b := by
  rintro rfl
  obtain ⟨D, ⟨es, clock, h1, _⟩, _⟩ := h
  unfold VarAt at hv
  rw [hv] at h1
  cases h1
theorem FMap.ne_row {W : World} {b n B : Nat} {M : Int → Value} {E : TypeId} {a : Option Addr} {m c : Nat} {vs : List Value} (h : FMap W b n M) (ho : Own W B E a m c vs) : ∀ g, a = some g → g.block ≠ b := by
  rintro g rfl rfl
  obtain ⟨D, ⟨es, clock, h1, _⟩, _⟩ := h
  rcases ho.2 with h2 | ⟨g', cap, cur, hv, _, hg, _⟩
  · obtain ⟨h2, _⟩ := h2; cases h2
  · simp only [Value.slice.injEq, Option.some.injEq, true_and] at hv
    obtain ⟨rfl, _⟩ := hv
    rw [hg] at h1
    cases h1
theorem FMap.two {w w' : World} {b n p q : Nat} {M : Int → Value} (h : FMap w b n M) (k : Two p q w w') (hp : b ≠ p) (hq : b ≠ q) : FMap w' b n M := h.same (k.block b h.lt hp hq)
theorem FMap.ext {w w' : World} {b n : Nat} {M : Int → Value} (h : FMap w b n M) (k : Ext w w') : FMap w' b n M := h.same (Below.block k b h.lt)
theorem updO_idem {C : Nat → Nat → Bool} {i x : Nat} {v : Bool} : updO (updO C i x v) i x v = updO C i x v := by
  funext j y; unfold updO; split <;> simp_all
theorem hasU_take {α : Type} {L : List α} {P : α → Bool} {j : Nat} {d : α} (h : j < L.length) : (L.take (j + 1)).any P = ((L.take j).any P || P (L.getD j d)) := by
  rw [List.take_succ_eq_append_getElem h, List.any_append]
  simp [List.getD_eq_getElem?_getD, h]
def RetF1 (uu : Bool) (B cc pl S : Nat) (caA : Option Addr) (Cn : Nat → Nat → Bool) (G K : Nat → Nat) (fb N s r : Nat) (M : Int → Value) (f : List Int) (W : World) (e : Ending) (w' : World) : Prop :=
  e = .returned (.bool (!uu)) ∧ (uu = false → BGrid w' B 88 4 caA (pl + 1) cc S Cn G K ∧ Two (G pl) (G pl) W w') ∧
    (uu = true → BGrid w' B 88 4 caA (pl + 1) cc S (updO Cn pl s true) G K ∧ Two (G pl) fb W w' ∧ ∃ ra rc, FMap w' fb (N + 1) (fun x => if x = (s : Int) then .slice ra r rc else M x) ∧ Own w' W.heap.size 2 ra r rc (I f))
set_option linter.unusedSimpArgs false in
set_option maxHeartbeats 8000000 in
theorem first1 {D : Ch} {q S pl r n' : Nat} {a : Option Addr} {n c : Nat} {a' : Option Addr} {c' : Nat} {p1 p2 p3 p4 : Nat} {ba : Option Addr} {bc : Nat} {B0 : World}
    (henv : FEnv D q S pl r n' a n c a' c' p1 p2 p3 p4 ba bc B0) (hok : OkCh D) (hpl : pl + r ≤ n') (k : Nat) (hk : k ≤ 5) (hr : r = lenK k) (p0 : Nat) (v0 : VarAt B0 p0 2 (.int .i64 k)) (bs : Nat) (hbs : D.base = (bs : Int)) (h5 : k ≤ 4 ∨ 10 ≤ bs)
    (s : Nat) (hs : s < S) (p5 p7 p8 fb g : Nat) (f : List Int) (hfd : DigC D f) (ca : Option Addr) (cc : Nat) (Cn : Nat → Nat → Bool) (G K : Nat → Nat) (M : Int → Value) (N : Nat) (W : World) (hx : Ext B0 W)
    (v5 : VarAt W p5 2 (.int .i64 s)) (v7 : VarAt W p7 87 (.slice ca (pl + 1) cc)) (v8 : VarAt W p8 86 (.map (some fb))) (hg : BGrid W B0.heap.size 88 4 ca (pl + 1) cc S Cn G K) (hm : FMap W fb N M) (hN : N < 1048576)
    (hown : Own W g 2 (some ⟨g, 0, none⟩) r r (I f)) (hc0 : Cn pl s = false) (hfb0 : B0.heap.size ≤ fb) :
    Calls Try.prog 54 (#[.slice (some ⟨g, 0, none⟩) r r] ++ #[.pointer (some ⟨p0, 0, none⟩), .pointer (some ⟨p4, 0, none⟩), .pointer (some ⟨p1, 0, none⟩), .pointer (some ⟨p2, 0, none⟩), .pointer (some ⟨p3, 0, none⟩), .pointer (some ⟨p5, 0, none⟩), .pointer (some ⟨p7, 0, none⟩), .pointer (some ⟨p8, 0, none⟩)]) W
      (RetF1 (hasU D n' pl r s k bs f) B0.heap.size cc pl S ca Cn G K fb N s r M f W) := by
  have HEnv := Lib.hid henv
  have HOK := Lib.hid hok
  have hb36 := hok.b36
  have hn' := henv.ch.ps.len
  have hfl : f.length = r := by simpa [I] using hown.len
  have hfl2 : f.length = lenK k := hfl.trans hr
  have hr3 : r ≤ 3 := by rw [hr]; unfold lenK; split <;> (try split) <;> omega
  have cb4 : ∀ w', Ext B0 w' → w'.cell? ⟨p4, 0, none⟩ = some (.pointer (some ⟨q, 0, none⟩)) := fun w' h => (HEnv.out.v4.ext h).cell
  have cb2 : ∀ w', Ext B0 w' → w'.cell? ⟨p2, 0, none⟩ = some (.int .i64 pl) := fun w' h => (HEnv.out.v2.ext h).cell
  have cb0 : ∀ w', Ext B0 w' → w'.cell? ⟨p0, 0, none⟩ = some (.int .i64 k) := fun w' h => (v0.ext h).cell
  have k0 := henv.ch.c0
  simp only [hbs] at k0
  have hG0 : B0.heap.size ≤ G pl := (hg.ge (show pl < pl + 1 by omega)).1
  have hGlt : G pl < W.heap.size := (hg.ge (show pl < pl + 1 by omega)).2
  have hrow := hg.row pl (by omega)
  have h5G : p5 ≠ G pl := fun h => hrow.ne_var v5 (by decide) _ rfl h.symm
  have h7G : p7 ≠ G pl := fun h => hrow.ne_var v7 (by decide) _ rfl h.symm
  have h8G : p8 ≠ G pl := fun h => hrow.ne_var v8 (by decide) _ rfl h.symm
  have hgG : g ≠ G pl := own_ne_type hown hrow (by decide) ⟨g, 0, none⟩ ⟨G pl, 0, none⟩ rfl rfl
  have hfG : fb ≠ G pl := fun h => hm.ne_row hrow _ rfl h.symm
  have h5f := hm.ne_var v5
  have h7f := hm.ne_var v7
  have hglt := hown.lt.2
  have HV5 := Lib.hid v5
  have HV7 := Lib.hid v7
  have HV8 := Lib.hid v8
  have HG := Lib.hid hg
  have HM := Lib.hid hm
  have HF := Lib.hid hown.ints
  have HFd := Lib.hid hfd
  have HBs := Lib.hid hbs
  have HFl := Lib.hid hfl2
  have HC0 := Lib.hid hc0
  have HPl := Lib.hid (show ∀ i, i < pl + 1 → ∀ x, ca = some x → x.block ≠ G i from fun i hi x hx => own_ne_type HG.out.outer (HG.out.row i hi) (by decide) x ⟨G i, 0, none⟩ hx rfl)
  obtain ⟨uu, huu⟩ : ∃ u, u = hasU D n' pl r s k bs f := ⟨_, rfl⟩
  rw [← huu]
  have HU := Lib.hid huu
  have hs36 : S ≤ 36 := by have := HEnv.out.st; have := HOK.out.s36; omega
  have HR := Lib.hid hr
  clear hr hfl henv hok v0 hbs hfd v5 v7 v8 hg hm hown hc0 hrow huu hfl2
  go_enter Try.func54, Try.ntmps54
  go_wp2_with fail
  obtain ⟨wb, hwb⟩ : ∃ wb, wb = W.alloc (.cells #[.slice (some ⟨g, 0, none⟩) r r] 25) := ⟨_, rfl⟩
  have hxb : Ext W wb := by rw [hwb]; exact (by repeat (first | (with_reducible exact Ext.refl _) | (with_reducible refine Ext.drewN ?_ _) | (with_reducible refine Ext.drew ?_) | (with_reducible refine Ext.alloc ?_ _) | ((with_reducible refine Ext.setCell ?_ ?_ _); rotate_left; focus (first | (simp; done) | (simp; omega) | omega)) | assumption | (with_reducible refine Ext.trans ?_ (by assumption))))
  obtain ⟨p6, hp6⟩ : ∃ p, p = W.heap.size := ⟨_, rfl⟩
  have HV6 := Lib.hid (show VarAt wb p6 25 (.slice (some ⟨g, 0, none⟩) r r) from by rw [hwb, hp6]; exact VarAt.new _ _ _)
  rw [← hwb, ← hp6]
  have h6G : p6 ≠ G pl := by omega
  have h6f : p6 ≠ fb := by have := HM.out.lt; omega
  have hx0b : Ext B0 wb := hx.trans hxb
  have hsb := hxb.le
  have c6 : ∀ w', Ext wb w' → w'.cell? ⟨p6, 0, none⟩ = some (.slice (some ⟨g, 0, none⟩) r r) := fun w' h => (HV6.out.ext h).cell
  clear hwb hp6
  have HChg := Lib.hid (fun w' (h : Ext wb w') => changes_all k hk bs 55 #[.pointer (some ⟨p1, 0, none⟩), .pointer (some ⟨p2, 0, none⟩), .pointer (some ⟨p3, 0, none⟩), .pointer (some ⟨p4, 0, none⟩), .pointer (some ⟨p5, 0, none⟩), .pointer (some ⟨p6, 0, none⟩), .pointer (some ⟨p7, 0, none⟩)] (some ⟨g, 0, none⟩) r r f
    (fun j W' => BGrid W' B0.heap.size 88 4 ca (pl + 1) cc S (if ((chgL k bs f).take j).any (fun t => posU D n' pl r s f t) = true then updO Cn pl s true else Cn) G K ∧ Two (G pl) (G pl) wb W') w' (by have := HBs.out; omega) HR.out
    (fun j W' hi => (HF.out.ext hxb).two hi.2 (fun y hy => by cases hy; exact ⟨hgG, hgG⟩))
    (fun j W' W'' hi hxx => ⟨hi.1.ext hxx, hi.2.ext hxx⟩)
    (fun _ _ => rfl)
    (fun j W' ta tn tc hj hi hti hta hhi => by
      have hm := gl_mem hj
      have hl := chgL_len HFl.out hm
      have htl := hti.len
      have hrr := HR.out
      have htn : tn = r := by omega
      subst htn
      have hxx := hx0b.two hi.2 hG0 hG0
      have hle := h.le
      refine (first2 HEnv.out HOK.out hpl s hs p5 p6 p7 (some ⟨g, 0, none⟩) tn f ta tc (gl (chgL k bs f) j) ca cc _ G K W' hxx ((HV5.out.ext hxb).two hi.2 h5G h5G) (HV6.out.two hi.2 h6G h6G) ((HV7.out.ext hxb).two hi.2 h7G h7G)
        ((HF.out.ext hxb).two hi.2 (fun y hy => by cases hy; exact ⟨hgG, hgG⟩)) hti hi.1 HFd.out (fun d hd => by have h2 := chg_dig (fun x hx => by have := HFd.out x hx; have := HBs.out; omega) HFl.out h5 hm d hd; have := HBs.out; omega)).mono fun e w'' ⟨h1, h2, h3⟩ => ⟨h1, ⟨?_, hi.2.trans h3⟩, h3.keepB (by omega) (by omega) hhi⟩
      rw [hasU_take (d := []) hj]
      have e1 : (chgL k bs f).getD j [] = gl (chgL k bs f) j := rfl
      rw [e1]
      cases hA : ((chgL k bs f).take j).any (fun t => posU D n' pl tn s f t) <;> cases hB : posU D n' pl tn s f (gl (chgL k bs f) j) <;> simp only [hA, hB, Bool.false_eq_true, if_false, if_true, updO_idem, Bool.or_true, Bool.true_or, Bool.or_false, Bool.false_or] at h2 ⊢ <;> exact h2)
    (by
      refine ⟨?_, Two.of_ext h⟩
      simp only [List.take_zero, List.any_nil, Bool.false_eq_true, if_false]
      exact (HG.out.ext hxb).ext h))
  rw [List.take_length, show ((chgL k bs f).any fun t => posU D n' pl r s f t) = uu from HU.out.symm] at HChg
  have cw5 : ∀ w', Ext wb w' → w'.cell? ⟨p2, 0, none⟩ = some (.int .i64 pl) := fun w' h => cb2 w' (hx0b.trans h)
  have cw4 : ∀ w', Ext wb w' → w'.cell? ⟨p4, 0, none⟩ = some (.pointer (some ⟨q, 0, none⟩)) := fun w' h => cb4 w' (hx0b.trans h)
  have cw0 : ∀ w', Ext wb w' → w'.cell? ⟨p0, 0, none⟩ = some (.int .i64 k) := fun w' h => cb0 w' (hx0b.trans h)
  have cwk : ∀ w', Ext wb w' → w'.cell? ⟨q, 0, none⟩ = some (.int .i64 bs) := fun w' h => k0 w' (hx0b.trans h)
  clear cb0 cb4 k0
  go_wp2_with fail
  (refine wp_region_upl 7 wb (by repeat (first | (with_reducible exact Ext.refl _) | (with_reducible refine Ext.drewN ?_ _) | (with_reducible refine Ext.drew ?_) | (with_reducible refine Ext.alloc ?_ _) | ((with_reducible refine Ext.setCell ?_ ?_ _); rotate_left; focus (first | (simp; done) | (simp; omega) | omega)) | assumption | (with_reducible refine Ext.trans ?_ (by assumption)))) rfl (by kernel_rfl) (by kernel_rfl) (seqB_of (by kernel_rfl)) (lastB_of (by kernel_rfl)) ?_; simp only [List.take_succ_cons, List.take_zero, List.drop_succ_cons, List.drop_zero]; (repeat (first | (refine mix_q rfl ?_; go_big_quiet_step (fail); refine wpQuiet_nil ?_; show wpMix _ _ _ _ _ _ _) | (refine mix_s rfl ?_; go_wp2_with (fail); first | refine ⟨up_of (by repeat (first | (with_reducible exact Ext.refl _) | (with_reducible refine Ext.drewN ?_ _) | (with_reducible refine Ext.drew ?_) | (with_reducible refine Ext.alloc ?_ _) | ((with_reducible refine Ext.setCell ?_ ?_ _); rotate_left; focus (first | (simp; done) | (simp; omega) | omega)) | assumption | (with_reducible refine Ext.trans ?_ (by assumption)))), ?_⟩ | refine ⟨rfl, rfl, up_of (by repeat (first | (with_reducible exact Ext.refl _) | (with_reducible refine Ext.drewN ?_ _) | (with_reducible refine Ext.drew ?_) | (with_reducible refine Ext.alloc ?_ _) | ((with_reducible refine Ext.setCell ?_ ?_ _); rotate_left; focus (first | (simp; done) | (simp; omega) | omega)) | assumption | (with_reducible refine Ext.trans ?_ (by assumption)))), ?_⟩))); refine mix_nil ?_)
  go_wp2_with ((with_reducible refine (HChg.out _ (by repeat (first | (with_reducible exact Ext.refl _) | (with_reducible assumption) | (with_reducible refine Ext.drewN ?_ _) | (with_reducible refine Ext.drew ?_) | (with_reducible refine Ext.alloc ?_ _) | ((with_reducible refine Ext.setCell ?_ ?_ _); rotate_left; focus (first | (simp; done) | (simp; omega) | omega)) | (with_reducible refine Ext.trans ?_ (by with_reducible assumption))))).mono ?_); rintro e w6 ⟨rfl, h6, ht6⟩)
  have HG6 := Lib.hid h6
  have HT6 := Lib.hid ht6
  have HX6 := Lib.hid (hx0b.two ht6 hG0 hG0)
  have HM6 := Lib.hid ((HM.out.ext hxb).two ht6 hfG hfG)
  have HV56 := Lib.hid ((HV5.out.ext hxb).two ht6 h5G h5G)
  have HV66 := Lib.hid (HV6.out.two ht6 h6G h6G)
  have HV76 := Lib.hid ((HV7.out.ext hxb).two ht6 h7G h7G)
  have HV86 := Lib.hid ((HV8.out.ext hxb).two ht6 h8G h8G)
  have HF6 := Lib.hid ((HF.out.ext hxb).two ht6 (fun y hy => by cases hy; exact ⟨hgG, hgG⟩))
  obtain ⟨b4, o4, g1, g2, g3, g4, g5⟩ := HG6.out.one (P := Try.prog) 87 88 und_brows cell_brow1 und_bools cell_bool1 (i := pl) (x := s) (by omega) hs
  have hval : (if uu = true then updO Cn pl s true else Cn) pl s = uu := by
    cases uu
    · exact HC0.out
    · exact updO_same _ _ _ _
  rw [hval] at g4
  have c56 : ∀ w', Ext w6 w' → w'.cell? ⟨p5, 0, none⟩ = some (.int .i64 s) := fun w' h => (HV56.out.ext h).cell
  have c66 : ∀ w', Ext w6 w' → w'.cell? ⟨p6, 0, none⟩ = some (.slice (some ⟨g, 0, none⟩) r r) := fun w' h => (HV66.out.ext h).cell
  have c76 : ∀ w', Ext w6 w' → w'.cell? ⟨p7, 0, none⟩ = some (.slice ca (pl + 1) cc) := fun w' h => (HV76.out.ext h).cell
  have c86 : ∀ w', Ext w6 w' → w'.cell? ⟨p8, 0, none⟩ = some (.map (some fb)) := fun w' h => (HV86.out.ext h).cell
  have c26 : ∀ w', Ext w6 w' → w'.cell? ⟨p2, 0, none⟩ = some (.int .i64 pl) := fun w' h => cb2 w' (HX6.out.trans h)
  clear c6 cw5 cw4 cw0 cwk h6 ht6 hval HChg
  go_wp2_with fail
  (refine wp_region_from w6 (by repeat (first | (with_reducible exact Ext.refl _) | (with_reducible refine Ext.drewN ?_ _) | (with_reducible refine Ext.drew ?_) | (with_reducible refine Ext.alloc ?_ _) | ((with_reducible refine Ext.setCell ?_ ?_ _); rotate_left; focus (first | (simp; done) | (simp; omega) | omega)) | assumption | (with_reducible refine Ext.trans ?_ (by assumption)))) (by kernel_rfl) (by kernel_rfl) (by kernel_rfl) ?_; (repeat (first | (refine mix_q rfl ?_; go_big_quiet_step (fail); refine wpQuiet_nil ?_; show wpMix _ _ _ _ _ _ _) | (refine mix_s rfl ?_; go_wp2_with (fail); first | refine ⟨up_of (by repeat (first | (with_reducible exact Ext.refl _) | (with_reducible refine Ext.drewN ?_ _) | (with_reducible refine Ext.drew ?_) | (with_reducible refine Ext.alloc ?_ _) | ((with_reducible refine Ext.setCell ?_ ?_ _); rotate_left; focus (first | (simp; done) | (simp; omega) | omega)) | assumption | (with_reducible refine Ext.trans ?_ (by assumption)))), ?_⟩ | refine ⟨rfl, rfl, up_of (by repeat (first | (with_reducible exact Ext.refl _) | (with_reducible refine Ext.drewN ?_ _) | (with_reducible refine Ext.drew ?_) | (with_reducible refine Ext.alloc ?_ _) | ((with_reducible refine Ext.setCell ?_ ?_ _); rotate_left; focus (first | (simp; done) | (simp; omega) | omega)) | assumption | (with_reducible refine Ext.trans ?_ (by assumption)))), ?_⟩))); refine mix_nil ?_)
  cases uu
  · have hif : (if (false : Bool) = true then updO Cn pl s true else Cn) = Cn := if_neg (by decide)
    rw [hif] at HG6
    go_wp2_with fail
    (refine wp_region_from w6 (by repeat (first | (with_reducible exact Ext.refl _) | (with_reducible refine Ext.drewN ?_ _) | (with_reducible refine Ext.drew ?_) | (with_reducible refine Ext.alloc ?_ _) | ((with_reducible refine Ext.setCell ?_ ?_ _); rotate_left; focus (first | (simp; done) | (simp; omega) | omega)) | assumption | (with_reducible refine Ext.trans ?_ (by assumption)))) (by kernel_rfl) (by kernel_rfl) (by kernel_rfl) ?_; (repeat (first | (refine mix_q rfl ?_; go_big_quiet_step (fail); refine wpQuiet_nil ?_; show wpMix _ _ _ _ _ _ _) | (refine mix_s rfl ?_; go_wp2_with (fail); first | refine ⟨up_of (by repeat (first | (with_reducible exact Ext.refl _) | (with_reducible refine Ext.drewN ?_ _) | (with_reducible refine Ext.drew ?_) | (with_reducible refine Ext.alloc ?_ _) | ((with_reducible refine Ext.setCell ?_ ?_ _); rotate_left; focus (first | (simp; done) | (simp; omega) | omega)) | assumption | (with_reducible refine Ext.trans ?_ (by assumption)))), ?_⟩ | refine ⟨rfl, rfl, up_of (by repeat (first | (with_reducible exact Ext.refl _) | (with_reducible refine Ext.drewN ?_ _) | (with_reducible refine Ext.drew ?_) | (with_reducible refine Ext.alloc ?_ _) | ((with_reducible refine Ext.setCell ?_ ?_ _); rotate_left; focus (first | (simp; done) | (simp; omega) | omega)) | assumption | (with_reducible refine Ext.trans ?_ (by assumption)))), ?_⟩))); refine mix_nil ?_)
    go_wp2_with fail
    go_ret
    refine ⟨rfl, ?_, ?_⟩
    · intro _
      have hx66 : Ext w6 w6.drew.drew := (by repeat (first | (with_reducible exact Ext.refl _) | (with_reducible refine Ext.drewN ?_ _) | (with_reducible refine Ext.drew ?_) | (with_reducible refine Ext.alloc ?_ _) | ((with_reducible refine Ext.setCell ?_ ?_ _); rotate_left; focus (first | (simp; done) | (simp; omega) | omega)) | assumption | (with_reducible refine Ext.trans ?_ (by assumption))))
      exact ⟨HG6.out.ext hx66, ((Two.of_ext hxb).trans HT6.out).trans (Two.of_ext hx66)⟩
    · intro h
      cases h
  · have hif : (if (true : Bool) = true then updO Cn pl s true else Cn) = updO Cn pl s true := if_pos rfl
    rw [hif] at HG6
    have HCl := Lib.hid (fun w' (h : Ext w6 w') => clone_ints (some ⟨g, 0, none⟩) r r f w' (HF6.out.ext h) (by omega))
    have HLn := Lib.hid (show f.length = r from HFl.out.trans HR.out.symm)
    go_wp2_with fail
    (refine wp_region_upl 4 w6 (by repeat (first | (with_reducible exact Ext.refl _) | (with_reducible refine Ext.drewN ?_ _) | (with_reducible refine Ext.drew ?_) | (with_reducible refine Ext.alloc ?_ _) | ((with_reducible refine Ext.setCell ?_ ?_ _); rotate_left; focus (first | (simp; done) | (simp; omega) | omega)) | assumption | (with_reducible refine Ext.trans ?_ (by assumption)))) rfl (by kernel_rfl) (by kernel_rfl) (seqB_of (by kernel_rfl)) (lastB_of (by kernel_rfl)) ?_; simp only [List.take_succ_cons, List.take_zero, List.drop_succ_cons, List.drop_zero]; (repeat (first | (refine mix_q rfl ?_; go_big_quiet_step (fail); refine wpQuiet_nil ?_; show wpMix _ _ _ _ _ _ _) | (refine mix_s rfl ?_; go_wp2_with ((go_at_call 56; (with_reducible refine (HCl.out _ (by repeat (first | (with_reducible exact Ext.refl _) | (with_reducible assumption) | (with_reducible refine Ext.drewN ?_ _) | (with_reducible refine Ext.drew ?_) | (with_reducible refine Ext.alloc ?_ _) | ((with_reducible refine Ext.setCell ?_ ?_ _); rotate_left; focus (first | (simp; done) | (simp; omega) | omega)) | (with_reducible refine Ext.trans ?_ (by with_reducible assumption))))).mono ?_); rintro e w7 ⟨ra, rc, rfl, ho7, hy7, -⟩; rw [I_len, HLn.out] at ho7 ⊢; have hx7 : Ext w6 w7 := Ext.trans (by repeat (first | (with_reducible exact Ext.refl _) | (with_reducible assumption) | (with_reducible refine Ext.drewN ?_ _) | (with_reducible refine Ext.drew ?_) | (with_reducible refine Ext.alloc ?_ _) | ((with_reducible refine Ext.setCell ?_ ?_ _); rotate_left; focus (first | (simp; done) | (simp; omega) | omega)) | (with_reducible refine Ext.trans ?_ (by with_reducible assumption)))) hy7; have HO7 := Lib.hid (show Own w7 w6.heap.size 2 ra r rc (I f) from ho7); clear ho7)); first | refine ⟨up_of (by repeat (first | (with_reducible exact Ext.refl _) | (with_reducible refine Ext.drewN ?_ _) | (with_reducible refine Ext.drew ?_) | (with_reducible refine Ext.alloc ?_ _) | ((with_reducible refine Ext.setCell ?_ ?_ _); rotate_left; focus (first | (simp; done) | (simp; omega) | omega)) | assumption | (with_reducible refine Ext.trans ?_ (by assumption)))), ?_⟩ | refine ⟨rfl, rfl, up_of (by repeat (first | (with_reducible exact Ext.refl _) | (with_reducible refine Ext.drewN ?_ _) | (with_reducible refine Ext.drew ?_) | (with_reducible refine Ext.alloc ?_ _) | ((with_reducible refine Ext.setCell ?_ ?_ _); rotate_left; focus (first | (simp; done) | (simp; omega) | omega)) | assumption | (with_reducible refine Ext.trans ?_ (by assumption)))), ?_⟩))); refine mix_nil ?_)
    have HG7 := Lib.hid (HG6.out.ext hx7)
    have HM7 := Lib.hid (HM6.out.ext hx7)
    obtain ⟨w8, hrun, hm8, _, hgr⟩ := HM7.out.put hN (y := (s : Int)) (by omega) (by omega) (.slice ra r rc)
    have HM8 := Lib.hid hm8
    have HT8 := Lib.hid (Two.of_grown (p := fb) hgr)
    have hx07 : Ext B0 w7 := HX6.out.trans hx7
    have HG8 := Lib.hid (HG7.out.two HT8.out (fun x hx => ⟨HM7.out.ne_row HG7.out.outer x hx, HM7.out.ne_row HG7.out.outer x hx⟩) (fun j hj => ⟨HM7.out.ne_row (HG7.out.row j hj) _ rfl, HM7.out.ne_row (HG7.out.row j hj) _ rfl⟩))
    have HO8 := Lib.hid (show Own w8 W.heap.size 2 ra r rc (I f) from by
      have hne := HM7.out.ne_row HO7.out
      refine ⟨HO7.out.1, ?_⟩
      rcases HO7.out.2 with h1 | ⟨z, cap, cur, hv, h1, h2, h3⟩
      · exact .inl h1
      · simp only [Value.slice.injEq] at hv
        have h4 := hne _ hv.1
        exact .inr ⟨z, cap, cur, by simp [hv.1, hv.2], by have := HT6.out.size; have := hxb.le; omega, (HT8.out.block z (Array.getElem?_eq_some_iff.1 h2).1 h4 h4).trans h2, h3⟩)
    clear g1 g2 g3 g4 g5
    obtain ⟨b4, o4, g1, g2, g3, g4, g5⟩ := HG8.out.one (P := Try.prog) 87 88 und_brows cell_brow1 und_bools cell_bool1 (i := pl) (x := s) (by omega) hs
    rw [updO_same] at g4
    have c58 : ∀ w', Ext w8 w' → w'.cell? ⟨p5, 0, none⟩ = some (.int .i64 s) := fun w' h => ((((HV56.out.ext hx7).two HT8.out h5f h5f)).ext h).cell
    have c78 : ∀ w', Ext w8 w' → w'.cell? ⟨p7, 0, none⟩ = some (.slice ca (pl + 1) cc) := fun w' h => ((((HV76.out.ext hx7).two HT8.out h7f h7f)).ext h).cell
    have c28 : ∀ w', Ext w8 w' → w'.cell? ⟨p2, 0, none⟩ = some (.int .i64 pl) := fun w' h => cb2 w' ((hx07.two HT8.out (by have := hG0; exact hfb0) hfb0).trans h)
    clear c56 c66 c76 c86 c26 hm8 hgr
    go_wp2_with fail
    (refine wp_region_from w8 (by repeat (first | (with_reducible exact Ext.refl _) | (with_reducible refine Ext.drewN ?_ _) | (with_reducible refine Ext.drew ?_) | (with_reducible refine Ext.alloc ?_ _) | ((with_reducible refine Ext.setCell ?_ ?_ _); rotate_left; focus (first | (simp; done) | (simp; omega) | omega)) | assumption | (with_reducible refine Ext.trans ?_ (by assumption)))) (by kernel_rfl) (by kernel_rfl) (by kernel_rfl) ?_; (repeat (first | (refine mix_q rfl ?_; go_big_quiet_step (fail); refine wpQuiet_nil ?_; show wpMix _ _ _ _ _ _ _) | (refine mix_s rfl ?_; go_wp2_with (fail); first | refine ⟨up_of (by repeat (first | (with_reducible exact Ext.refl _) | (with_reducible refine Ext.drewN ?_ _) | (with_reducible refine Ext.drew ?_) | (with_reducible refine Ext.alloc ?_ _) | ((with_reducible refine Ext.setCell ?_ ?_ _); rotate_left; focus (first | (simp; done) | (simp; omega) | omega)) | assumption | (with_reducible refine Ext.trans ?_ (by assumption)))), ?_⟩ | refine ⟨rfl, rfl, up_of (by repeat (first | (with_reducible exact Ext.refl _) | (with_reducible refine Ext.drewN ?_ _) | (with_reducible refine Ext.drew ?_) | (with_reducible refine Ext.alloc ?_ _) | ((with_reducible refine Ext.setCell ?_ ?_ _); rotate_left; focus (first | (simp; done) | (simp; omega) | omega)) | assumption | (with_reducible refine Ext.trans ?_ (by assumption)))), ?_⟩))); refine mix_nil ?_)
    go_wp2_with fail
    go_ret
    have hx88 : Ext w8 w8.drew := (by repeat (first | (with_reducible exact Ext.refl _) | (with_reducible refine Ext.drewN ?_ _) | (with_reducible refine Ext.drew ?_) | (with_reducible refine Ext.alloc ?_ _) | ((with_reducible refine Ext.setCell ?_ ?_ _); rotate_left; focus (first | (simp; done) | (simp; omega) | omega)) | assumption | (with_reducible refine Ext.trans ?_ (by assumption))))
    refine ⟨rfl, ?_, ?_⟩
    · intro h
      cases h
    · intro _
      have hT := (Two.of_ext hxb).trans HT6.out
      have hT2 : Two (G pl) fb W w6 := ⟨hT.os, hT.tape, hT.output, hT.size, fun i h1 h2 _ => hT.block i h1 h2 h2⟩
      have hT3 : Two (G pl) fb w7 w8 := ⟨HT8.out.os, HT8.out.tape, HT8.out.output, HT8.out.size, fun i h1 _ h2 => HT8.out.block i h1 h2 h2⟩
      exact ⟨HG8.out.ext hx88, ((hT2.ext hx7).trans hT3).ext hx88, ra, rc, HM8.out.ext hx88, HO8.out.ext hx88⟩
end Go.Proofs.Ytccoopnoakhedaa
