/- Walks: what errors of each kind make of symbols, in the program. -/
import Derived.Test.YtccoopnoakhedaaUndA
import Derived.Deep.RegionHeld3
import Derived.Deep.CutRange
import Derived.Test.YtccoopnoakhedaaCube
import Derived.Test.YtccoopnoakhedaaVar
namespace Go.Proofs.Ytccoopnoakhedaa
set_option maxRecDepth 100000
open Go.RowKit

/-- how many symbols an error of a kind has -/
def lenK (k : Nat) : Nat := if k = 0 then 1 else if k = 2 ∨ k = 4 then 3 else 2
def kindB (k : Nat) (b : Int) : Bool := decide (k ≠ 5) || decide (10 ≤ b)
/-- the first symbol and the last one anew -/
def endsTo (f : List Int) (x y : Int) : List Int := (f.set 0 x).set (f.length - 1) y
theorem endsTo_len (f : List Int) (x y : Int) : (endsTo f x y).length = f.length := by simp [endsTo]
/-- what an error of a kind makes of symbols, in the program's order -/
def chgL (k base : Nat) (f : List Int) : List (List Int) :=
  if k = 0 then eachTo (gi f 0) (fun b => [b]) base
  else if k ≤ 2 then (if gi f 0 = gi f (f.length - 1) then [] else [endsTo f (gi f (f.length - 1)) (gi f 0)])
  else if k ≤ 4 then (if gi f 0 = gi f (f.length - 1) then eachTo (gi f 0) (fun b => endsTo f b b) base else [])
  else if gi f 1 = 0 ∧ 2 ≤ gi f 0 ∧ gi f 0 ≤ 9 then [[1, gi f 0]]
  else if gi f 0 = 1 ∧ 2 ≤ gi f 1 ∧ gi f 1 ≤ 9 then [[gi f 1, 0]]
  else []
theorem impl_errLen (k : Nat) (hk : k ≤ 5) (w : World) : Calls Try.prog 41 #[.int .i64 k] w (Same (.int .i64 (lenK k)) w) := by
  have h6 : k = 0 ∨ k = 1 ∨ k = 2 ∨ k = 3 ∨ k = 4 ∨ k = 5 := by omega
  clear hk
  rcases h6 with rfl | rfl | rfl | rfl | rfl | rfl
  all_goals
    go_enter Try.func41, Try.ntmps41
    go_wp2
    go_ret
    exact ⟨rfl, rfl⟩
set_option maxHeartbeats 1000000 in
theorem impl_kindOk (k : Nat) (hk : k ≤ 5) (b : Int) (w : World) : Calls Try.prog 19 #[.int .i64 k, .int .i64 b] w (Same (.bool (kindB k b)) w) := by
  have HI := Lib.hid (impl_in (k : Int) 0 5 w)
  rw [show inB (k : Int) 0 5 = true from inB_t.2 (by omega)] at HI
  have h6 : k = 0 ∨ k = 1 ∨ k = 2 ∨ k = 3 ∨ k = 4 ∨ k = 5 := by omega
  clear hk
  rcases h6 with rfl | rfl | rfl | rfl | rfl | rfl
  iterate 5
    · go_enter Try.func19, Try.ntmps19
      go_wp2_with (refine HI.out.mono ?_; rintro e w1 ⟨rfl, rfl⟩)
      go_ret
      exact ⟨rfl, rfl⟩
  · by_cases hb : 10 ≤ b
    · have HK := Lib.hid (show kindB 5 b = true by simp [kindB, hb])
      go_enter Try.func19, Try.ntmps19
      go_wp2_with (refine HI.out.mono ?_; rintro e w1 ⟨rfl, rfl⟩)
      go_ret
      exact ⟨rb HK.out.symm, rfl⟩
    · have HK := Lib.hid (show kindB 5 b = false by simp [kindB, hb])
      go_enter Try.func19, Try.ntmps19
      go_wp2_with (refine HI.out.mono ?_; rintro e w1 ⟨rfl, rfl⟩)
      go_ret
      exact ⟨rb (by rw [HK.out]; exact decide_eq_false (by omega)), rfl⟩
/-- four cells that are known -/
def Cells4 (p1 p2 p3 p4 : Addr) (v1 v2 v3 v4 : Value) (W : World) : Prop := W.cell? p1 = some v1 ∧ W.cell? p2 = some v2 ∧ W.cell? p3 = some v3 ∧ W.cell? p4 = some v4
theorem cells4 {W : World} {p1 p2 p3 p4 : Addr} {v1 v2 v3 v4 : Value} (h1 : W.cell? p1 = some v1) (h2 : W.cell? p2 = some v2) (h3 : W.cell? p3 = some v3) (h4 : W.cell? p4 = some v4) : Cells4 p1 p2 p3 p4 v1 v2 v3 v4 W := ⟨h1, h2, h3, h4⟩
theorem Cells4.drew {W : World} {p1 p2 p3 p4 : Addr} {v1 v2 v3 v4 : Value} (h : Cells4 p1 p2 p3 p4 v1 v2 v3 v4 W) : Cells4 p1 p2 p3 p4 v1 v2 v3 v4 W.drew := h
theorem Cells4.set {W : World} {p1 p2 p3 p4 : Addr} {v1 v2 v3 v4 : Value} {g : Nat} (n1 : p1.block ≠ g) (n2 : p2.block ≠ g) (n3 : p3.block ≠ g) (n4 : p4.block ≠ g) (h : Cells4 p1 p2 p3 p4 v1 v2 v3 v4 W) (i : Nat) (u : Value) : Cells4 p1 p2 p3 p4 v1 v2 v3 v4 (W.setCell ⟨g, i, none⟩ u) := by
  have hne : ∀ x, x ≠ g → (W.setCell ⟨g, i, none⟩ u).heap[x]? = W.heap[x]? := fun x hx => Below.heap_setCell W ⟨g, i, none⟩ u x hx
  exact ⟨(World.cell?_of_block (w := W) (hne _ n1)).trans h.1, (World.cell?_of_block (w := W) (hne _ n2)).trans h.2.1, (World.cell?_of_block (w := W) (hne _ n3)).trans h.2.2.1, (World.cell?_of_block (w := W) (hne _ n4)).trans h.2.2.2⟩
/-- two stores into a row of the call's own -/
theorem own_two {w : World} {B : Nat} {E : TypeId} {g n c : Nat} {l : List Int} (h : Own w B E (some ⟨g, 0, none⟩) n c (I l)) (i j : Nat) (x y : Int) :
    Own ((w.setCell ⟨g, i, none⟩ (.int .i64 x)).setCell ⟨g, j, none⟩ (.int .i64 y)) B E (some ⟨g, 0, none⟩) n c (I ((l.set i x).set j y)) := by
  have h1 := (World.ownsRow.stored h i (.int .i64 x)).1
  have h2 := (World.ownsRow.stored h1 j (.int .i64 y)).1
  have e : I ((l.set i x).set j y) = ((I l).set (i * 1) (.int .i64 x)).set (j * 1) (.int .i64 y) := by simp [I]
  rw [e, Nat.mul_one, Nat.mul_one]
  exact h2
theorem own_some1 {w : World} {B : Nat} {E : TypeId} {a : Option Addr} {n c : Nat} {vs : List Value} (h : Own w B E a n c vs) (h1 : 1 ≤ n) : ∃ g, a = some ⟨g, 0, none⟩ ∧ B ≤ g := by
  rcases h.2 with ⟨hv, _⟩ | ⟨g, cap, cur, hv, hb, _⟩
  · simp at hv; omega
  · simp only [Value.slice.injEq] at hv; exact ⟨g, hv.1, hb⟩
theorem own_cellI {w : World} {B : Nat} {E : TypeId} {g n c : Nat} {l : List Int} (h : Own w B E (some ⟨g, 0, none⟩) n c (I l)) {j : Nat} (hj : j < n) : w.cell? ⟨g, j, none⟩ = some (.int .i64 (gi l j)) := by
  have h1 := World.ownsRow.cellAt h j (by omega)
  have hl : l.length = n := (I_len l).symm.trans h.len
  rw [h1]
  unfold I gi
  rw [List.getElem?_map, List.getElem?_eq_getElem (by omega), List.getD_eq_getElem?_getD, List.getElem?_eq_getElem (by omega)]
  rfl
set_option maxHeartbeats 2000000 in
theorem changes3 (b : Int) (p2 p4 : Nat) (fa : Option Addr) (fn fc : Nat) (from' : List Int) (w : World) (v2 : VarAt w p2 25 (.slice fa fn fc)) (v4 : VarAt w p4 3 (.int .i64 ((fn : Int) - 1))) (hf : Ints w fa fn fc from') (h1 : 1 ≤ fn) (h2 : fn ≤ 1048576) :
    Calls Try.prog 64 (#[.int .i64 b] ++ #[.pointer (some ⟨p2, 0, none⟩), .pointer (some ⟨p4, 0, none⟩)]) w (RetOwn 2 (I (endsTo from' b b)) w) := by
  obtain ⟨m, rfl⟩ : ∃ m, fn = m + 1 := ⟨fn - 1, by omega⟩
  have HF := Lib.hid hf
  have HL := Lib.hid hf.len
  have HV4 := Lib.hid v4
  have c2 := v2.cell
  rw [show ((m + 1 : Nat) : Int) - 1 = (m : Int) by omega] at HV4
  clear hf v2 v4 h1
  go_enter Try.func64, Try.ntmps64
  go_wp2_with (go_at_call 56; (with_reducible refine (clone_ints fa (m + 1) fc from' w HF.out (by omega)).mono ?_); rintro e w1 ⟨ta, tc, rfl, ho, hx, _⟩)
  rw [I_len, HL.out] at ho ⊢
  obtain ⟨g, rfl, hg⟩ := own_some1 ho (by omega)
  have HO := Lib.hid ho
  have HX := Lib.hid hx
  have c4 := (HV4.out.ext hx).cell
  have hp4 : p4 ≠ g := by have := HV4.out.lt; omega
  have hlt := ho.lt
  clear ho hx
  have e0 : w1.cell? ⟨g, 0, none⟩ = some (.int .i64 (gi from' 0)) := own_cellI HO.out (by omega)
  have em : w1.cell? ⟨g, m, none⟩ = some (.int .i64 (gi from' m)) := own_cellI HO.out (by omega)
  have fr := fun j => World.ownsRow.frozenAt HO.out j
  go_wp2_with fail
  have hix := (Own.at (P := Try.prog) HO.out 25 und_int64s cell_int64 m (by omega) .i64).1
  have HO1 := (World.ownsRow.stored (show w1.ownsRow w.heap.size 2 1 (.slice (some ⟨g, 0, none⟩) (m + 1) tc) (m + 1) (I from') from HO.out) 0 (.int .i64 b)).1
  obtain ⟨y, ey⟩ : ∃ y, (w1.setCell ⟨g, 0, none⟩ (.int .i64 b)).cell? ⟨g, m, none⟩ = some y := by
    have h1 := World.ownsRow.cellAt HO1 m (by omega)
    rw [h1]
    exact ⟨_, List.getElem?_eq_getElem (by rw [List.length_set, I_len, HL.out]; omega)⟩
  have ef := World.ownsRow.frozenAt HO1 m
  have ey2 : (w1.setCell ⟨g, 0, none⟩ (.int .i64 b)).drew.cell? ⟨g, m, none⟩ = some y := ey
  have ef2 : (w1.setCell ⟨g, 0, none⟩ (.int .i64 b)).drew.frozen? ⟨g, m, none⟩ = false := ef
  clear HO1
  have hkp : ∀ (W : World) (i : Nat) (u : Value), W.cell? ⟨p4, 0, none⟩ = some (.int .i64 m) → (W.setCell ⟨g, i, none⟩ u).cell? ⟨p4, 0, none⟩ = some (.int .i64 m) := fun W i u h => (World.cell?_of_block (w := W) (Below.heap_setCell W ⟨g, i, none⟩ u p4 hp4)).trans h
  have hkd : ∀ (W : World) (i : Nat) (u : Value), W.cell? ⟨p4, 0, none⟩ = some (.int .i64 m) → (W.setCell ⟨g, i, none⟩ u).drew.cell? ⟨p4, 0, none⟩ = some (.int .i64 m) := fun W i u h => hkp W i u h
  go_region_held3 (fun w' => w'.cell? ⟨p4, 0, none⟩ = some (.int .i64 m)) ((first | assumption | exact hkd _ _ _ (by assumption) | exact hkp _ _ _ (by assumption) | exact hkd _ _ _ (hkp _ _ _ (by assumption)) | exact hkp _ _ _ (hkp _ _ _ (by assumption)))) (fail)
  go_wp2_with fail
  go_ret
  have hl : (I (endsTo from' b b)).length = m + 1 := by rw [I_len, endsTo_len, HL.out]
  have he : (from'.set 0 b).set m b = endsTo from' b b := by unfold endsTo; rw [HL.out]; rfl
  refine ⟨some ⟨g, 0, none⟩, tc, by rw [hl]; rfl, ?_, ?_⟩
  · rw [hl, ← he]; exact own_two HO.out 0 m b b
  · exact Ext.drew (Below.trans HX.out (Below.setCell (Below.setCell (Below.refl _ w1) (p := ⟨g, 0, none⟩) hg _) (p := ⟨g, m, none⟩) hg _))
theorem chg_world (w : World) (base : Nat) (fa : Option Addr) (fn fc fd : Nat) (capsd : Array Value) (m : Nat) (w4 : World) (h : w4 = (((w.alloc (.cells #[.int .i64 base] 2)).alloc (.cells #[.slice fa fn fc] 25)).alloc (.cells #[.func (.func fd) #[] capsd] 67)).alloc (.cells #[.int .i64 (m : Int)] 3)) :
    Ext w w4 ∧ w.heap.size + 4 ≤ w4.heap.size ∧ VarAt w4 w.heap.size 2 (.int .i64 base) ∧ VarAt w4 (w.heap.size + 1) 25 (.slice fa fn fc) ∧ VarAt w4 (w.heap.size + 1 + 1) 67 (.func (.func fd) #[] capsd) ∧ VarAt w4 (w.heap.size + 1 + 1 + 1) 3 (.int .i64 (m : Int)) := by
  obtain ⟨w1, h1⟩ : ∃ W, W = w.alloc (.cells #[.int .i64 base] 2) := ⟨_, rfl⟩
  have s1 : w1.heap.size = w.heap.size + 1 := by rw [h1]; simp
  obtain ⟨w2, h2⟩ : ∃ W, W = w1.alloc (.cells #[.slice fa fn fc] 25) := ⟨_, rfl⟩
  have s2 : w2.heap.size = w.heap.size + 1 + 1 := by rw [h2, ← s1]; simp
  obtain ⟨w3, h3⟩ : ∃ W, W = w2.alloc (.cells #[.func (.func fd) #[] capsd] 67) := ⟨_, rfl⟩
  have s3 : w3.heap.size = w.heap.size + 1 + 1 + 1 := by rw [h3, ← s2]; simp
  rw [← h1, ← h2, ← h3] at h
  have x1 : Ext w w1 := by rw [h1]; exact (Ext.refl _).alloc _
  have x2 : Ext w1 w2 := by rw [h2]; exact (Ext.refl _).alloc _
  have x3 : Ext w2 w3 := by rw [h3]; exact (Ext.refl _).alloc _
  have x4 : Ext w3 w4 := by rw [h]; exact (Ext.refl _).alloc _
  refine ⟨((x1.trans x2).trans x3).trans x4, by rw [h]; simp [s3], ?_, ?_, ?_, ?_⟩
  · exact (((show VarAt w1 w.heap.size 2 (.int .i64 base) by rw [h1]; exact VarAt.new _ _ _).ext x2).ext x3).ext x4
  · rw [← s1]; exact ((show VarAt w2 w1.heap.size 25 (.slice fa fn fc) by rw [h2]; exact VarAt.new _ _ _).ext x3).ext x4
  · rw [← s2]; exact (show VarAt w3 w2.heap.size 67 (.func (.func fd) #[] capsd) by rw [h3]; exact VarAt.new _ _ _).ext x4
  · rw [← s3, h]; exact VarAt.new _ _ _
theorem ints_lit2 (w : World) (x y : Int) : Ints (w.alloc (.cells #[.int .i64 x, .int .i64 y] 2)) (some ⟨w.heap.size, 0, none⟩) 2 2 [x, y] := by
  have h := World.ownsRow_lit (e := 2) (size := 1) (base := w.heap.size) w #[.int .i64 x, .int .i64 y] 2 (Nat.le_refl _) (by unfold maxLen; omega) (by simp)
  have h2 : Own (w.alloc (.cells #[.int .i64 x, .int .i64 y] 2)) w.heap.size 2 (some ⟨w.heap.size, 0, none⟩) 2 2 (I [x, y]) := h
  exact h2.sl
set_option maxHeartbeats 8000000 in
theorem changes_phon (base : Nat) (fd : Nat) (capsd : Array Value) (fa : Option Addr) (m fc : Nat) (hm : 1 ≤ m) (hm2 : m ≤ 2) (from' : List Int) (Inv : Nat → World → Prop) (w : World)
    (hfr : ∀ j W, Inv j W → Ints W fa (m + 1) fc from') (hst : ∀ j W W', Inv j W → Ext W W' → Inv j W') (hed : ∀ args w', (callFunc fd args).run Try.prog w' = .ok (.enter fd args) w')
    (hd : Does fd capsd (chgL 5 base from') w.heap.size (w.heap.size + 4) Inv) (h0 : Inv 0 w) :
    Calls Try.prog 46 #[.int .i64 5, .int .i64 base, .slice fa (m + 1) fc, .func (.func fd) #[] capsd] w (fun e w' => e = .returned (.tuple #[]) ∧ Inv (chgL 5 base from').length w') := by
  have HFr := Lib.hid hfr
  have HSt := Lib.hid hst
  have HD := Lib.hid hd
  have HI0 := Lib.hid h0
  have hcl : chgL 5 base from' = if gi from' 1 = 0 ∧ 2 ≤ gi from' 0 ∧ gi from' 0 ≤ 9 then [[1, gi from' 0]] else if gi from' 0 = 1 ∧ 2 ≤ gi from' 1 ∧ gi from' 1 ≤ 9 then [[gi from' 1, 0]] else [] := by
    unfold chgL; rw [if_neg (by omega), if_neg (by omega), if_neg (by omega)]
  generalize chgL 5 base from' = CL at *
  have HA := Lib.hid (fun W => impl_in (gi from' 0) 2 9 W)
  have HB := Lib.hid (fun W => impl_in (gi from' 1) 2 9 W)
  clear hfr hst hd h0
  by_cases e1 : gi from' 1 = 0
  · have q1 : (gi from' 1 == 0) = true := by simp [e1]
    cases i0 : inB (gi from' 0) 2 9
    · rw [i0] at HA
      have hn : ¬ (gi from' 1 = 0 ∧ 2 ≤ gi from' 0 ∧ gi from' 0 ≤ 9) := fun h => by rw [inB_t.2 h.2] at i0; cases i0
      have hn2 : ¬ (gi from' 0 = 1 ∧ 2 ≤ gi from' 1 ∧ gi from' 1 ≤ 9) := fun h => by omega
      rw [if_neg hn, if_neg hn2] at hcl
      subst hcl
      have i1 : inB (gi from' 1) 2 9 = false := by rw [e1]; rfl
      rw [i1] at HB
      clear hn hn2 i0 i1 e1
      by_cases e0 : gi from' 0 = 1
      · have q0 : (gi from' 0 == 1) = true := by simp [e0]
        clear e0
        go_enter Try.func46, Try.ntmps46
        go_wp2_with fail
        obtain ⟨w4, hw4⟩ : ∃ W, W = (((w.alloc (.cells #[.int .i64 base] 2)).alloc (.cells #[.slice fa (m + 1) fc] 25)).alloc (.cells #[.func (.func fd) #[] capsd] 67)).alloc (.cells #[.int .i64 (m : Int)] 3) := ⟨_, rfl⟩
        obtain ⟨hx4, hsz, v1, v2, v3, v4⟩ := chg_world w base fa (m + 1) fc fd capsd m w4 hw4
        rw [← hw4]
        clear hw4
        have h44 : Ext w4 w4 := Ext.refl _
        have c2 := fun W (h : Ext w4 W) => (v2.ext h).cell
        have c3 := fun W (h : Ext w4 W) => (v3.ext h).cell
        have hI4 := HSt.out _ _ _ HI0.out hx4
        have HF4 := Lib.hid (HFr.out 0 w4 hI4)
        obtain ⟨fb, foff, hix, hcell⟩ := HF4.out.ix (P := Try.prog) 25 2 und_int64s cell_int64
        have z0 : ∀ W, Ext w4 W → W.cell? ⟨fb, foff, none⟩ = some (.int .i64 (gi from' 0)) := fun W h => hcell 0 W (by omega) h
        have z1 : ∀ W, Ext w4 W → W.cell? ⟨fb, foff + 1, none⟩ = some (.int .i64 (gi from' 1)) := fun W h => hcell 1 W (by omega) h
        have hix1 : ∀ W, (Instr.indexAt 25 (.slice fa (m + 1) fc) (.int .i64 1)).run Try.prog W = .ok (.pointer (some ⟨fb, foff + 1, none⟩)) W := fun W => hix 1 .i64 W (by omega) (by omega)
        have hix0 : ∀ W, (Instr.indexAt 25 (.slice fa (m + 1) fc) (.int .i64 0)).run Try.prog W = .ok (.pointer (some ⟨fb, foff, none⟩)) W := fun W => hix 0 .i64 W (by omega) (by omega)
        clear hcell hix
        have HI4 := Lib.hid hI4
        have hm3 : 0 < m := by omega
        clear hI4
        go_wp2_with (go_at_call 23; first | ((with_reducible refine (HA.out _).mono ?_); rintro e w9 ⟨rfl, rfl⟩) | ((with_reducible refine (HB.out _).mono ?_); rintro e w9 ⟨rfl, rfl⟩))
        iterate 4 (try (go_simp; go_wp2_with (go_at_call 23; first | ((with_reducible refine (HA.out _).mono ?_); rintro e w9 ⟨rfl, rfl⟩) | ((with_reducible refine (HB.out _).mono ?_); rintro e w9 ⟨rfl, rfl⟩))))
        exact bodyPost_end (v := .tuple #[]) (by simp [results, Try.results46, go_sem]) rfl ⟨rfl, HSt.out _ _ _ HI4.out (by repeat (first | (with_reducible exact Ext.refl _) | (with_reducible assumption) | (with_reducible refine Ext.drewN ?_ _) | (with_reducible refine Ext.drew ?_) | (with_reducible refine Ext.alloc ?_ _) | ((with_reducible refine Ext.setCell ?_ ?_ _); rotate_left; focus (first | (simp; done) | (simp; omega) | omega)) | (with_reducible refine Ext.trans ?_ (by with_reducible assumption))))⟩
      · have q0 : (gi from' 0 == 1) = false := by simpa using e0
        clear e0
        go_enter Try.func46, Try.ntmps46
        go_wp2_with fail
        obtain ⟨w4, hw4⟩ : ∃ W, W = (((w.alloc (.cells #[.int .i64 base] 2)).alloc (.cells #[.slice fa (m + 1) fc] 25)).alloc (.cells #[.func (.func fd) #[] capsd] 67)).alloc (.cells #[.int .i64 (m : Int)] 3) := ⟨_, rfl⟩
        obtain ⟨hx4, hsz, v1, v2, v3, v4⟩ := chg_world w base fa (m + 1) fc fd capsd m w4 hw4
        rw [← hw4]
        clear hw4
        have h44 : Ext w4 w4 := Ext.refl _
        have c2 := fun W (h : Ext w4 W) => (v2.ext h).cell
        have c3 := fun W (h : Ext w4 W) => (v3.ext h).cell
        have hI4 := HSt.out _ _ _ HI0.out hx4
        have HF4 := Lib.hid (HFr.out 0 w4 hI4)
        obtain ⟨fb, foff, hix, hcell⟩ := HF4.out.ix (P := Try.prog) 25 2 und_int64s cell_int64
        have z0 : ∀ W, Ext w4 W → W.cell? ⟨fb, foff, none⟩ = some (.int .i64 (gi from' 0)) := fun W h => hcell 0 W (by omega) h
        have z1 : ∀ W, Ext w4 W → W.cell? ⟨fb, foff + 1, none⟩ = some (.int .i64 (gi from' 1)) := fun W h => hcell 1 W (by omega) h
        have hix1 : ∀ W, (Instr.indexAt 25 (.slice fa (m + 1) fc) (.int .i64 1)).run Try.prog W = .ok (.pointer (some ⟨fb, foff + 1, none⟩)) W := fun W => hix 1 .i64 W (by omega) (by omega)
        have hix0 : ∀ W, (Instr.indexAt 25 (.slice fa (m + 1) fc) (.int .i64 0)).run Try.prog W = .ok (.pointer (some ⟨fb, foff, none⟩)) W := fun W => hix 0 .i64 W (by omega) (by omega)
        clear hcell hix
        have HI4 := Lib.hid hI4
        have hm3 : 0 < m := by omega
        clear hI4
        go_wp2_with (go_at_call 23; first | ((with_reducible refine (HA.out _).mono ?_); rintro e w9 ⟨rfl, rfl⟩) | ((with_reducible refine (HB.out _).mono ?_); rintro e w9 ⟨rfl, rfl⟩))
        iterate 4 (try (go_simp; go_wp2_with (go_at_call 23; first | ((with_reducible refine (HA.out _).mono ?_); rintro e w9 ⟨rfl, rfl⟩) | ((with_reducible refine (HB.out _).mono ?_); rintro e w9 ⟨rfl, rfl⟩))))
        exact bodyPost_end (v := .tuple #[]) (by simp [results, Try.results46, go_sem]) rfl ⟨rfl, HSt.out _ _ _ HI4.out (by repeat (first | (with_reducible exact Ext.refl _) | (with_reducible assumption) | (with_reducible refine Ext.drewN ?_ _) | (with_reducible refine Ext.drew ?_) | (with_reducible refine Ext.alloc ?_ _) | ((with_reducible refine Ext.setCell ?_ ?_ _); rotate_left; focus (first | (simp; done) | (simp; omega) | omega)) | (with_reducible refine Ext.trans ?_ (by with_reducible assumption))))⟩
    · rw [i0] at HA
      have hy : gi from' 1 = 0 ∧ 2 ≤ gi from' 0 ∧ gi from' 0 ≤ 9 := ⟨e1, inB_t.1 i0⟩
      rw [if_pos hy] at hcl
      subst hcl
      clear hy i0 HB e1
      go_enter Try.func46, Try.ntmps46
      go_wp2_with fail
      obtain ⟨w4, hw4⟩ : ∃ W, W = (((w.alloc (.cells #[.int .i64 base] 2)).alloc (.cells #[.slice fa (m + 1) fc] 25)).alloc (.cells #[.func (.func fd) #[] capsd] 67)).alloc (.cells #[.int .i64 (m : Int)] 3) := ⟨_, rfl⟩
      obtain ⟨hx4, hsz, v1, v2, v3, v4⟩ := chg_world w base fa (m + 1) fc fd capsd m w4 hw4
      rw [← hw4]
      clear hw4
      have h44 : Ext w4 w4 := Ext.refl _
      have c2 := fun W (h : Ext w4 W) => (v2.ext h).cell
      have c3 := fun W (h : Ext w4 W) => (v3.ext h).cell
      have hI4 := HSt.out _ _ _ HI0.out hx4
      have HF4 := Lib.hid (HFr.out 0 w4 hI4)
      obtain ⟨fb, foff, hix, hcell⟩ := HF4.out.ix (P := Try.prog) 25 2 und_int64s cell_int64
      have z0 : ∀ W, Ext w4 W → W.cell? ⟨fb, foff, none⟩ = some (.int .i64 (gi from' 0)) := fun W h => hcell 0 W (by omega) h
      have z1 : ∀ W, Ext w4 W → W.cell? ⟨fb, foff + 1, none⟩ = some (.int .i64 (gi from' 1)) := fun W h => hcell 1 W (by omega) h
      have hix1 : ∀ W, (Instr.indexAt 25 (.slice fa (m + 1) fc) (.int .i64 1)).run Try.prog W = .ok (.pointer (some ⟨fb, foff + 1, none⟩)) W := fun W => hix 1 .i64 W (by omega) (by omega)
      have hix0 : ∀ W, (Instr.indexAt 25 (.slice fa (m + 1) fc) (.int .i64 0)).run Try.prog W = .ok (.pointer (some ⟨fb, foff, none⟩)) W := fun W => hix 0 .i64 W (by omega) (by omega)
      clear hcell hix
      have HI4 := Lib.hid hI4
      have hm3 : 0 < m := by omega
      clear hI4
      go_wp2_with (go_at_call 23; first | ((with_reducible refine (HA.out _).mono ?_); rintro e w9 ⟨rfl, rfl⟩) | ((with_reducible refine (HB.out _).mono ?_); rintro e w9 ⟨rfl, rfl⟩))
      iterate 4 (try (go_simp; go_wp2_with (go_at_call 23; first | ((with_reducible refine (HA.out _).mono ?_); rintro e w9 ⟨rfl, rfl⟩) | ((with_reducible refine (HB.out _).mono ?_); rintro e w9 ⟨rfl, rfl⟩))))
      (refine wp_region_upl 5 w4 (by repeat (first | (with_reducible exact Ext.refl _) | (with_reducible refine Ext.drewN ?_ _) | (with_reducible refine Ext.drew ?_) | (with_reducible refine Ext.alloc ?_ _) | ((with_reducible refine Ext.setCell ?_ ?_ _); rotate_left; focus (first | (simp; done) | (simp; omega) | omega)) | assumption | (with_reducible refine Ext.trans ?_ (by assumption)))) rfl (by kernel_rfl) (by kernel_rfl) (seqB_of (by kernel_rfl)) (lastB_of (by kernel_rfl)) ?_; simp only [List.take_succ_cons, List.take_zero, List.drop_succ_cons, List.drop_zero]; (repeat (first | (refine mix_q rfl ?_; go_big_quiet_step (fail); refine wpQuiet_nil ?_; show wpMix _ _ _ _ _ _ _) | (refine mix_s rfl ?_; go_wp2_with (fail); first | refine ⟨up_of (by repeat (first | (with_reducible exact Ext.refl _) | (with_reducible refine Ext.drewN ?_ _) | (with_reducible refine Ext.drew ?_) | (with_reducible refine Ext.alloc ?_ _) | ((with_reducible refine Ext.setCell ?_ ?_ _); rotate_left; focus (first | (simp; done) | (simp; omega) | omega)) | assumption | (with_reducible refine Ext.trans ?_ (by assumption)))), ?_⟩ | refine ⟨rfl, rfl, up_of (by repeat (first | (with_reducible exact Ext.refl _) | (with_reducible refine Ext.drewN ?_ _) | (with_reducible refine Ext.drew ?_) | (with_reducible refine Ext.alloc ?_ _) | ((with_reducible refine Ext.setCell ?_ ?_ _); rotate_left; focus (first | (simp; done) | (simp; omega) | omega)) | assumption | (with_reducible refine Ext.trans ?_ (by assumption)))), ?_⟩))); refine mix_nil ?_)
      obtain ⟨w6, hw6⟩ : ∃ W, W = (w4.alloc (.cells #[.int .i64 (1), .int .i64 (gi from' 0)] 2)).drew := ⟨_, rfl⟩
      have hx6 : Ext w4 w6 := by rw [hw6]; exact (by repeat (first | (with_reducible exact Ext.refl _) | (with_reducible refine Ext.drewN ?_ _) | (with_reducible refine Ext.drew ?_) | (with_reducible refine Ext.alloc ?_ _) | ((with_reducible refine Ext.setCell ?_ ?_ _); rotate_left; focus (first | (simp; done) | (simp; omega) | omega)) | assumption | (with_reducible refine Ext.trans ?_ (by assumption))))
      have hI6 : Ints w6 (some ⟨w4.heap.size, 0, none⟩) 2 2 [1, gi from' 0] := by rw [hw6]; exact (ints_lit2 w4 (1) (gi from' 0)).ext (Ext.refl _).drew
      have hsz6 := hx6.le
      have HDo := Lib.hid (HD.out 0 w6 (some ⟨w4.heap.size, 0, none⟩) 2 2 (by simp) (HSt.out _ _ _ HI4.out hx6) (show Ints w6 (some ⟨w4.heap.size, 0, none⟩) 2 2 [1, gi from' 0] from hI6) (fun x hx => by cases hx; exact hsz) (by omega))
      have c3' := (v3.ext hx6).cell
      clear z0 z1 hix0 hix1 c2 c3
      rw [← hw6]
      clear hw6 hI6
      go_wp2_with ((with_reducible refine HDo.out.mono ?_); rintro e w7 ⟨rfl, hi7, hk7⟩)
      exact bodyPost_end (v := .tuple #[]) (by simp [results, Try.results46, go_sem]) rfl ⟨rfl, hi7⟩
  · have q1 : (gi from' 1 == 0) = false := by simpa using e1
    have hn : ¬ (gi from' 1 = 0 ∧ 2 ≤ gi from' 0 ∧ gi from' 0 ≤ 9) := fun h => e1 h.1
    rw [if_neg hn] at hcl
    clear hn e1
    by_cases e0 : gi from' 0 = 1
    · have q0 : (gi from' 0 == 1) = true := by simp [e0]
      cases i1 : inB (gi from' 1) 2 9
      · rw [i1] at HB
        have hn2 : ¬ (gi from' 0 = 1 ∧ 2 ≤ gi from' 1 ∧ gi from' 1 ≤ 9) := fun h => by rw [inB_t.2 h.2] at i1; cases i1
        rw [if_neg hn2] at hcl
        subst hcl
        clear hn2 i1 e0
        go_enter Try.func46, Try.ntmps46
        go_wp2_with fail
        obtain ⟨w4, hw4⟩ : ∃ W, W = (((w.alloc (.cells #[.int .i64 base] 2)).alloc (.cells #[.slice fa (m + 1) fc] 25)).alloc (.cells #[.func (.func fd) #[] capsd] 67)).alloc (.cells #[.int .i64 (m : Int)] 3) := ⟨_, rfl⟩
        obtain ⟨hx4, hsz, v1, v2, v3, v4⟩ := chg_world w base fa (m + 1) fc fd capsd m w4 hw4
        rw [← hw4]
        clear hw4
        have h44 : Ext w4 w4 := Ext.refl _
        have c2 := fun W (h : Ext w4 W) => (v2.ext h).cell
        have c3 := fun W (h : Ext w4 W) => (v3.ext h).cell
        have hI4 := HSt.out _ _ _ HI0.out hx4
        have HF4 := Lib.hid (HFr.out 0 w4 hI4)
        obtain ⟨fb, foff, hix, hcell⟩ := HF4.out.ix (P := Try.prog) 25 2 und_int64s cell_int64
        have z0 : ∀ W, Ext w4 W → W.cell? ⟨fb, foff, none⟩ = some (.int .i64 (gi from' 0)) := fun W h => hcell 0 W (by omega) h
        have z1 : ∀ W, Ext w4 W → W.cell? ⟨fb, foff + 1, none⟩ = some (.int .i64 (gi from' 1)) := fun W h => hcell 1 W (by omega) h
        have hix1 : ∀ W, (Instr.indexAt 25 (.slice fa (m + 1) fc) (.int .i64 1)).run Try.prog W = .ok (.pointer (some ⟨fb, foff + 1, none⟩)) W := fun W => hix 1 .i64 W (by omega) (by omega)
        have hix0 : ∀ W, (Instr.indexAt 25 (.slice fa (m + 1) fc) (.int .i64 0)).run Try.prog W = .ok (.pointer (some ⟨fb, foff, none⟩)) W := fun W => hix 0 .i64 W (by omega) (by omega)
        clear hcell hix
        have HI4 := Lib.hid hI4
        have hm3 : 0 < m := by omega
        clear hI4
        go_wp2_with (go_at_call 23; first | ((with_reducible refine (HA.out _).mono ?_); rintro e w9 ⟨rfl, rfl⟩) | ((with_reducible refine (HB.out _).mono ?_); rintro e w9 ⟨rfl, rfl⟩))
        iterate 4 (try (go_simp; go_wp2_with (go_at_call 23; first | ((with_reducible refine (HA.out _).mono ?_); rintro e w9 ⟨rfl, rfl⟩) | ((with_reducible refine (HB.out _).mono ?_); rintro e w9 ⟨rfl, rfl⟩))))
        exact bodyPost_end (v := .tuple #[]) (by simp [results, Try.results46, go_sem]) rfl ⟨rfl, HSt.out _ _ _ HI4.out (by repeat (first | (with_reducible exact Ext.refl _) | (with_reducible assumption) | (with_reducible refine Ext.drewN ?_ _) | (with_reducible refine Ext.drew ?_) | (with_reducible refine Ext.alloc ?_ _) | ((with_reducible refine Ext.setCell ?_ ?_ _); rotate_left; focus (first | (simp; done) | (simp; omega) | omega)) | (with_reducible refine Ext.trans ?_ (by with_reducible assumption))))⟩
      · rw [i1] at HB
        have hy : gi from' 0 = 1 ∧ 2 ≤ gi from' 1 ∧ gi from' 1 ≤ 9 := ⟨e0, inB_t.1 i1⟩
        rw [if_pos hy] at hcl
        subst hcl
        clear hy i1 e0
        go_enter Try.func46, Try.ntmps46
        go_wp2_with fail
        obtain ⟨w4, hw4⟩ : ∃ W, W = (((w.alloc (.cells #[.int .i64 base] 2)).alloc (.cells #[.slice fa (m + 1) fc] 25)).alloc (.cells #[.func (.func fd) #[] capsd] 67)).alloc (.cells #[.int .i64 (m : Int)] 3) := ⟨_, rfl⟩
        obtain ⟨hx4, hsz, v1, v2, v3, v4⟩ := chg_world w base fa (m + 1) fc fd capsd m w4 hw4
        rw [← hw4]
        clear hw4
        have h44 : Ext w4 w4 := Ext.refl _
        have c2 := fun W (h : Ext w4 W) => (v2.ext h).cell
        have c3 := fun W (h : Ext w4 W) => (v3.ext h).cell
        have hI4 := HSt.out _ _ _ HI0.out hx4
        have HF4 := Lib.hid (HFr.out 0 w4 hI4)
        obtain ⟨fb, foff, hix, hcell⟩ := HF4.out.ix (P := Try.prog) 25 2 und_int64s cell_int64
        have z0 : ∀ W, Ext w4 W → W.cell? ⟨fb, foff, none⟩ = some (.int .i64 (gi from' 0)) := fun W h => hcell 0 W (by omega) h
        have z1 : ∀ W, Ext w4 W → W.cell? ⟨fb, foff + 1, none⟩ = some (.int .i64 (gi from' 1)) := fun W h => hcell 1 W (by omega) h
        have hix1 : ∀ W, (Instr.indexAt 25 (.slice fa (m + 1) fc) (.int .i64 1)).run Try.prog W = .ok (.pointer (some ⟨fb, foff + 1, none⟩)) W := fun W => hix 1 .i64 W (by omega) (by omega)
        have hix0 : ∀ W, (Instr.indexAt 25 (.slice fa (m + 1) fc) (.int .i64 0)).run Try.prog W = .ok (.pointer (some ⟨fb, foff, none⟩)) W := fun W => hix 0 .i64 W (by omega) (by omega)
        clear hcell hix
        have HI4 := Lib.hid hI4
        have hm3 : 0 < m := by omega
        clear hI4
        go_wp2_with (go_at_call 23; first | ((with_reducible refine (HA.out _).mono ?_); rintro e w9 ⟨rfl, rfl⟩) | ((with_reducible refine (HB.out _).mono ?_); rintro e w9 ⟨rfl, rfl⟩))
        iterate 4 (try (go_simp; go_wp2_with (go_at_call 23; first | ((with_reducible refine (HA.out _).mono ?_); rintro e w9 ⟨rfl, rfl⟩) | ((with_reducible refine (HB.out _).mono ?_); rintro e w9 ⟨rfl, rfl⟩))))
        (refine wp_region_upl 5 w4 (by repeat (first | (with_reducible exact Ext.refl _) | (with_reducible refine Ext.drewN ?_ _) | (with_reducible refine Ext.drew ?_) | (with_reducible refine Ext.alloc ?_ _) | ((with_reducible refine Ext.setCell ?_ ?_ _); rotate_left; focus (first | (simp; done) | (simp; omega) | omega)) | assumption | (with_reducible refine Ext.trans ?_ (by assumption)))) rfl (by kernel_rfl) (by kernel_rfl) (seqB_of (by kernel_rfl)) (lastB_of (by kernel_rfl)) ?_; simp only [List.take_succ_cons, List.take_zero, List.drop_succ_cons, List.drop_zero]; (repeat (first | (refine mix_q rfl ?_; go_big_quiet_step (fail); refine wpQuiet_nil ?_; show wpMix _ _ _ _ _ _ _) | (refine mix_s rfl ?_; go_wp2_with (fail); first | refine ⟨up_of (by repeat (first | (with_reducible exact Ext.refl _) | (with_reducible refine Ext.drewN ?_ _) | (with_reducible refine Ext.drew ?_) | (with_reducible refine Ext.alloc ?_ _) | ((with_reducible refine Ext.setCell ?_ ?_ _); rotate_left; focus (first | (simp; done) | (simp; omega) | omega)) | assumption | (with_reducible refine Ext.trans ?_ (by assumption)))), ?_⟩ | refine ⟨rfl, rfl, up_of (by repeat (first | (with_reducible exact Ext.refl _) | (with_reducible refine Ext.drewN ?_ _) | (with_reducible refine Ext.drew ?_) | (with_reducible refine Ext.alloc ?_ _) | ((with_reducible refine Ext.setCell ?_ ?_ _); rotate_left; focus (first | (simp; done) | (simp; omega) | omega)) | assumption | (with_reducible refine Ext.trans ?_ (by assumption)))), ?_⟩))); refine mix_nil ?_)
        obtain ⟨w6, hw6⟩ : ∃ W, W = (w4.alloc (.cells #[.int .i64 (gi from' 1), .int .i64 (0)] 2)).drew := ⟨_, rfl⟩
        have hx6 : Ext w4 w6 := by rw [hw6]; exact (by repeat (first | (with_reducible exact Ext.refl _) | (with_reducible refine Ext.drewN ?_ _) | (with_reducible refine Ext.drew ?_) | (with_reducible refine Ext.alloc ?_ _) | ((with_reducible refine Ext.setCell ?_ ?_ _); rotate_left; focus (first | (simp; done) | (simp; omega) | omega)) | assumption | (with_reducible refine Ext.trans ?_ (by assumption))))
        have hI6 : Ints w6 (some ⟨w4.heap.size, 0, none⟩) 2 2 [gi from' 1, 0] := by rw [hw6]; exact (ints_lit2 w4 (gi from' 1) (0)).ext (Ext.refl _).drew
        have hsz6 := hx6.le
        have HDo := Lib.hid (HD.out 0 w6 (some ⟨w4.heap.size, 0, none⟩) 2 2 (by simp) (HSt.out _ _ _ HI4.out hx6) (show Ints w6 (some ⟨w4.heap.size, 0, none⟩) 2 2 [gi from' 1, 0] from hI6) (fun x hx => by cases hx; exact hsz) (by omega))
        have c3' := (v3.ext hx6).cell
        clear z0 z1 hix0 hix1 c2 c3
        rw [← hw6]
        clear hw6 hI6
        go_wp2_with ((with_reducible refine HDo.out.mono ?_); rintro e w7 ⟨rfl, hi7, hk7⟩)
        exact bodyPost_end (v := .tuple #[]) (by simp [results, Try.results46, go_sem]) rfl ⟨rfl, hi7⟩
    · have q0 : (gi from' 0 == 1) = false := by simpa using e0
      have hn2 : ¬ (gi from' 0 = 1 ∧ 2 ≤ gi from' 1 ∧ gi from' 1 ≤ 9) := fun h => e0 h.1
      rw [if_neg hn2] at hcl
      subst hcl
      clear hn2 e0
      go_enter Try.func46, Try.ntmps46
      go_wp2_with fail
      obtain ⟨w4, hw4⟩ : ∃ W, W = (((w.alloc (.cells #[.int .i64 base] 2)).alloc (.cells #[.slice fa (m + 1) fc] 25)).alloc (.cells #[.func (.func fd) #[] capsd] 67)).alloc (.cells #[.int .i64 (m : Int)] 3) := ⟨_, rfl⟩
      obtain ⟨hx4, hsz, v1, v2, v3, v4⟩ := chg_world w base fa (m + 1) fc fd capsd m w4 hw4
      rw [← hw4]
      clear hw4
      have h44 : Ext w4 w4 := Ext.refl _
      have c2 := fun W (h : Ext w4 W) => (v2.ext h).cell
      have c3 := fun W (h : Ext w4 W) => (v3.ext h).cell
      have hI4 := HSt.out _ _ _ HI0.out hx4
      have HF4 := Lib.hid (HFr.out 0 w4 hI4)
      obtain ⟨fb, foff, hix, hcell⟩ := HF4.out.ix (P := Try.prog) 25 2 und_int64s cell_int64
      have z0 : ∀ W, Ext w4 W → W.cell? ⟨fb, foff, none⟩ = some (.int .i64 (gi from' 0)) := fun W h => hcell 0 W (by omega) h
      have z1 : ∀ W, Ext w4 W → W.cell? ⟨fb, foff + 1, none⟩ = some (.int .i64 (gi from' 1)) := fun W h => hcell 1 W (by omega) h
      have hix1 : ∀ W, (Instr.indexAt 25 (.slice fa (m + 1) fc) (.int .i64 1)).run Try.prog W = .ok (.pointer (some ⟨fb, foff + 1, none⟩)) W := fun W => hix 1 .i64 W (by omega) (by omega)
      have hix0 : ∀ W, (Instr.indexAt 25 (.slice fa (m + 1) fc) (.int .i64 0)).run Try.prog W = .ok (.pointer (some ⟨fb, foff, none⟩)) W := fun W => hix 0 .i64 W (by omega) (by omega)
      clear hcell hix
      have HI4 := Lib.hid hI4
      have hm3 : 0 < m := by omega
      clear hI4
      go_wp2_with (go_at_call 23; first | ((with_reducible refine (HA.out _).mono ?_); rintro e w9 ⟨rfl, rfl⟩) | ((with_reducible refine (HB.out _).mono ?_); rintro e w9 ⟨rfl, rfl⟩))
      iterate 4 (try (go_simp; go_wp2_with (go_at_call 23; first | ((with_reducible refine (HA.out _).mono ?_); rintro e w9 ⟨rfl, rfl⟩) | ((with_reducible refine (HB.out _).mono ?_); rintro e w9 ⟨rfl, rfl⟩))))
      exact bodyPost_end (v := .tuple #[]) (by simp [results, Try.results46, go_sem]) rfl ⟨rfl, HSt.out _ _ _ HI4.out (by repeat (first | (with_reducible exact Ext.refl _) | (with_reducible assumption) | (with_reducible refine Ext.drewN ?_ _) | (with_reducible refine Ext.drew ?_) | (with_reducible refine Ext.alloc ?_ _) | ((with_reducible refine Ext.setCell ?_ ?_ _); rotate_left; focus (first | (simp; done) | (simp; omega) | omega)) | (with_reducible refine Ext.trans ?_ (by with_reducible assumption))))⟩
set_option maxHeartbeats 8000000 in
theorem changes_all (k : Nat) (hk : k ≤ 5) (base : Nat) (fd : Nat) (capsd : Array Value) (fa : Option Addr) (fn fc : Nat) (from' : List Int) (Inv : Nat → World → Prop) (w : World)
    (hb : base ≤ 36) (hn : fn = lenK k) (hfr : ∀ j W, Inv j W → Ints W fa fn fc from') (hst : ∀ j W W', Inv j W → Ext W W' → Inv j W') (hed : ∀ args w', (callFunc fd args).run Try.prog w' = .ok (.enter fd args) w')
    (hd : Does fd capsd (chgL k base from') w.heap.size (w.heap.size + 4) Inv) (h0 : Inv 0 w) :
    Calls Try.prog 46 #[.int .i64 k, .int .i64 base, .slice fa fn fc, .func (.func fd) #[] capsd] w (fun e w' => e = .returned (.tuple #[]) ∧ Inv (chgL k base from').length w') := by
  have hf3 : 1 ≤ fn ∧ fn ≤ 3 := by rw [hn]; unfold lenK; split <;> (try split) <;> omega
  by_cases hk5' : k = 5
  · subst hk5'
    obtain rfl : fn = 1 + 1 := hn
    exact changes_phon base fd capsd fa 1 fc (by omega) (by omega) from' Inv w hfr hst hed hd h0
  have hlast : 1 ≤ k → 2 ≤ fn := fun h => by rw [hn]; unfold lenK; rw [if_neg (by omega)]; split <;> omega
  clear hn
  by_cases hk0 : k = 0
  · subst hk0
    have e : chgL 0 base from' = eachTo (gi from' 0) (fun b => [b]) base := by simp [chgL]
    rw [e] at hd ⊢
    exact changes_single base fd capsd fa fn fc from' Inv w hb hf3.1 (by omega) hfr hst hed hd h0
  have hf2 := hlast (by omega)
  obtain ⟨m, rfl⟩ : ∃ m, fn = m + 1 := ⟨fn - 1, by omega⟩
  have HL := Lib.hid (hfr 0 w h0).len
  have HFr := Lib.hid hfr
  have HSt := Lib.hid hst
  have HD := Lib.hid hd
  have HI0 := Lib.hid h0
  have hk5 : k = 1 ∨ k = 2 ∨ k = 3 ∨ k = 4 := by omega
  have hcA := Lib.hid (show (k = 1 ∨ k = 2) → chgL k base from' = if gi from' 0 = gi from' m then [] else [endsTo from' (gi from' m) (gi from' 0)] from fun h => by
    have e : from'.length - 1 = m := by rw [HL.out]; rfl
    unfold chgL; rw [if_neg (by omega), if_pos (by omega), e])
  have hcB := Lib.hid (show (k = 3 ∨ k = 4) → chgL k base from' = if gi from' 0 = gi from' m then eachTo (gi from' 0) (fun b => endsTo from' b b) base else [] from fun h => by
    have e : from'.length - 1 = m := by rw [HL.out]; rfl
    unfold chgL; rw [if_neg (by omega), if_neg (by omega), if_pos (by omega), e])
  generalize chgL k base from' = CL at *
  clear hfr hst hd h0 hlast hk hk0 hk5'
  rcases hk5 with rfl | rfl | rfl | rfl
  iterate 2
    · have hcl := hcA.out (by omega)
      by_cases heq : gi from' 0 = gi from' m
      · have hq : (gi from' 0 != gi from' m) = false := by simp [heq]
        rw [if_pos heq] at hcl
        subst hcl
        clear heq
        go_enter Try.func46, Try.ntmps46
        go_wp2_with fail
        obtain ⟨w4, hw4⟩ : ∃ W, W = (((w.alloc (.cells #[.int .i64 base] 2)).alloc (.cells #[.slice fa (m + 1) fc] 25)).alloc (.cells #[.func (.func fd) #[] capsd] 67)).alloc (.cells #[.int .i64 (m : Int)] 3) := ⟨_, rfl⟩
        obtain ⟨hx4, hsz, v1, v2, v3, v4⟩ := chg_world w base fa (m + 1) fc fd capsd m w4 hw4
        rw [← hw4]
        clear hw4
        have h44 : Ext w4 w4 := Ext.refl _
        have c2 := fun W (h : Ext w4 W) => (v2.ext h).cell
        have c3 := fun W (h : Ext w4 W) => (v3.ext h).cell
        have c4 := fun W (h : Ext w4 W) => (v4.ext h).cell
        have hI4 := HSt.out _ _ _ HI0.out hx4
        have HF4 := Lib.hid (HFr.out 0 w4 hI4)
        obtain ⟨fb, foff, hix, hcell⟩ := HF4.out.ix (P := Try.prog) 25 2 und_int64s cell_int64
        have z0 : ∀ W, Ext w4 W → W.cell? ⟨fb, foff, none⟩ = some (.int .i64 (gi from' 0)) := fun W h => hcell 0 W (by omega) h
        have zm : ∀ W, Ext w4 W → W.cell? ⟨fb, foff + m, none⟩ = some (.int .i64 (gi from' m)) := fun W h => hcell m W (by omega) h
        have hixm : ∀ W, (Instr.indexAt 25 (.slice fa (m + 1) fc) (.int .i64 m)).run Try.prog W = .ok (.pointer (some ⟨fb, foff + m, none⟩)) W := fun W => hix (m : Int) .i64 W (by omega) (by omega)
        have hix0 : ∀ W, (Instr.indexAt 25 (.slice fa (m + 1) fc) (.int .i64 0)).run Try.prog W = .ok (.pointer (some ⟨fb, foff, none⟩)) W := fun W => hix 0 .i64 W (by omega) (by omega)
        clear hix hcell
        have HI4 := Lib.hid hI4
        clear hI4
        (refine wp_region_from w4 (by repeat (first | (with_reducible exact Ext.refl _) | (with_reducible refine Ext.drewN ?_ _) | (with_reducible refine Ext.drew ?_) | (with_reducible refine Ext.alloc ?_ _) | ((with_reducible refine Ext.setCell ?_ ?_ _); rotate_left; focus (first | (simp; done) | (simp; omega) | omega)) | assumption | (with_reducible refine Ext.trans ?_ (by assumption)))) (by kernel_rfl) (by kernel_rfl) (by kernel_rfl) ?_; (repeat (first | (refine mix_q rfl ?_; go_big_quiet_step (fail); refine wpQuiet_nil ?_; show wpMix _ _ _ _ _ _ _) | (refine mix_s rfl ?_; go_wp2_with (fail); first | refine ⟨up_of (by repeat (first | (with_reducible exact Ext.refl _) | (with_reducible refine Ext.drewN ?_ _) | (with_reducible refine Ext.drew ?_) | (with_reducible refine Ext.alloc ?_ _) | ((with_reducible refine Ext.setCell ?_ ?_ _); rotate_left; focus (first | (simp; done) | (simp; omega) | omega)) | assumption | (with_reducible refine Ext.trans ?_ (by assumption)))), ?_⟩ | refine ⟨rfl, rfl, up_of (by repeat (first | (with_reducible exact Ext.refl _) | (with_reducible refine Ext.drewN ?_ _) | (with_reducible refine Ext.drew ?_) | (with_reducible refine Ext.alloc ?_ _) | ((with_reducible refine Ext.setCell ?_ ?_ _); rotate_left; focus (first | (simp; done) | (simp; omega) | omega)) | assumption | (with_reducible refine Ext.trans ?_ (by assumption)))), ?_⟩))); refine mix_nil ?_)
        go_wp2_with fail
        exact bodyPost_end (v := .tuple #[]) (by simp [results, Try.results46, go_sem]) rfl ⟨rfl, HSt.out _ _ _ HI4.out (by repeat (first | (with_reducible exact Ext.refl _) | (with_reducible assumption) | (with_reducible refine Ext.drewN ?_ _) | (with_reducible refine Ext.drew ?_) | (with_reducible refine Ext.alloc ?_ _) | ((with_reducible refine Ext.setCell ?_ ?_ _); rotate_left; focus (first | (simp; done) | (simp; omega) | omega)) | (with_reducible refine Ext.trans ?_ (by with_reducible assumption))))⟩
      · have hq : (gi from' 0 != gi from' m) = true := by simpa using heq
        rw [if_neg heq] at hcl
        subst hcl
        clear heq
        go_enter Try.func46, Try.ntmps46
        go_wp2_with fail
        obtain ⟨w4, hw4⟩ : ∃ W, W = (((w.alloc (.cells #[.int .i64 base] 2)).alloc (.cells #[.slice fa (m + 1) fc] 25)).alloc (.cells #[.func (.func fd) #[] capsd] 67)).alloc (.cells #[.int .i64 (m : Int)] 3) := ⟨_, rfl⟩
        obtain ⟨hx4, hsz, v1, v2, v3, v4⟩ := chg_world w base fa (m + 1) fc fd capsd m w4 hw4
        rw [← hw4]
        clear hw4
        have h44 : Ext w4 w4 := Ext.refl _
        have c2 := fun W (h : Ext w4 W) => (v2.ext h).cell
        have c3 := fun W (h : Ext w4 W) => (v3.ext h).cell
        have c4 := fun W (h : Ext w4 W) => (v4.ext h).cell
        have hI4 := HSt.out _ _ _ HI0.out hx4
        have HF4 := Lib.hid (HFr.out 0 w4 hI4)
        obtain ⟨fb, foff, hix, hcell⟩ := HF4.out.ix (P := Try.prog) 25 2 und_int64s cell_int64
        have z0 : ∀ W, Ext w4 W → W.cell? ⟨fb, foff, none⟩ = some (.int .i64 (gi from' 0)) := fun W h => hcell 0 W (by omega) h
        have zm : ∀ W, Ext w4 W → W.cell? ⟨fb, foff + m, none⟩ = some (.int .i64 (gi from' m)) := fun W h => hcell m W (by omega) h
        have hixm : ∀ W, (Instr.indexAt 25 (.slice fa (m + 1) fc) (.int .i64 m)).run Try.prog W = .ok (.pointer (some ⟨fb, foff + m, none⟩)) W := fun W => hix (m : Int) .i64 W (by omega) (by omega)
        have hix0 : ∀ W, (Instr.indexAt 25 (.slice fa (m + 1) fc) (.int .i64 0)).run Try.prog W = .ok (.pointer (some ⟨fb, foff, none⟩)) W := fun W => hix 0 .i64 W (by omega) (by omega)
        clear hix hcell
        have HI4 := Lib.hid hI4
        clear hI4
        (refine wp_region_from w4 (by repeat (first | (with_reducible exact Ext.refl _) | (with_reducible refine Ext.drewN ?_ _) | (with_reducible refine Ext.drew ?_) | (with_reducible refine Ext.alloc ?_ _) | ((with_reducible refine Ext.setCell ?_ ?_ _); rotate_left; focus (first | (simp; done) | (simp; omega) | omega)) | assumption | (with_reducible refine Ext.trans ?_ (by assumption)))) (by kernel_rfl) (by kernel_rfl) (by kernel_rfl) ?_; (repeat (first | (refine mix_q rfl ?_; go_big_quiet_step (fail); refine wpQuiet_nil ?_; show wpMix _ _ _ _ _ _ _) | (refine mix_s rfl ?_; go_wp2_with (fail); first | refine ⟨up_of (by repeat (first | (with_reducible exact Ext.refl _) | (with_reducible refine Ext.drewN ?_ _) | (with_reducible refine Ext.drew ?_) | (with_reducible refine Ext.alloc ?_ _) | ((with_reducible refine Ext.setCell ?_ ?_ _); rotate_left; focus (first | (simp; done) | (simp; omega) | omega)) | assumption | (with_reducible refine Ext.trans ?_ (by assumption)))), ?_⟩ | refine ⟨rfl, rfl, up_of (by repeat (first | (with_reducible exact Ext.refl _) | (with_reducible refine Ext.drewN ?_ _) | (with_reducible refine Ext.drew ?_) | (with_reducible refine Ext.alloc ?_ _) | ((with_reducible refine Ext.setCell ?_ ?_ _); rotate_left; focus (first | (simp; done) | (simp; omega) | omega)) | assumption | (with_reducible refine Ext.trans ?_ (by assumption)))), ?_⟩))); refine mix_nil ?_)
        go_wp2_with (go_at_call 56; (with_reducible refine (clone_ints fa (m + 1) fc from' _ (HF4.out.ext (by repeat (first | (with_reducible exact Ext.refl _) | (with_reducible assumption) | (with_reducible refine Ext.drewN ?_ _) | (with_reducible refine Ext.drew ?_) | (with_reducible refine Ext.alloc ?_ _) | ((with_reducible refine Ext.setCell ?_ ?_ _); rotate_left; focus (first | (simp; done) | (simp; omega) | omega)) | (with_reducible refine Ext.trans ?_ (by with_reducible assumption))))) (by omega)).mono ?_); rintro e w5 ⟨ta, tc, rfl, ho, hx5', _⟩)
        have hx5 : Ext w4 w5 := Ext.trans (by repeat (first | (with_reducible exact Ext.refl _) | (with_reducible assumption) | (with_reducible refine Ext.drewN ?_ _) | (with_reducible refine Ext.drew ?_) | (with_reducible refine Ext.alloc ?_ _) | ((with_reducible refine Ext.setCell ?_ ?_ _); rotate_left; focus (first | (simp; done) | (simp; omega) | omega)) | (with_reducible refine Ext.trans ?_ (by with_reducible assumption)))) hx5'
        rw [I_len, HL.out] at ho ⊢
        obtain ⟨g, rfl, hg⟩ := own_some1 ho (by omega)
        have hg4 : w4.heap.size ≤ g := hg
        have HO := Lib.hid ho
        clear ho hx5' hg
        have hfb : fb ≠ g := by have := World.block_lt_of_cell? w4 _ (z0 w4 h44); simp only at this; omega
        have s5 := cells4 (c2 _ hx5.drew) (c4 _ hx5.drew) (z0 _ hx5.drew) (zm _ hx5.drew)
        have s55 := cells4 (c2 _ hx5) (c4 _ hx5) (z0 _ hx5) (zm _ hx5)
        have hkp := fun W i u h => Cells4.set (g := g) (W := W) (show w.heap.size + 1 ≠ g by omega) (show w.heap.size + 1 + 1 + 1 ≠ g by omega) hfb hfb (p1 := ⟨w.heap.size + 1, 0, none⟩) (p2 := ⟨w.heap.size + 1 + 1 + 1, 0, none⟩) (p3 := ⟨fb, foff, none⟩) (p4 := ⟨fb, foff + m, none⟩) (v1 := .slice fa (m + 1) fc) (v2 := .int .i64 m) (v3 := .int .i64 (gi from' 0)) (v4 := .int .i64 (gi from' m)) h i u
        have r1 : ∀ W, Cells4 ⟨w.heap.size + 1, 0, none⟩ ⟨w.heap.size + 1 + 1 + 1, 0, none⟩ ⟨fb, foff, none⟩ ⟨fb, foff + m, none⟩ (.slice fa (m + 1) fc) (.int .i64 m) (.int .i64 (gi from' 0)) (.int .i64 (gi from' m)) W → W.cell? ⟨w.heap.size + 1, 0, none⟩ = some (.slice fa (m + 1) fc) := fun W h => h.1
        have r2 : ∀ W, Cells4 ⟨w.heap.size + 1, 0, none⟩ ⟨w.heap.size + 1 + 1 + 1, 0, none⟩ ⟨fb, foff, none⟩ ⟨fb, foff + m, none⟩ (.slice fa (m + 1) fc) (.int .i64 m) (.int .i64 (gi from' 0)) (.int .i64 (gi from' m)) W → W.cell? ⟨w.heap.size + 1 + 1 + 1, 0, none⟩ = some (.int .i64 m) := fun W h => h.2.1
        have r3 : ∀ W, Cells4 ⟨w.heap.size + 1, 0, none⟩ ⟨w.heap.size + 1 + 1 + 1, 0, none⟩ ⟨fb, foff, none⟩ ⟨fb, foff + m, none⟩ (.slice fa (m + 1) fc) (.int .i64 m) (.int .i64 (gi from' 0)) (.int .i64 (gi from' m)) W → W.cell? ⟨fb, foff, none⟩ = some (.int .i64 (gi from' 0)) := fun W h => h.2.2.1
        have r4 : ∀ W, Cells4 ⟨w.heap.size + 1, 0, none⟩ ⟨w.heap.size + 1 + 1 + 1, 0, none⟩ ⟨fb, foff, none⟩ ⟨fb, foff + m, none⟩ (.slice fa (m + 1) fc) (.int .i64 m) (.int .i64 (gi from' 0)) (.int .i64 (gi from' m)) W → W.cell? ⟨fb, foff + m, none⟩ = some (.int .i64 (gi from' m)) := fun W h => h.2.2.2
        have e0 : w5.cell? ⟨g, 0, none⟩ = some (.int .i64 (gi from' 0)) := own_cellI HO.out (by omega)
        have fr := fun j => World.ownsRow.frozenAt HO.out j
        have hixg := (Own.at (P := Try.prog) HO.out 25 und_int64s cell_int64 m (by omega) .i64).1
        have HO1 := (World.ownsRow.stored (show w5.ownsRow w4.drew.heap.size 2 1 (.slice (some ⟨g, 0, none⟩) (m + 1) tc) (m + 1) (I from') from HO.out) 0 (.int .i64 (gi from' m))).1
        obtain ⟨y, ey⟩ : ∃ y, (w5.setCell ⟨g, 0, none⟩ (.int .i64 (gi from' m))).cell? ⟨g, m, none⟩ = some y := by
          have h1 := World.ownsRow.cellAt HO1 m (by omega)
          rw [h1]
          exact ⟨_, List.getElem?_eq_getElem (by rw [List.length_set, I_len, HL.out]; omega)⟩
        have ef := World.ownsRow.frozenAt HO1 m
        have ey2 : (w5.setCell ⟨g, 0, none⟩ (.int .i64 (gi from' m))).drew.cell? ⟨g, m, none⟩ = some y := ey
        have ef2 : (w5.setCell ⟨g, 0, none⟩ (.int .i64 (gi from' m))).drew.frozen? ⟨g, m, none⟩ = false := ef
        clear HO1 z0 zm c2 c4
        go_wp2_with fail
        go_region_held3 (fun w' => Cells4 ⟨w.heap.size + 1, 0, none⟩ ⟨w.heap.size + 1 + 1 + 1, 0, none⟩ ⟨fb, foff, none⟩ ⟨fb, foff + m, none⟩ (.slice fa (m + 1) fc) (.int .i64 m) (.int .i64 (gi from' 0)) (.int .i64 (gi from' m)) w') ((first | assumption | exact Cells4.drew (by assumption) | exact hkp _ _ _ (by assumption) | exact Cells4.drew (hkp _ _ _ (by assumption)) | exact Cells4.drew (hkp _ _ _ (hkp _ _ _ (by assumption))) | exact hkp _ _ _ (hkp _ _ _ (by assumption)))) (fail)
        obtain ⟨w6, hw6⟩ : ∃ W, W = ((w5.setCell ⟨g, 0, none⟩ (.int .i64 (gi from' m))).setCell ⟨g, m, none⟩ (.int .i64 (gi from' 0))).drew := ⟨_, rfl⟩
        have hx6 : Ext w4 w6 := by
          rw [hw6]
          exact Ext.drew (Below.trans hx5 (Below.setCell (Below.setCell (Below.refl _ w5) (p := ⟨g, 0, none⟩) hg4 _) (p := ⟨g, m, none⟩) hg4 _))
        have hI6 : Ints w6 (some ⟨g, 0, none⟩) (m + 1) tc (endsTo from' (gi from' m) (gi from' 0)) := by
          have he : (from'.set 0 (gi from' m)).set m (gi from' 0) = endsTo from' (gi from' m) (gi from' 0) := by unfold endsTo; rw [HL.out]; rfl
          rw [hw6, ← he]
          exact Own.sl (own_two HO.out 0 m _ _)
        have hsz6 := hx6.le
        have HDo := Lib.hid (HD.out 0 w6 (some ⟨g, 0, none⟩) (m + 1) tc (by simp) (HSt.out _ _ _ HI4.out hx6) (show Ints w6 (some ⟨g, 0, none⟩) (m + 1) tc (endsTo from' (gi from' m) (gi from' 0)) from hI6) (fun x hx => by cases hx; show w.heap.size + 4 ≤ g; omega) (by omega))
        have c3' := (v3.ext hx6).cell
        rw [← hw6]
        clear hw6 s5 s55 hkp r1 r2 r3 r4 e0 fr hixg ey ef ey2 ef2 hI6 hixm hix0
        go_wp2_with ((with_reducible refine HDo.out.mono ?_); rintro e w7 ⟨rfl, hi7, hk7⟩)
        exact bodyPost_end (v := .tuple #[]) (by simp [results, Try.results46, go_sem]) rfl ⟨rfl, hi7⟩
  iterate 2
    · have hcl := hcB.out (by omega)
      by_cases heq : gi from' 0 = gi from' m
      · have hq : (gi from' 0 == gi from' m) = true := by simp [heq]
        rw [if_pos heq] at hcl
        subst hcl
        clear heq
        go_enter Try.func46, Try.ntmps46
        go_wp2_with fail
        obtain ⟨w4, hw4⟩ : ∃ W, W = (((w.alloc (.cells #[.int .i64 base] 2)).alloc (.cells #[.slice fa (m + 1) fc] 25)).alloc (.cells #[.func (.func fd) #[] capsd] 67)).alloc (.cells #[.int .i64 (m : Int)] 3) := ⟨_, rfl⟩
        obtain ⟨hx4, hsz, v1, v2, v3, v4⟩ := chg_world w base fa (m + 1) fc fd capsd m w4 hw4
        rw [← hw4]
        clear hw4
        have h44 : Ext w4 w4 := Ext.refl _
        have c2 := fun W (h : Ext w4 W) => (v2.ext h).cell
        have c3 := fun W (h : Ext w4 W) => (v3.ext h).cell
        have c4 := fun W (h : Ext w4 W) => (v4.ext h).cell
        have hI4 := HSt.out _ _ _ HI0.out hx4
        have HF4 := Lib.hid (HFr.out 0 w4 hI4)
        obtain ⟨fb, foff, hix, hcell⟩ := HF4.out.ix (P := Try.prog) 25 2 und_int64s cell_int64
        have z0 : ∀ W, Ext w4 W → W.cell? ⟨fb, foff, none⟩ = some (.int .i64 (gi from' 0)) := fun W h => hcell 0 W (by omega) h
        have zm : ∀ W, Ext w4 W → W.cell? ⟨fb, foff + m, none⟩ = some (.int .i64 (gi from' m)) := fun W h => hcell m W (by omega) h
        have hixm : ∀ W, (Instr.indexAt 25 (.slice fa (m + 1) fc) (.int .i64 m)).run Try.prog W = .ok (.pointer (some ⟨fb, foff + m, none⟩)) W := fun W => hix (m : Int) .i64 W (by omega) (by omega)
        have hix0 : ∀ W, (Instr.indexAt 25 (.slice fa (m + 1) fc) (.int .i64 0)).run Try.prog W = .ok (.pointer (some ⟨fb, foff, none⟩)) W := fun W => hix 0 .i64 W (by omega) (by omega)
        clear hix hcell
        have HI4 := Lib.hid hI4
        clear hI4
        (refine wp_region_from w4 (by repeat (first | (with_reducible exact Ext.refl _) | (with_reducible refine Ext.drewN ?_ _) | (with_reducible refine Ext.drew ?_) | (with_reducible refine Ext.alloc ?_ _) | ((with_reducible refine Ext.setCell ?_ ?_ _); rotate_left; focus (first | (simp; done) | (simp; omega) | omega)) | assumption | (with_reducible refine Ext.trans ?_ (by assumption)))) (by kernel_rfl) (by kernel_rfl) (by kernel_rfl) ?_; (repeat (first | (refine mix_q rfl ?_; go_big_quiet_step (fail); refine wpQuiet_nil ?_; show wpMix _ _ _ _ _ _ _) | (refine mix_s rfl ?_; go_wp2_with (fail); first | refine ⟨up_of (by repeat (first | (with_reducible exact Ext.refl _) | (with_reducible refine Ext.drewN ?_ _) | (with_reducible refine Ext.drew ?_) | (with_reducible refine Ext.alloc ?_ _) | ((with_reducible refine Ext.setCell ?_ ?_ _); rotate_left; focus (first | (simp; done) | (simp; omega) | omega)) | assumption | (with_reducible refine Ext.trans ?_ (by assumption)))), ?_⟩ | refine ⟨rfl, rfl, up_of (by repeat (first | (with_reducible exact Ext.refl _) | (with_reducible refine Ext.drewN ?_ _) | (with_reducible refine Ext.drew ?_) | (with_reducible refine Ext.alloc ?_ _) | ((with_reducible refine Ext.setCell ?_ ?_ _); rotate_left; focus (first | (simp; done) | (simp; omega) | omega)) | assumption | (with_reducible refine Ext.trans ?_ (by assumption)))), ?_⟩))); refine mix_nil ?_)
        have hx4d : Ext w4 w4.drew := (Ext.refl _).drew
        have HE := Lib.hid (changes_each base (gi from' 0) (fun b => endsTo from' b b) 64 #[.pointer (some ⟨w.heap.size + 1, 0, none⟩), .pointer (some ⟨w.heap.size + 1 + 1 + 1, 0, none⟩)] fd capsd fa (m + 1) fc from' w.heap.size (w.heap.size + 1) (w.heap.size + 1 + 1) w.heap.size (w.heap.size + 4) Inv w4.drew hb (by omega) (by omega) (by omega) hsz (v1.ext hx4d) (v2.ext hx4d) (v3.ext hx4d) (by omega) rfl HFr.out HSt.out (fun _ _ => rfl) hed
          (fun b W j _ hI hK => changes3 b (w.heap.size + 1) (w.heap.size + 1 + 1 + 1) fa (m + 1) fc from' W ((v2.ext hx4d).keepB hK (by omega) (by omega)) (by have := (v4.ext hx4d).keepB hK (by omega) (by omega); rwa [show ((m + 1 : Nat) : Int) - 1 = (m : Int) by omega]) (HFr.out _ _ hI) (by omega) (by omega)) HD.out (HSt.out _ _ _ HI4.out hx4d))
        clear c2 c3 c4 z0 zm hixm hix0
        go_wp2_with fail
        refine HE.out.mono ?_
        rintro e w5 ⟨rfl, hi5, _⟩
        go_wp2_with fail
        exact bodyPost_end (v := .tuple #[]) (by simp [results, Try.results46, go_sem]) rfl ⟨rfl, hi5⟩
      · have hq : (gi from' 0 == gi from' m) = false := by simpa using heq
        rw [if_neg heq] at hcl
        subst hcl
        clear heq
        go_enter Try.func46, Try.ntmps46
        go_wp2_with fail
        obtain ⟨w4, hw4⟩ : ∃ W, W = (((w.alloc (.cells #[.int .i64 base] 2)).alloc (.cells #[.slice fa (m + 1) fc] 25)).alloc (.cells #[.func (.func fd) #[] capsd] 67)).alloc (.cells #[.int .i64 (m : Int)] 3) := ⟨_, rfl⟩
        obtain ⟨hx4, hsz, v1, v2, v3, v4⟩ := chg_world w base fa (m + 1) fc fd capsd m w4 hw4
        rw [← hw4]
        clear hw4
        have h44 : Ext w4 w4 := Ext.refl _
        have c2 := fun W (h : Ext w4 W) => (v2.ext h).cell
        have c3 := fun W (h : Ext w4 W) => (v3.ext h).cell
        have c4 := fun W (h : Ext w4 W) => (v4.ext h).cell
        have hI4 := HSt.out _ _ _ HI0.out hx4
        have HF4 := Lib.hid (HFr.out 0 w4 hI4)
        obtain ⟨fb, foff, hix, hcell⟩ := HF4.out.ix (P := Try.prog) 25 2 und_int64s cell_int64
        have z0 : ∀ W, Ext w4 W → W.cell? ⟨fb, foff, none⟩ = some (.int .i64 (gi from' 0)) := fun W h => hcell 0 W (by omega) h
        have zm : ∀ W, Ext w4 W → W.cell? ⟨fb, foff + m, none⟩ = some (.int .i64 (gi from' m)) := fun W h => hcell m W (by omega) h
        have hixm : ∀ W, (Instr.indexAt 25 (.slice fa (m + 1) fc) (.int .i64 m)).run Try.prog W = .ok (.pointer (some ⟨fb, foff + m, none⟩)) W := fun W => hix (m : Int) .i64 W (by omega) (by omega)
        have hix0 : ∀ W, (Instr.indexAt 25 (.slice fa (m + 1) fc) (.int .i64 0)).run Try.prog W = .ok (.pointer (some ⟨fb, foff, none⟩)) W := fun W => hix 0 .i64 W (by omega) (by omega)
        clear hix hcell
        have HI4 := Lib.hid hI4
        clear hI4
        (refine wp_region_from w4 (by repeat (first | (with_reducible exact Ext.refl _) | (with_reducible refine Ext.drewN ?_ _) | (with_reducible refine Ext.drew ?_) | (with_reducible refine Ext.alloc ?_ _) | ((with_reducible refine Ext.setCell ?_ ?_ _); rotate_left; focus (first | (simp; done) | (simp; omega) | omega)) | assumption | (with_reducible refine Ext.trans ?_ (by assumption)))) (by kernel_rfl) (by kernel_rfl) (by kernel_rfl) ?_; (repeat (first | (refine mix_q rfl ?_; go_big_quiet_step (fail); refine wpQuiet_nil ?_; show wpMix _ _ _ _ _ _ _) | (refine mix_s rfl ?_; go_wp2_with (fail); first | refine ⟨up_of (by repeat (first | (with_reducible exact Ext.refl _) | (with_reducible refine Ext.drewN ?_ _) | (with_reducible refine Ext.drew ?_) | (with_reducible refine Ext.alloc ?_ _) | ((with_reducible refine Ext.setCell ?_ ?_ _); rotate_left; focus (first | (simp; done) | (simp; omega) | omega)) | assumption | (with_reducible refine Ext.trans ?_ (by assumption)))), ?_⟩ | refine ⟨rfl, rfl, up_of (by repeat (first | (with_reducible exact Ext.refl _) | (with_reducible refine Ext.drewN ?_ _) | (with_reducible refine Ext.drew ?_) | (with_reducible refine Ext.alloc ?_ _) | ((with_reducible refine Ext.setCell ?_ ?_ _); rotate_left; focus (first | (simp; done) | (simp; omega) | omega)) | assumption | (with_reducible refine Ext.trans ?_ (by assumption)))), ?_⟩))); refine mix_nil ?_)
        go_wp2_with fail
        exact bodyPost_end (v := .tuple #[]) (by simp [results, Try.results46, go_sem]) rfl ⟨rfl, HSt.out _ _ _ HI4.out (by repeat (first | (with_reducible exact Ext.refl _) | (with_reducible assumption) | (with_reducible refine Ext.drewN ?_ _) | (with_reducible refine Ext.drew ?_) | (with_reducible refine Ext.alloc ?_ _) | ((with_reducible refine Ext.setCell ?_ ?_ _); rotate_left; focus (first | (simp; done) | (simp; omega) | omega)) | (with_reducible refine Ext.trans ?_ (by with_reducible assumption))))⟩
theorem chgL_len {k base : Nat} {f t : List Int} (hf : f.length = lenK k) (h : t ∈ chgL k base f) : t.length = lenK k := by
  have he : ∀ {x0 : Int} {mk : Int → List Int} {b : Nat} {l : List Int}, (∀ x, (mk x).length = lenK k) → l ∈ eachTo x0 mk b → l.length = lenK k := fun hm hl => by
    obtain ⟨y, _, _, rfl⟩ := eachTo_mem hl
    exact hm _
  unfold chgL at h
  split at h
  · rename_i hk; subst hk; exact he (fun x => rfl) h
  · split at h
    · split at h
      · cases h
      · rw [List.mem_singleton] at h; subst h; rw [endsTo_len]; exact hf
    · split at h
      · split at h
        · exact he (fun x => by rw [endsTo_len]; exact hf) h
        · cases h
      · rename_i h0 h2 h4
        have h2' : lenK k = 2 := by unfold lenK; rw [if_neg h0, if_neg (by omega)]
        split at h
        · rw [List.mem_singleton] at h; subst h; rw [h2']; rfl
        · split at h
          · rw [List.mem_singleton] at h; subst h; rw [h2']; rfl
          · cases h
theorem set_in {f : List Int} {i : Nat} {x lo hi : Int} (hf : ∀ y ∈ f, lo ≤ y ∧ y < hi) (hx : lo ≤ x ∧ x < hi) : ∀ y ∈ f.set i x, lo ≤ y ∧ y < hi := fun y hy => by
  rcases List.mem_or_eq_of_mem_set hy with h | rfl
  · exact hf y h
  · exact hx
theorem endsTo_in {f : List Int} {x y lo hi : Int} (hf : ∀ y ∈ f, lo ≤ y ∧ y < hi) (hx : lo ≤ x ∧ x < hi) (hy : lo ≤ y ∧ y < hi) : ∀ z ∈ endsTo f x y, lo ≤ z ∧ z < hi := set_in (set_in hf hx) hy
theorem chg_dig {k base : Nat} {f t : List Int} (hf : ∀ x ∈ f, 0 ≤ x ∧ x < (base : Int)) (hl : f.length = lenK k) (h5 : k ≤ 4 ∨ 10 ≤ base) (h : t ∈ chgL k base f) : ∀ x ∈ t, 0 ≤ x ∧ x < (base : Int) := by
  have hk1 : 1 ≤ lenK k := by unfold lenK; split <;> (try split) <;> omega
  have h0 : 0 ≤ gi f 0 ∧ gi f 0 < (base : Int) := hf _ (gi_mem (by omega))
  have hL : 0 ≤ gi f (f.length - 1) ∧ gi f (f.length - 1) < (base : Int) := hf _ (gi_mem (by omega))
  unfold chgL at h
  split at h
  · obtain ⟨y, hy, _, rfl⟩ := eachTo_mem h
    intro x hx; simp at hx; omega
  · split at h
    · split at h
      · cases h
      · rw [List.mem_singleton] at h; subst h; exact endsTo_in hf hL h0
    · split at h
      · split at h
        · obtain ⟨y, hy, _, rfl⟩ := eachTo_mem h
          exact endsTo_in hf ⟨by omega, by omega⟩ ⟨by omega, by omega⟩
        · cases h
      · rename_i n0 n2 n4
        have hb : 10 ≤ base := by omega
        split at h
        · rw [List.mem_singleton] at h; subst h
          intro x hx; simp at hx; omega
        · split at h
          · rename_i _ h1
            rw [List.mem_singleton] at h; subst h
            intro x hx; simp at hx; omega
          · cases h
theorem chgL_le (k base : Nat) (f : List Int) : (chgL k base f).length ≤ base + 1 := by
  have he : ∀ (x0 : Int) (mk : Int → List Int), (eachTo x0 mk base).length ≤ base + 1 := fun x0 mk => by have := eachTo_le x0 mk base; omega
  unfold chgL
  split
  · exact he _ _
  · split
    · split <;> simp
    · split
      · split
        · exact he _ _
        · simp
      · split
        · simp
        · split <;> simp
end Go.Proofs.Ytccoopnoakhedaa
