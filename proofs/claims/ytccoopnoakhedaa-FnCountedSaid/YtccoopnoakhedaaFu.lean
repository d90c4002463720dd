/- Walks: slices.Compare of numbers. -/
import Derived.Test.YtccoopnoakhedaaPow
import Derived.Test.YtccoopnoakhedaaDraw
import Derived.Test.YtccoopnoakhedaaVar
import Derived.Test.YtccoopnoakhedaaCube
import Derived.Test.YtccoopnoakhedaaFa
import Derived.Test.YtccoopnoakhedaaChS
import Derived.Test.YtccoopnoakhedaaUndG
import Derived.Test.YtccoopnoakhedaaText
import Derived.Lib.LazyBuf
namespace Go.Proofs.Ytccoopnoakhedaa
set_option maxRecDepth 100000
open Go.RowKit

def cmp1 (x y : Int) : Int := if x < y then -1 else if y < x then 1 else 0
def cmpO : List Int → List Int → Int
  | [], [] => 0
  | [], _ :: _ => -1
  | _ :: _, [] => 1
  | a :: u, b :: v => if a < b then -1 else if b < a then 1 else cmpO u v
theorem cmpO_drop {l l' : List Int} {i : Nat} (h1 : i < l.length) (h2 : i < l'.length) : cmpO (l.drop i) (l'.drop i) = if cmp1 (gi l i) (gi l' i) = 0 then cmpO (l.drop (i + 1)) (l'.drop (i + 1)) else cmp1 (gi l i) (gi l' i) := by
  rw [List.drop_eq_getElem_cons h1, List.drop_eq_getElem_cons h2, gi_get h1, gi_get h2, cmpO]
  unfold cmp1
  by_cases e1 : l[i] < l'[i]
  · rw [if_pos e1, if_neg (by rw [if_pos e1]; decide), if_pos e1]
  · rw [if_neg e1]
    by_cases e2 : l'[i] < l[i]
    · rw [if_pos e2, if_neg (by rw [if_neg e1, if_pos e2]; decide), if_neg e1, if_pos e2]
    · rw [if_neg e2, if_pos (by rw [if_neg e1, if_neg e2])]
set_option maxHeartbeats 400000 in
theorem nan_int (x : Int) (w : World) : Calls Try.prog 69 #[.int .i64 x] w (Same (.bool false) w) := by
  go_enter Try.func69, Try.ntmps69
  go_wp2
  go_ret
  exact ⟨by simp, rfl⟩
set_option maxHeartbeats 1000000 in
theorem compare_int (x y : Int) (w : World) : Calls Try.prog 58 #[.int .i64 x, .int .i64 y] w (Same (.int .i64 (cmp1 x y)) w) := by
  unfold cmp1
  by_cases h1 : x < y
  · rw [if_pos h1]
    go_enter Try.func58, Try.ntmps58
    go_wp2_with (go_at_call 69; refine (nan_int _ _).mono ?_; rintro e w' ⟨rfl, rfl⟩)
    go_ret
    exact ⟨rfl, rfl⟩
  · rw [if_neg h1]
    by_cases h2 : y < x
    · rw [if_pos h2]
      go_enter Try.func58, Try.ntmps58
      go_wp2_with (go_at_call 69; refine (nan_int _ _).mono ?_; rintro e w' ⟨rfl, rfl⟩)
      go_ret
      exact ⟨rfl, rfl⟩
    · rw [if_neg h2]
      go_enter Try.func58, Try.ntmps58
      go_wp2_with (go_at_call 69; refine (nan_int _ _).mono ?_; rintro e w' ⟨rfl, rfl⟩)
      go_ret
      exact ⟨rfl, rfl⟩
set_option maxHeartbeats 2000000 in
theorem compare_ints (a a' : Option Addr) (n n' c c' : Nat) (l l' : List Int) (w : World) (hv : Ints w a n c l) (hv' : Ints w a' n' c' l') (hn : n ≤ 1048576) (_hn' : n' ≤ 1048576) :
    Calls Try.prog 30 #[.slice a n c, .slice a' n' c'] w (Same (.int .i64 (cmpO l l')) w) := by
  have HV := Lib.hid hv
  have HV' := Lib.hid hv'
  have HL := Lib.hid hv.len
  have HL' := Lib.hid hv'.len
  have HC := Lib.hid (fun x y => compare_int x y w)
  clear hv hv'
  go_enter Try.func30, Try.ntmps30
  go_wp2_with fail
  go_loop [11] (fun u11 => ∃ i : Nat, i ≤ n ∧ i ≤ n' ∧ u11 = .int .i64 i ∧ Hid (cmpO l l' = cmpO (l.drop i) (l'.drop i))) (fun u11 => n - (intOf u11).toNat)
  case atStart => exact ⟨0, Nat.zero_le _, Nat.zero_le _, rfl, rfl⟩
  case round =>
    obtain ⟨i, hi, hi', rfl, HI⟩ := hrel
    by_cases hlt : i < n
    · obtain ⟨b, off, f1, f2⟩ := HV.out.one (P := Try.prog) 25 2 und_int64s cell_int64 (i : Int) (by omega) (by omega)
      have f3 := f2 w (Ext.refl _)
      rw [Int.toNat_natCast] at f3
      by_cases hlt' : i < n'
      · obtain ⟨b', off', g1, g2⟩ := HV'.out.one (P := Try.prog) 25 2 und_int64s cell_int64 (i : Int) (by omega) (by omega)
        have g3 := g2 w (Ext.refl _)
        rw [Int.toNat_natCast] at g3
        have HS := Lib.hid (cmpO_drop (l := l) (l' := l') (i := i) (by rw [HL.out]; exact hlt) (by rw [HL'.out]; exact hlt'))
        have HC2 := Lib.hid (HC.out (gi l i) (gi l' i))
        clear f2 g2
        generalize gi l i = x at *
        generalize gi l' i = y at *
        by_cases hz : cmp1 x y = 0
        · have HS2 := Lib.hid (HS.out.trans (if_pos hz))
          rw [hz] at HC2
          clear hz
          go_wp2_with ((with_reducible refine HC2.out.mono ?_); rintro e w1 ⟨rfl, rfl⟩)
          exact ⟨⟨i + 1, by omega, by omega, by go_num, HI.out.trans HS2.out⟩, by simp [intOf]; omega⟩
        · have HS2 := Lib.hid (HS.out.trans (if_neg hz))
          have hz2 : (cmp1 x y == 0) = false := by simp [hz]
          generalize cmp1 x y = cz at *
          go_wp2_with ((with_reducible refine HC2.out.mono ?_); rintro e w1 ⟨rfl, rfl⟩)
          go_ret
          exact ⟨congrArg (fun z => Ending.returned (.int .i64 z)) (HI.out.trans HS2.out).symm, rfl⟩
      · have hE : cmpO l l' = 1 := by
          rw [HI.out, List.drop_eq_nil_of_le (show l'.length ≤ i by rw [HL'.out]; omega), List.drop_eq_getElem_cons (show i < l.length by rw [HL.out]; exact hlt)]
          rfl
        have HE := Lib.hid hE
        clear hE f2
        go_wp2_with fail
        go_ret
        exact ⟨congrArg (fun z => Ending.returned (.int .i64 z)) HE.out.symm, rfl⟩
    · obtain rfl : i = n := by omega
      by_cases hlt' : i < n'
      · have hE : cmpO l l' = -1 := by
          rw [HI.out, List.drop_eq_nil_of_le (show l.length ≤ i by rw [HL.out]; exact Nat.le_refl _), List.drop_eq_getElem_cons (show i < l'.length by rw [HL'.out]; exact hlt')]
          rfl
        have HE := Lib.hid hE
        clear hE
        go_wp2_with fail
        go_ret
        exact ⟨congrArg (fun z => Ending.returned (.int .i64 z)) HE.out.symm, rfl⟩
      · have hE : cmpO l l' = 0 := by
          rw [HI.out, List.drop_eq_nil_of_le (show l.length ≤ i by rw [HL.out]; exact Nat.le_refl _), List.drop_eq_nil_of_le (show l'.length ≤ i by rw [HL'.out]; omega)]
          rfl
        have HE := Lib.hid hE
        clear hE
        go_wp2_with fail
        go_ret
        exact ⟨congrArg (fun z => Ending.returned (.int .i64 z)) HE.out.symm, rfl⟩
end Go.Proofs.Ytccoopnoakhedaa

/- Walks: the first undetected error of all places, in the program. -/
namespace Go.Proofs.Ytccoopnoakhedaa
set_option maxRecDepth 100000
open Go.RowKit

/-- the least checked word so far -/
def bestW (D : Ch) (LL : List (List Int)) : Nat → Option (List Int)
  | 0 => none
  | j + 1 => match bestW D LL j with
    | none => if chkD D (gl LL j) = true then some (gl LL j) else none
    | some b => if chkD D (gl LL j) = true ∧ cmpO (gl LL j) b < 0 then some (gl LL j) else some b
/-- the state while the wrong words are gone through -/
def FuV (pt : Nat) (o : Option (List Int)) (W : World) : Prop :=
  ∃ ta tn tc, VarAt W pt 25 (.slice ta tn tc) ∧ ((o = none ∧ ta = none ∧ tn = 0 ∧ tc = 0) ∨ ∃ l x, o = some l ∧ ta = some x ∧ x.block ≠ pt ∧ Ints W ta tn tc l ∧ tn ≤ 20)
structure FuI (D : Ch) (w0 : World) (pt : Nat) (LL : List (List Int)) (j : Nat) (W : World) : Prop where
  ex : Ext w0 W
  v : FuV pt (bestW D LL j) W
theorem FuI.ext {D : Ch} {w0 : World} {pt : Nat} {LL : List (List Int)} {j : Nat} {W W' : World} (h : FuI D w0 pt LL j W) (hx : Ext W W') : FuI D w0 pt LL j W' := by
  refine ⟨h.ex.trans hx, ?_⟩
  obtain ⟨ta, tn, tc, h1, h2⟩ := h.v
  refine ⟨ta, tn, tc, h1.ext hx, ?_⟩
  rcases h2 with h2 | ⟨l, x, h3, h4, h5, h6, h7⟩
  · exact .inl h2
  · exact .inr ⟨l, x, h3, h4, h5, h6.ext hx, h7⟩
theorem eql_nilF : ∀ (w : World) a n c, (binOp .eql 25 (.slice a n c) (.slice none 0 0)).run Try.prog w = .ok (.bool a.isNone) w := fun w a n c => Lib.run_eql_slice_nil w 25 2 a n c 0 0 und_int64s
theorem ints_some {w : World} {a : Option Addr} {n c : Nat} {l : List Int} (h : Ints w a n c l) (hn : 0 < n) : ∃ b off, a = some ⟨b, off, none⟩ := by
  obtain ⟨b, off, ha, _⟩ := Sl.cells h hn
  exact ⟨b, off, ha⟩
set_option maxHeartbeats 4000000 in
theorem fu_step {D : Ch} {q : Nat} {a : Option Addr} {n c : Nat} {a' : Option Addr} {n' c' : Nat} {w0 : World} (hv : ChAt w0 q D a n c a' n' c') (hok : OkCh D) {pt : Nat} (hpt : w0.heap.size ≤ pt) {LL : List (List Int)} (hLL : ∀ t ∈ LL, t.length = D.places.length ∧ DigC D t) (j : Nat) (W : World) (ta : Option Addr) (tn tc : Nat)
    (hj : j < LL.length) (hi : FuI D w0 pt LL j W) (ht : Ints W ta tn tc (gl LL j)) (hne : ∀ x, ta = some x → x.block ≠ pt) :
    Calls Try.prog 32 (#[.slice ta tn tc] ++ #[.pointer (some ⟨q, 0, none⟩), .pointer (some ⟨pt, 0, none⟩)]) W
      (fun e w' => e = .returned (.tuple #[]) ∧ FuI D w0 pt LL (j + 1) w' ∧ W.heap.size ≤ w'.heap.size ∧ ∀ b, b < W.heap.size → b ≠ pt → w'.heap[b]? = W.heap[b]?) := by
  obtain ⟨hl, hdc⟩ := hLL _ (gl_mem hj)
  have htl := ht.len
  have hp20 := hok.p20
  have hp1 := hok.p1
  have qT := eql_nilF
  have HT := Lib.hid ht
  obtain ⟨tb, toff, rfl⟩ := ints_some ht (by omega)
  have hntb : tb ≠ pt := hne _ rfl
  have HCk := Lib.hid (impl_checks D q a n c a' n' c' (some ⟨tb, toff, none⟩) tn tc (gl LL j) W (hv.ext hi.ex) hok ht hdc (by omega))
  change Hid (Calls Try.prog 33 _ W (Ret (.bool (chkD D (gl LL j))) W)) at HCk
  have HI := Lib.hid hi
  have hstep : bestW D LL (j + 1) = match bestW D LL j with
    | none => if chkD D (gl LL j) = true then some (gl LL j) else none
    | some b => if chkD D (gl LL j) = true ∧ cmpO (gl LL j) b < 0 then some (gl LL j) else some b := rfl
  have htn20 : tn ≤ 20 := by omega
  have HSame := Lib.hid (fun (w1 : World) (hx : Ext W w1) => show (∀ b, b < W.heap.size → b ≠ pt → w1.heap[b]? = W.heap[b]?) from fun b hb _ => Below.block hx b hb)
  have HPut := Lib.hid (fun (w1 : World) (hx : Ext W w1) (hb : bestW D LL (j + 1) = some (gl LL j)) => show FuI D w0 pt LL (j + 1) (w1.setCell ⟨pt, 0, none⟩ (.slice (some ⟨tb, toff, none⟩) tn tc)) ∧ W.heap.size ≤ (w1.setCell ⟨pt, 0, none⟩ (.slice (some ⟨tb, toff, none⟩) tn tc)).heap.size ∧ ∀ b, b < W.heap.size → b ≠ pt → (w1.setCell ⟨pt, 0, none⟩ (.slice (some ⟨tb, toff, none⟩) tn tc)).heap[b]? = W.heap[b]? from by
    have h1 := HI.out.ext hx
    obtain ⟨_, _, _, v1, _⟩ := h1.v
    refine ⟨⟨h1.ex.setCell hpt _, ⟨_, _, _, v1.set _, .inr ⟨gl LL j, ⟨tb, toff, none⟩, hb, rfl, hntb, ?_, htn20⟩⟩⟩, by simpa [World.setCell] using hx.le, fun b hb hbp => (Below.heap_setCell w1 ⟨pt, 0, none⟩ _ b hbp).trans (Below.block hx b hb)⟩
    exact (HT.out.ext hx).two (Two.set1 pt pt w1 _) (fun y hy => by cases hy; exact ⟨hntb, hntb⟩))
  obtain ⟨va, vn, vc, v1, v2⟩ := hi.v
  have HV := Lib.hid v1
  clear hi ht hl htl hv hLL
  cases hc : chkD D (gl LL j)
  · rw [hc] at HCk
    have hb : bestW D LL (j + 1) = bestW D LL j := by
      rw [hstep, hc]
      cases bestW D LL j <;> simp
    have HB := Lib.hid hb
    clear hc hb hstep v1 v2
    go_enter Try.func32, Try.ntmps32
    go_wp2_with ((with_reducible refine HCk.out.mono ?_); rintro e w1 ⟨rfl, hx1⟩; have HX1 := Lib.hid hx1; clear hx1)
    have h := HI.out.ext HX1.out
    exact bodyPost_end (v := .tuple #[]) (by simp [results, Try.results32, go_sem]) rfl ⟨rfl, ⟨h.ex, by rw [HB.out]; exact h.v⟩, HX1.out.le, HSame.out _ HX1.out⟩
  rw [hc] at HCk hstep
  rcases v2 with ⟨h0, rfl, rfl, rfl⟩ | ⟨l, x, h0, rfl, hxp, hi2, hvn⟩
  · rw [h0] at hstep
    have HB := Lib.hid (hstep.trans (if_pos rfl))
    clear hstep hc h0 v1
    go_enter Try.func32, Try.ntmps32
    go_wp2_with ((with_reducible refine HCk.out.mono ?_); rintro e w1 ⟨rfl, hx1⟩; have HX1 := Lib.hid hx1; have V1 := HV.out.ext hx1; have c1 := V1.cell; have f1 := V1.frozen; have l1 := V1.lt; clear hx1 V1)
    have h := HPut.out _ HX1.out HB.out
    exact bodyPost_end (v := .tuple #[]) (by simp [results, Try.results32, go_sem]) rfl ⟨rfl, h⟩
  · rw [h0] at hstep
    have HCm := Lib.hid (fun w' (h : Ext W w') => compare_ints (some ⟨tb, toff, none⟩) (some x) tn vn tc vc (gl LL j) l w' (HT.out.ext h) (hi2.ext h) (by omega) (by omega))
    obtain ⟨cm, hcm⟩ : ∃ z, z = cmpO (gl LL j) l := ⟨_, rfl⟩
    rw [← hcm] at HCm
    by_cases hneg : cm < 0
    · have HB := Lib.hid (hstep.trans (if_pos ⟨rfl, by rw [← hcm]; exact hneg⟩))
      clear hstep hc h0 v1 hi2 hcm
      go_enter Try.func32, Try.ntmps32
      go_wp2_with (first | ((with_reducible refine HCk.out.mono ?_); rintro e w1 ⟨rfl, hx1⟩; have HX1 := Lib.hid hx1; have V1 := HV.out.ext hx1; have c1 := V1.cell; have f1 := V1.frozen; have l1 := V1.lt; clear hx1 V1) | ((with_reducible refine (HCm.out _ HX1.out).mono ?_); rintro e w2 ⟨rfl, rfl⟩))
      have h := HPut.out _ HX1.out HB.out
      exact bodyPost_end (v := .tuple #[]) (by simp [results, Try.results32, go_sem]) rfl ⟨rfl, h⟩
    · have HB := Lib.hid ((hstep.trans (if_neg (fun h => hneg (by rw [hcm]; exact h.2)))).trans h0.symm)
      clear hstep hc h0 v1 hi2 hcm
      go_enter Try.func32, Try.ntmps32
      go_wp2_with (first | ((with_reducible refine HCk.out.mono ?_); rintro e w1 ⟨rfl, hx1⟩; have HX1 := Lib.hid hx1; have V1 := HV.out.ext hx1; have c1 := V1.cell; have f1 := V1.frozen; have l1 := V1.lt; clear hx1 V1) | ((with_reducible refine (HCm.out _ HX1.out).mono ?_); rintro e w2 ⟨rfl, rfl⟩))
      have h := HI.out.ext HX1.out
      exact bodyPost_end (v := .tuple #[]) (by simp [results, Try.results32, go_sem]) rfl ⟨rfl, ⟨h.ex, by rw [HB.out]; exact h.v⟩, HX1.out.le, HSame.out _ HX1.out⟩
theorem bestW_mem {D : Ch} {LL : List (List Int)} {l : List Int} : ∀ {j}, j ≤ LL.length → bestW D LL j = some l → l ∈ LL
  | 0, _, h => by simp [bestW] at h
  | j + 1, hj, h => by
    have hm : gl LL j ∈ LL := gl_mem (by omega)
    unfold bestW at h
    cases hb : bestW D LL j with
    | none =>
      rw [hb] at h
      simp only at h
      split at h
      · injection h with h; rw [← h]; exact hm
      · cases h
    | some b =>
      rw [hb] at h
      simp only at h
      split at h
      · injection h with h; rw [← h]; exact hm
      · injection h with h; rw [← h]; exact bestW_mem (by omega) hb
/-- the least of the words of all places -/
def bestP (D : Ch) (n' r k bs : Nat) : Nat → Option (List Int)
  | 0 => none
  | p + 1 => match bestP D n' r k bs p with
    | none => if canB D n' p r k bs p D.start = true then some (leastU D n' p r k bs) else none
    | some b => if canB D n' p r k bs p D.start = true ∧ cmpO (leastU D n' p r k bs) b < 0 then some (leastU D n' p r k bs) else some b
theorem bestP_facts {D : Ch} {n' k bs : Nat} (hok : OkCh D) (hbs : D.base = (bs : Int)) (hn : D.places.length = n') (h5 : k ≤ 4 ∨ 10 ≤ bs) {l : List Int} : ∀ {p}, p + lenK k ≤ n' + 1 → bestP D n' (lenK k) k bs p = some l → l.length = n' ∧ DigC D l
  | 0, _, h => by simp [bestP] at h
  | p + 1, hp, h => by
    unfold bestP at h
    cases hb : bestP D n' (lenK k) k bs p with
    | none =>
      rw [hb] at h
      simp only at h
      split at h
      · rename_i hc
        injection h with h; rw [← h]; exact leastU_facts hok hbs hn (by omega) h5 hc
      · cases h
    | some b =>
      rw [hb] at h
      simp only at h
      split at h
      · rename_i hc
        injection h with h; rw [← h]; exact leastU_facts hok hbs hn (by omega) h5 hc.1
      · injection h with h; rw [← h]; exact bestP_facts hok hbs hn h5 (by omega) hb
/-- a list in memory, or nil -/
def OptV (o : Option (List Int)) (m : Nat) (v : Value) (W : World) : Prop := (o = none ∧ v = .slice none 0 0) ∨ ∃ l b off tc, o = some l ∧ v = .slice (some ⟨b, off, none⟩) m tc ∧ Ints W (some ⟨b, off, none⟩) m tc l
theorem OptV.ext {o : Option (List Int)} {m : Nat} {v : Value} {W W' : World} (h : OptV o m v W) (hx : Ext W W') : OptV o m v W' := by
  rcases h with h | ⟨l, b, off, tc, h1, h2, h3⟩
  · exact .inl h
  · exact .inr ⟨l, b, off, tc, h1, h2, h3.ext hx⟩
def RetFU (D : Ch) (n' k bs : Nat) (w : World) (e : Ending) (w' : World) : Prop :=
  Ext w w' ∧ ((bestP D n' (lenK k) k bs (n' + 1 - lenK k) = none ∧ e = .returned (.tuple #[.string .empty, .string .empty, .bool false])) ∨
    ∃ ds, bestP D n' (lenK k) k bs (n' + 1 - lenK k) = some ds ∧ e = .returned (.tuple #[.string (textOf ds), .string (textOf ((bestW D (wrongL k bs ds) (wrongL k bs ds).length).getD [])), .bool true]))
set_option maxHeartbeats 4000000 in
theorem impl_FirstU (D : Ch) (a : Option Addr) (n c : Nat) (b : Option Addr) (m d S : Nat) (k : Nat) (hk : k ≤ 5) (bs : Nat) (hbs : D.base = (bs : Int)) (hk5 : k ≤ 4 ∨ 10 ≤ bs) (w : World) (hv : ChIn w D a n c b m d) (hval : validCh D = true) (hS : D.states = (S : Int)) :
    Calls Try.prog 13 #[.agg #[.int .i64 D.base, .int .i64 D.states, .int .i64 D.start, .int .i64 D.fin, .slice a n c, .slice b m d], .int .i64 k] w (RetFU D m k bs w) := by
  have HB := Lib.hid (hv.box 27)
  have HVal := Lib.hid (fun W h => impl_ValidChain D a n c b m d W (Cube.ext hv.ts h) (hv.ps.ext h) hv.hn hv.hn' hv.sm)
  have HP := Lib.hid hv.ps.len
  clear hv
  rw [hval] at HVal
  have hok := validCh_ok hval
  have p20 := hok.p20
  have p1 := hok.p1
  rw [HP.out] at p20 p1
  have HBs := Lib.hid hbs
  have HK5 := Lib.hid hk5
  have hbs36 : bs ≤ 36 := by have := hok.b36; omega
  have Hhok := Lib.hid hok; clear hok; have HhS := Lib.hid hS; clear hS
  have HK := Lib.hid (fun W => impl_kindOk k hk D.base W)
  rw [show kindB k D.base = true by unfold kindB; simp; omega] at HK
  clear hval hbs hk5
  have HLa := Lib.hid (fun W => impl_lastG m k hk W (by omega))
  have hr3 : 1 ≤ lenK k ∧ lenK k ≤ 3 := by unfold lenK; split <;> (try split) <;> omega
  have qT := eql_nilF
  have qN : ∀ (w : World) a n c, (binOp .neq 25 (.slice a n c) (.slice none 0 0)).run Try.prog w = .ok (.bool (!a.isNone)) w := fun w a n c => Go.run_neq_slice_nil w 25 2 a n c und_int64s
  have HFa1 := Lib.hid (fun (q : Nat) (wb : World) (HB : ChAt wb q D a n c b m d) (pl : Nat) (hp : pl + lenK k ≤ m) W (h : Ext wb W) => impl_firstAt (pl := pl) (r := lenK k) (bs := bs) (S := S) k W (HB.ext h) Hhok.out HhS.out HBs.out hk rfl HK5.out hp)
  have HBf := Lib.hid (fun p (hp : p + lenK k ≤ m + 1) l (h : bestP D m (lenK k) k bs p = some l) => bestP_facts Hhok.out HBs.out HP.out HK5.out hp h)
  obtain ⟨r, hr⟩ : ∃ r, r = lenK k := ⟨_, rfl⟩
  rw [← hr] at HLa hr3 HFa1 HBf
  have HR := Lib.hid hr
  clear hr
  go_enter Try.func13, Try.ntmps13
  go_wp2_with fail
  obtain ⟨wb, hwb⟩ : ∃ wb, wb = w.alloc (.cells #[.int .i64 D.base, .int .i64 D.states, .int .i64 D.start, .int .i64 D.fin, .slice a n c, .slice b m d] 27) := ⟨_, rfl⟩
  have hxb : Ext w wb := by rw [hwb]; exact (by repeat (first | (with_reducible exact Ext.refl _) | (with_reducible refine Ext.drewN ?_ _) | (with_reducible refine Ext.drew ?_) | (with_reducible refine Ext.alloc ?_ _) | ((with_reducible refine Ext.setCell ?_ ?_ _); rotate_left; focus (first | (simp; done) | (simp; omega) | omega)) | assumption | (with_reducible refine Ext.trans ?_ (by assumption))))
  rw [← hwb] at HB ⊢
  generalize w.heap.size = q at *
  clear hwb
  have HFa := Lib.hid (HFa1.out q wb HB.out)
  refine (HVal.out _ hxb).mono ?_
  rintro e w1 ⟨rfl, hx1⟩
  obtain ⟨k0, k1, k2, k3, k4, k5, _, _⟩ := HB.out
  simp only [HBs.out] at k0
  have HKb := Lib.hid (fun W => show Calls Try.prog 19 #[.int .i64 k, .int .i64 bs] W (Same (.bool true) W) by rw [← HBs.out]; exact HK.out W)
  clear HFa1 HK
  go_wp2_with ((with_reducible refine (HKb.out _).mono ?_); rintro e w2 ⟨rfl, rfl⟩)
  go_loopw [7, 8] (fun v7 v8 wr => ∃ (p : Nat), p ≤ m + 1 - r ∧ v8 = .int .i64 p ∧ Hid (OptV (bestP D m r k bs p) m v7 wr) ∧ Ext wb wr) (fun _ v8 _ => m + 1 - (intOf v8).toNat)
  case atStart => exact ⟨0, Nat.zero_le _, rfl, .inl ⟨rfl, rfl⟩, hx1⟩
  case round =>
    clear hx1
    obtain ⟨p, hp, rfl, HO, hx⟩ := hrel
    by_cases hlt : p + r ≤ m
    · have hstep : bestP D m r k bs (p + 1) = match bestP D m r k bs p with
        | none => if canB D m p r k bs p D.start = true then some (leastU D m p r k bs) else none
        | some b => if canB D m p r k bs p D.start = true ∧ cmpO (leastU D m p r k bs) b < 0 then some (leastU D m p r k bs) else some b := rfl
      cases hc : canB D m p r k bs p D.start
      · rw [hc] at hstep
        have HB1 := Lib.hid (show bestP D m r k bs (p + 1) = bestP D m r k bs p from by rw [hstep]; cases bestP D m r k bs p <;> simp)
        have HF0 := Lib.hid (fun W (h : Ext wb W) => (HFa.out p hlt W h).mono (R' := fun e w' => e = .returned (.slice none 0 0) ∧ Ext W w') (fun e w' hr => by
          rcases hr with ⟨_, h1, h2⟩ | ⟨h1, _⟩
          · exact ⟨h1, h2⟩
          · rw [hc] at h1; cases h1))
        clear hstep hc
        go_wp2_with (first | ((with_reducible refine (HLa.out _).mono ?_); rintro e w2 ⟨rfl, rfl⟩) | ((with_reducible refine (HF0.out _ hx).mono ?_); rintro e w3 ⟨rfl, hy3⟩))
        exact ⟨⟨p + 1, by omega, by go_num, by rw [HB1.out]; exact HO.out.ext hy3, hx.trans hy3⟩, by simp [intOf]; omega⟩
      · rw [hc] at hstep
        have HF0 := Lib.hid (fun W (h : Ext wb W) => (HFa.out p hlt W h).mono (R' := fun e w' => ∃ g c, e = .returned (.slice (some ⟨g, 0, none⟩) m c) ∧ Ints w' (some ⟨g, 0, none⟩) m c (leastU D m p r k bs) ∧ Ext W w') (fun e w' hr => by
          rcases hr with ⟨h1, _⟩ | ⟨_, a, c, h2, h3, h4⟩
          · rw [hc] at h1; cases h1
          · obtain ⟨g, rfl, _⟩ := own_some1 h3 (by omega)
            exact ⟨g, c, h2, h3.ints, h4⟩))
        clear hc
        rcases HO.out with ⟨h1, rfl⟩ | ⟨l, gb, go, gc, h1, rfl, hi⟩
        · rw [h1] at hstep
          have HB1 := Lib.hid (hstep.trans (if_pos rfl))
          clear hstep h1
          go_wp2_with (first | ((with_reducible refine (HLa.out _).mono ?_); rintro e w2 ⟨rfl, rfl⟩) | ((with_reducible refine (HF0.out _ hx).mono ?_); rintro e w3 ⟨g3, c3, rfl, hi3, hy3⟩; have HI3 := Lib.hid hi3; clear hi3))
          exact ⟨⟨p + 1, by omega, by go_num, .inr ⟨_, g3, 0, c3, HB1.out, rfl, HI3.out⟩, hx.trans hy3⟩, by simp [intOf]; omega⟩
        · rw [h1] at hstep
          obtain ⟨cm, hcm⟩ : ∃ z, z = cmpO (leastU D m p r k bs) l := ⟨_, rfl⟩
          have HCm := Lib.hid (fun W g3 c3 (h3 : Ints W (some ⟨g3, 0, none⟩) m c3 (leastU D m p r k bs)) (h : Ext wr W) => compare_ints (some ⟨g3, 0, none⟩) (some ⟨gb, go, none⟩) m m c3 gc (leastU D m p r k bs) l W h3 (hi.ext h) (by omega) (by omega))
          rw [← hcm] at HCm
          have HIb := Lib.hid hi
          by_cases hneg : cm < 0
          · have HB1 := Lib.hid (hstep.trans (if_pos ⟨rfl, by rw [← hcm]; exact hneg⟩))
            clear hstep h1 hcm hi
            go_wp2_with (first | ((with_reducible refine (HLa.out _).mono ?_); rintro e w2 ⟨rfl, rfl⟩) | ((with_reducible refine (HF0.out _ hx).mono ?_); rintro e w3 ⟨g3, c3, rfl, hi3, hy3⟩; have HI3 := Lib.hid hi3; clear hi3) | ((with_reducible refine (HCm.out _ _ _ HI3.out hy3).mono ?_); rintro e w4 ⟨rfl, rfl⟩))
            exact ⟨⟨p + 1, by omega, by go_num, .inr ⟨_, g3, 0, c3, HB1.out, rfl, HI3.out⟩, hx.trans hy3⟩, by simp [intOf]; omega⟩
          · have HB1 := Lib.hid (hstep.trans (if_neg (fun h => hneg (by rw [hcm]; exact h.2))))
            clear hstep h1 hcm hi
            go_wp2_with (first | ((with_reducible refine (HLa.out _).mono ?_); rintro e w2 ⟨rfl, rfl⟩) | ((with_reducible refine (HF0.out _ hx).mono ?_); rintro e w3 ⟨g3, c3, rfl, hi3, hy3⟩; have HI3 := Lib.hid hi3; clear hi3) | ((with_reducible refine (HCm.out _ _ _ HI3.out hy3).mono ?_); rintro e w4 ⟨rfl, rfl⟩))
            exact ⟨⟨p + 1, by omega, by go_num, .inr ⟨_, gb, go, gc, HB1.out, rfl, HIb.out.ext hy3⟩, hx.trans hy3⟩, by simp [intOf]; omega⟩
    · have hpe : p = m + 1 - r := by omega
      rcases HO.out with ⟨h1, rfl⟩ | ⟨l, gb, go, gc, h1, rfl, hi⟩
      · have HE := Lib.hid (show bestP D m (lenK k) k bs (m + 1 - lenK k) = none from by rw [← HR.out, ← hpe]; exact h1)
        clear h1
        go_wp2_with ((with_reducible refine (HLa.out _).mono ?_); rintro e w2 ⟨rfl, rfl⟩)
        refine bodyPost_ret (v := .tuple #[.string ⟨#[]⟩, .string ⟨#[]⟩, .bool false]) (by simp [results, Try.results13, go_sem]) rfl ⟨hxb.trans hx, .inl ⟨HE.out, rfl⟩⟩
      · have HE := Lib.hid (show bestP D m (lenK k) k bs (m + 1 - lenK k) = some l from by rw [← HR.out, ← hpe]; exact h1)
        have hp0 : p ≠ 0 := by
          rintro rfl
          simp [bestP] at h1
        have HLf := Lib.hid (HBf.out p (by omega) l h1)
        have HI := Lib.hid hi
        clear h1 hi
        go_upto_region 13 with ((with_reducible refine (HLa.out _).mono ?_); rintro e w2 ⟨rfl, rfl⟩)
        obtain ⟨pt, hpt⟩ : ∃ b, b = wr.heap.size := ⟨_, rfl⟩
        obtain ⟨ws, hws⟩ : ∃ W, W = wr.alloc (.cells #[.slice none 0 0] 25) := ⟨_, rfl⟩
        have hxs : Ext wr ws := by rw [hws]; exact (Ext.refl _).alloc _
        have hVt : VarAt ws pt 25 (.slice none 0 0) := by rw [hws]; exact VarAt.newN hpt
        rw [← hpt, ← hws]
        have hpw : wr.heap.size ≤ pt := by omega
        clear hws hpt hp0
        have HLL := Lib.hid (show ∀ t ∈ wrongL k bs l, t.length = D.places.length ∧ DigC D t from fun t ht => by
          obtain ⟨h1, h2⟩ := wrong_dig (fun x hx => by have := HLf.out.2 x hx; have := HBs.out; omega) HK5.out ht
          exact ⟨by rw [h1, HP.out]; exact HLf.out.1, fun x hx => by have := h2 x hx; have := HBs.out; omega⟩)
        have hI0 : FuI D wr pt (wrongL k bs l) 0 ws := ⟨hxs, ⟨none, 0, 0, hVt, .inl ⟨rfl, rfl, rfl, rfl⟩⟩⟩
        have HW := Lib.hid (impl_wrong k bs hk hbs36 32 #[.pointer (some ⟨q, 0, none⟩), .pointer (some ⟨pt, 0, none⟩)] (some ⟨gb, go, none⟩) m gc l (fun _ b => b = pt) (FuI D wr pt (wrongL k bs l)) ws (by omega)
          ⟨fun _ _ => rfl, fun j W W' h hx => ⟨h.ext hx, fun b hb => hb⟩, fun j W b h hb => by obtain ⟨_, _, _, v, _⟩ := h.v; rw [hb]; exact v.lt, fun j W ta tn tc hj hi ht hne => (fu_step (HB.out.ext hx) Hhok.out hpw HLL.out j W ta tn tc hj hi ht hne).mono fun e w' ⟨h1, h2, h3, h4⟩ => ⟨h1, h2, h3, fun b hb hbn => ⟨h4 b hb hbn, hbn⟩⟩⟩
          (fun j W h => HI.out.ext h.ex) hI0)
        have e0 := k0 ws (hx.trans hxs)
        clear hVt hI0
        go_wp2_with ((with_reducible refine HW.out.mono ?_); rintro e w6 ⟨rfl, hi6, hs6⟩; have HI6 := Lib.hid hi6; clear hi6 hs6)
        obtain ⟨ta, tn, tc, v6, h6⟩ := HI6.out.v
        have hx6 : Ext wb w6 := hx.trans HI6.out.ex
        have c6 : ∀ w', Ext w6 w' → w'.cell? ⟨pt, 0, none⟩ = some (.slice ta tn tc) := fun w' h => (v6.ext h).cell
        have hTo : Ints w6 ta tn tc ((bestW D (wrongL k bs l) (wrongL k bs l).length).getD []) ∧ Dig36 ((bestW D (wrongL k bs l) (wrongL k bs l).length).getD []) ∧ tn ≤ 20 := by
          rcases h6 with ⟨h1, rfl, rfl, rfl⟩ | ⟨l', x, h1, rfl, _, h2, h3⟩
          · rw [h1]
            exact ⟨⟨rfl, Nat.le_refl _, fun h => by omega⟩, fun d hd => by simp at hd, by omega⟩
          · rw [h1]
            have hm := HLL.out l' (bestW_mem (Nat.le_refl _) h1)
            exact ⟨h2, fun d hd => by have h4 := hm.2 d hd; have h5 := Hhok.out.b36; omega, h3⟩
        have HW1 := Lib.hid (fun W (h : Ext w6 W) => impl_wordOf (some ⟨gb, go, none⟩) m gc l W ((HI.out.ext HI6.out.ex).ext h) (fun d hd => by have h4 := HLf.out.2 d hd; have h5 := Hhok.out.b36; omega) (by omega))
        have HW2 := Lib.hid (fun W (h : Ext w6 W) => impl_wordOf ta tn tc _ W (hTo.1.ext h) hTo.2.1 (by omega))
        have HXe := Lib.hid (hxb.trans hx6)
        clear hTo h6 v6 e0
        go_wp2_with fail
        (refine wp_region_from w6 (by repeat (first | (with_reducible exact Ext.refl _) | (with_reducible refine Ext.drewN ?_ _) | (with_reducible refine Ext.drew ?_) | (with_reducible refine Ext.alloc ?_ _) | ((with_reducible refine Ext.setCell ?_ ?_ _); rotate_left; focus (first | (simp; done) | (simp; omega) | omega)) | assumption | (with_reducible refine Ext.trans ?_ (by assumption)))) (by kernel_rfl) (by kernel_rfl) (by kernel_rfl) ?_; (repeat (first | (refine mix_q rfl ?_; go_big_quiet_step (fail); refine wpQuiet_nil ?_; show wpMix _ _ _ _ _ _ _) | (refine mix_s rfl ?_; go_wp2_with (first | ((with_reducible refine (HW1.out _ (by repeat (first | (with_reducible exact Ext.refl _) | (with_reducible assumption) | (with_reducible refine Ext.drewN ?_ _) | (with_reducible refine Ext.drew ?_) | (with_reducible refine Ext.alloc ?_ _) | ((with_reducible refine Ext.setCell ?_ ?_ _); rotate_left; focus (first | (simp; done) | (simp; omega) | omega)) | (with_reducible refine Ext.trans ?_ (by with_reducible assumption))))).mono ?_); rintro e w7 ⟨rfl, hy7⟩; have hx7 : Ext w6 w7 := Ext.trans (by repeat (first | (with_reducible exact Ext.refl _) | (with_reducible assumption) | (with_reducible refine Ext.drewN ?_ _) | (with_reducible refine Ext.drew ?_) | (with_reducible refine Ext.alloc ?_ _) | ((with_reducible refine Ext.setCell ?_ ?_ _); rotate_left; focus (first | (simp; done) | (simp; omega) | omega)) | (with_reducible refine Ext.trans ?_ (by with_reducible assumption)))) hy7; clear hy7) | ((with_reducible refine (HW2.out _ (by repeat (first | (with_reducible exact Ext.refl _) | (with_reducible assumption) | (with_reducible refine Ext.drewN ?_ _) | (with_reducible refine Ext.drew ?_) | (with_reducible refine Ext.alloc ?_ _) | ((with_reducible refine Ext.setCell ?_ ?_ _); rotate_left; focus (first | (simp; done) | (simp; omega) | omega)) | (with_reducible refine Ext.trans ?_ (by with_reducible assumption))))).mono ?_); rintro e w8 ⟨rfl, hy8⟩; have hx8 : Ext w6 w8 := Ext.trans (by repeat (first | (with_reducible exact Ext.refl _) | (with_reducible assumption) | (with_reducible refine Ext.drewN ?_ _) | (with_reducible refine Ext.drew ?_) | (with_reducible refine Ext.alloc ?_ _) | ((with_reducible refine Ext.setCell ?_ ?_ _); rotate_left; focus (first | (simp; done) | (simp; omega) | omega)) | (with_reducible refine Ext.trans ?_ (by with_reducible assumption)))) hy8; clear hy8)); first | refine ⟨up_of (by repeat (first | (with_reducible exact Ext.refl _) | (with_reducible refine Ext.drewN ?_ _) | (with_reducible refine Ext.drew ?_) | (with_reducible refine Ext.alloc ?_ _) | ((with_reducible refine Ext.setCell ?_ ?_ _); rotate_left; focus (first | (simp; done) | (simp; omega) | omega)) | assumption | (with_reducible refine Ext.trans ?_ (by assumption)))), ?_⟩ | refine ⟨rfl, rfl, up_of (by repeat (first | (with_reducible exact Ext.refl _) | (with_reducible refine Ext.drewN ?_ _) | (with_reducible refine Ext.drew ?_) | (with_reducible refine Ext.alloc ?_ _) | ((with_reducible refine Ext.setCell ?_ ?_ _); rotate_left; focus (first | (simp; done) | (simp; omega) | omega)) | assumption | (with_reducible refine Ext.trans ?_ (by assumption)))), ?_⟩))); refine mix_nil ?_)
        go_wp2_with fail
        refine bodyPost_ret (v := .tuple #[.string (textOf l), .string (textOf ((bestW D (wrongL k bs l) (wrongL k bs l).length).getD [])), .bool true]) (by simp [results, Try.results13, go_sem]) rfl ⟨HXe.out.trans hx8, .inr ⟨l, HE.out, rfl⟩⟩
end Go.Proofs.Ytccoopnoakhedaa
