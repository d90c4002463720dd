/- Plain: chains of remainders, to which each place adds what a list tells of its symbol. -/
import Derived.Test.YtohenfbgjjifbaaChW
import Derived.Test.YtohenfbgjjifbaaSAt
import Derived.Test.YtohenfbgjjifbaaMix2
namespace Go.Proofs.Ytohenfbgjjifbaa
set_option maxRecDepth 100000
open Go.RowKit

/-- one list more: the lists so far, the places so far -/
def addStep (s : List (List Int) × List Int) (l : List Int) : List (List Int) × List Int :=
  if l ∈ s.1 then (s.1, s.2 ++ [((s.1.idxOf l : Nat) : Int)]) else (s.1 ++ [l], s.2 ++ [((s.1.length : Nat) : Int)])
def addF (ls : List (List Int)) (k : Nat) : List (List Int) × List Int := (ls.take k).foldl addStep ([], [])
theorem addF_step {ls : List (List Int)} {k : Nat} (h : k < ls.length) : addF ls (k + 1) = addStep (addF ls k) (gl ls k) := by
  unfold addF; rw [take_gl h, List.foldl_append]; rfl
theorem gl_get {l : List (List Int)} {k : Nat} (h : k < l.length) : gl l k = l[k] := by simp [gl, h]
theorem gm_get {l : List (List (List Int))} {k : Nat} (h : k < l.length) : gm l k = l[k] := by simp [gm, h]
theorem addF_yes {ls : List (List Int)} {k j : Nat} (h : k < ls.length) (hj : j < (addF ls k).1.length) (he : gl (addF ls k).1 j = gl ls k) (hf : ∀ i, i < j → gl (addF ls k).1 i ≠ gl ls k) :
    addF ls (k + 1) = ((addF ls k).1, (addF ls k).2 ++ [(j : Int)]) := by
  have hm : gl ls k ∈ (addF ls k).1 := by rw [← he]; exact gl_mem hj
  have hx : (addF ls k).1.idxOf (gl ls k) = j := by
    have h1 : (addF ls k).1.idxOf (gl ls k) < (addF ls k).1.length := List.idxOf_lt_length_of_mem hm
    have h2 := List.getElem_idxOf h1
    rw [← gl_get h1] at h2
    have h3 : ¬ (addF ls k).1.idxOf (gl ls k) < j := fun h4 => hf _ h4 h2
    by_cases h5 : (addF ls k).1.idxOf (gl ls k) = j
    · exact h5
    · exfalso
      have h6 : j < (addF ls k).1.idxOf (gl ls k) := by omega
      have h7 := List.not_of_lt_findIdx (p := (· == gl ls k)) (xs := (addF ls k).1) (i := j) h6
      rw [← gl_get hj, he] at h7
      simp at h7
  rw [addF_step h, addStep, if_pos hm, hx]
theorem addF_no {ls : List (List Int)} {k : Nat} (h : k < ls.length) (hf : ∀ i, i < (addF ls k).1.length → gl (addF ls k).1 i ≠ gl ls k) :
    addF ls (k + 1) = ((addF ls k).1 ++ [gl ls k], (addF ls k).2 ++ [((addF ls k).1.length : Int)]) := by
  have hm : gl ls k ∉ (addF ls k).1 := fun hm => by
    obtain ⟨i, hi, he⟩ := List.mem_iff_getElem.1 hm
    exact hf i hi (by rw [gl_get hi]; exact he)
  rw [addF_step h, addStep, if_neg hm]
/-- what the lists so far and the places so far tell -/
theorem addF_inv (ls : List (List Int)) : ∀ k, k ≤ ls.length → (addF ls k).2.length = k ∧ (addF ls k).1.length ≤ k ∧ (1 ≤ k → 1 ≤ (addF ls k).1.length) ∧ (∀ l ∈ (addF ls k).1, l ∈ ls) ∧
    ∀ i, i < k → 0 ≤ gi (addF ls k).2 i ∧ gi (addF ls k).2 i < (addF ls k).1.length ∧ gl (addF ls k).1 (gi (addF ls k).2 i).toNat = gl ls i
  | 0, _ => ⟨rfl, Nat.zero_le _, fun h => by omega, fun l hl => (by cases hl), fun i hi => by omega⟩
  | k + 1, h => by
    obtain ⟨h1, h2, h3, h4, h5⟩ := addF_inv ls k (by omega)
    have hk : k < ls.length := by omega
    have giA : ∀ (ps : List Int) (y : Int) (i : Nat), i < ps.length → gi (ps ++ [y]) i = gi ps i := fun ps y i hi => by
      unfold gi; rw [List.getD_eq_getElem?_getD, List.getElem?_append_left hi, List.getD_eq_getElem?_getD]
    have giB : ∀ (ps : List Int) (y : Int), gi (ps ++ [y]) ps.length = y := fun ps y => by
      unfold gi; rw [List.getD_eq_getElem?_getD, List.getElem?_append_right (Nat.le_refl _)]; simp
    rw [addF_step hk, addStep]
    split
    · rename_i hm
      have hx := List.idxOf_lt_length_of_mem hm
      have he := List.getElem_idxOf hx
      refine ⟨by simp [h1], by simp only; omega, fun _ => by simp only; omega, h4, fun i hi => ?_⟩
      by_cases hik : i < k
      · simp only
        rw [giA _ _ _ (by omega)]
        exact h5 i hik
      · obtain rfl : i = k := by omega
        simp only
        have e1 : gi ((addF ls i).2 ++ [(((addF ls i).1.idxOf (gl ls i) : Nat) : Int)]) i = (((addF ls i).1.idxOf (gl ls i) : Nat) : Int) := by
          have := giB (addF ls i).2 (((addF ls i).1.idxOf (gl ls i) : Nat) : Int)
          rwa [h1] at this
        rw [e1, Int.toNat_natCast, gl_get hx, he]
        exact ⟨by omega, by omega, rfl⟩
    · rename_i hm
      refine ⟨by simp [h1], by simp only [List.length_append, List.length_singleton]; omega, fun _ => by simp, fun l hl => ?_, fun i hi => ?_⟩
      · rcases List.mem_append.1 hl with hl | hl
        · exact h4 l hl
        · rw [List.mem_singleton.1 hl]; exact gl_mem hk
      · simp only [List.length_append, List.length_singleton]
        by_cases hik : i < k
        · obtain ⟨g1, g2, g3⟩ := h5 i hik
          rw [giA _ _ _ (by omega)]
          refine ⟨g1, by omega, ?_⟩
          rw [← g3]
          unfold gl
          rw [List.getD_eq_getElem?_getD, List.getElem?_append_left (by omega), List.getD_eq_getElem?_getD]
        · obtain rfl : i = k := by omega
          have e1 : gi ((addF ls i).2 ++ [((addF ls i).1.length : Int)]) i = ((addF ls i).1.length : Int) := by
            have := giB (addF ls i).2 ((addF ls i).1.length : Int)
            rwa [h1] at this
          rw [e1]
          refine ⟨by omega, by omega, ?_⟩
          unfold gl
          rw [Int.toNat_natCast, List.getD_eq_getElem?_getD, List.getElem?_append_right (Nat.le_refl _)]
          simp
/-- the table that adds numbers -/
def rowA (m : Int) (l : List Int) (s : Nat) : List Int := l.map fun n => ((s : Int) + n) % m
def tabA (m : Int) (l : List Int) : List (List Int) := (List.range m.toNat).map (rowA m l)
def addCh (base m target : Int) (ls : List (List Int)) : Ch := ⟨base, m, 0, target, (addF ls ls.length).1.map (tabA m), (addF ls ls.length).2⟩
/-- lists that such a chain can be made of -/
structure AddOk (base m target : Int) (ls : List (List Int)) : Prop where
  b2 : 2 ≤ base
  b36 : base ≤ 36
  m1 : 1 ≤ m
  m36 : m ≤ 36
  t0 : 0 ≤ target
  t1 : target < m
  n1 : 1 ≤ ls.length
  n20 : ls.length ≤ 20
  pw : base ^ ls.length ≤ 1000000000000000
  len : ∀ l ∈ ls, (l.length : Int) = base
  nn : ∀ l ∈ ls, ∀ x ∈ l, 0 ≤ x ∧ x ≤ 1000000
section
variable {base m target : Int} {ls : List (List Int)}
theorem addCh_next (h : AddOk base m target ls) {p d x : Nat} (hp : p < ls.length) (hx : (x : Int) < m) (hd : (d : Int) < base) : nextS (addCh base m target ls) p x d = ((x : Int) + gi (gl ls p) d) % m := by
  obtain ⟨h1, h2, h3, h4, h5⟩ := addF_inv ls ls.length (Nat.le_refl _)
  obtain ⟨g1, g2, g3⟩ := h5 p hp
  unfold nextS addCh
  simp only [Int.toNat_natCast]
  have e1 : gm ((addF ls ls.length).1.map (tabA m)) (gi (addF ls ls.length).2 p).toNat = tabA m (gl ls p) := by
    rw [gm_get (by rw [List.length_map]; omega), List.getElem_map, ← gl_get, g3]
  have hl := h.len _ (gl_mem hp)
  rw [e1, tabA, gl_get (by simp; omega)]
  simp only [List.getElem_map, List.getElem_range, rowA]
  rw [gi_get (by rw [List.length_map]; omega), List.getElem_map, gi_get (by omega)]
theorem addCh_valid (h : AddOk base m target ls) : validCh (addCh base m target ls) = true := by
  obtain ⟨h1, h2, h3, h4, h5⟩ := addF_inv ls ls.length (Nat.le_refl _)
  have a1 := h.b2; have a2 := h.b36; have a3 := h.m1; have a4 := h.m36; have a5 := h.t0; have a6 := h.t1; have a7 := h.n1; have a8 := h.n20; have a9 := h.pw
  have h31 := h3 a7
  unfold validCh headCh powCh tabsCh placesCh
  simp only [Bool.and_eq_true, List.all_eq_true, decide_eq_true_eq, inB_t, addCh, List.length_map, h1]
  refine ⟨by omega, a9, fun t ht => ?_, fun k hk => ?_⟩
  · obtain ⟨l, hl, rfl⟩ := List.mem_map.1 ht
    unfold tabCh
    simp only [Bool.and_eq_true, List.all_eq_true, decide_eq_true_eq]
    refine ⟨by simp only [tabA, List.length_map, List.length_range]; omega, fun r hr => ?_⟩
    obtain ⟨s, hs, rfl⟩ := List.mem_map.1 hr
    unfold rowCh
    simp only [Bool.and_eq_true, List.all_eq_true, decide_eq_true_eq, inB_t]
    refine ⟨by simp only [rowA, List.length_map]; exact h.len l (h4 l hl), fun d hd => ?_⟩
    obtain ⟨n, _, rfl⟩ := List.mem_map.1 hd
    have := Int.emod_nonneg ((s : Int) + n) (show m ≠ 0 by omega)
    have := Int.emod_lt_of_pos ((s : Int) + n) (show 0 < m by omega)
    omega
  · obtain ⟨i, hi, rfl⟩ := List.mem_iff_getElem.1 hk
    rw [h1] at hi
    have := h5 i hi
    rw [gi_get (by omega)] at this
    omega
theorem addCh_small (h : AddOk base m target ls) : SmallCh (addCh base m target ls) := fun t ht => by
  obtain ⟨h1, h2, h3, h4, h5⟩ := addF_inv ls ls.length (Nat.le_refl _)
  have a1 := h.b2; have a2 := h.b36; have a3 := h.m1; have a4 := h.m36
  obtain ⟨l, hl, rfl⟩ := List.mem_map.1 ht
  refine ⟨by simp only [tabA, List.length_map, List.length_range]; omega, fun r hr => ?_⟩
  obtain ⟨s, hs, rfl⟩ := List.mem_map.1 hr
  have := h.len l (h4 l hl)
  simp only [rowA, List.length_map]; omega
end
end Go.Proofs.Ytohenfbgjjifbaa

/- Walks: chains of remainders, half made. -/
namespace Go.Proofs.Ytohenfbgjjifbaa
set_option maxRecDepth 100000
open Go.RowKit

/-- no row lies between two bounds -/
def Off (a : Option Addr) (lo hi : Nat) : Prop := ∀ g, a = some g → g.block < lo ∨ hi ≤ g.block
theorem Off.app {a a' : Option Addr} {lo hi n : Nat} (h : Off a lo hi) (hn : hi ≤ n) (hk : ∀ g, a' = some g → (∃ g', a = some g' ∧ g'.block = g.block) ∨ n ≤ g.block) : Off a' lo hi := fun g hg => by
  rcases hk g hg with ⟨g', h1, h2⟩ | h1
  · have := h g' h1; omega
  · exact .inr (by omega)
theorem keepB_grown {lo hi : Nat} {W W' : World} {a : Option Addr} {n c : Nat} (hg : W.grownBy W' (Value.slice a n c).ownBlock) (ho : Off a lo hi) (hh : hi ≤ W.heap.size) : KeepB lo hi W W' := fun r h1 h2 => by
  refine hg.block r (by omega) ?_
  cases a with
  | none => simp [Value.ownBlock]
  | some g => simp [Value.ownBlock]; have := ho g rfl; omega
/-- half made: block q holds the chain; the lists that are known -/
structure AI (w : World) (q : Nat) (b S st fi : Int) (v4 v5 : Value) (ad : Option Addr) (x cc : Nat) (vs : List Value) (tt : List (List (List Int))) (pd : Option Addr) (y pc : Nat) (pp : List Int) (kd : Option Addr) (z kc : Nat) (kv : List Value) (W : World) : Prop where
  s : SAt W q 34 #[.int .i64 b, .int .i64 S, .int .i64 st, .int .i64 fi, v4, v5]
  o : Own W w.heap.size 24 ad x cc vs
  p : Own W w.heap.size 2 pd y pc (I pp)
  k : Own W w.heap.size 28 kd z kc kv
  i : ∀ j, j < x → ∃ a' n' c' lo hi, gv vs j = .slice a' n' c' ∧ q < lo ∧ hi ≤ W.heap.size ∧ Off ad lo hi ∧ Off pd lo hi ∧ Off kd lo hi ∧ ∀ W', KeepB lo hi W W' → Mat W' a' n' c' (gm tt j)
  h : Ext w W
  q1 : w.heap.size ≤ q
section
variable {w : World} {q : Nat} {b S st fi : Int} {v4 v5 : Value} {ad : Option Addr} {x cc : Nat} {vs : List Value} {tt : List (List (List Int))} {pd : Option Addr} {y pc : Nat} {pp : List Int} {kd : Option Addr} {z kc : Nat} {kv : List Value} {W W' : World}
theorem own_blk {B : Nat} {E : TypeId} {a : Option Addr} {n c : Nat} {us : List Value} (h : Own W B E a n c us) : ∀ g, a = some g → g.block < W.heap.size := fun g hg => (h.blk g hg).2
theorem AI.ext (d : AI w q b S st fi v4 v5 ad x cc vs tt pd y pc pp kd z kc kv W) (hx : Ext W W') : AI w q b S st fi v4 v5 ad x cc vs tt pd y pc pp kd z kc kv W' :=
  ⟨d.s.ext hx, d.o.ext hx, d.p.ext hx, d.k.ext hx, fun j hj => by
    obtain ⟨a', n', c', lo, hi, h1, h2, h3, h4, h5, h6, h7⟩ := d.i j hj
    exact ⟨a', n', c', lo, hi, h1, h2, Nat.le_trans h3 hx.le, h4, h5, h6, fun W'' hk => h7 W'' ((KeepB.ext hx h3).trans hk)⟩, d.h.trans hx, d.q1⟩
theorem AI.set (d : AI w q b S st fi v4 v5 ad x cc vs tt pd y pc pp kd z kc kv W) (j : Nat) (u : Value) {b' S' st' fi' : Int} {v4' v5' : Value} (he : (#[Value.int .i64 b, .int .i64 S, .int .i64 st, .int .i64 fi, v4, v5]).setIfInBounds j u = #[.int .i64 b', .int .i64 S', .int .i64 st', .int .i64 fi', v4', v5']) :
    AI w q b' S' st' fi' v4' v5' ad x cc vs tt pd y pc pp kd z kc kv (W.setCell ⟨q, j, none⟩ u) := by
  have hs := d.s.set j u
  rw [he] at hs
  refine ⟨hs, d.o.setS d.s (by decide) j u, d.p.setS d.s (by decide) j u, d.k.setS d.s (by decide) j u, fun k hk => ?_, d.h.setCell d.q1 u, d.q1⟩
  obtain ⟨a', n', c', lo, hi, h1, h2, h3, h4, h5, h6, h7⟩ := d.i k hk
  exact ⟨a', n', c', lo, hi, h1, h2, by simpa [World.setCell] using h3, h4, h5, h6, fun W'' hK => h7 W'' (KeepB.trans (fun r h8 h9 => Below.heap_setCell W ⟨q, j, none⟩ u r (by simp only; omega)) hK)⟩
/-- a list more that is known -/
theorem AI.know (d : AI w q b S st fi v4 v5 ad x cc vs tt pd y pc pp kd z kc kv W) {kd' : Option Addr} {kc' : Nat} {kv' : List Value}
    (hb : Below w.heap.size W W') (hg : W.grownBy W' (Value.slice kd z kc).ownBlock) (ho : Own W' w.heap.size 28 kd' (z + 1) kc' kv') (hk : ∀ g, kd' = some g → (∃ g', kd = some g' ∧ g'.block = g.block) ∨ W.heap.size ≤ g.block) :
    AI w q b S st fi v4 v5 ad x cc vs tt pd y pc pp kd' (z + 1) kc' kv' W' := by
  refine ⟨d.s.grown hg (row_ne_s (d.k.ne_s d.s (by decide))), d.o.grownT d.k hg (by decide), d.p.grownT d.k hg (by decide), ho, fun j hj => ?_, d.h.below hb, d.q1⟩
  obtain ⟨a', n', c', lo, hi, h1, h2, h3, h4, h5, h6, h7⟩ := d.i j hj
  exact ⟨a', n', c', lo, hi, h1, h2, Nat.le_trans h3 hg.size, h4, h5, h6.app h3 hk, fun W'' hK => h7 W'' ((keepB_grown hg h6 h3).trans hK)⟩
/-- a place more -/
theorem AI.put (d : AI w q b S st fi v4 v5 ad x cc vs tt pd y pc pp kd z kc kv W) {pd' : Option Addr} {pc' : Nat} {u : Int}
    (hb : Below w.heap.size W W') (hg : W.grownBy W' (Value.slice pd y pc).ownBlock) (ho : Own W' w.heap.size 2 pd' (y + 1) pc' (I pp ++ [.int .i64 u])) (hk : ∀ g, pd' = some g → (∃ g', pd = some g' ∧ g'.block = g.block) ∨ W.heap.size ≤ g.block) :
    AI w q b S st fi v4 v5 ad x cc vs tt pd' (y + 1) pc' (pp ++ [u]) kd z kc kv W' := by
  refine ⟨d.s.grown hg (row_ne_s (d.p.ne_s d.s (by decide))), d.o.grownT d.p hg (by decide), by rw [I_append]; exact ho, d.k.grownT d.p hg (by decide), fun j hj => ?_, d.h.below hb, d.q1⟩
  obtain ⟨a', n', c', lo, hi, h1, h2, h3, h4, h5, h6, h7⟩ := d.i j hj
  exact ⟨a', n', c', lo, hi, h1, h2, Nat.le_trans h3 hg.size, h4, h5.app h3 hk, h6, fun W'' hK => h7 W'' ((keepB_grown hg h5 h3).trans hK)⟩
/-- a table more, laid from block B0 on -/
theorem AI.app (d : AI w q b S st fi v4 v5 ad x cc vs tt pd y pc pp kd z kc kv W) {B0 : Nat} {ad' a1 : Option Addr} {cc' n1 c1 : Nat} {t : List (List Int)} (htl : tt.length = x) (hnew : OwnMat W B0 28 2 a1 n1 c1 t) (hq : q < B0) (ha : ∀ g, ad = some g → g.block < B0) (hp : ∀ g, pd = some g → g.block < B0) (hkd : ∀ g, kd = some g → g.block < B0)
    (hb : Below w.heap.size W W') (hg : W.grownBy W' (Value.slice ad x cc).ownBlock) (ho : Own W' w.heap.size 24 ad' (x + 1) cc' (vs ++ [.slice a1 n1 c1])) (hk : ∀ g, ad' = some g → (∃ g', ad = some g' ∧ g'.block = g.block) ∨ W.heap.size ≤ g.block) :
    AI w q b S st fi v4 v5 ad' (x + 1) cc' (vs ++ [.slice a1 n1 c1]) (tt ++ [t]) pd y pc pp kd z kc kv W' := by
  have hvl := d.o.len
  refine ⟨d.s.grown hg (row_ne_s (d.o.ne_s d.s (by decide))), ho, d.p.grownT d.o hg (by decide), d.k.grownT d.o hg (by decide), fun j hj => ?_, d.h.below hb, d.q1⟩
  by_cases h : j < x
  · obtain ⟨a', n', c', lo, hi, h1, h2, h3, h4, h5, h6, h7⟩ := d.i j h
    refine ⟨a', n', c', lo, hi, (gv_lt (by omega)).trans h1, h2, Nat.le_trans h3 hg.size, h4.app h3 hk, h5, h6, fun W'' hK => ?_⟩
    rw [gm_lt (by omega)]
    exact h7 W'' ((keepB_grown hg h4 h3).trans hK)
  · obtain rfl : j = x := by omega
    have hoA : Off ad B0 W.heap.size := fun g hg' => .inl (ha g hg')
    refine ⟨a1, n1, c1, B0, W.heap.size, gv_last hvl, hq, hg.size, hoA.app (Nat.le_refl _) hk, fun g hg' => .inl (hp g hg'), fun g hg' => .inl (hkd g hg'), fun W'' hK => ?_⟩
    rw [gm_last htl]
    exact (hnew.keepB ((keepB_grown hg hoA (Nat.le_refl _)).trans hK)).mat
theorem AI.chIn (d : AI w q b S st fi v4 v5 ad x cc vs tt pd y pc pp kd z kc kv W) (htl : tt.length = x) (hx : x ≤ 20) (hy : y ≤ 20) (hsm : SmallCh ⟨b, S, st, fi, tt, pp⟩) : ChIn W ⟨b, S, st, fi, tt, pp⟩ ad x cc pd y pc :=
  ⟨⟨htl, vs, d.o.sl, fun j hj => by obtain ⟨a', n', c', lo, hi, h1, _, _, _, _, _, h7⟩ := d.i j hj; exact ⟨a', n', c', h1, h7 W (KeepB.refl _ _ _)⟩⟩, d.p.ints, by omega, by omega, hsm⟩
theorem AI.chInK (d : AI w q b S st fi v4 v5 ad x cc vs tt pd y pc pp kd z kc kv W) (htl : tt.length = x) (hx : x ≤ 20) (hy : y ≤ 20) (hsm : SmallCh ⟨b, S, st, fi, tt, pp⟩) (hk : KeepB w.heap.size W.heap.size W W') : ChIn W' ⟨b, S, st, fi, tt, pp⟩ ad x cc pd y pc :=
  ⟨⟨htl, vs, (Own.keepB d.o hk).sl, fun j hj => by obtain ⟨a', n', c', lo, hi, h1, h2, h3, _, _, _, h7⟩ := d.i j hj; exact ⟨a', n', c', h1, h7 W' (hk.mono (by have := d.q1; omega) h3)⟩⟩, (Own.keepB d.p hk).ints, by omega, by omega, hsm⟩
end
end Go.Proofs.Ytohenfbgjjifbaa

/- Walks: chains of remainders, in the program. -/
namespace Go.Proofs.Ytohenfbgjjifbaa
set_option maxRecDepth 100000
open Go.RowKit

theorem range_take2 {k n : Nat} (h : k ≤ n) : (List.range n).take k = List.range k := by rw [List.take_range, Nat.min_eq_left h]
set_option maxHeartbeats 1000000 in
theorem indexFunc_rows2 (a : Option Addr) (n c : Nat) (vs : List Value) (f : Nat) (caps : Array Value) (p : Nat → Bool) (w : World) (hv : Sl w a n c vs) (hn : n ≤ 4611686018427387904)
    (he : ∀ args w', (callFunc f args).run Try.prog w' = .ok (.enter f args) w') (hf : ∀ k, k < n → ∀ w', Ext w w' → Calls Try.prog f (#[gv vs k] ++ caps) w' (Ret (.bool (p k)) w')) :
    Calls Try.prog 82 #[.slice a n c, .func (.func f) #[] caps] w (Ret (.int .i64 (idx p (List.range n))) w) := by
  obtain ⟨b, off, hix, hcell⟩ := hv.ix (P := Try.prog) 24 28 und_rows cell_row1
  have Hhv := Lib.hid hv; clear hv; have Hhf := Lib.hid hf; clear hf
  go_enter Try.func82, Try.ntmps82
  go_wp2
  go_loopw [5, 8] (fun _ i wr => ∃ k : Nat, k ≤ n ∧ i = .int .i64 k ∧ NoneIn p (List.range k) ∧ Ext w wr) (fun _ i _ => n - (intOf i).toNat)
  case atStart => exact ⟨0, Nat.zero_le _, rfl, by simp [NoneIn], Ext.refl _⟩
  case round =>
    obtain ⟨k, hk, rfl, hp, hx⟩ := hrel
    have Hhp := Lib.hid hp; clear hp
    by_cases hlt : k < n
    · have HC := Lib.hid (Hhf.out k hlt wr hx)
      cases hpx : p k
      · rw [hpx] at HC
        have Hhpx := Lib.hid hpx; clear hpx
        go_wp2_with (refine HC.out.mono ?_; rintro e w' ⟨rfl, hx2⟩)
        exact ⟨⟨k + 1, by omega, by go_num, (fun y hy => by rw [List.range_succ, List.mem_append] at hy; rcases hy with hy | hy; exact Hhp.out y hy; simp at hy; subst hy; exact Hhpx.out), hx.trans hx2⟩, by simp [intOf]; omega⟩
      · rw [hpx] at HC
        have Hhpx := Lib.hid hpx; clear hpx
        go_wp2_with (refine HC.out.mono ?_; rintro e w' ⟨rfl, hx2⟩)
        go_ret
        exact ⟨ri (idx_hit (d := 0) (by rw [List.length_range]; exact hlt) (by simp [List.getD_eq_getElem?_getD, hlt]) Hhpx.out (by rw [range_take2 (by omega)]; exact Hhp.out)).symm, hx.trans hx2⟩
    · obtain rfl : k = n := by omega
      go_wp2
      go_ret
      exact ⟨ri (idx_none Hhp.out).symm, hx⟩
theorem rowA_step {m : Int} {s d : Nat} {l : List Int} (h : d < l.length) : (rowA m l s).take (d + 1) = (rowA m l s).take d ++ [((s : Int) + gi l d) % m] := by
  have h2 : d < (rowA m l s).length := by rw [rowA, List.length_map]; exact h
  rw [take_gi h2, gi_get h2]
  simp only [rowA, List.getElem_map, gi_get h]
theorem idx_cases {p : Nat → Bool} {n : Nat} : (idx p (List.range n) = -1 ∧ ∀ j, j < n → p j = false) ∨ ∃ j : Nat, j < n ∧ idx p (List.range n) = j ∧ p j = true ∧ ∀ i, i < j → p i = false := by
  unfold idx
  cases h : (List.range n).findIdx? p with
  | none =>
    left
    rw [List.findIdx?_eq_none_iff] at h
    exact ⟨rfl, fun j hj => h j (List.mem_range.2 hj)⟩
  | some j =>
    right
    rw [List.findIdx?_eq_some_iff_getElem] at h
    obtain ⟨h1, h2, h3⟩ := h
    rw [List.length_range] at h1
    refine ⟨j, h1, rfl, by simpa using h2, fun i hi => ?_⟩
    have := h3 i hi
    simpa using this
theorem AI.setZ {w : World} {q q1 : Nat} {b S st fi : Int} {v4 v5 : Value} {ad : Option Addr} {x cc : Nat} {vs : List Value} {tt : List (List (List Int))} {pd : Option Addr} {y pc : Nat} {pp : List Int} {kd : Option Addr} {z kc : Nat} {kv : List Value} {W : World} {zs : Array Value}
    (d : AI w q b S st fi v4 v5 ad x cc vs tt pd y pc pp kd z kc kv W) (hz : SAt W q1 34 zs) (hq : q1 < q) (hw : w.heap.size ≤ q1) (j : Nat) (u : Value) : AI w q b S st fi v4 v5 ad x cc vs tt pd y pc pp kd z kc kv (W.setCell ⟨q1, j, none⟩ u) := by
  refine ⟨d.s.other u (by simp only; omega), d.o.setS hz (by decide) j u, d.p.setS hz (by decide) j u, d.k.setS hz (by decide) j u, fun k hk => ?_, d.h.setCell hw u, d.q1⟩
  obtain ⟨a', n', c', lo, hi, h1, h2, h3, h4, h5, h6, h7⟩ := d.i k hk
  exact ⟨a', n', c', lo, hi, h1, h2, by simpa [World.setCell] using h3, h4, h5, h6, fun W'' hK => h7 W'' (KeepB.trans (fun r h8 h9 => Below.heap_setCell W ⟨q1, j, none⟩ u r (by simp only; omega)) hK)⟩
/-- a chain -/
def RetCh (D : Ch) (w : World) (e : Ending) (w' : World) : Prop :=
  ∃ a x c b y d, e = .returned (.agg #[.int .i64 D.base, .int .i64 D.states, .int .i64 D.start, .int .i64 D.fin, .slice a x c, .slice b y d]) ∧ ChIn w' D a x c b y d ∧ Ext w w'
/-- a chain whose blocks are all of the call's own -/
def RetChO (D : Ch) (w : World) (e : Ending) (w' : World) : Prop :=
  ∃ a x c b y d, e = .returned (.agg #[.int .i64 D.base, .int .i64 D.states, .int .i64 D.start, .int .i64 D.fin, .slice a x c, .slice b y d]) ∧ (∀ V, KeepB w.heap.size w'.heap.size w' V → ChIn V D a x c b y d) ∧ Ext w w'
/-- a chain, and yes -/
def RetChB (D : Ch) (w : World) (e : Ending) (w' : World) : Prop :=
  ∃ a x c b y d, e = .returned (.tuple #[.agg #[.int .i64 D.base, .int .i64 D.states, .int .i64 D.start, .int .i64 D.fin, .slice a x c, .slice b y d], .bool true]) ∧ ChIn w' D a x c b y d ∧ Ext w w'
theorem idx_geR {p : Nat → Bool} {n : Nat} : decide (idx p (List.range n) ≥ 0) = (List.range n).any p := by
  rcases idx_cases (p := p) (n := n) with ⟨h, h2⟩ | ⟨j, hj, h, h2, _⟩
  · rw [h, List.any_eq_false.2 fun x hx => by rw [h2 x (List.mem_range.1 hx)]; simp]; rfl
  · rw [h, List.any_eq_true.2 ⟨j, List.mem_range.2 hj, h2⟩]; simp
set_option maxHeartbeats 400000 in
theorem containsFunc_rows2 (a : Option Addr) (n c : Nat) (vs : List Value) (f : Nat) (caps : Array Value) (p : Nat → Bool) (w : World) (hv : Sl w a n c vs) (hn : n ≤ 4611686018427387904)
    (he : ∀ args w', (callFunc f args).run Try.prog w' = .ok (.enter f args) w') (hf : ∀ k, k < n → ∀ w', Ext w w' → Calls Try.prog f (#[gv vs k] ++ caps) w' (Ret (.bool (p k)) w')) :
    Calls Try.prog 74 #[.slice a n c, .func (.func f) #[] caps] w (Ret (.bool ((List.range n).any p)) w) := by
  have HC := Lib.hid (indexFunc_rows2 a n c vs f caps p w hv hn he hf)
  have HA := Lib.hid (idx_geR (p := p) (n := n))
  clear hv he hf
  go_enter Try.func74, Try.ntmps74
  go_wp2_with (refine HC.out.mono ?_; rintro e w' ⟨rfl, hx2⟩)
  go_ret
  exact ⟨rb HA.out, hx2⟩
end Go.Proofs.Ytohenfbgjjifbaa
