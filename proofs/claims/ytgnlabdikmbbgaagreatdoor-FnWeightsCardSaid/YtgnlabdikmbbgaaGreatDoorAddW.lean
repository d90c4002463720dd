/- Plain: chains of remainders, to which each place adds what a list tells of its symbol. -/
import Derived.Test.YtgnlabdikmbbgaaGreatDoorChW
import Derived.Test.YtgnlabdikmbbgaaGreatDoorSAt
import Derived.Test.YtgnlabdikmbbgaaGreatDoorMix2
namespace Go.Proofs.YtgnlabdikmbbgaaGreatDoor
set_option maxRecDepth 100000
open Go.RowKit

/-- one list more: the lists so far, the places so far -/
def addStep (s : List (List Int) × List Int) (l : List Int) : List (List Int) × List Int :=
  if l ∈ s.1 then (s.1, s.2 ++ [((s.1.idxOf l : Nat) : Int)]) else (s.1 ++ [l], s.2 ++ [((s.1.length : Nat) : Int)])
def addF (ls : List (List Int)) (k : Nat) : List (List Int) × List Int := (ls.take k).foldl addStep ([], [])
theorem addF_step {ls : List (List Int)} {k : Nat} (h : k < ls.length) : addF ls (k + 1) = addStep (addF ls k) (gl ls k) := by
  unfold addF; rw [take_gl h, List.foldl_append]; rfl
theorem gl_get {l : List (List Int)} {k : Nat} (h : k < l.length) : gl l k = l[k] := by simp [gl, h]
theorem gm_get {l : List (List (List Int))} {k : Nat} (h : k < l.length) : gm l k = l[k] := by simp [gm, h]
theorem addF_yes {ls : List (List Int)} {k j : Nat} (h : k < ls.length) (hj : j < (addF ls k).1.length) (he : gl (addF ls k).1 j = gl ls k) (hf : ∀ i, i < j → gl (addF ls k).1 i ≠ gl ls k) :
    addF ls (k + 1) = ((addF ls k).1, (addF ls k).2 ++ [(j : Int)]) := by
  have hm : gl ls k ∈ (addF ls k).1 := by rw [← he]; exact gl_mem hj
  have hx : (addF ls k).1.idxOf (gl ls k) = j := by
    have h1 : (addF ls k).1.idxOf (gl ls k) < (addF ls k).1.length := List.idxOf_lt_length_of_mem hm
    have h2 := List.getElem_idxOf h1
    rw [← gl_get h1] at h2
    have h3 : ¬ (addF ls k).1.idxOf (gl ls k) < j := fun h4 => hf _ h4 h2
    by_cases h5 : (addF ls k).1.idxOf (gl ls k) = j
    · exact h5
    · exfalso
      have h6 : j < (addF ls k).1.idxOf (gl ls k) := by omega
      have h7 := List.not_of_lt_findIdx (p := (· == gl ls k)) (xs := (addF ls k).1) (i := j) h6
      rw [← gl_get hj, he] at h7
      simp at h7
  rw [addF_step h, addStep, if_pos hm, hx]
theorem addF_no {ls : List (List Int)} {k : Nat} (h : k < ls.length) (hf : ∀ i, i < (addF ls k).1.length → gl (addF ls k).1 i ≠ gl ls k) :
    addF ls (k + 1) = ((addF ls k).1 ++ [gl ls k], (addF ls k).2 ++ [((addF ls k).1.length : Int)]) := by
  have hm : gl ls k ∉ (addF ls k).1 := fun hm => by
    obtain ⟨i, hi, he⟩ := List.mem_iff_getElem.1 hm
    exact hf i hi (by rw [gl_get hi]; exact he)
  rw [addF_step h, addStep, if_neg hm]
/-- what the lists so far and the places so far tell -/
theorem addF_inv (ls : List (List Int)) : ∀ k, k ≤ ls.length → (addF ls k).2.length = k ∧ (addF ls k).1.length ≤ k ∧ (1 ≤ k → 1 ≤ (addF ls k).1.length) ∧ (∀ l ∈ (addF ls k).1, l ∈ ls) ∧
    ∀ i, i < k → 0 ≤ gi (addF ls k).2 i ∧ gi (addF ls k).2 i < (addF ls k).1.length ∧ gl (addF ls k).1 (gi (addF ls k).2 i).toNat = gl ls i
  | 0, _ => ⟨rfl, Nat.zero_le _, fun h => by omega, fun l hl => (by cases hl), fun i hi => by omega⟩
  | k + 1, h => by
    obtain ⟨h1, h2, h3, h4, h5⟩ := addF_inv ls k (by omega)
    have hk : k < ls.length := by omega
    have giA : ∀ (ps : List Int) (y : Int) (i : Nat), i < ps.length → gi (ps ++ [y]) i = gi ps i := fun ps y i hi => by
      unfold gi; rw [List.getD_eq_getElem?_getD, List.getElem?_append_left hi, List.getD_eq_getElem?_getD]
    have giB : ∀ (ps : List Int) (y : Int), gi (ps ++ [y]) ps.length = y := fun ps y => by
      unfold gi; rw [List.getD_eq_getElem?_getD, List.getElem?_append_right (Nat.le_refl _)]; simp
    rw [addF_step hk, addStep]
    split
    · rename_i hm
      have hx := List.idxOf_lt_length_of_mem hm
      have he := List.getElem_idxOf hx
      refine ⟨by simp [h1], by simp only; omega, fun _ => by simp only; omega, h4, fun i hi => ?_⟩
      by_cases hik : i < k
      · simp only
        rw [giA _ _ _ (by omega)]
        exact h5 i hik
      · obtain rfl : i = k := by omega
        simp only
        have e1 : gi ((addF ls i).2 ++ [(((addF ls i).1.idxOf (gl ls i) : Nat) : Int)]) i = (((addF ls i).1.idxOf (gl ls i) : Nat) : Int) := by
          have := giB (addF ls i).2 (((addF ls i).1.idxOf (gl ls i) : Nat) : Int)
          rwa [h1] at this
        rw [e1, Int.toNat_natCast, gl_get hx, he]
        exact ⟨by omega, by omega, rfl⟩
    · rename_i hm
      refine ⟨by simp [h1], by simp only [List.length_append, List.length_singleton]; omega, fun _ => by simp, fun l hl => ?_, fun i hi => ?_⟩
      · rcases List.mem_append.1 hl with hl | hl
        · exact h4 l hl
        · rw [List.mem_singleton.1 hl]; exact gl_mem hk
      · simp only [List.length_append, List.length_singleton]
        by_cases hik : i < k
        · obtain ⟨g1, g2, g3⟩ := h5 i hik
          rw [giA _ _ _ (by omega)]
          refine ⟨g1, by omega, ?_⟩
          rw [← g3]
          unfold gl
          rw [List.getD_eq_getElem?_getD, List.getElem?_append_left (by omega), List.getD_eq_getElem?_getD]
        · obtain rfl : i = k := by omega
          have e1 : gi ((addF ls i).2 ++ [((addF ls i).1.length : Int)]) i = ((addF ls i).1.length : Int) := by
            have := giB (addF ls i).2 ((addF ls i).1.length : Int)
            rwa [h1] at this
          rw [e1]
          refine ⟨by omega, by omega, ?_⟩
          unfold gl
          rw [Int.toNat_natCast, List.getD_eq_getElem?_getD, List.getElem?_append_right (Nat.le_refl _)]
          simp
/-- the table that adds numbers -/
def rowA (m : Int) (l : List Int) (s : Nat) : List Int := l.map fun n => ((s : Int) + n) % m
def tabA (m : Int) (l : List Int) : List (List Int) := (List.range m.toNat).map (rowA m l)
def addCh (base m target : Int) (ls : List (List Int)) : Ch := ⟨base, m, 0, target, (addF ls ls.length).1.map (tabA m), (addF ls ls.length).2⟩
/-- lists that such a chain can be made of -/
structure AddOk (base m target : Int) (ls : List (List Int)) : Prop where
  b2 : 2 ≤ base
  b36 : base ≤ 36
  m1 : 1 ≤ m
  m36 : m ≤ 36
  t0 : 0 ≤ target
  t1 : target < m
  n1 : 1 ≤ ls.length
  n20 : ls.length ≤ 20
  pw : base ^ ls.length ≤ 1000000000000000
  len : ∀ l ∈ ls, (l.length : Int) = base
  nn : ∀ l ∈ ls, ∀ x ∈ l, 0 ≤ x ∧ x ≤ 1000000
section
variable {base m target : Int} {ls : List (List Int)}
theorem addCh_next (h : AddOk base m target ls) {p d x : Nat} (hp : p < ls.length) (hx : (x : Int) < m) (hd : (d : Int) < base) : nextS (addCh base m target ls) p x d = ((x : Int) + gi (gl ls p) d) % m := by
  obtain ⟨h1, h2, h3, h4, h5⟩ := addF_inv ls ls.length (Nat.le_refl _)
  obtain ⟨g1, g2, g3⟩ := h5 p hp
  unfold nextS addCh
  simp only [Int.toNat_natCast]
  have e1 : gm ((addF ls ls.length).1.map (tabA m)) (gi (addF ls ls.length).2 p).toNat = tabA m (gl ls p) := by
    rw [gm_get (by rw [List.length_map]; omega), List.getElem_map, ← gl_get, g3]
  have hl := h.len _ (gl_mem hp)
  rw [e1, tabA, gl_get (by simp; omega)]
  simp only [List.getElem_map, List.getElem_range, rowA]
  rw [gi_get (by rw [List.length_map]; omega), List.getElem_map, gi_get (by omega)]
theorem addCh_valid (h : AddOk base m target ls) : validCh (addCh base m target ls) = true := by
  obtain ⟨h1, h2, h3, h4, h5⟩ := addF_inv ls ls.length (Nat.le_refl _)
  have a1 := h.b2; have a2 := h.b36; have a3 := h.m1; have a4 := h.m36; have a5 := h.t0; have a6 := h.t1; have a7 := h.n1; have a8 := h.n20; have a9 := h.pw
  have h31 := h3 a7
  unfold validCh headCh powCh tabsCh placesCh
  simp only [Bool.and_eq_true, List.all_eq_true, decide_eq_true_eq, inB_t, addCh, List.length_map, h1]
  refine ⟨by omega, a9, fun t ht => ?_, fun k hk => ?_⟩
  · obtain ⟨l, hl, rfl⟩ := List.mem_map.1 ht
    unfold tabCh
    simp only [Bool.and_eq_true, List.all_eq_true, decide_eq_true_eq]
    refine ⟨by simp only [tabA, List.length_map, List.length_range]; omega, fun r hr => ?_⟩
    obtain ⟨s, hs, rfl⟩ := List.mem_map.1 hr
    unfold rowCh
    simp only [Bool.and_eq_true, List.all_eq_true, decide_eq_true_eq, inB_t]
    refine ⟨by simp only [rowA, List.length_map]; exact h.len l (h4 l hl), fun d hd => ?_⟩
    obtain ⟨n, _, rfl⟩ := List.mem_map.1 hd
    have := Int.emod_nonneg ((s : Int) + n) (show m ≠ 0 by omega)
    have := Int.emod_lt_of_pos ((s : Int) + n) (show 0 < m by omega)
    omega
  · obtain ⟨i, hi, rfl⟩ := List.mem_iff_getElem.1 hk
    rw [h1] at hi
    have := h5 i hi
    rw [gi_get (by omega)] at this
    omega
theorem addCh_small (h : AddOk base m target ls) : SmallCh (addCh base m target ls) := fun t ht => by
  obtain ⟨h1, h2, h3, h4, h5⟩ := addF_inv ls ls.length (Nat.le_refl _)
  have a1 := h.b2; have a2 := h.b36; have a3 := h.m1; have a4 := h.m36
  obtain ⟨l, hl, rfl⟩ := List.mem_map.1 ht
  refine ⟨by simp only [tabA, List.length_map, List.length_range]; omega, fun r hr => ?_⟩
  obtain ⟨s, hs, rfl⟩ := List.mem_map.1 hr
  have := h.len l (h4 l hl)
  simp only [rowA, List.length_map]; omega
end
end Go.Proofs.YtgnlabdikmbbgaaGreatDoor

/- Walks: chains of remainders, half made. -/
namespace Go.Proofs.YtgnlabdikmbbgaaGreatDoor
set_option maxRecDepth 100000
open Go.RowKit

/-- no row lies between two bounds -/
def Off (a : Option Addr) (lo hi : Nat) : Prop := ∀ g, a = some g → g.block < lo ∨ hi ≤ g.block
theorem Off.app {a a' : Option Addr} {lo hi n : Nat} (h : Off a lo hi) (hn : hi ≤ n) (hk : ∀ g, a' = some g → (∃ g', a = some g' ∧ g'.block = g.block) ∨ n ≤ g.block) : Off a' lo hi := fun g hg => by
  rcases hk g hg with ⟨g', h1, h2⟩ | h1
  · have := h g' h1; omega
  · exact .inr (by omega)
theorem keepB_grown {lo hi : Nat} {W W' : World} {a : Option Addr} {n c : Nat} (hg : W.grownBy W' (Value.slice a n c).ownBlock) (ho : Off a lo hi) (hh : hi ≤ W.heap.size) : KeepB lo hi W W' := fun r h1 h2 => by
  refine hg.block r (by omega) ?_
  cases a with
  | none => simp [Value.ownBlock]
  | some g => simp [Value.ownBlock]; have := ho g rfl; omega
/-- half made: block q holds the chain; the lists that are known -/
structure AI (w : World) (q : Nat) (b S st fi : Int) (v4 v5 : Value) (ad : Option Addr) (x cc : Nat) (vs : List Value) (tt : List (List (List Int))) (pd : Option Addr) (y pc : Nat) (pp : List Int) (kd : Option Addr) (z kc : Nat) (kv : List Value) (W : World) : Prop where
  s : SAt W q 31 #[.int .i64 b, .int .i64 S, .int .i64 st, .int .i64 fi, v4, v5]
  o : Own W w.heap.size 114 ad x cc vs
  p : Own W w.heap.size 2 pd y pc (I pp)
  k : Own W w.heap.size 24 kd z kc kv
  i : ∀ j, j < x → ∃ a' n' c' lo hi, gv vs j = .slice a' n' c' ∧ q < lo ∧ hi ≤ W.heap.size ∧ Off ad lo hi ∧ Off pd lo hi ∧ Off kd lo hi ∧ ∀ W', KeepB lo hi W W' → Mat W' a' n' c' (gm tt j)
  h : Ext w W
  q1 : w.heap.size ≤ q
section
variable {w : World} {q : Nat} {b S st fi : Int} {v4 v5 : Value} {ad : Option Addr} {x cc : Nat} {vs : List Value} {tt : List (List (List Int))} {pd : Option Addr} {y pc : Nat} {pp : List Int} {kd : Option Addr} {z kc : Nat} {kv : List Value} {W W' : World}
theorem own_blk {B : Nat} {E : TypeId} {a : Option Addr} {n c : Nat} {us : List Value} (h : Own W B E a n c us) : ∀ g, a = some g → g.block < W.heap.size := fun g hg => (h.blk g hg).2
theorem AI.ext (d : AI w q b S st fi v4 v5 ad x cc vs tt pd y pc pp kd z kc kv W) (hx : Ext W W') : AI w q b S st fi v4 v5 ad x cc vs tt pd y pc pp kd z kc kv W' :=
  ⟨d.s.ext hx, d.o.ext hx, d.p.ext hx, d.k.ext hx, fun j hj => by
    obtain ⟨a', n', c', lo, hi, h1, h2, h3, h4, h5, h6, h7⟩ := d.i j hj
    exact ⟨a', n', c', lo, hi, h1, h2, Nat.le_trans h3 hx.le, h4, h5, h6, fun W'' hk => h7 W'' ((KeepB.ext hx h3).trans hk)⟩, d.h.trans hx, d.q1⟩
theorem AI.set (d : AI w q b S st fi v4 v5 ad x cc vs tt pd y pc pp kd z kc kv W) (j : Nat) (u : Value) {b' S' st' fi' : Int} {v4' v5' : Value} (he : (#[Value.int .i64 b, .int .i64 S, .int .i64 st, .int .i64 fi, v4, v5]).setIfInBounds j u = #[.int .i64 b', .int .i64 S', .int .i64 st', .int .i64 fi', v4', v5']) :
    AI w q b' S' st' fi' v4' v5' ad x cc vs tt pd y pc pp kd z kc kv (W.setCell ⟨q, j, none⟩ u) := by
  have hs := d.s.set j u
  rw [he] at hs
  refine ⟨hs, d.o.setS d.s (by decide) j u, d.p.setS d.s (by decide) j u, d.k.setS d.s (by decide) j u, fun k hk => ?_, d.h.setCell d.q1 u, d.q1⟩
  obtain ⟨a', n', c', lo, hi, h1, h2, h3, h4, h5, h6, h7⟩ := d.i k hk
  exact ⟨a', n', c', lo, hi, h1, h2, by simpa [World.setCell] using h3, h4, h5, h6, fun W'' hK => h7 W'' (KeepB.trans (fun r h8 h9 => Below.heap_setCell W ⟨q, j, none⟩ u r (by simp only; omega)) hK)⟩
/-- a list more that is known -/
theorem AI.know (d : AI w q b S st fi v4 v5 ad x cc vs tt pd y pc pp kd z kc kv W) {kd' : Option Addr} {kc' : Nat} {kv' : List Value}
    (hb : Below w.heap.size W W') (hg : W.grownBy W' (Value.slice kd z kc).ownBlock) (ho : Own W' w.heap.size 24 kd' (z + 1) kc' kv') (hk : ∀ g, kd' = some g → (∃ g', kd = some g' ∧ g'.block = g.block) ∨ W.heap.size ≤ g.block) :
    AI w q b S st fi v4 v5 ad x cc vs tt pd y pc pp kd' (z + 1) kc' kv' W' := by
  refine ⟨d.s.grown hg (row_ne_s (d.k.ne_s d.s (by decide))), d.o.grownT d.k hg (by decide), d.p.grownT d.k hg (by decide), ho, fun j hj => ?_, d.h.below hb, d.q1⟩
  obtain ⟨a', n', c', lo, hi, h1, h2, h3, h4, h5, h6, h7⟩ := d.i j hj
  exact ⟨a', n', c', lo, hi, h1, h2, Nat.le_trans h3 hg.size, h4, h5, h6.app h3 hk, fun W'' hK => h7 W'' ((keepB_grown hg h6 h3).trans hK)⟩
/-- a place more -/
theorem AI.put (d : AI w q b S st fi v4 v5 ad x cc vs tt pd y pc pp kd z kc kv W) {pd' : Option Addr} {pc' : Nat} {u : Int}
    (hb : Below w.heap.size W W') (hg : W.grownBy W' (Value.slice pd y pc).ownBlock) (ho : Own W' w.heap.size 2 pd' (y + 1) pc' (I pp ++ [.int .i64 u])) (hk : ∀ g, pd' = some g → (∃ g', pd = some g' ∧ g'.block = g.block) ∨ W.heap.size ≤ g.block) :
    AI w q b S st fi v4 v5 ad x cc vs tt pd' (y + 1) pc' (pp ++ [u]) kd z kc kv W' := by
  refine ⟨d.s.grown hg (row_ne_s (d.p.ne_s d.s (by decide))), d.o.grownT d.p hg (by decide), by rw [I_append]; exact ho, d.k.grownT d.p hg (by decide), fun j hj => ?_, d.h.below hb, d.q1⟩
  obtain ⟨a', n', c', lo, hi, h1, h2, h3, h4, h5, h6, h7⟩ := d.i j hj
  exact ⟨a', n', c', lo, hi, h1, h2, Nat.le_trans h3 hg.size, h4, h5.app h3 hk, h6, fun W'' hK => h7 W'' ((keepB_grown hg h5 h3).trans hK)⟩
/-- a table more, laid from block B0 on -/
theorem AI.app (d : AI w q b S st fi v4 v5 ad x cc vs tt pd y pc pp kd z kc kv W) {B0 : Nat} {ad' a1 : Option Addr} {cc' n1 c1 : Nat} {t : List (List Int)} (htl : tt.length = x) (hnew : OwnMat W B0 24 2 a1 n1 c1 t) (hq : q < B0) (ha : ∀ g, ad = some g → g.block < B0) (hp : ∀ g, pd = some g → g.block < B0) (hkd : ∀ g, kd = some g → g.block < B0)
    (hb : Below w.heap.size W W') (hg : W.grownBy W' (Value.slice ad x cc).ownBlock) (ho : Own W' w.heap.size 114 ad' (x + 1) cc' (vs ++ [.slice a1 n1 c1])) (hk : ∀ g, ad' = some g → (∃ g', ad = some g' ∧ g'.block = g.block) ∨ W.heap.size ≤ g.block) :
    AI w q b S st fi v4 v5 ad' (x + 1) cc' (vs ++ [.slice a1 n1 c1]) (tt ++ [t]) pd y pc pp kd z kc kv W' := by
  have hvl := d.o.len
  refine ⟨d.s.grown hg (row_ne_s (d.o.ne_s d.s (by decide))), ho, d.p.grownT d.o hg (by decide), d.k.grownT d.o hg (by decide), fun j hj => ?_, d.h.below hb, d.q1⟩
  by_cases h : j < x
  · obtain ⟨a', n', c', lo, hi, h1, h2, h3, h4, h5, h6, h7⟩ := d.i j h
    refine ⟨a', n', c', lo, hi, (gv_lt (by omega)).trans h1, h2, Nat.le_trans h3 hg.size, h4.app h3 hk, h5, h6, fun W'' hK => ?_⟩
    rw [gm_lt (by omega)]
    exact h7 W'' ((keepB_grown hg h4 h3).trans hK)
  · obtain rfl : j = x := by omega
    have hoA : Off ad B0 W.heap.size := fun g hg' => .inl (ha g hg')
    refine ⟨a1, n1, c1, B0, W.heap.size, gv_last hvl, hq, hg.size, hoA.app (Nat.le_refl _) hk, fun g hg' => .inl (hp g hg'), fun g hg' => .inl (hkd g hg'), fun W'' hK => ?_⟩
    rw [gm_last htl]
    exact (hnew.keepB ((keepB_grown hg hoA (Nat.le_refl _)).trans hK)).mat
theorem AI.chIn (d : AI w q b S st fi v4 v5 ad x cc vs tt pd y pc pp kd z kc kv W) (htl : tt.length = x) (hx : x ≤ 20) (hy : y ≤ 20) (hsm : SmallCh ⟨b, S, st, fi, tt, pp⟩) : ChIn W ⟨b, S, st, fi, tt, pp⟩ ad x cc pd y pc :=
  ⟨⟨htl, vs, d.o.sl, fun j hj => by obtain ⟨a', n', c', lo, hi, h1, _, _, _, _, _, h7⟩ := d.i j hj; exact ⟨a', n', c', h1, h7 W (KeepB.refl _ _ _)⟩⟩, d.p.ints, by omega, by omega, hsm⟩
theorem AI.chInK (d : AI w q b S st fi v4 v5 ad x cc vs tt pd y pc pp kd z kc kv W) (htl : tt.length = x) (hx : x ≤ 20) (hy : y ≤ 20) (hsm : SmallCh ⟨b, S, st, fi, tt, pp⟩) (hk : KeepB w.heap.size W.heap.size W W') : ChIn W' ⟨b, S, st, fi, tt, pp⟩ ad x cc pd y pc :=
  ⟨⟨htl, vs, (Own.keepB d.o hk).sl, fun j hj => by obtain ⟨a', n', c', lo, hi, h1, h2, h3, _, _, _, h7⟩ := d.i j hj; exact ⟨a', n', c', h1, h7 W' (hk.mono (by have := d.q1; omega) h3)⟩⟩, (Own.keepB d.p hk).ints, by omega, by omega, hsm⟩
end
end Go.Proofs.YtgnlabdikmbbgaaGreatDoor

/- Walks: chains of remainders, in the program. -/
namespace Go.Proofs.YtgnlabdikmbbgaaGreatDoor
set_option maxRecDepth 100000
open Go.RowKit

set_option maxHeartbeats 1000000 in
theorem equal_i2 (a a' : Option Addr) (n n' c c' : Nat) (l l' : List Int) (w : World) (hv : Ints w a n c l) (hv' : Ints w a' n' c' l') (hn : n ≤ 4611686018427387904) :
    Calls Tryz.prog 104 #[.slice a n c, .slice a' n' c'] w (Ret (.bool (decide (l = l'))) w) := by
  have HL := Lib.hid hv.len
  have HL' := Lib.hid hv'.len
  by_cases he : n = n'
  · subst he
    obtain ⟨b, off, hix, hcell⟩ := hv.ix (P := Tryz.prog) 24 2 und_int64s cell_int64
    obtain ⟨b', off', hix', hcell'⟩ := hv'.ix (P := Tryz.prog) 24 2 und_int64s cell_int64
    have Hhv := Lib.hid hv; clear hv; have Hhv' := Lib.hid hv'; clear hv'
    go_enter Tryz.func104, Tryz.ntmps104
    go_wp2
    go_loopw [5, 13] (fun _ i wr => ∃ k : Nat, k ≤ n ∧ i = .int .i64 k ∧ l.take k = l'.take k ∧ Ext w wr) (fun _ i _ => n - (intOf i).toNat)
    case atStart => exact ⟨0, Nat.zero_le _, rfl, rfl, Ext.refl _⟩
    case round =>
      obtain ⟨k, hk, rfl, hp, hx⟩ := hrel
      have Hhp := Lib.hid hp; clear hp
      by_cases hlt : k < n
      · have HT := Lib.hid (take_gi (l := l) (k := k) (by rw [HL.out]; exact hlt))
        have HT' := Lib.hid (take_gi (l := l') (k := k) (by rw [HL'.out]; exact hlt))
        go_wp2
        (refine wp_region_up (by kernel_rfl) (by kernel_rfl) (by kernel_rfl) ?_; (repeat (first | (refine mix_q rfl ?_; go_big_quiet_step (fail); refine wpQuiet_nil ?_; show wpMix _ _ _ _ _ _ _) | (refine mix_s rfl ?_; go_wp2_with (fail); first | refine ⟨up_of (by repeat (first | (with_reducible exact Ext.refl _) | (with_reducible refine Ext.drewN ?_ _) | (with_reducible refine Ext.drew ?_) | (with_reducible refine Ext.alloc ?_ _) | ((with_reducible refine Ext.setCell ?_ ?_ _); rotate_left; focus (first | (simp; done) | (simp; omega) | omega)) | assumption | (with_reducible refine Ext.trans ?_ (by assumption)))), ?_⟩ | refine ⟨rfl, rfl, up_of (by repeat (first | (with_reducible exact Ext.refl _) | (with_reducible refine Ext.drewN ?_ _) | (with_reducible refine Ext.drew ?_) | (with_reducible refine Ext.alloc ?_ _) | ((with_reducible refine Ext.setCell ?_ ?_ _); rotate_left; focus (first | (simp; done) | (simp; omega) | omega)) | assumption | (with_reducible refine Ext.trans ?_ (by assumption)))), ?_⟩))); refine mix_nil ?_)
        go_wp2
        · have h1 : (gi l k != gi l' k) = true := by assumption
          go_ret
          refine ⟨rb ?_, (by repeat (first | (with_reducible exact Ext.refl _) | (with_reducible refine Ext.drewN ?_ _) | (with_reducible refine Ext.drew ?_) | (with_reducible refine Ext.alloc ?_ _) | ((with_reducible refine Ext.setCell ?_ ?_ _); rotate_left; focus (first | (simp; done) | (simp; omega) | omega)) | assumption | (with_reducible refine Ext.trans ?_ (by assumption))))⟩
          have hne : ¬ l = l' := fun h => by subst h; simp at h1
          simp [hne]
        · have h1 : (gi l k != gi l' k) = false := by assumption
          have h2 : gi l k = gi l' k := by simpa using h1
          exact ⟨⟨k + 1, by omega, by go_num, by rw [HT.out, HT'.out, Hhp.out, h2], (by repeat (first | (with_reducible exact Ext.refl _) | (with_reducible refine Ext.drewN ?_ _) | (with_reducible refine Ext.drew ?_) | (with_reducible refine Ext.alloc ?_ _) | ((with_reducible refine Ext.setCell ?_ ?_ _); rotate_left; focus (first | (simp; done) | (simp; omega) | omega)) | assumption | (with_reducible refine Ext.trans ?_ (by assumption))))⟩, by simp [intOf]; omega⟩
      · go_wp2
        go_ret
        refine ⟨rb ?_, hx⟩
        have := Hhp.out
        rw [take_full (by rw [HL.out]; omega), take_full (by rw [HL'.out]; omega)] at this
        simp [this]
  · have hne : l ≠ l' := fun h => he (by rw [← HL.out, ← HL'.out, h])
    have HN := Lib.hid hne
    have hb : ((n : Int) != (n' : Int)) = true := by simp; omega
    clear hne hv hv' he
    go_enter Tryz.func104, Tryz.ntmps104
    go_wp2
    go_ret
    exact ⟨rb (by simp [HN.out]), Ext.refl _⟩
theorem range_take2 {k n : Nat} (h : k ≤ n) : (List.range n).take k = List.range k := by rw [List.take_range, Nat.min_eq_left h]
set_option maxHeartbeats 1000000 in
theorem indexFunc_rows2 (a : Option Addr) (n c : Nat) (vs : List Value) (f : Nat) (caps : Array Value) (p : Nat → Bool) (w : World) (hv : Sl w a n c vs) (hn : n ≤ 4611686018427387904)
    (he : ∀ args w', (callFunc f args).run Tryz.prog w' = .ok (.enter f args) w') (hf : ∀ k, k < n → ∀ w', Ext w w' → Calls Tryz.prog f (#[gv vs k] ++ caps) w' (Ret (.bool (p k)) w')) :
    Calls Tryz.prog 102 #[.slice a n c, .func (.func f) #[] caps] w (Ret (.int .i64 (idx p (List.range n))) w) := by
  obtain ⟨b, off, hix, hcell⟩ := hv.ix (P := Tryz.prog) 114 24 und_rows cell_row1
  have Hhv := Lib.hid hv; clear hv; have Hhf := Lib.hid hf; clear hf
  go_enter Tryz.func102, Tryz.ntmps102
  go_wp2
  go_loopw [5, 8] (fun _ i wr => ∃ k : Nat, k ≤ n ∧ i = .int .i64 k ∧ NoneIn p (List.range k) ∧ Ext w wr) (fun _ i _ => n - (intOf i).toNat)
  case atStart => exact ⟨0, Nat.zero_le _, rfl, by simp [NoneIn], Ext.refl _⟩
  case round =>
    obtain ⟨k, hk, rfl, hp, hx⟩ := hrel
    have Hhp := Lib.hid hp; clear hp
    by_cases hlt : k < n
    · have HC := Lib.hid (Hhf.out k hlt wr hx)
      cases hpx : p k
      · rw [hpx] at HC
        have Hhpx := Lib.hid hpx; clear hpx
        go_wp2_with (refine HC.out.mono ?_; rintro e w' ⟨rfl, hx2⟩)
        exact ⟨⟨k + 1, by omega, by go_num, (fun y hy => by rw [List.range_succ, List.mem_append] at hy; rcases hy with hy | hy; exact Hhp.out y hy; simp at hy; subst hy; exact Hhpx.out), hx.trans hx2⟩, by simp [intOf]; omega⟩
      · rw [hpx] at HC
        have Hhpx := Lib.hid hpx; clear hpx
        go_wp2_with (refine HC.out.mono ?_; rintro e w' ⟨rfl, hx2⟩)
        go_ret
        exact ⟨ri (idx_hit (d := 0) (by rw [List.length_range]; exact hlt) (by simp [List.getD_eq_getElem?_getD, hlt]) Hhpx.out (by rw [range_take2 (by omega)]; exact Hhp.out)).symm, hx.trans hx2⟩
    · obtain rfl : k = n := by omega
      go_wp2
      go_ret
      exact ⟨ri (idx_none Hhp.out).symm, hx⟩
theorem rowA_step {m : Int} {s d : Nat} {l : List Int} (h : d < l.length) : (rowA m l s).take (d + 1) = (rowA m l s).take d ++ [((s : Int) + gi l d) % m] := by
  have h2 : d < (rowA m l s).length := by rw [rowA, List.length_map]; exact h
  rw [take_gi h2, gi_get h2]
  simp only [rowA, List.getElem_map, gi_get h]
theorem idx_cases {p : Nat → Bool} {n : Nat} : (idx p (List.range n) = -1 ∧ ∀ j, j < n → p j = false) ∨ ∃ j : Nat, j < n ∧ idx p (List.range n) = j ∧ p j = true ∧ ∀ i, i < j → p i = false := by
  unfold idx
  cases h : (List.range n).findIdx? p with
  | none =>
    left
    rw [List.findIdx?_eq_none_iff] at h
    exact ⟨rfl, fun j hj => h j (List.mem_range.2 hj)⟩
  | some j =>
    right
    rw [List.findIdx?_eq_some_iff_getElem] at h
    obtain ⟨h1, h2, h3⟩ := h
    rw [List.length_range] at h1
    refine ⟨j, h1, rfl, by simpa using h2, fun i hi => ?_⟩
    have := h3 i hi
    simpa using this
theorem AI.setZ {w : World} {q q1 : Nat} {b S st fi : Int} {v4 v5 : Value} {ad : Option Addr} {x cc : Nat} {vs : List Value} {tt : List (List (List Int))} {pd : Option Addr} {y pc : Nat} {pp : List Int} {kd : Option Addr} {z kc : Nat} {kv : List Value} {W : World} {zs : Array Value}
    (d : AI w q b S st fi v4 v5 ad x cc vs tt pd y pc pp kd z kc kv W) (hz : SAt W q1 31 zs) (hq : q1 < q) (hw : w.heap.size ≤ q1) (j : Nat) (u : Value) : AI w q b S st fi v4 v5 ad x cc vs tt pd y pc pp kd z kc kv (W.setCell ⟨q1, j, none⟩ u) := by
  refine ⟨d.s.other u (by simp only; omega), d.o.setS hz (by decide) j u, d.p.setS hz (by decide) j u, d.k.setS hz (by decide) j u, fun k hk => ?_, d.h.setCell hw u, d.q1⟩
  obtain ⟨a', n', c', lo, hi, h1, h2, h3, h4, h5, h6, h7⟩ := d.i k hk
  exact ⟨a', n', c', lo, hi, h1, h2, by simpa [World.setCell] using h3, h4, h5, h6, fun W'' hK => h7 W'' (KeepB.trans (fun r h8 h9 => Below.heap_setCell W ⟨q1, j, none⟩ u r (by simp only; omega)) hK)⟩
/-- a chain -/
def RetCh (D : Ch) (w : World) (e : Ending) (w' : World) : Prop :=
  ∃ a x c b y d, e = .returned (.agg #[.int .i64 D.base, .int .i64 D.states, .int .i64 D.start, .int .i64 D.fin, .slice a x c, .slice b y d]) ∧ ChIn w' D a x c b y d ∧ Ext w w'
/-- a chain whose blocks are all of the call's own -/
def RetChO (D : Ch) (w : World) (e : Ending) (w' : World) : Prop :=
  ∃ a x c b y d, e = .returned (.agg #[.int .i64 D.base, .int .i64 D.states, .int .i64 D.start, .int .i64 D.fin, .slice a x c, .slice b y d]) ∧ (∀ V, KeepB w.heap.size w'.heap.size w' V → ChIn V D a x c b y d) ∧ Ext w w'
set_option maxHeartbeats 400000 in
theorem adding1 (a : Option Addr) (n c : Nat) (l : List Int) (a2 : Option Addr) (n2 c2 : Nat) (l2 : List Int) (q : Nat) (w : World) (hi : Ints w a n c l) (hq : w.cell? ⟨q, 0, none⟩ = some (.slice a2 n2 c2)) (hi2 : Ints w a2 n2 c2 l2) (hn : n ≤ 1048576) :
    Calls Tryz.prog 103 (#[.slice a n c] ++ #[.pointer (some ⟨q, 0, none⟩)]) w (Ret (.bool (decide (l = l2))) w) := by
  have HE := Lib.hid (equal_i2 a a2 n n2 c c2 l l2 w hi hi2 (by omega))
  clear hi hi2
  go_enter Tryz.func103, Tryz.ntmps103
  go_wp2_with (refine HE.out.mono ?_; rintro e w1 ⟨rfl, hx⟩)
  go_ret
  exact ⟨rfl, hx⟩
theorem info_row2 : (Tryz.prog.info? 24).map (fun i => (i.zero, i.size, i.bytes)) = some (some (.slice none 0 0), 1, 24) := by kernel_rfl
theorem info_tab2 : (Tryz.prog.info? 114).map (fun i => (i.zero, i.size, i.bytes)) = some (some (.slice none 0 0), 1, 24) := by kernel_rfl
theorem und_cub2 : Tryz.prog.underlying 29 = some (.slice 114) := by kernel_rfl
set_option maxHeartbeats 8000000 in
theorem impl_adding (base m target : Int) (la : Option Addr) (n lc : Nat) (ls : List (List Int)) (w : World) (hv : Mat w la n lc ls) (hok : AddOk base m target ls) :
    Calls Tryz.prog 76 #[.int .i64 base, .int .i64 m, .int .i64 target, .slice la n lc] w (RetChO (addCh base m target ls) w) := by
  have HV := Lib.hid hv
  have HOK := Lib.hid hok
  have hln : ls.length = n := hv.len
  have hn20 := hok.n20
  have hb36 := hok.b36
  have hb2 := hok.b2
  have hm1 := hok.m1
  have hm36 := hok.m36
  obtain ⟨M, hM⟩ := Int.eq_ofNat_of_zero_le (show 0 ≤ m by omega)
  subst hM
  have hM36 : 1 ≤ M ∧ M ≤ 36 := by omega
  have HLn := Lib.hid hln
  rw [hln] at hn20
  clear hv hok hln hm1 hm36
  go_enter Tryz.func76, Tryz.ntmps76
  go_wp2_with fail
  obtain ⟨q1, hq1⟩ : ∃ q1, q1 = w.heap.size := ⟨_, rfl⟩
  obtain ⟨q, hq⟩ : ∃ q, q = w.heap.size + 1 := ⟨_, rfl⟩
  obtain ⟨w3, hw3⟩ : ∃ W, W = ((w.alloc (.cells #[.int .i64 0, .int .i64 0, .int .i64 0, .int .i64 0, .slice none 0 0, .slice none 0 0] 31)).alloc (.cells #[.int .i64 base, .int .i64 (M : Int), .int .i64 0, .int .i64 target, .slice none 0 0, .slice none 0 0] 31)).alloc (.cells #[] 24) := ⟨_, rfl⟩
  have hx3 : Ext w w3 := by rw [hw3]; exact (by repeat (first | (with_reducible exact Ext.refl _) | (with_reducible refine Ext.drewN ?_ _) | (with_reducible refine Ext.drew ?_) | (with_reducible refine Ext.alloc ?_ _) | ((with_reducible refine Ext.setCell ?_ ?_ _); rotate_left; focus (first | (simp; done) | (simp; omega) | omega)) | assumption | (with_reducible refine Ext.trans ?_ (by assumption))))
  have HZ3 := Lib.hid (show SAt w3 q1 31 #[.int .i64 0, .int .i64 0, .int .i64 0, .int .i64 0, .slice none 0 0, .slice none 0 0] from by rw [hw3, hq1]; exact ((SAt.new' w #[.int .i64 0, .int .i64 0, .int .i64 0, .int .i64 0, .slice none 0 0, .slice none 0 0] 31 rfl).alloc _).alloc _)
  have HD3 := Lib.hid (show AI w q base M 0 target (.slice none 0 0) (.slice none 0 0) none 0 0 [] [] none 0 0 [] (some ⟨q + 1, 0, none⟩) 0 0 [] w3 from by
    rw [hq]
    refine ⟨by rw [hw3]; exact (SAt.new' _ _ _ (by simp)).alloc _, Own.nil _ _ _, Own.nil _ _ _, by rw [hw3]; exact Own.lit0' _ 24 (by omega) (by simp), fun j hj => by omega, hx3, by omega⟩)
  have hqq : q1 < q := by omega
  have hwq1 : w.heap.size ≤ q1 := by omega
  rw [← hw3, ← hq, ← hq1]
  clear hw3 hq hq1
  go_loopw [10, 12, 13, 14, 15, 16, 18, 26, 43, 49] (fun v10 _ _ _ _ _ _ v26 _ _ wr => ∃ (k z : Nat) (kd : Option Addr) (kc : Nat) (kv : List Value) (ad : Option Addr) (cc : Nat) (vs : List Value) (pd : Option Addr) (pc : Nat), k ≤ n ∧ v26 = .int .i64 k ∧ v10 = .slice kd z kc ∧ Hid ((addF ls k).1.length = z) ∧
      Hid (AI w q base M 0 target (.slice ad z cc) (.slice pd k pc) ad z cc vs ((addF ls k).1.map (tabA M)) pd k pc (addF ls k).2 kd z kc kv wr) ∧ Hid (SAt wr q1 31 #[.int .i64 0, .int .i64 0, .int .i64 0, .int .i64 0, .slice none 0 0, .slice none 0 0]) ∧
      Hid (∀ j, j < z → ∃ a' n' c', gv kv j = .slice a' n' c' ∧ Ints w a' n' c' (gl (addF ls k).1 j) ∧ n' ≤ 1048576)) (fun _ _ _ _ _ _ _ v26 _ _ _ => n - (intOf v26).toNat)
  case atStart => exact ⟨0, 0, _, 0, [], none, 0, [], none, 0, Nat.zero_le _, rfl, rfl, rfl, HD3.out, HZ3.out, fun j hj => by omega⟩
  case round =>
    clear HD3 HZ3 hx3
    obtain ⟨k, z, kd, kc, kv, ad, cc, vs, pd, pc, hk, rfl, rfl, HL, HD, HZ, HKn⟩ := hrel
    have hinv := addF_inv ls k (by rw [HLn.out]; exact hk)
    have hzk : z ≤ k := by rw [← HL.out]; exact hinv.2.1
    by_cases hlt : k < n
    · obtain ⟨b0, o0, a', n', c', ⟨f1, f2⟩, hrow⟩ := HV.out.one (P := Tryz.prog) 114 24 und_rows cell_row1 (k : Int) (by omega) (by omega)
      rw [Int.toNat_natCast] at hrow
      have hmem : gl ls k ∈ ls := gl_mem (by rw [HLn.out]; exact hlt)
      have hn36 : n' ≤ 36 := by have h1 := HOK.out.len _ hmem; have h2 := hrow.len; omega
      have HRow := Lib.hid hrow
      have HNn := Lib.hid (HOK.out.nn _ hmem)
      have hxr : Ext w wr := HD.out.h
      clear hrow hmem hinv
      go_wp2_with fail
      obtain ⟨wb, hwb⟩ : ∃ W, W = wr.alloc (.cells #[.slice a' n' c'] 24) := ⟨_, rfl⟩
      obtain ⟨bq, hbq⟩ : ∃ bq, bq = wr.heap.size := ⟨_, rfl⟩
      have HBox := Lib.hid (show VarAt wb bq 24 (.slice a' n' c') from by rw [hwb, hbq]; exact VarAt.new _ _ _)
      have hxb : Ext wr wb := by rw [hwb]; exact (by repeat (first | (with_reducible exact Ext.refl _) | (with_reducible refine Ext.drewN ?_ _) | (with_reducible refine Ext.drew ?_) | (with_reducible refine Ext.alloc ?_ _) | ((with_reducible refine Ext.setCell ?_ ?_ _); rotate_left; focus (first | (simp; done) | (simp; omega) | omega)) | assumption | (with_reducible refine Ext.trans ?_ (by assumption))))
      rw [← hwb, ← hbq]
      have HC := Lib.hid (indexFunc_rows2 kd z kc kv 103 #[.pointer (some ⟨bq, 0, none⟩)] (fun j => decide (gl (addF ls k).1 j = gl ls k)) wb (Sl.ext HD.out.k.sl hxb) (by omega) (fun _ _ => rfl) (fun j hj w' hx' => by
        obtain ⟨aj, nj, cj, h1, h2, h3⟩ := HKn.out j hj
        rw [h1]
        exact adding1 aj nj cj _ a' n' c' _ bq w' (h2.ext (hxr.trans (hxb.trans hx'))) ((HBox.out.ext hx').cell) (HRow.out.ext (hxr.trans (hxb.trans hx'))) h3))
      have hblk : (∀ g, ad = some g → g.block < bq) ∧ (∀ g, pd = some g → g.block < bq) ∧ (∀ g, kd = some g → g.block < bq) := by
        rw [hbq]; exact ⟨own_blk HD.out.o, own_blk HD.out.p, own_blk HD.out.k⟩
      have HBl := Lib.hid hblk
      clear hwb hbq hblk
      refine HC.out.mono ?_
      rintro e w1 ⟨rfl, hx1⟩
      have HD1 := Lib.hid (HD.out.ext (hxb.trans hx1))
      have HZ1 := Lib.hid (HZ.out.ext (hxb.trans hx1))
      have HB1 := Lib.hid (HBox.out.ext hx1)
      have hle1 : w.heap.size ≤ w1.heap.size := HD1.out.h.le
      have hbq1 : bq < w1.heap.size := HB1.out.lt
      clear hx1 hxb HC HBox HD HZ
      rcases idx_cases (p := fun j => decide (gl (addF ls k).1 j = gl ls k)) (n := z) with ⟨he, hno⟩ | ⟨j, hj, he, hy, hf⟩
      rotate_left
      · have HE := Lib.hid (addF_yes (ls := ls) (k := k) (j := j) (by rw [HLn.out]; exact hlt) (by rw [HL.out]; exact hj) (of_decide_eq_true hy) (fun i hi => of_decide_eq_false (hf i hi)))
        rw [he]
        have c5 := HD1.out.s.cell 5 (by simp)
        have fr1 := fun j => HD1.out.s.frozen j
        have hlt1 := HD1.out.s.lt
        try simp only [List.getElem_toArray, List.getElem_cons_succ, List.getElem_cons_zero] at c5
        clear he hy hf f1 f2
        go_wp2_with (at_builtin; refine law_append1_at _ rfl _ _ 24 rfl 2 (.int .i64 0) 8 und_int64s info_int64 rfl w.heap.size pd k pc _ _ rfl rfl rfl HD1.out.p hle1 (by omega) (by omega) ?_; intro pd' pc' w5 ho5 hb5 hg5 hk5; have HD5 := Lib.hid (HD1.out.put hb5 hg5 ho5 hk5); have HZ5 := Lib.hid (HZ1.out.grown hg5 (row_ne_s (HD1.out.p.ne_s HZ1.out (by decide)))); have c55 := HD5.out.s.cell 5 (by simp); have fr5 := fun j => HD5.out.s.frozen j; have hlt5 := HD5.out.s.lt; clear ho5 hb5 hg5 hk5; (try simp only [List.getElem_toArray, List.getElem_cons_succ, List.getElem_cons_zero] at c55))
        refine ⟨⟨k + 1, z, kd, kc, kv, ad, cc, vs, pd', pc', by omega, by go_num, rfl, by rw [Hid, HE.out]; exact HL.out, ?_, HZ5.out.other _ (by simp only; omega), ?_⟩, by simp [intOf]; omega⟩
        · rw [Hid, HE.out]; exact HD5.out.set 5 (.slice pd' (k + 1) pc') rfl
        · rw [Hid, HE.out]; exact HKn.out
      · have HE := Lib.hid (addF_no (ls := ls) (k := k) (by rw [HLn.out]; exact hlt) (fun i hi => of_decide_eq_false (hno i (by rw [← HL.out]; exact hi))))
        rw [he]
        have cb := HB1.out.cell
        clear he hno f1 f2
        go_wp2_with (at_builtin; refine law_append1_at _ rfl _ _ 114 rfl 24 (.slice none 0 0) 24 und_rows info_row2 rfl w.heap.size kd z kc kv _ rfl rfl rfl HD1.out.k hle1 (by omega) (by omega) ?_; intro kd' kc' w5 ho5 hb5 hg5 hk5; have HD5 := Lib.hid (HD1.out.know hb5 hg5 ho5 hk5); have HZ5 := Lib.hid (HZ1.out.grown hg5 (row_ne_s (HD1.out.k.ne_s HZ1.out (by decide)))); have HB5 := Lib.hid (HB1.out.grown hg5 (row_ne (fun g hg => by have := HBl.out.2.2 g hg; omega))); have hle5 : w1.heap.size ≤ w5.heap.size := hb5.size; clear ho5 hb5 hg5 hk5)
        have hxw5 : Ext w w5 := HD5.out.h
        have hbq5 : bq < w5.heap.size := HB5.out.lt
        go_loopw [14, 15, 16, 18, 43, 49] (fun v14 _ _ _ v43 _ wr => ∃ (s : Nat) (ta : Option Addr) (tc : Nat), s ≤ M ∧ v43 = .int .i64 s ∧ v14 = .slice ta s tc ∧ Hid (OwnMat wr w5.heap.size 24 2 ta s tc ((List.range s).map (rowA M (gl ls k)))) ∧ Ext w5 wr) (fun _ _ _ _ v43 _ _ => M - (intOf v43).toNat)
        case atStart => exact ⟨0, _, _, Nat.zero_le _, rfl, rfl, OwnMat.lit0 _ _ _, (Ext.refl _).alloc _⟩
        case round =>
          obtain ⟨s, ta, tc, hs, rfl, rfl, HT, hx⟩ := hrel
          have hx5r : Ext w5 wr := hx
          clear hx
          by_cases hls : s < M
          · obtain ⟨wo, hwo⟩ : ∃ W, W = wr := ⟨_, rfl⟩
            rw [← hwo] at HT hx5r ⊢
            clear hwo
            have hxwo : Ext w wo := hxw5.trans hx5r
            have cbo := (HB5.out.ext hx5r).cell
            have hbo : bq < wo.heap.size := Nat.lt_of_lt_of_le hbq5 hx5r.le
            go_wp2_with fail
            have HRn := Lib.hid (HRow.out.len)
            obtain ⟨bW, oW, hixW, hcellW⟩ := HRow.out.ix (P := Tryz.prog) 24 2 und_int64s cell_int64
            go_loopw [16, 18, 49] (fun v16 _ v49 wr => ∃ (d : Nat) (ra : Option Addr) (rc : Nat), d ≤ n' ∧ v49 = .int .i64 d ∧ v16 = .slice ra d rc ∧ Hid (Own wr wo.heap.size 2 ra d rc (I ((rowA M (gl ls k) s).take d))) ∧ Ext wo wr) (fun _ _ v49 _ => n' - (intOf v49).toNat)
            case atStart => exact ⟨0, _, _, Nat.zero_le _, rfl, rfl, Own.lit0 _ _, (Ext.refl _).alloc _⟩
            case round =>
              obtain ⟨d, ra, rc, hd, rfl, rfl, HR, hx⟩ := hrel
              have hxr2 : Ext wo wr := hx
              have hxw2 : Ext w wr := hxwo.trans hx
              clear hx
              by_cases hld : d < n'
              · have hdl : d < (gl ls k).length := by rw [HRn.out]; exact hld
                have hnn := HNn.out _ (gi_mem hdl)
                have HN := Lib.hid (rowA_step (m := (M : Int)) (s := s) hdl)
                clear hdl
                go_wp2_with (at_builtin; refine law_append1 _ rfl _ _ 24 rfl 2 (.int .i64 0) 8 und_int64s info_int64 rfl wo.heap.size ra d rc _ _ rfl rfl rfl HR.out hxr2.le (by omega) (by omega) ?_; intro ra' rc' w6 ho6 hb6 _; have hxo6 : Ext wo w6 := Ext.below hxr2 hb6)
                exact ⟨⟨d + 1, ra', rc', by omega, by go_num, rfl, by rw [Hid, HN.out, I_append]; exact ho6, hxo6⟩, by simp [intOf]; omega⟩
              · obtain rfl : d = n' := by omega
                have HT4 := Lib.hid (HT.out.ext hxr2)
                have HO4 := Lib.hid (show Own wr w5.heap.size 2 ra d rc (I (rowA M (gl ls k) s)) from by
                  have h := HR.out
                  rw [take_full (by rw [rowA, List.length_map, HRn.out]; exact Nat.le_refl _)] at h
                  exact h.mono hx5r.le)
                have hx54 : Ext w5 wr := hx5r.trans hxr2
                obtain ⟨tvs, htv, htp⟩ := HT4.out.rows
                have HTV := Lib.hid htv
                have HTP := Lib.hid htp
                clear htv htp HR HT hixW hcellW
                go_wp2_with (at_builtin; refine law_append1 _ rfl _ _ 114 rfl 24 (.slice none 0 0) 24 und_rows info_row2 rfl w5.heap.size ta s tc _ _ rfl rfl rfl HTV.out hx54.le (by omega) (by omega) ?_; intro ta' tc' w6 ho6 hb6 hg6; have hx56 : Ext w5 w6 := Ext.below hx54 hb6)
                exact ⟨⟨s + 1, ta', tc', by omega, by go_num, rfl, by rw [Hid, List.range_succ, List.map_append]; exact OwnMat.push HT4.out.len HTP.out HTV.out HO4.out ho6 hg6 (by decide), hx56⟩, by simp [intOf]; omega⟩
          · obtain rfl : s = M := by omega
            have HD6 := Lib.hid (HD5.out.ext hx5r)
            have HZ6 := Lib.hid (HZ5.out.ext hx5r)
            have HTa := Lib.hid (show OwnMat wr w5.heap.size 24 2 ta s tc (tabA s (gl ls k)) from by have h := HT.out; unfold tabA; rwa [Int.toNat_natCast])
            have hkd5 : ∀ g, kd' = some g → g.block < w5.heap.size := own_blk HD5.out.k
            have hq5 : q < w5.heap.size := HD5.out.s.lt
            have hle6 : w.heap.size ≤ wr.heap.size := HD6.out.h.le
            have hml : ((addF ls k).1.map (tabA s)).length = z := by rw [List.length_map]; exact HL.out
            have c4 := HD6.out.s.cell 4 (by simp)
            have fr6 := fun j => HD6.out.s.frozen j
            have hlt6 := HD6.out.s.lt
            try simp only [List.getElem_toArray, List.getElem_cons_succ, List.getElem_cons_zero] at c4
            clear HT HD5 HZ5
            go_wp2_with (first | (at_builtin; refine law_append1_at _ rfl _ _ 24 rfl 2 (.int .i64 0) 8 und_int64s info_int64 rfl w.heap.size pd k pc _ _ rfl rfl (by simp [Act.eval, go_sem]) HD8.out.p hle8 (by omega) (by omega) ?_; intro pd' pc' w9 ho9 hb9 hg9 hk9; have HD9 := Lib.hid (HD8.out.put hb9 hg9 ho9 hk9); have HZ9 := Lib.hid (HZ8.out.grown hg9 (row_ne_s (HD8.out.p.ne_s HZ8.out (by decide)))); have c59 := HD9.out.s.cell 5 (by simp); have fr9 := fun j => HD9.out.s.frozen j; have hlt9 := HD9.out.s.lt; clear ho9 hb9 hg9 hk9; (try simp only [List.getElem_toArray, List.getElem_cons_succ, List.getElem_cons_zero] at c59)) | (at_builtin; refine law_append1_at _ rfl _ _ 29 rfl 114 (.slice none 0 0) 24 und_cub2 info_tab2 rfl w.heap.size ad z cc _ _ rfl rfl rfl HD6.out.o hle6 (by omega) (by omega) ?_; intro ad' cc' w7 ho7 hb7 hg7 hk7; have HD7 := Lib.hid (HD6.out.app hml HTa.out hq5 (fun g hg => by have := HBl.out.1 g hg; omega) (fun g hg => by have := HBl.out.2.1 g hg; omega) hkd5 hb7 hg7 ho7 hk7); have HZ7 := Lib.hid (HZ6.out.grown hg7 (row_ne_s (HD6.out.o.ne_s HZ6.out (by decide)))); have c47 := HD7.out.s.cell 4 (by simp); have c57 := HD7.out.s.cell 5 (by simp); have fr7 := fun j => HD7.out.s.frozen j; have hlt7 := HD7.out.s.lt; have HD8 := Lib.hid (HD7.out.set 4 (.slice ad' (z + 1) cc') rfl); have HZ8 := Lib.hid (HZ7.out.other (p := ⟨q, 4, none⟩) (.slice ad' (z + 1) cc') (by simp only; omega)); have hle8 := HD8.out.h.le; clear ho7 hb7 hg7 hk7; (try simp only [List.getElem_toArray, List.getElem_cons_succ, List.getElem_cons_zero] at c47 c57)))
            refine ⟨⟨k + 1, z + 1, kd', kc', kv ++ [.slice a' n' c'], ad', cc', vs ++ [.slice ta s tc], pd', pc', by omega, by go_num, rfl, by rw [Hid, HE.out, List.length_append, HL.out, List.length_singleton], ?_, HZ9.out.other _ (by simp only; omega), ?_⟩, by simp [intOf]; omega⟩
            · rw [Hid, HE.out, HL.out, List.map_append]; exact HD9.out.set 5 (.slice pd' (k + 1) pc') rfl
            · rw [Hid, HE.out]
              intro j hj
              by_cases hjz : j < z
              · obtain ⟨aj, nj, cj, h1, h2, h3⟩ := HKn.out j hjz
                exact ⟨aj, nj, cj, (gv_lt (by rw [HD1.out.k.len]; exact hjz)).trans h1, by rw [gl_lt (by rw [HL.out]; exact hjz)]; exact h2, h3⟩
              · obtain rfl : j = z := by omega
                exact ⟨a', n', c', gv_last HD1.out.k.len, by rw [gl_last HL.out]; exact HRow.out, by omega⟩
    · obtain rfl : k = n := by omega
      have c0 := HD.out.s.cell 0 (by simp)
      have c1 := HD.out.s.cell 1 (by simp)
      have c2 := HD.out.s.cell 2 (by simp)
      have c3 := HD.out.s.cell 3 (by simp)
      have c4 := HD.out.s.cell 4 (by simp)
      have c5 := HD.out.s.cell 5 (by simp)
      have z0 := HZ.out.cell 0 (by simp)
      have z1 := HZ.out.cell 1 (by simp)
      have z2 := HZ.out.cell 2 (by simp)
      have z3 := HZ.out.cell 3 (by simp)
      have z4 := HZ.out.cell 4 (by simp)
      have z5 := HZ.out.cell 5 (by simp)
      have fr := fun j => HZ.out.frozen j
      have hltz := HZ.out.lt
      try simp only [List.getElem_toArray, List.getElem_cons_succ, List.getElem_cons_zero] at c0 c1 c2 c3 c4 c5 z0 z1 z2 z3 z4 z5
      clear hinv hlt
      go_wp2
      refine bodyPost_ret (v := .agg #[.int .i64 base, .int .i64 (M : Int), .int .i64 0, .int .i64 target, .slice ad z cc, .slice pd k pc]) ?_ rfl ?_
      · simp [results, Tryz.results76, go_sem, z0, z1, z2, z3, z4, z5]
      · have d := HD.out
        have hz := HZ.out
        have d5 := (((((d.setZ hz hqq hwq1 0 (.int .i64 base)).setZ (hz.set 0 (.int .i64 base)) hqq hwq1 1 (.int .i64 (M : Int))).setZ ((hz.set 0 (.int .i64 base)).set 1 (.int .i64 (M : Int))) hqq hwq1 2 (.int .i64 0)).setZ (((hz.set 0 (.int .i64 base)).set 1 (.int .i64 (M : Int))).set 2 (.int .i64 0)) hqq hwq1 3 (.int .i64 target)).setZ ((((hz.set 0 (.int .i64 base)).set 1 (.int .i64 (M : Int))).set 2 (.int .i64 0)).set 3 (.int .i64 target)) hqq hwq1 4 (.slice ad z cc)).setZ (((((hz.set 0 (.int .i64 base)).set 1 (.int .i64 (M : Int))).set 2 (.int .i64 0)).set 3 (.int .i64 target)).set 4 (.slice ad z cc)) hqq hwq1 5 (.slice pd k pc)
        have hD : addCh base (M : Int) target ls = ⟨base, M, 0, target, (addF ls k).1.map (tabA M), (addF ls k).2⟩ := by rw [addCh, HLn.out]
        have hsm := addCh_small HOK.out
        rw [hD] at hsm ⊢
        exact ⟨ad, z, cc, pd, k, pc, rfl, fun V hV => d5.chInK (by rw [List.length_map]; exact HL.out) (by omega) (by omega) hsm hV, d5.h⟩
end Go.Proofs.YtgnlabdikmbbgaaGreatDoor
