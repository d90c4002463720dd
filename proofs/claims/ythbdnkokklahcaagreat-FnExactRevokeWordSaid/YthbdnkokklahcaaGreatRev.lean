/- Walks: slices.Insert at int64: its four ways (the kit's walks at int, turned to int64). -/
import Derived.Test.YthbdnkokklahcaaGreatSAt
import Derived.Shelf.RegionOpenPlain
import Derived.Lib.Walk
import Derived.Lib.SliceRun
import Derived.Lib.JoinLaws
import Derived.Lib.AppendZeros
import Derived.Lib.AppendZerosOnto
import Derived.Lib.Overlaps
import Derived.Laws.Externs
import Derived.Laws.IdiomCopy
import Derived.Laws.NewBlocks
import Derived.Deep.LoopGhost
import Derived.Deep.Draws
import Derived.Lib.SlicesSearch
import Derived.Test.YthbdnkokklahcaaGreatIss
import Derived.Test.YthbdnkokklahcaaGreatRgG
namespace Go.Proofs.YthbdnkokklahcaaGreat
set_option maxRecDepth 100000
open Go.RowKit Go.Lib Go.Shelf
theorem wp_copy_runI {P : Program} (w : World) {o : Oper} {a : Act} {K : Act → World → Prop} {Q : Exit → Act → World → Prop} (d s : Operand) (t t' : TypeId)
    (ho : o.op = .call { callee := .builtin .copy, args := #[d, s], argTypes := #[t, t'] }) (v u : Value) (hd : a.eval d = v) (hs : a.eval s = u) {v' : Value} {w' : World}
    (hr : (Builtin.copy_ #[t, t'] o.type #[v, u]).run P w = .ok v' w') (h : K (a.put o.dst v') w') : o.wp P a w K Q := by
  unfold Oper.wp execOp
  simp only [ho, resolve, invoke, builtin, Sem.run_bind, Sem.run_pure, Result.andThen_ok, List.map_toArray, List.map_cons, List.map_nil, hd, hs, hr]
  exact h

theorem wpList_copy_runI {P : Program} (w : World) {ops : Array Oper} {rest : List Oper} {o : Oper} {a : Act} {Q : Exit → Act → World → Prop} (hgd : o.guard = none) (d s : Operand) (t t' : TypeId)
    (ho : o.op = .call { callee := .builtin .copy, args := #[d, s], argTypes := #[t, t'] }) (v u : Value) (hd : a.eval d = v) (hs : a.eval s = u) {v' : Value} {w' : World}
    (hr : (Builtin.copy_ #[t, t'] o.type #[v, u]).run P w = .ok v' w') (h : wpList P ops Q rest (a.put o.dst v') w') : wpList P ops Q (o :: rest) a w :=
  wpList_plain hgd fun _ hK => wp_copy_runI w d s t t' ho v u hd hs hr (hK _ _ h)

theorem step_copy_runI {P : Program} {ops : Array Oper} {o : Oper} {a : Act} {w : World} {K : Act → World → Prop} {Q : Exit → Act → World → Prop} {E : Prop}
    (hg : o.guard = none) (d x : Operand) (dT sT : TypeId) (hop : o.op = Op.call { callee := Callee.builtin Builtin.copy, args := #[d, x], argTypes := #[dT, sT] })
    (v u : Value) (hd : a.eval d = v) (hx : a.eval x = u) {v' : Value} {w' : World} (hr : (Builtin.copy_ #[dT, sT] o.type #[v, u]).run P w = .ok v' w') (hK : K (a.put o.dst v') w') :
    if Region.wanted o (yielded ops a.tmps) = true then Oper.wp P o a w K Q else E := by
  have hw : Region.wanted o (yielded ops a.tmps) = true := by simp [Region.wanted, hg]
  rw [if_pos hw]
  unfold Oper.wp
  simp [execOp, hop, resolve, invoke, builtin, hd, hx, hr, Result.andThen]
  exact hK

theorem drew_setCells (b : Nat) : ∀ (vs : List Value) (o : Nat) (w : World), (w.setCells b o vs).drew = w.drew.setCells b o vs
  | [], _, _ => rfl
  | v :: r, o, w => by rw [World.setCells, World.setCells, drew_setCells b r]; rfl

theorem isSome_setCells (b : Nat) (vs : List Value) (o : Nat) (w : World) (h : ∀ j, j < vs.length → (w.cell? ⟨b, o + j, none⟩).isSome = true) (k : Nat) (hk : (w.cell? ⟨b, k, none⟩).isSome = true) : ((w.setCells b o vs).cell? ⟨b, k, none⟩).isSome = true := by
  by_cases hin : o ≤ k ∧ k < o + vs.length
  · have := World.cell?_setCells_in b vs o w h (k - o) (by omega)
    rw [show o + (k - o) = k by omega] at this
    rw [this]; rfl
  · rw [World.cell?_setCells_out b vs o w ⟨b, k, none⟩ (fun _ _ => by show k < o ∨ o + vs.length ≤ k; omega)]
    exact hk

theorem size_i64 : ∀ w, (Go.sizeOf 2).run Tryz.prog w = .ok 1 w := fun w => by
  obtain ⟨i, hi, _, h1, _⟩ := info_parts info_int64
  simp [sizeOf, typeInfo, hi, h1]
theorem und_int : Tryz.prog.underlying 3 = some (.int .i64) := Tryz.underlying3
set_option maxHeartbeats 4000000 in
theorem ins_shift (b off n c i vb voff m vc : Nat) (cs vs : List Value) (w : World) (hi : i < n) (hm : 0 < m) (hroom : n + m ≤ c) (hc63 : c ≤ 9223372036854775807) (hvb : vb ≠ b)
    (hcl : cs.length = n) (hvl : vs.length = m)
    (hcs : ∀ j v, cs[j]? = some v → w.cell? ⟨b, off + j, none⟩ = some v) (hsp : ∀ j, j < n + m → (w.cell? ⟨b, off + j, none⟩).isSome = true) (hfz : ∀ j, j < n + m → w.frozen? ⟨b, off + j, none⟩ = false)
    (hvs : ∀ j v, vs[j]? = some v → w.cell? ⟨vb, voff + j, none⟩ = some v) (h1c : ∀ v ∈ cs, v.oneCell' = true) (h1v : ∀ v ∈ vs, v.oneCell' = true)
    (tA tB : TypeId) (kA kB : Nat) (hsa : w.shape? vb = some (tA, kA)) (hsb : w.shape? b = some (tB, kB)) (hkB : kB ≠ 0) (hfa : w.frozen? ⟨vb, voff, none⟩ = false) (hfe : w.frozen? ⟨vb, kA, none⟩ = false) :
    Calls Tryz.prog (27) #[.slice (some ⟨b, off, none⟩) n c, .int .i64 i, .slice (some ⟨vb, voff, none⟩) m vc] w fun e w' =>
      e = .returned (.slice (some ⟨b, off, none⟩) (n + m) c) ∧ w' = (w.drew.setCells b (off + (i + m)) (cs.drop i)).setCells b (off + i) vs := by
  have hz1 : ¬ ((m : Int) = 0) := by omega
  have hz2 : ¬ ((i : Int) = (n : Int)) := by omega
  have hsz : (Tryz.prog.info? (2)).map (·.size) = some 1 := by
    obtain ⟨i0, hi0, h0, h1, h2⟩ := info_parts info_int64
    rw [hi0]; simp [h1]
  have hov : ∀ lb cb, (callFunc (57) #[.slice (some ⟨vb, voff, none⟩) m vc, .slice (some ⟨b, off + (i + m), none⟩) lb cb]).run Tryz.prog w = .ok (.value (.bool false)) w := fun lb cb => by
    rw [run_callFunc_extern Tryz.func57 (by kernel_rfl) (by kernel_rfl) (by kernel_rfl) (e := Extern.SlicesOverlaps.overlaps #[(23), (23)] #[(4)]) (by kernel_rfl),
      Lib.run_overlaps_apart w (23) (4) (2) und_int64s 1 size_i64 ⟨vb, voff, none⟩ ⟨b, off + (i + m), none⟩ m vc lb cb hvb tA tB kA kB hsa hsb hkB hfa hfe]
    rfl
  have hdl : (cs.drop i).length = n - i := by rw [List.length_drop, hcl]
  have mixed : Tryz.prog.follows .mixedOrders = true := by kernel_rfl
  have hw1 : IntKind.i64.wrap ((i : Int) + (m : Int)) = (i : Int) + (m : Int) := by rw [IntKind.wrap_i64]; omega
  have hb1 : (0 : Int) ≤ (i : Int) + (m : Int) := by omega
  have hin : i ≤ n := by omega
  have htn : ((i : Int) + (m : Int)).toNat = i + m := by omega
  have hb2 : ¬ (c = i + m) := by omega
  have hb3 : (i : Int) ≤ (n : Int) + (m : Int) := by omega
  have hb4 : ¬ (c = i) := by omega
  have hcp1 : ∀ ty dc sc, (Builtin.copy_ #[(23), (23)] ty #[.slice (some ⟨b, off + (i + m), none⟩) (n + m - (i + m)) dc, .slice (some ⟨b, off + i, none⟩) (n + m - i) sc]).run Tryz.prog w.drew = .ok (goInt (cs.drop i).length) (w.drew.setCells b (off + (i + m)) (cs.drop i)) := fun ty dc sc =>
    run_copy_cells w.drew _ _ ty (2) b (off + (i + m)) (n + m - (i + m)) dc ⟨b, off + i, none⟩ (n + m - i) sc (cs.drop i) und_int64s hsz (by rw [hdl]; simp only [Nat.min_def]; split <;> omega)
      (fun j v hj => by rw [Addr.add_lit, Nat.add_assoc]; exact hcs (i + j) v (by rwa [List.getElem?_drop] at hj))
      (fun j hj => by rw [Nat.add_assoc]; exact hsp _ (by omega)) (fun j hj => by rw [Nat.add_assoc]; exact hfz _ (by omega)) (fun v hv => h1c v (List.mem_of_mem_drop hv))
  obtain ⟨W1, hW1⟩ : ∃ W1, W1 = w.drew.setCells b (off + (i + m)) (cs.drop i) := ⟨_, rfl⟩
  have hsp1 : ∀ k, k < n + m → (W1.cell? ⟨b, off + k, none⟩).isSome = true := fun k hk => by
    rw [hW1]
    exact isSome_setCells b _ _ _ (fun j hj => by rw [Nat.add_assoc]; exact hsp _ (by omega)) _ (hsp k hk)
  have hcp2 : ∀ (W : World), (∀ x, W.cell? x = W1.cell? x) → (∀ x, W.frozen? x = W1.frozen? x) → ∀ ty dc, (Builtin.copy_ #[(23), (23)] ty #[.slice (some ⟨b, off + i, none⟩) (n + m - i) dc, .slice (some ⟨vb, voff, none⟩) m vc]).run Tryz.prog W = .ok (goInt vs.length) (W.setCells b (off + i) vs) := fun W hWc hWf ty dc =>
    run_copy_cells W _ _ ty (2) b (off + i) (n + m - i) dc ⟨vb, voff, none⟩ m vc vs und_int64s hsz (by rw [hvl]; simp only [Nat.min_def]; split <;> omega)
      (fun j v hj => by
        rw [Addr.add_lit, hWc, hW1, World.cell?_setCells_out b _ _ _ _ (fun h _ => absurd h hvb)]
        exact hvs j v hj)
      (fun j hj => by rw [hWc, Nat.add_assoc]; exact hsp1 _ (by omega)) (fun j hj => by rw [hWf, hW1, World.frozen?_setCells, Nat.add_assoc]; exact hfz _ (by omega)) h1v
  rw [← hW1] at hcp1
  go_enter Tryz.func27, Tryz.ntmps27
  go_wp2_with (simp only [hov])
  go_region_law_o (refine step_copy_runI rfl _ _ (23) (23) rfl _ _ (by simp [Act.eval, Act.put]) (by simp [Act.eval, Act.put]) (hcp1 _ _ _) ?_)
  go_wp2_with (at_builtin; refine wpList_copy_runI _ rfl _ _ (23) (23) rfl _ _ rfl rfl (hcp2 _ (fun _ => rfl) (fun _ => rfl) _ _) ?_)
  go_ret
  first | exact ⟨rfl, rfl⟩ | exact ⟨rfl, by rw [hW1]⟩
set_option maxHeartbeats 4000000 in
theorem ins_end_room (b off n c vb voff m vc : Nat) (vs : List Value) (w : World) (hm : 0 < m) (hroom : n + m ≤ c) (_hc63 : c ≤ 9223372036854775807)
    (hvl : vs.length = m) (hsp : ∀ j, j < m → (w.cell? ⟨b, off + n + j, none⟩).isSome = true) (hfz : ∀ j, j < m → w.frozen? ⟨b, off + n + j, none⟩ = false)
    (hvs : ∀ j v, vs[j]? = some v → w.cell? ⟨vb, voff + j, none⟩ = some v) (h1v : ∀ v ∈ vs, v.oneCell' = true) :
    Calls Tryz.prog (27) #[.slice (some ⟨b, off, none⟩) n c, .int .i64 n, .slice (some ⟨vb, voff, none⟩) m vc] w fun e w' =>
      e = .returned (.slice (some ⟨b, off, none⟩) (n + m) c) ∧ w' = w.setCells b (off + n) vs := by
  have hz1 : ¬ ((m : Int) = 0) := by omega
  have hsrc : Src Tryz.prog 1 (23) (.slice (some ⟨vb, voff, none⟩) m vc) m vs w := Src.ofSlice w und_int64s ⟨vb, voff, none⟩ m vc vs (by omega) (fun j u hj => by rw [Addr.add_lit]; exact hvs j u hj) h1v
  go_enter Tryz.func27, Tryz.ntmps27
  go_wp2_with (at_builtin; refine wpList_append_room1 _ rfl _ _ (23) (23) rfl (2) _ _ und_int64s info_int64 b off n c rfl _ rfl m vs hsrc hroom (by rw [hvl]; exact hsp) (by rw [hvl]; exact hfz) ?_)
  go_ret
  exact ⟨rfl, rfl⟩
set_option maxHeartbeats 4000000 in
theorem ins_end_grow (base : Option Addr) (n c vb voff m vc : Nat) (cs vs : List Value) (w : World) (hm : 0 < m) (hnc : n ≤ c) (hroom : c < n + m) (hbig : (n + m) * 8 ≤ 140737488355328)
    (hcl : cs.length = n) (hvl : vs.length = m) (hnil : base = none → n = 0)
    (hcs : ∀ a, base = some a → ∀ j v, cs[j]? = some v → w.cell? (a.add j) = some v)
    (hvs : ∀ j v, vs[j]? = some v → w.cell? ⟨vb, voff + j, none⟩ = some v) (h1v : ∀ v ∈ vs, v.oneCell' = true) :
    Calls Tryz.prog (27) #[.slice base n c, .int .i64 n, .slice (some ⟨vb, voff, none⟩) m vc] w fun e w' =>
      e = .returned (.slice (some ⟨w.heap.size, 0, none⟩) (n + m) (grownCap w (n + m) c (2))) ∧
      w' = w.drew.alloc (.cells ((cs ++ vs).toArray ++ Builtin.zeroCells (Value.int .i64 0).cells (grownCap w (n + m) c (2) - (n + m))) (2)) := by
  obtain ⟨i0, hi0, hz0, hzs, hzb⟩ := info_parts info_int64
  have hz1 : ¬ ((m : Int) = 0) := by omega
  have hsrc : Src Tryz.prog i0.size (23) (.slice (some ⟨vb, voff, none⟩) m vc) m vs w := by
    rw [hzs]
    exact Src.ofSlice w und_int64s ⟨vb, voff, none⟩ m vc vs (by omega) (fun j u hj => by rw [Addr.add_lit]; exact hvs j u hj) h1v
  have hold : (Builtin.firstCells i0.size n (.slice base n c)).run Tryz.prog w.drew = .ok cs.toArray w.drew := by
    rw [hzs]
    cases base with
    | none =>
      have h0 := hnil rfl
      subst h0
      rw [List.length_eq_zero_iff.1 hcl]
      exact run_firstCells_none w.drew 1 0 0 c
    | some a => exact run_firstCells_some w.drew 1 n a n c cs (by omega) (fun j v hj => hcs a rfl j v hj)
  have hrun : ∀ ty, (Builtin.append_ #[(23), (23)] ty #[.slice base n c, .slice (some ⟨vb, voff, none⟩) m vc]).run Tryz.prog w = _ := fun ty =>
    run_append_grow_src w (23) (23) ty (2) i0 _ und_int64s hi0 hz0 base n c cs hold _ m vs hsrc hroom (by omega) (by rw [hzb]; exact growslice_fits hroom hbig)
  go_enter Tryz.func27, Tryz.ntmps27
  cases base with
  | none =>
    have h0 := hnil rfl
    subst h0
    go_wp2_with (at_builtin; refine Lib.wpList_append_run _ rfl _ _ _ _ rfl _ _ rfl rfl _ _ (hrun _) ?_)
    go_ret
    exact ⟨rfl, rfl⟩
  | some a =>
    obtain ⟨ab, ao, asp⟩ := a
    go_wp2_with (at_builtin; refine Lib.wpList_append_run _ rfl _ _ _ _ rfl _ _ rfl rfl _ _ (hrun _) ?_)
    all_goals (go_ret; exact ⟨rfl, rfl⟩)
set_option maxHeartbeats 4000000 in
theorem ins_grow (b off n c i vb voff m vc : Nat) (cs vs : List Value) (w : World) (hi : i < n) (hm : 0 < m) (hnc : n ≤ c) (hroom : c < n + m) (hbig : (n + m) * 8 ≤ 140737488355328)
    (hcl : cs.length = n) (hvl : vs.length = m)
    (hcs : ∀ j v, cs[j]? = some v → w.cell? ⟨b, off + j, none⟩ = some v)
    (hvs : ∀ j v, vs[j]? = some v → w.cell? ⟨vb, voff + j, none⟩ = some v) (h1c : ∀ v ∈ cs, v.oneCell' = true) (h1v : ∀ v ∈ vs, v.oneCell' = true) :
    Calls Tryz.prog (27) #[.slice (some ⟨b, off, none⟩) n c, .int .i64 i, .slice (some ⟨vb, voff, none⟩) m vc] w fun e w' =>
      e = .returned (.slice (some ⟨w.heap.size, 0, none⟩) (n + m) (grownCap w (n + m) c (2))) ∧
      w' = (((w.alloc (.cells ((cs.take i).toArray ++ Builtin.zeroCells (Value.int .i64 0).cells (n + m - i) ++ Builtin.zeroCells (Value.int .i64 0).cells (grownCap w (n + m) c (2) - (n + m))) (2))).drew.setCells w.heap.size i vs).drew).setCells w.heap.size (i + m) (cs.drop i) := by
  have mixed : Tryz.prog.follows .mixedOrders = true := by kernel_rfl
  obtain ⟨i0, hi0, hz0, hzs, hzb⟩ := info_parts info_int64
  have hz1 : ¬ ((m : Int) = 0) := by omega
  have hz2 : ¬ ((i : Int) = (n : Int)) := by omega
  have hz3 : (c : Int) < (n : Int) + (m : Int) := by omega
  have hsz : (Tryz.prog.info? (2)).map (·.size) = some 1 := by rw [hi0]; simp [hzs]
  have hbw : b < w.heap.size := block_lt_of_cell (hcs 0 _ (List.getElem?_eq_getElem (by omega)))
  have hvw : vb < w.heap.size := block_lt_of_cell (hvs 0 _ (List.getElem?_eq_getElem (by omega)))
  have hkk : (n : Int) + (m : Int) - (i : Int) = ((n + m - i : Nat) : Int) := by omega
  have hik : i + (n + m - i) = n + m := by omega
  have hold : (Builtin.firstCells i0.size i (.slice (some ⟨b, off, none⟩) i c)).run Tryz.prog w.drew = .ok (cs.take i).toArray w.drew := by
    rw [hzs]
    exact run_firstCells_some w.drew 1 i ⟨b, off, none⟩ i c (cs.take i) (by rw [List.length_take]; omega) (fun j v hj => by
      rw [Addr.add_lit]
      rw [List.getElem?_take] at hj
      split at hj
      · exact hcs j v hj
      · cases hj)
  have hrz : ∀ ty, (Builtin.append_ #[(23), (3)] ty #[.slice (some ⟨b, off, none⟩) i c, .int .i64 ((n : Int) + (m : Int) - (i : Int))]).run Tryz.prog w =
      .ok (.slice (some ⟨w.heap.size, 0, none⟩) (n + m) (grownCap w (n + m) c (2))) (w.drew.alloc (.cells ((cs.take i).toArray ++ Builtin.zeroCells (Value.int .i64 0).cells (n + m - i) ++ Builtin.zeroCells (Value.int .i64 0).cells (grownCap w (n + m) c (2) - (n + m))) (2))) := fun ty => by
    have h := Lib.run_append_grow_zeros w 23 3 ty 2 i0 _ .i64 .i64 und_int64s und_int hi0 hz0 (some ⟨b, off, none⟩) i c (cs.take i) hold (n + m - i) (by omega) (by omega) (by omega) (by omega) (by rw [hzb]; omega) (by rw [hzb, hik]; exact growslice_fits hroom hbig)
    rw [hik] at h
    rw [hkk]
    exact h
  obtain ⟨G, hG⟩ : ∃ G, G = grownCap w (n + m) c (2) := ⟨_, rfl⟩
  obtain ⟨ROW, hROW⟩ : ∃ ROW : Array Value, ROW = (cs.take i).toArray ++ Builtin.zeroCells (Value.int .i64 0).cells (n + m - i) ++ Builtin.zeroCells (Value.int .i64 0).cells (G - (n + m)) := ⟨_, rfl⟩
  rw [← hG] at hrz ⊢
  rw [← hROW] at hrz ⊢
  have hRl : n + m ≤ ROW.size := by
    rw [hROW]
    simp [Builtin.zeroCells, Value.cells]
    omega
  obtain ⟨W1, hW1⟩ : ∃ W1, W1 = w.drew.alloc (.cells ROW (2)) := ⟨_, rfl⟩
  rw [← hW1] at hrz
  have hN : ∀ j, j < n + m → (W1.cell? ⟨w.heap.size, j, none⟩).isSome = true := fun j hj => by
    rw [hW1, World.cell?_alloc_at (w := w.drew) ROW _ w.heap.size j rfl, Array.getElem?_eq_getElem (by omega)]; rfl
  have hNf : ∀ j, W1.frozen? ⟨w.heap.size, j, none⟩ = false := fun j => by rw [hW1]; exact World.frozen?_alloc_at (w := w.drew) ROW _ w.heap.size j rfl
  have hOb : ∀ j v, w.cell? ⟨b, j, none⟩ = some v → W1.cell? ⟨b, j, none⟩ = some v := fun j v h => by rw [hW1, World.cell?_alloc_past (w := w.drew) _ b j hbw]; exact h
  have hOv : ∀ j v, w.cell? ⟨vb, j, none⟩ = some v → W1.cell? ⟨vb, j, none⟩ = some v := fun j v h => by rw [hW1, World.cell?_alloc_past (w := w.drew) _ vb j hvw]; exact h
  have hcpA : ∀ (W : World), (∀ x, W.cell? x = W1.cell? x) → (∀ x, W.frozen? x = W1.frozen? x) → ∀ ty dc, (Builtin.copy_ #[(23), (23)] ty #[.slice (some ⟨w.heap.size, i, none⟩) (n + m - i) dc, .slice (some ⟨vb, voff, none⟩) m vc]).run Tryz.prog W = .ok (goInt vs.length) (W.setCells w.heap.size i vs) := fun W hWc hWf ty dc =>
    run_copy_cells W _ _ ty (2) w.heap.size i (n + m - i) dc ⟨vb, voff, none⟩ m vc vs und_int64s hsz (by rw [hvl]; simp only [Nat.min_def]; split <;> omega)
      (fun j v hj => by rw [Addr.add_lit, hWc]; exact hOv _ v (hvs j v hj))
      (fun j hj => by rw [hWc]; exact hN _ (by omega)) (fun j hj => by rw [hWf]; exact hNf _) h1v
  have hGn : n + m ≤ G := by rw [hG]; exact grownCap_ge w _ _ _
  have hG63 : G ≤ 9223372036854775807 := by
    have := grownCap_le_maxLen w (n + m) c (2) (by unfold maxLen; omega)
    rw [← hG] at this
    unfold maxLen at this
    omega
  have hGi : ¬ (G = i) := by omega
  have hGim : ¬ (G = i + m) := by omega
  have hci : ¬ (c = i) := by omega
  have hbN : b ≠ w.heap.size := by omega
  have hdl : (cs.drop i).length = n - i := by rw [List.length_drop, hcl]
  have hcpB : ∀ (W : World), (∀ x, W.cell? x = (W1.setCells w.heap.size i vs).cell? x) → (∀ x, W.frozen? x = (W1.setCells w.heap.size i vs).frozen? x) → ∀ ty dc sc, (Builtin.copy_ #[(23), (23)] ty #[.slice (some ⟨w.heap.size, i + m, none⟩) (n + m - (i + m)) dc, .slice (some ⟨b, off + i, none⟩) (n - i) sc]).run Tryz.prog W = .ok (goInt (cs.drop i).length) (W.setCells w.heap.size (i + m) (cs.drop i)) := fun W hWc hWf ty dc sc =>
    run_copy_cells W _ _ ty (2) w.heap.size (i + m) (n + m - (i + m)) dc ⟨b, off + i, none⟩ (n - i) sc (cs.drop i) und_int64s hsz (by rw [hdl]; simp only [Nat.min_def]; split <;> omega)
      (fun j v hj => by
        rw [Addr.add_lit, hWc, World.cell?_setCells_out _ _ _ _ _ (fun h _ => absurd h hbN), Nat.add_assoc]
        exact hOb _ v (hcs (i + j) v (by rwa [List.getElem?_drop] at hj)))
      (fun j hj => by rw [hWc]; exact isSome_setCells _ _ _ _ (fun t ht => hN _ (by omega)) _ (hN _ (by omega)))
      (fun j hj => by rw [hWf, World.frozen?_setCells]; exact hNf _) (fun v hv => h1c v (List.mem_of_mem_drop hv))
  subst hW1
  have hE1 : ∀ x, ((w.alloc (.cells ROW (2))).drew).cell? x = (w.drew.alloc (.cells ROW (2))).cell? x := fun x => rfl
  have hE2 : ∀ x, ((w.alloc (.cells ROW (2))).drew).frozen? x = (w.drew.alloc (.cells ROW (2))).frozen? x := fun x => rfl
  have hF1 : ∀ x, (((w.alloc (.cells ROW (2))).drew.setCells w.heap.size i vs).drew).cell? x = ((w.drew.alloc (.cells ROW (2))).setCells w.heap.size i vs).cell? x := fun x => rfl
  have hF2 : ∀ x, (((w.alloc (.cells ROW (2))).drew.setCells w.heap.size i vs).drew).frozen? x = ((w.drew.alloc (.cells ROW (2))).setCells w.heap.size i vs).frozen? x := fun x => rfl
  have hw1 : IntKind.i64.wrap ((i : Int) + (m : Int)) = (i : Int) + (m : Int) := by rw [IntKind.wrap_i64]; omega
  have hb1 : (0 : Int) ≤ (i : Int) + (m : Int) := by omega
  have hin : i ≤ n := by omega
  have htn : ((i : Int) + (m : Int)).toNat = i + m := by omega
  have hb3 : (i : Int) ≤ (n : Int) := by omega
  clear hkk hik hold hROW hG hRl
  go_enter Tryz.func27, Tryz.ntmps27
  go_wp2_with (first
    | (at_builtin; refine Lib.wpList_append_run _ rfl _ _ _ _ rfl _ _ rfl rfl _ _ (hrz _) ?_)
    | (at_builtin; refine wpList_copy_runI _ rfl _ _ (23) (23) rfl _ _ rfl rfl (hcpA _ hE1 hE2 _ _) ?_)
    | (at_builtin; refine wpList_copy_runI _ rfl _ _ (23) (23) rfl _ _ rfl rfl (hcpB _ (fun _ => rfl) (fun _ => rfl) _ _ _) ?_))
  go_region_law_o (refine step_copy_runI rfl _ _ (23) (23) rfl (.slice (some ⟨w.heap.size, i + m, none⟩) (n + m - (i + m)) (G - (i + m))) (.slice (some ⟨b, off + i, none⟩) (n - i) (c - i)) (by simp [Act.eval, Act.put]) (by simp [Act.eval, Act.put]) (hcpB _ hF1 hF2 (2) (G - (i + m)) (c - i)) ?_)
  go_wp2
  go_ret
  exact ⟨rfl, rfl⟩
end Go.Proofs.YthbdnkokklahcaaGreat

/- Walks: a number is put into a row of the call's own: slices.Insert at int64. -/
namespace Go.Proofs.YthbdnkokklahcaaGreat
set_option maxRecDepth 100000
open Go.RowKit Go.Lib

theorem sat_setCells {g : Nat} {T : TypeId} : ∀ (vs : List Value) (o : Nat) (w : World) (cs : Array Value), SAt w g T cs → o + vs.length ≤ cs.size →
    ∃ cs', SAt (w.setCells g o vs) g T cs' ∧ cs'.toList = cs.toList.take o ++ vs ++ cs.toList.drop (o + vs.length)
  | [], o, w, cs, h, _ => ⟨cs, h, by simp⟩
  | v :: r, o, w, cs, h, hl => by
    simp only [List.length_cons] at hl
    obtain ⟨cs', h1, h2⟩ := sat_setCells r (o + 1) (w.setCell ⟨g, o, none⟩ v) (cs.setIfInBounds o v) (h.set o v) (by simp; omega)
    refine ⟨cs', h1, h2.trans ?_⟩
    have ho : o < cs.toList.length := by simp; omega
    rw [Array.toList_setIfInBounds, List.set_eq_take_append_cons_drop, if_pos ho]
    have e1 : (cs.toList.take o ++ v :: cs.toList.drop (o + 1)).take (o + 1) = cs.toList.take o ++ [v] := by
      rw [List.take_append, List.take_of_length_le (by simp; omega), List.length_take, Nat.min_eq_left (by omega), show o + 1 - o = 1 by omega]; rfl
    have e2 : (cs.toList.take o ++ v :: cs.toList.drop (o + 1)).drop (o + 1 + r.length) = cs.toList.drop (o + (v :: r).length) := by
      rw [List.drop_append, List.drop_of_length_le (by simp; omega), List.length_take, Nat.min_eq_left (by omega), show o + 1 + r.length - o = r.length + 1 by omega, List.drop_succ_cons, List.drop_drop, List.nil_append]
      congr 1; simp; omega
    rw [e1, e2]; simp
theorem setCells_below {g B : Nat} (hg : B ≤ g) : ∀ (vs : List Value) (o : Nat) (w : World), Below B w (w.setCells g o vs)
  | [], _, _ => Below.refl _ _
  | v :: r, o, w => Below.trans (Below.setCell (Below.refl B w) (p := ⟨g, o, none⟩) hg v) (setCells_below hg r (o + 1) _)
theorem setCells_block {g x : Nat} (hx : x ≠ g) : ∀ (vs : List Value) (o : Nat) (w : World), (w.setCells g o vs).heap[x]? = w.heap[x]?
  | [], _, _ => rfl
  | v :: r, o, w => (setCells_block hx r (o + 1) _).trans (Below.heap_setCell w ⟨g, o, none⟩ v x hx)
theorem setCells_kept {g : Nat} : ∀ (vs : List Value) (o : Nat) (w : World), (w.setCells g o vs).heap.size = w.heap.size ∧ (w.setCells g o vs).os = w.os ∧ (w.setCells g o vs).tape = w.tape ∧ (w.setCells g o vs).output = w.output
  | [], _, _ => ⟨rfl, rfl, rfl, rfl⟩
  | v :: r, o, w => by
    obtain ⟨h1, h2, h3, h4⟩ := setCells_kept (g := g) r (o + 1) (w.setCell ⟨g, o, none⟩ v)
    exact ⟨h1.trans (by simp [World.setCell]), h2, h3, h4⟩
theorem setCells_grown {g : Nat} {n c : Nat} (vs : List Value) (o : Nat) (w : World) : w.grownBy (w.setCells g o vs) (Value.slice (some ⟨g, 0, none⟩) n c).ownBlock := by
  obtain ⟨h1, h2, h3, h4⟩ := setCells_kept (g := g) vs o w
  exact ⟨h2, h3, h4, by omega, fun k _ hne => setCells_block (by intro h; subst h; exact hne rfl) vs o w⟩
theorem own_of_sat {w : World} {B g n cap : Nat} {E : TypeId} {cs : Array Value} {vs : List Value} (h : SAt w g E cs) (hB : B ≤ g) (hs : cs.size = cap) (hn : n ≤ cap) (hm : cap ≤ maxLen) (hl : vs.length = n) (ht : cs.toList.take n = vs) : Own w B E (some ⟨g, 0, none⟩) n cap vs :=
  ⟨by simpa using hl, .inr ⟨g, cap, cs, rfl, hB, h, hn, hm, by omega, by simpa using ht⟩⟩
theorem sat_shape {w : World} {g : Nat} {T : TypeId} {cs : Array Value} (h : SAt w g T cs) : w.shape? g = some (T, cs.size) := by
  unfold SAt at h; simp [World.shape?, h]
theorem sat_cell {w : World} {g : Nat} {T : TypeId} {cs : Array Value} (h : SAt w g T cs) (i : Nat) : w.cell? ⟨g, i, none⟩ = cs[i]? := cell_of_row w g i cs T (0, 0) h
theorem alloc_grown (w : World) (o : Obj) (row : Option Nat) : w.grownBy (w.drew.alloc o) row := by
  have hb : Below w.heap.size w (w.drew.alloc o) := Below.alloc (Below.drew (Below.refl _ w)) (Nat.le_refl _) o
  exact ⟨hb.os, hb.tape, hb.output, hb.size, fun i hi _ => hb.block i hi⟩
/-- a row of the call's own that has got x at k -/
def RetIns (B : Nat) (ad : Option Addr) (n c : Nat) (l : List Int) (k : Nat) (x : Int) (w : World) (e : Ending) (w' : World) : Prop :=
  ∃ ad' c', e = .returned (.slice ad' (n + 1) c') ∧ Own w' B 2 ad' (n + 1) c' (I (l.take k ++ x :: l.drop k)) ∧ Below B w w' ∧ w.grownBy w' (Value.slice ad n c).ownBlock ∧ (∀ g, ad' = some g → (∃ g', ad = some g' ∧ g'.block = g.block) ∨ w.heap.size ≤ g.block)
set_option maxHeartbeats 2000000 in
theorem insert64 (B : Nat) (ad : Option Addr) (n c : Nat) (l : List Int) (k : Nat) (x : Int) (vb : Nat) (w : World) (ho : Own w B 2 ad n c (I l)) (hB : B ≤ w.heap.size) (hk : k ≤ n) (hn : n ≤ 1048576) (hv : SAt w vb 2 #[.int .i64 x]) (hne : ∀ g, ad = some g → g.block ≠ vb) :
    Calls Tryz.prog 27 #[.slice ad n c, .int .i64 k, .slice (some ⟨vb, 0, none⟩) 1 1] w (RetIns B ad n c l k x w) := by
  have hll : l.length = n := ho.ints.len
  have hIl : (I l).length = n := by rw [I_len]; exact hll
  have h1c : ∀ v ∈ I l, v.oneCell' = true := fun v hv => by obtain ⟨y, _, rfl⟩ := List.mem_map.1 hv; rfl
  have h1v : ∀ v ∈ [Value.int .i64 x], v.oneCell' = true := fun v hv => by obtain rfl := List.mem_singleton.1 hv; rfl
  have hvs : ∀ j v, [Value.int .i64 x][j]? = some v → w.cell? ⟨vb, 0 + j, none⟩ = some v := fun j v hj => by
    rw [sat_cell hv, Nat.zero_add]; simpa using hj
  have hfa : ∀ i, w.frozen? ⟨vb, i, none⟩ = false := fun i => hv.frozen i
  have hI : I (l.take k ++ x :: l.drop k) = (I l).take k ++ .int .i64 x :: (I l).drop k := by simp [I, List.map_take, List.map_drop]
  have hlen : (I (l.take k ++ x :: l.drop k)).length = n + 1 := by rw [I_len]; simp; omega
  rcases ho.2 with ⟨h1, h2⟩ | ⟨g, cap, cur, h1, hBg, hh, hnc, hmax, hsz, htk⟩
  · simp only [Value.slice.injEq] at h1
    obtain ⟨rfl, rfl, rfl⟩ := h1
    obtain rfl : k = 0 := by omega
    obtain rfl : l = [] := List.eq_nil_of_length_eq_zero hll
    refine (ins_end_grow none 0 0 vb 0 1 1 [] [.int .i64 x] w (by omega) (Nat.le_refl _) (by omega) (by omega) rfl rfl (fun _ => rfl) (fun a h => by cases h) hvs h1v).mono ?_
    rintro e w' ⟨rfl, rfl⟩
    have hge := grownCap_ge w (0 + 1) 0 2
    have hle := grownCap_le_maxLen w (0 + 1) 0 2 (by unfold maxLen; omega)
    generalize grownCap w (0 + 1) 0 2 = G at *
    refine ⟨_, _, rfl, own_of_sat (SAt.new' w.drew _ _ rfl) (by omega) ?_ (by omega) hle hlen ?_, Below.alloc (Below.drew (Below.refl B w)) (by simpa using hB) _, ?_, fun g hg => (by cases hg; right; simp)⟩
    · simp [Builtin.zeroCells, Value.cells]; omega
    · simp [I]
    · exact alloc_grown w _ _
  · simp only [Value.slice.injEq, true_and] at h1
    obtain ⟨rfl, rfl⟩ := h1
    have hs : SAt w g 2 cur := hh
    have hsz' : cur.size = c := by omega
    have htk' : cur.toList.take n = I l := by simpa using htk
    have hgb := hs.lt
    have hne' : vb ≠ g := Ne.symm (hne _ rfl)
    have hm2 : maxLen = 140737488355328 ∨ maxLen ≤ 9223372036854775807 := by unfold maxLen; omega
    have hc63 : c ≤ 9223372036854775807 := by unfold maxLen at hmax; omega
    have hcs : ∀ j v, (I l)[j]? = some v → w.cell? ⟨g, 0 + j, none⟩ = some v := fun j v hj => by
      rw [sat_cell hs, Nat.zero_add, ← hj, ← htk', List.getElem?_take]
      have hjn : j < n := by rw [← hIl]; exact (List.getElem?_eq_some_iff.1 hj).1
      rw [if_pos hjn]; simp
    have hsp : ∀ j, j < n + 1 → n + 1 ≤ c → (w.cell? ⟨g, 0 + j, none⟩).isSome = true := fun j hj hc => by
      rw [sat_cell hs, Nat.zero_add, Array.getElem?_eq_getElem (by omega)]; rfl
    have hfz : ∀ j, w.frozen? ⟨g, j, none⟩ = false := fun j => hs.frozen j
    have hin : ∀ vs o, (I l).take k = vs → vs.length = o → o = k := fun vs o h1 h2 => by rw [← h2, ← h1]; simp [hIl]; omega
    by_cases hroom : n + 1 ≤ c
    · by_cases hkn : k < n
      · refine (ins_shift g 0 n c k vb 0 1 1 (I l) [.int .i64 x] w hkn (by omega) hroom hc63 hne' hIl rfl hcs (fun j hj => hsp j hj hroom) (fun j _ => hfz _) hvs h1c h1v _ _ _ _ (sat_shape hv) (sat_shape hs) (by omega) (hfa _) (hfa _)).mono ?_
        rintro e w' ⟨rfl, rfl⟩
        have hdl : ((I l).drop k).length = n - k := by rw [List.length_drop, hIl]
        obtain ⟨c1, g1, g2⟩ := sat_setCells ((I l).drop k) (0 + (k + 1)) w.drew cur (show SAt w.drew g 2 cur from hs) (by omega)
        have hc1 : c1.size = cur.size := by
          have := congrArg List.length g2
          simp only [List.length_append, List.length_take, List.length_drop, Array.length_toList, hIl] at this
          omega
        obtain ⟨c2, g3, g4⟩ := sat_setCells [.int .i64 x] (0 + k) (w.drew.setCells g (0 + (k + 1)) ((I l).drop k)) c1 g1 (by simp; omega)
        have hc2 : c2.size = cur.size := by
          have := congrArg List.length g4
          simp only [List.length_append, List.length_take, List.length_drop, Array.length_toList, List.length_singleton] at this
          omega
        refine ⟨_, _, rfl, own_of_sat g3 hBg (by omega) hroom hmax hlen ?_, ?_, ?_, fun y hy => (by cases hy; exact .inl ⟨_, rfl, rfl⟩)⟩
        · rw [g4, g2, hI, ← htk']
          simp only [Nat.zero_add, List.length_singleton]
          have t1 : (cur.toList.take (k + 1) ++ (cur.toList.take n).drop k ++ cur.toList.drop (k + 1 + ((cur.toList.take n).drop k).length)).take k = (cur.toList.take n).take k := by
            rw [List.append_assoc, List.take_append_of_le_length (by simp; omega), List.take_take, List.take_take]
            congr 1; omega
          have t2 : (cur.toList.take (k + 1) ++ (cur.toList.take n).drop k ++ cur.toList.drop (k + 1 + ((cur.toList.take n).drop k).length)).drop (k + 1) = (cur.toList.take n).drop k ++ cur.toList.drop (k + 1 + ((cur.toList.take n).drop k).length) := by
            rw [List.append_assoc, List.drop_append, List.drop_of_length_le (by simp; omega), List.length_take, Nat.min_eq_left (by simp; omega), Nat.sub_self, List.drop_zero, List.nil_append]
          rw [t1, t2, List.append_assoc, List.take_append, List.take_of_length_le (by simp; omega)]
          have hlt : ((cur.toList.take n).take k).length = k := by simp; omega
          have hld : ((cur.toList.take n).drop k).length = n - k := by simp; omega
          rw [hlt, show n + 1 - k = (n - k) + 1 by omega, List.singleton_append, List.take_succ_cons, List.take_append_of_le_length (by omega), List.take_of_length_le (l := (cur.toList.take n).drop k) (by omega)]
        · exact Below.trans (Below.trans (Below.drew (Below.refl B w)) (setCells_below hBg _ _ _)) (setCells_below hBg _ _ _)
        · have a1 := setCells_grown (g := g) (n := n) (c := c) ((I l).drop k) (0 + (k + 1)) w.drew
          have a2 := setCells_grown (g := g) (n := n) (c := c) [.int .i64 x] (0 + k) (w.drew.setCells g (0 + (k + 1)) ((I l).drop k))
          exact ⟨a2.os.trans a1.os, a2.tape.trans a1.tape, a2.output.trans a1.output, Nat.le_trans a1.size a2.size, fun i hi h => (a2.block i (Nat.lt_of_lt_of_le hi a1.size) h).trans (a1.block i hi h)⟩
      · obtain rfl : k = n := by omega
        refine (ins_end_room g 0 k c vb 0 1 1 [.int .i64 x] w (by omega) hroom hc63 rfl (fun j hj => ?_) (fun j _ => hfz _) hvs h1v).mono ?_
        · have := hsp (k + j) (by omega) hroom
          rwa [show 0 + (k + j) = 0 + k + j by omega] at this
        rintro e w' ⟨rfl, rfl⟩
        obtain ⟨c1, g1, g2⟩ := sat_setCells [.int .i64 x] (0 + k) w cur hs (by simp; omega)
        have hc1 : c1.size = cur.size := by
          have := congrArg List.length g2
          simp only [List.length_append, List.length_take, List.length_drop, Array.length_toList, List.length_singleton] at this
          omega
        refine ⟨_, _, rfl, own_of_sat g1 hBg (by omega) hroom hmax hlen ?_, setCells_below hBg _ _ _, setCells_grown _ _ _, fun y hy => (by cases hy; exact .inl ⟨_, rfl, rfl⟩)⟩
        rw [g2, hI, Nat.zero_add, List.take_of_length_le (l := I l) (by omega), List.drop_of_length_le (l := I l) (by omega), htk', List.append_assoc, List.take_append, List.take_of_length_le (by omega), hIl, show k + 1 - k = 1 by omega]
        rfl
    · by_cases hkn : k < n
      · refine (ins_grow g 0 n c k vb 0 1 1 (I l) [.int .i64 x] w hkn (by omega) hnc (by omega) (by omega) hIl rfl hcs hvs h1c h1v).mono ?_
        rintro e w' ⟨rfl, rfl⟩
        have hge := grownCap_ge w (n + 1) c 2
        have hle := grownCap_le_maxLen w (n + 1) c 2 (by unfold maxLen; omega)
        generalize grownCap w (n + 1) c 2 = G at *
        have hdl : ((I l).drop k).length = n - k := by rw [List.length_drop, hIl]
        obtain ⟨ROW, hR⟩ : ∃ ROW : Array Value, ROW = ((I l).take k).toArray ++ Builtin.zeroCells (Value.int .i64 0).cells (n + 1 - k) ++ Builtin.zeroCells (Value.int .i64 0).cells (G - (n + 1)) := ⟨_, rfl⟩
        rw [← hR]
        have hRs : ROW.size = G := by rw [hR]; simp [Builtin.zeroCells, Value.cells, hIl]; omega
        have hRt : ROW.toList.take k = (I l).take k := by
          rw [hR]
          simp only [Array.toList_append]
          rw [List.append_assoc, List.take_append_of_le_length (by simp [hIl]; omega)]
          simp [List.take_take]
        have hs0 : SAt (w.alloc (.cells ROW 2)).drew w.heap.size 2 ROW := SAt.new' w _ _ rfl
        obtain ⟨c1, g1, g2⟩ := sat_setCells [.int .i64 x] k _ ROW hs0 (by simp; omega)
        have hc1 : c1.size = G := by
          have := congrArg List.length g2
          simp only [List.length_append, List.length_take, List.length_drop, Array.length_toList, List.length_singleton] at this
          omega
        obtain ⟨c2, g3, g4⟩ := sat_setCells ((I l).drop k) (k + 1) (((w.alloc (.cells ROW 2)).drew.setCells w.heap.size k [.int .i64 x]).drew) c1 (show SAt ((w.alloc (.cells ROW 2)).drew.setCells w.heap.size k [.int .i64 x]) w.heap.size 2 c1 from g1) (by omega)
        have hc2 : c2.size = G := by
          have := congrArg List.length g4
          simp only [List.length_append, List.length_take, List.length_drop, Array.length_toList, hIl] at this
          omega
        have hbel : Below w.heap.size w ((((w.alloc (.cells ROW 2)).drew.setCells w.heap.size k [.int .i64 x]).drew).setCells w.heap.size (k + 1) ((I l).drop k)) :=
          Below.trans (Below.trans (Below.drew (Below.alloc (Below.refl w.heap.size w) (Nat.le_refl _) _)) (Below.drew (setCells_below (Nat.le_refl _) _ _ _))) (setCells_below (Nat.le_refl _) _ _ _)
        refine ⟨_, _, rfl, own_of_sat g3 hB (by omega) hge hle hlen ?_, hbel.mono hB, ⟨hbel.os, hbel.tape, hbel.output, hbel.size, fun i hi _ => hbel.block i hi⟩, fun y hy => (by cases hy; right; exact Nat.le_refl _)⟩
        rw [g4, g2, hI, hRt]
        have t1 : ((I l).take k ++ [Value.int .i64 x] ++ ROW.toList.drop (k + [Value.int IntKind.i64 x].length)).take (k + 1) = (I l).take k ++ [.int .i64 x] := by
          rw [List.take_append, List.take_of_length_le (by simp; omega)]
          have : ((I l).take k ++ [Value.int .i64 x]).length = k + 1 := by simp [hIl]; omega
          rw [this, Nat.sub_self, List.take_zero, List.append_nil]
        rw [t1]
        rw [List.take_append_of_le_length (by simp [hIl]; omega), List.take_of_length_le (by simp [hIl]; omega)]
        simp
      · obtain rfl : k = n := by omega
        refine (ins_end_grow (some ⟨g, 0, none⟩) k c vb 0 1 1 (I l) [.int .i64 x] w (by omega) hnc (by omega) (by omega) hIl rfl (fun h => by cases h) (fun a ha j v hj => by cases ha; rw [Addr.add_lit]; exact hcs j v hj) hvs h1v).mono ?_
        rintro e w' ⟨rfl, rfl⟩
        have hge := grownCap_ge w (k + 1) c 2
        have hle := grownCap_le_maxLen w (k + 1) c 2 (by unfold maxLen; omega)
        generalize grownCap w (k + 1) c 2 = G at *
        refine ⟨_, _, rfl, own_of_sat (SAt.new' w.drew _ _ rfl) (by omega) ?_ (by omega) hle hlen ?_, Below.alloc (Below.drew (Below.refl B w)) (by simpa using hB) _, ?_, fun y hy => (by cases hy; right; simp)⟩
        · simp [Builtin.zeroCells, Value.cells, hIl]; omega
        · rw [hI, List.take_of_length_le (l := I l) (by omega), List.drop_of_length_le (l := I l) (by omega)]
          simp only [Array.toList_append]
          rw [List.take_append_of_le_length (by simp [hIl]), List.take_of_length_le (by simp [hIl])]
        · exact alloc_grown w _ _
end Go.Proofs.YthbdnkokklahcaaGreat

/- Walks: slices.BinarySearch at int64. -/
namespace Go.Proofs.YthbdnkokklahcaaGreat
set_option maxRecDepth 100000
open Go.RowKit Go.Lib Go.Shelf

/-- where x belongs among rising numbers -/
def PlaceOf (l : List Int) (x : Int) (k : Nat) : Prop := k ≤ l.length ∧ (∀ j, j < k → gi l j < x) ∧ (∀ j, k ≤ j → j < l.length → x ≤ gi l j)
def RetBs (l : List Int) (x : Int) (w : World) (e : Ending) (w' : World) : Prop := ∃ (k : Nat) (f : Bool), e = .returned (.tuple #[.int .i64 k, .bool f]) ∧ PlaceOf l x k ∧ ∃ q, w' = w.drewN q
set_option maxHeartbeats 400000 in
theorem cmp_nan64 (x : Int) (w : World) : Calls Tryz.prog 80 #[.int .i64 x] w fun e w' => e = .returned (.bool false) ∧ w' = w := by
  go_enter Tryz.func80, Tryz.ntmps80
  go_wp2
  go_ret
  exact ⟨by simp, rfl⟩
set_option maxHeartbeats 400000 in
theorem slices_nan64 (x : Int) (w : World) : Calls Tryz.prog 56 #[.int .i64 x] w fun e w' => e = .returned (.bool false) ∧ w' = w := by
  go_enter Tryz.func56, Tryz.ntmps56
  go_wp2
  go_ret
  exact ⟨by simp, rfl⟩
set_option maxHeartbeats 400000 in
theorem cmp_less64 (x y : Int) (w : World) : Calls Tryz.prog 55 #[.int .i64 x, .int .i64 y] w fun e w' => e = .returned (.bool (decide (x < y))) ∧ w' = w := by
  go_enter Tryz.func55, Tryz.ntmps55
  go_wp2_with (go_at_call 80; refine (cmp_nan64 _ _).mono ?_; rintro e w' ⟨rfl, rfl⟩)
  go_ret
  exact ⟨rfl, rfl⟩
set_option maxHeartbeats 4000000 in
theorem bsearch64 (ad : Option Addr) (n c : Nat) (l : List Int) (x : Int) (w : World) (hv : Ints w ad n c l) (hn : n ≤ 1048576) (hs : ∀ a b, a ≤ b → b < n → gi l a ≤ gi l b) :
    Calls Tryz.prog 26 #[.slice ad n c, .int .i64 x] w (RetBs l x w) := by
  have HV := Lib.hid hv
  have HL := Lib.hid hv.len
  have S := Lib.hid hs
  clear hv hs
  go_enter Tryz.func26, Tryz.ntmps26
  go_wp2
  go_loopg [7, 8] n (fun g s7 s8 wr => ∃ lo hi q : Nat, s7 = .int .i64 lo ∧ s8 = .int .i64 hi ∧ lo ≤ hi ∧ hi ≤ n ∧ hi - lo ≤ g ∧ wr = w.drewN q ∧ (∀ t, t < lo → gi l t < x) ∧ (∀ t, hi ≤ t → t < n → x ≤ gi l t))
  case atStart => exact ⟨0, n, 0, rfl, rfl, Nat.zero_le _, Nat.le_refl _, by omega, rfl, fun t ht => absurd ht (Nat.not_lt_zero _), fun t h1 h2 => by omega⟩
  case round =>
    obtain ⟨lo, hi, q, rfl, rfl, hlh, hin, hg, rfl, h1, h2⟩ := hrel
    have I := Lib.hid (And.intro h1 h2)
    clear h1 h2
    by_cases hlt : lo < hi
    · obtain ⟨b, off, rfl, hc⟩ := HV.out.cells (by omega)
      have cm : w.cell? ⟨b, off + (lo + hi) / 2, none⟩ = some (.int .i64 (gi l ((lo + hi) / 2))) := by
        rw [hc _ (by omega), I_getD l _ (by rw [HL.out]; omega)]; rfl
      clear hc
      generalize hy : gi l ((lo + hi) / 2) = y at cm
      have Y := Lib.hid hy
      clear hy
      by_cases hyx : y < x
      · go_wp2_with (first | (go_at_call 55; refine (cmp_less64 _ _ _).mono ?_; rintro e w' ⟨rfl, rfl⟩) | (go_at_call 56; refine (slices_nan64 _ _).mono ?_; rintro e w' ⟨rfl, rfl⟩))
        go_roundg (hi - ((lo + hi) / 2 + 1))
        case measure => omega
        case rel =>
          refine ⟨(lo + hi) / 2 + 1, hi, _, by rw [show ((lo : Int) + (hi : Int)) / 2 + 1 = (((lo + hi) / 2 + 1 : Nat) : Int) by omega], rfl, by omega, hin, Nat.le_refl _, rfl, fun t ht => ?_, I.out.2⟩
          have := S.out t ((lo + hi) / 2) (by omega) (by omega)
          rw [Y.out] at this
          omega
      · go_wp2_with (first | (go_at_call 55; refine (cmp_less64 _ _ _).mono ?_; rintro e w' ⟨rfl, rfl⟩) | (go_at_call 56; refine (slices_nan64 _ _).mono ?_; rintro e w' ⟨rfl, rfl⟩))
        go_roundg ((lo + hi) / 2 - lo)
        case measure => omega
        case rel =>
          refine ⟨lo, (lo + hi) / 2, _, rfl, by rw [show ((lo : Int) + (hi : Int)) / 2 = (((lo + hi) / 2 : Nat) : Int) by omega], by omega, by omega, Nat.le_refl _, rfl, I.out.1, fun t ht htn => ?_⟩
          have := S.out ((lo + hi) / 2) t ht htn
          rw [Y.out] at this
          omega
    · have : hi = lo := by omega
      subst this
      have HP := Lib.hid (show PlaceOf l x hi from ⟨by rw [HL.out]; exact hin, I.out.1, fun j h1 h2 => I.out.2 j h1 (by rw [← HL.out]; exact h2)⟩)
      by_cases hnn : hi < n
      · obtain ⟨b, off, rfl, hc⟩ := HV.out.cells (by omega)
        have cl : w.cell? ⟨b, off + hi, none⟩ = some (.int .i64 (gi l hi)) := by
          rw [hc _ hnn, I_getD l _ (by rw [HL.out]; omega)]; rfl
        clear hc
        generalize gi l hi = y at cl
        by_cases hyx : y = x
        · go_wp2_with (first | (go_at_call 55; refine (cmp_less64 _ _ _).mono ?_; rintro e w' ⟨rfl, rfl⟩) | (go_at_call 56; refine (slices_nan64 _ _).mono ?_; rintro e w' ⟨rfl, rfl⟩))
          go_ret2
          exact ⟨_, _, rfl, HP.out, _, rfl⟩
        · go_wp2_with (first | (go_at_call 55; refine (cmp_less64 _ _ _).mono ?_; rintro e w' ⟨rfl, rfl⟩) | (go_at_call 56; refine (slices_nan64 _ _).mono ?_; rintro e w' ⟨rfl, rfl⟩))
          go_ret2
          exact ⟨_, _, rfl, HP.out, _, rfl⟩
      · go_wp2_with fail
        go_ret2
        exact ⟨_, _, rfl, HP.out, _, rfl⟩
end Go.Proofs.YthbdnkokklahcaaGreat

/- Walks: RevokeWord of the program. -/
namespace Go.Proofs.YthbdnkokklahcaaGreat
set_option maxRecDepth 100000
open Go.RowKit

/-- a number is put among rising ones -/
def putI : List Int → Int → List Int
  | [], x => [x]
  | y :: l, x => if y < x then y :: putI l x else x :: y :: l
theorem putI_at : ∀ (l : List Int) (x : Int) (k : Nat), PlaceOf l x k → l.take k ++ x :: l.drop k = putI l x
  | [], x, k, h => by
    obtain rfl : k = 0 := by have := h.1; simpa using this
    rfl
  | y :: l, x, 0, h => by
    have := h.2.2 0 (Nat.le_refl _) (by simp)
    rw [show gi (y :: l) 0 = y from rfl] at this
    rw [putI, if_neg (by omega)]; rfl
  | y :: l, x, k + 1, h => by
    have h0 := h.2.1 0 (by omega)
    rw [show gi (y :: l) 0 = y from rfl] at h0
    rw [putI, if_pos h0]
    have ih := putI_at l x k ⟨by have := h.1; simp at this; omega, fun j hj => h.2.1 (j + 1) (by omega), fun j h1 h2 => h.2.2 (j + 1) (by omega) (by simp; omega)⟩
    rw [← ih]; rfl
def revOk (D : Rg) (s : ByteArray) : Bool := validRg D && (decide (0 ≤ atRg D s) && !revHas D (atRg D s))
def putR (D : Rg) (s : ByteArray) : Rg := ⟨D.ch, D.apart, D.issued, putI D.revoked (atRg D s)⟩
def revRes (D : Rg) (s : ByteArray) : Rg := if revOk D s then putR D s else ⟨⟨0, 0, 0, 0, [], []⟩, 0, [], []⟩
theorem revRes_no {D : Rg} {s : ByteArray} (h : revOk D s = false) : revRes D s = ⟨⟨0, 0, 0, 0, [], []⟩, 0, [], []⟩ := by rw [revRes, h]; rfl
theorem revRes_yes {D : Rg} {s : ByteArray} (h : revOk D s = true) : revRes D s = putR D s := by rw [revRes, h]; rfl
theorem rev_mono {D : Rg} (h : OkRg D) : ∀ a b, a ≤ b → b < D.revoked.length → gi D.revoked a ≤ gi D.revoked b := by
  have main : ∀ (d a : Nat), a + d < D.revoked.length → gi D.revoked a ≤ gi D.revoked (a + d) := by
    intro d
    induction d with
    | zero => intro a _; exact Int.le_refl _
    | succ d ih =>
      intro a hd
      have h1 := ih a (by omega)
      have h2 := h.up (a + (d + 1)) (by omega) hd
      rw [show a + (d + 1) - 1 = a + d by omega] at h2
      omega
  intro a b hab hb
  obtain ⟨d, rfl⟩ := Nat.exists_eq_add_of_le hab
  exact main d a hb
theorem rev_low {D : Rg} (h : OkRg D) : D.revoked.length ≤ D.issued.length := by
  have low : ∀ k, k < D.revoked.length → (k : Int) ≤ gi D.revoked k := by
    intro k
    induction k with
    | zero => intro hk; exact (h.rev 0 hk).1
    | succ k ih =>
      intro hk
      have h1 := ih (by omega)
      have h2 := h.up (k + 1) (by omega) hk
      rw [show k + 1 - 1 = k by omega] at h2
      omega
  apply Classical.byContradiction
  intro hc
  have h1 := low (D.revoked.length - 1) (by omega)
  have h2 := (h.rev (D.revoked.length - 1) (by omega)).2
  omega
/-- the row of revoked ones has grown, or lies anew -/
theorem revoke_r {wa w6 w7 : World} {gb lo q1 i0 i1 r0 r1 : Nat} (D : Rg) (a : Option Addr) (n c : Nat) (b : Option Addr) (m d : Nat) (ia : Option Addr) (im ic : Nat) (ra : Option Addr) (rm rc : Nat) (L : List Int) {ad6 : Option Addr} {c6 : Nat} (ha : gb < wa.heap.size) (hi : lo ≤ q1 ∧ q1 ≤ i0 ∧ i0 ≤ i1 ∧ i1 ≤ gb ∧ q1 ≤ r0 ∧ r0 ≤ r1 ∧ r1 ≤ gb ∧ (i1 ≤ r0 ∨ r1 ≤ i0))
    (hc : ChR wa lo q1 D.ch a n c b m d) (hs : OwnIn wa i0 i1 9 ia im ic (St D.issued)) (hr : Own wa r0 2 ra rm rc (I D.revoked)) (hb : ∀ g, ra = some g → g.block < r1)
    (hg : wa.grownBy w6 (Value.slice ra rm rc).ownBlock) (hk : ∀ g, ad6 = some g → (∃ g', ra = some g' ∧ g'.block = g.block) ∨ wa.heap.size ≤ g.block) (ho : Own w6 r0 2 ad6 (rm + 1) c6 (I L))
    (h7 : Chg gb (gb + 1) w6 w7) (hz : w7.heap.size = w6.heap.size) : RgR w7 lo w7.heap.size ⟨D.ch, D.apart, D.issued, L⟩ a n c b m d ia im ic ad6 (rm + 1) c6 := by
  have hg6 : Chg r0 r1 wa w6 := grown_chg hg (fun k e => by
    have h1 := World.ownsRow.lt hr k e
    cases ra with
    | none => simp [Value.ownBlock] at e
    | some g =>
      have h2 := hb g rfl
      have h3 := (hr.blk g rfl)
      simp [Value.ownBlock] at e
      omega)
  have hsz := hg6.size
  have hc7 : ChR w7 lo q1 D.ch a n c b m d := (hc.chg hg6 (.inr (by omega))).chg h7 (.inr (by omega))
  have hs7 : OwnIn w7 i0 i1 9 ia im ic (St D.issued) := (hs.chg hg6 (by omega)).chg h7 (.inr (by omega))
  by_cases hcase : ∀ g, ad6 = some g → wa.heap.size ≤ g.block
  · have ho7 : OwnIn w7 (gb + 1) w7.heap.size 2 ad6 (rm + 1) c6 (I L) :=
      ((ho.raise (B' := gb + 1) (fun g e => by have := hcase g e; omega)).chg h7 (fun g e => .inr (by have := hcase g e; omega))).in
    exact ⟨q1, i0, i1, gb + 1, w7.heap.size, by omega, hc7, hs7, ho7⟩
  · have hlt : ∀ g, ad6 = some g → g.block < r1 := fun g e => by
      rcases hk g e with ⟨g', e', h⟩ | h
      · have := hb g' e'; omega
      · exact absurd (fun g2 e2 => by rw [e] at e2; cases e2; exact h) hcase
    have ho7 : OwnIn w7 r0 r1 2 ad6 (rm + 1) c6 (I L) := ⟨ho.chg h7 (fun g e => .inl (by have := hlt g e; omega)), hlt⟩
    exact ⟨q1, i0, i1, r0, r1, by omega, hc7, hs7, ho7⟩
theorem wp_gen {P : Program} {c : Code} {Q : Exit → Act → World → Prop} {a : Act} {W : World} (C : World → Prop) (h : C W) (k : ∀ W', C W' → c.wp P Q a W') : c.wp P Q a W := k W h
set_option maxHeartbeats 1000000 in
theorem impl_indexOfS (D : Rg) (q : Nat) (a : Option Addr) (n c : Nat) (b : Option Addr) (m d : Nat) (ia : Option Addr) (im ic : Nat) (ra : Option Addr) (rm rc : Nat) (s : ByteArray) (w : World) (hv : RgAt w q D a n c b m d ia im ic ra rm rc) (hi : im ≤ 1048576) :
    Calls Tryz.prog 23 #[.pointer (some ⟨q, 0, none⟩), .string s] w (Same (.int .i64 (atRg D s)) w) := by
  have HX := Lib.hid (fun W h => indexT ia im ic D.issued s W (Strs.ext hv.is h) (by omega))
  have HA := Lib.hid (show idx (fun x => s.toList == x.toList) D.issued = atRg D s from rfl)
  rw [HA.out] at HX
  have hb := idx_bd (fun x : ByteArray => s.toList == x.toList) D.issued
  rw [HA.out, hv.is.len] at hb
  obtain ⟨_, k6, k7, k8, _, _⟩ := hv
  go_enter Tryz.func23, Tryz.ntmps23
  go_wp2_with (refine (HX.out _ (Ext.refl _)).mono ?_; rintro e w1 ⟨rfl, rfl⟩)
  go_ret
  exact ⟨ri (by omega), rfl⟩
set_option maxRecDepth 20000 in
set_option maxHeartbeats 8000000 in
theorem impl_Revoke (D : Rg) (a : Option Addr) (n c : Nat) (b : Option Addr) (m d : Nat) (ia : Option Addr) (im ic : Nat) (ra : Option Addr) (rm rc : Nat) (s : ByteArray) (w : World) (hv : RgIn w D a n c b m d ia im ic ra rm rc) : Calls Tryz.prog 7 #[.agg #[.int .i64 D.ch.base, .int .i64 D.ch.states, .int .i64 D.ch.start, .int .i64 D.ch.fin, .slice a n c, .slice b m d, .int .i64 D.apart, .slice ia im ic, .slice ra rm rc], .string s] w (RetRgO (revRes D s) (revOk D s) w) := by
  obtain ⟨wb, hwb⟩ : ∃ wb, wb = (w.alloc (.cells #[.int .i64 D.ch.base, .int .i64 D.ch.states, .int .i64 D.ch.start, .int .i64 D.ch.fin, .slice a n c, .slice b m d, .int .i64 D.apart, .slice ia im ic, .slice ra rm rc] 32)).alloc (.cells #[.int .i64 0, .int .i64 0, .int .i64 0, .int .i64 0, .slice none 0 0, .slice none 0 0, .int .i64 0, .slice none 0 0, .slice none 0 0] 32) := ⟨_, rfl⟩
  have hxb : Ext w wb := by rw [hwb]; exact (by repeat (first | (with_reducible exact Ext.refl _) | (with_reducible refine Ext.drewN ?_ _) | (with_reducible refine Ext.drew ?_) | (with_reducible refine Ext.alloc ?_ _) | ((with_reducible refine Ext.setCell ?_ ?_ _); rotate_left; focus (first | (simp; done) | (simp; omega) | omega)) | assumption | (with_reducible refine Ext.trans ?_ (by assumption))))
  have hbs : wb.heap.size = w.heap.size + 2 := by rw [hwb]; simp
  have HAt := Lib.hid (show RgAt wb w.heap.size D a n c b m d ia im ic ra rm rc by rw [hwb]; exact (hv.box 32).ext ((Ext.refl _).alloc _))
  have HN := Lib.hid (hv.ext hxb)
  have HZ := Lib.hid (show SAt wb (w.heap.size + 1) 32 #[.int .i64 0, .int .i64 0, .int .i64 0, .int .i64 0, .slice none 0 0, .slice none 0 0, .int .i64 0, .slice none 0 0, .slice none 0 0] by rw [hwb]; exact SAt.new' _ _ _ (by simp))
  have him := hv.hi
  have hrm := hv.hr
  have HL := Lib.hid hv.is.len
  obtain ⟨⟨k0, k1, k2, k3, k4, k5, _, _⟩, k6, k7, k8, _, _⟩ := HAt.out
  have HVal := Lib.hid (fun W (h : Ext wb W) => impl_ValidRegistry D a n c b m d ia im ic ra rm rc W (HN.out.ext h))
  obtain ⟨ix, hix⟩ : ∃ ix, ix = atRg D s := ⟨_, rfl⟩
  have HIx := Lib.hid (fun W (h : Ext wb W) => impl_indexOfS D w.heap.size a n c b m d ia im ic ra rm rc s W (HAt.out.ext h) him)
  have HCt := Lib.hid (fun W (h : Ext wb W) => containsI ra rm rc D.revoked ix W (Ints.ext HN.out.rs h) (by omega))
  rw [← hix] at HIx
  have HRH := Lib.hid (show (D.revoked.any fun y => y == ix) = revHas D ix from rfl)
  rw [HRH.out] at HCt
  have HIxe := Lib.hid hix
  have HWb := Lib.hid hwb
  have hxbb : Ext wb wb := Ext.refl _
  clear hv hwb hix HRH
  have zfail : ∀ Wf, Ext w Wf → revOk D s = false → RetRgO (revRes D s) (revOk D s) w (.returned (.tuple #[.agg #[.int .i64 0, .int .i64 0, .int .i64 0, .int .i64 0, .slice none 0 0, .slice none 0 0, .int .i64 0, .slice none 0 0, .slice none 0 0], .bool false])) Wf := fun Wf hf hO => by
    rw [revRes_no hO, hO]
    exact ⟨none, 0, 0, none, 0, 0, none, 0, 0, none, 0, 0, rfl, zero_r _ _ _ (Ext.le hf), zero_sz, hf⟩
  have HZF := Lib.hid zfail
  clear zfail
  cases hval : validRg D
  · have HO := Lib.hid (show revOk D s = false by rw [revOk, hval]; rfl)
    rw [hval] at HVal
    clear hval
    go_enter Tryz.func7, Tryz.ntmps7
    go_wp2_with fail
    rw [← HWb.out]
    (refine wp_region_from wb (by repeat (first | (with_reducible exact Ext.refl _) | (with_reducible refine Ext.drewN ?_ _) | (with_reducible refine Ext.drew ?_) | (with_reducible refine Ext.alloc ?_ _) | ((with_reducible refine Ext.setCell ?_ ?_ _); rotate_left; focus (first | (simp; done) | (simp; omega) | omega)) | assumption | (with_reducible refine Ext.trans ?_ (by assumption)))) (by kernel_rfl) (by kernel_rfl) (by kernel_rfl) ?_; (repeat (first | (refine mix_q rfl ?_; go_big_quiet_step (fail); refine wpQuiet_nil ?_; show wpMix _ _ _ _ _ _ _) | (refine mix_s rfl ?_; go_wp2_with ((go_at_call 22; (with_reducible refine (HVal.out _ (by repeat (first | (with_reducible exact Ext.refl _) | (with_reducible assumption) | (with_reducible refine Ext.drewN ?_ _) | (with_reducible refine Ext.drew ?_) | (with_reducible refine Ext.alloc ?_ _) | ((with_reducible refine Ext.setCell ?_ ?_ _); rotate_left; focus (first | (simp; done) | (simp; omega) | omega)) | (with_reducible refine Ext.trans ?_ (by with_reducible assumption))))).mono ?_); rintro e w1 ⟨rfl, hy⟩; have hx1 : Ext wb w1 := Ext.trans (by repeat (first | (with_reducible exact Ext.refl _) | (with_reducible assumption) | (with_reducible refine Ext.drewN ?_ _) | (with_reducible refine Ext.drew ?_) | (with_reducible refine Ext.alloc ?_ _) | ((with_reducible refine Ext.setCell ?_ ?_ _); rotate_left; focus (first | (simp; done) | (simp; omega) | omega)) | (with_reducible refine Ext.trans ?_ (by with_reducible assumption)))) hy; clear hy)); first | refine ⟨up_of (by repeat (first | (with_reducible exact Ext.refl _) | (with_reducible refine Ext.drewN ?_ _) | (with_reducible refine Ext.drew ?_) | (with_reducible refine Ext.alloc ?_ _) | ((with_reducible refine Ext.setCell ?_ ?_ _); rotate_left; focus (first | (simp; done) | (simp; omega) | omega)) | assumption | (with_reducible refine Ext.trans ?_ (by assumption)))), ?_⟩ | refine ⟨rfl, rfl, up_of (by repeat (first | (with_reducible exact Ext.refl _) | (with_reducible refine Ext.drewN ?_ _) | (with_reducible refine Ext.drew ?_) | (with_reducible refine Ext.alloc ?_ _) | ((with_reducible refine Ext.setCell ?_ ?_ _); rotate_left; focus (first | (simp; done) | (simp; omega) | omega)) | assumption | (with_reducible refine Ext.trans ?_ (by assumption)))), ?_⟩))); refine mix_nil ?_)
    have hl := hx1
    have hxw := hxb.trans hx1
    have hz1 := HZ.out.ext hx1
    have y0 := hz1.cell 0 (by simp)
    have y1 := hz1.cell 1 (by simp)
    have y2 := hz1.cell 2 (by simp)
    have y3 := hz1.cell 3 (by simp)
    have y4 := hz1.cell 4 (by simp)
    have y5 := hz1.cell 5 (by simp)
    have y6 := hz1.cell 6 (by simp)
    have y7 := hz1.cell 7 (by simp)
    have y8 := hz1.cell 8 (by simp)
    try simp only [List.getElem_toArray, List.getElem_cons_succ, List.getElem_cons_zero] at y0 y1 y2 y3 y4 y5 y6 y7 y8
    have yf := fun i => hz1.frozen i
    have yl := hz1.lt
    go_wp2_with fail
    refine bodyPost_ret (v := .tuple #[.agg #[.int .i64 0, .int .i64 0, .int .i64 0, .int .i64 0, .slice none 0 0, .slice none 0 0, .int .i64 0, .slice none 0 0, .slice none 0 0], .bool false]) ?_ rfl ?_
    · simp [results, Tryz.results7, go_sem, y0, y1, y2, y3, y4, y5, y6, y7, y8]
    · exact HZF.out _ (by repeat (first | (with_reducible exact Ext.refl _) | (with_reducible assumption) | (with_reducible refine Ext.drewN ?_ _) | (with_reducible refine Ext.drew ?_) | (with_reducible refine Ext.alloc ?_ _) | ((with_reducible refine Ext.setCell ?_ ?_ _); rotate_left; focus (first | (simp; done) | (simp; omega) | omega)) | (with_reducible refine Ext.trans ?_ (by with_reducible assumption)))) HO.out
  have HOk := Lib.hid (validRg_ok hval)
  have HVl := Lib.hid hval
  rw [hval] at HVal
  clear hval
  by_cases hneg : ix < 0
  · have HO := Lib.hid (show revOk D s = false by rw [revOk, ← HIxe.out, decide_eq_false (by omega)]; simp)
    have hd : decide (ix < 0) = true := decide_eq_true hneg
    go_enter Tryz.func7, Tryz.ntmps7
    go_wp2_with fail
    rw [← HWb.out]
    (refine wp_region_from wb (by repeat (first | (with_reducible exact Ext.refl _) | (with_reducible refine Ext.drewN ?_ _) | (with_reducible refine Ext.drew ?_) | (with_reducible refine Ext.alloc ?_ _) | ((with_reducible refine Ext.setCell ?_ ?_ _); rotate_left; focus (first | (simp; done) | (simp; omega) | omega)) | assumption | (with_reducible refine Ext.trans ?_ (by assumption)))) (by kernel_rfl) (by kernel_rfl) (by kernel_rfl) ?_; (repeat (first | (refine mix_q rfl ?_; go_big_quiet_step (fail); refine wpQuiet_nil ?_; show wpMix _ _ _ _ _ _ _) | (refine mix_s rfl ?_; go_wp2_with (first | (go_at_call 22; (with_reducible refine (HVal.out _ (by repeat (first | (with_reducible exact Ext.refl _) | (with_reducible assumption) | (with_reducible refine Ext.drewN ?_ _) | (with_reducible refine Ext.drew ?_) | (with_reducible refine Ext.alloc ?_ _) | ((with_reducible refine Ext.setCell ?_ ?_ _); rotate_left; focus (first | (simp; done) | (simp; omega) | omega)) | (with_reducible refine Ext.trans ?_ (by with_reducible assumption))))).mono ?_); rintro e w1 ⟨rfl, hy⟩; have hx1 : Ext wb w1 := Ext.trans (by repeat (first | (with_reducible exact Ext.refl _) | (with_reducible assumption) | (with_reducible refine Ext.drewN ?_ _) | (with_reducible refine Ext.drew ?_) | (with_reducible refine Ext.alloc ?_ _) | ((with_reducible refine Ext.setCell ?_ ?_ _); rotate_left; focus (first | (simp; done) | (simp; omega) | omega)) | (with_reducible refine Ext.trans ?_ (by with_reducible assumption)))) hy; clear hy) | (go_at_call 23; (with_reducible refine (HIx.out _ (by repeat (first | (with_reducible exact Ext.refl _) | (with_reducible assumption) | (with_reducible refine Ext.drewN ?_ _) | (with_reducible refine Ext.drew ?_) | (with_reducible refine Ext.alloc ?_ _) | ((with_reducible refine Ext.setCell ?_ ?_ _); rotate_left; focus (first | (simp; done) | (simp; omega) | omega)) | (with_reducible refine Ext.trans ?_ (by with_reducible assumption))))).mono ?_); rintro e w2 ⟨rfl, rfl⟩)); first | refine ⟨up_of (by repeat (first | (with_reducible exact Ext.refl _) | (with_reducible refine Ext.drewN ?_ _) | (with_reducible refine Ext.drew ?_) | (with_reducible refine Ext.alloc ?_ _) | ((with_reducible refine Ext.setCell ?_ ?_ _); rotate_left; focus (first | (simp; done) | (simp; omega) | omega)) | assumption | (with_reducible refine Ext.trans ?_ (by assumption)))), ?_⟩ | refine ⟨rfl, rfl, up_of (by repeat (first | (with_reducible exact Ext.refl _) | (with_reducible refine Ext.drewN ?_ _) | (with_reducible refine Ext.drew ?_) | (with_reducible refine Ext.alloc ?_ _) | ((with_reducible refine Ext.setCell ?_ ?_ _); rotate_left; focus (first | (simp; done) | (simp; omega) | omega)) | assumption | (with_reducible refine Ext.trans ?_ (by assumption)))), ?_⟩))); refine mix_nil ?_)
    have hl := hx1
    have hxw := hxb.trans hx1
    have hz1 := HZ.out.ext hx1
    have y0 := hz1.cell 0 (by simp)
    have y1 := hz1.cell 1 (by simp)
    have y2 := hz1.cell 2 (by simp)
    have y3 := hz1.cell 3 (by simp)
    have y4 := hz1.cell 4 (by simp)
    have y5 := hz1.cell 5 (by simp)
    have y6 := hz1.cell 6 (by simp)
    have y7 := hz1.cell 7 (by simp)
    have y8 := hz1.cell 8 (by simp)
    try simp only [List.getElem_toArray, List.getElem_cons_succ, List.getElem_cons_zero] at y0 y1 y2 y3 y4 y5 y6 y7 y8
    have yf := fun i => hz1.frozen i
    have yl := hz1.lt
    go_wp2_with fail
    refine bodyPost_ret (v := .tuple #[.agg #[.int .i64 0, .int .i64 0, .int .i64 0, .int .i64 0, .slice none 0 0, .slice none 0 0, .int .i64 0, .slice none 0 0, .slice none 0 0], .bool false]) ?_ rfl ?_
    · simp [results, Tryz.results7, go_sem, y0, y1, y2, y3, y4, y5, y6, y7, y8]
    · exact HZF.out _ (by repeat (first | (with_reducible exact Ext.refl _) | (with_reducible assumption) | (with_reducible refine Ext.drewN ?_ _) | (with_reducible refine Ext.drew ?_) | (with_reducible refine Ext.alloc ?_ _) | ((with_reducible refine Ext.setCell ?_ ?_ _); rotate_left; focus (first | (simp; done) | (simp; omega) | omega)) | (with_reducible refine Ext.trans ?_ (by with_reducible assumption)))) HO.out
  have hd : decide (ix < 0) = false := decide_eq_false hneg
  obtain ⟨i, rfl⟩ := Int.eq_ofNat_of_zero_le (show 0 ≤ ix by omega)
  clear hneg
  cases hrh : revHas D (i : Int)
  · rw [hrh] at HCt
    have HO := Lib.hid (show revOk D s = true by rw [revOk, ← HIxe.out, hrh, HVl.out, decide_eq_true (by omega)]; rfl)
    have HR := Lib.hid (revRes_yes HO.out)
    clear hrh
    go_enter Tryz.func7, Tryz.ntmps7
    go_wp2_with fail
    rw [← HWb.out]
    (refine wp_region_from wb (by repeat (first | (with_reducible exact Ext.refl _) | (with_reducible refine Ext.drewN ?_ _) | (with_reducible refine Ext.drew ?_) | (with_reducible refine Ext.alloc ?_ _) | ((with_reducible refine Ext.setCell ?_ ?_ _); rotate_left; focus (first | (simp; done) | (simp; omega) | omega)) | assumption | (with_reducible refine Ext.trans ?_ (by assumption)))) (by kernel_rfl) (by kernel_rfl) (by kernel_rfl) ?_; (repeat (first | (refine mix_q rfl ?_; go_big_quiet_step (fail); refine wpQuiet_nil ?_; show wpMix _ _ _ _ _ _ _) | (refine mix_s rfl ?_; go_wp2_with (first | (go_at_call 22; (with_reducible refine (HVal.out _ (by repeat (first | (with_reducible exact Ext.refl _) | (with_reducible assumption) | (with_reducible refine Ext.drewN ?_ _) | (with_reducible refine Ext.drew ?_) | (with_reducible refine Ext.alloc ?_ _) | ((with_reducible refine Ext.setCell ?_ ?_ _); rotate_left; focus (first | (simp; done) | (simp; omega) | omega)) | (with_reducible refine Ext.trans ?_ (by with_reducible assumption))))).mono ?_); rintro e w1 ⟨rfl, hy⟩; have hx1 : Ext wb w1 := Ext.trans (by repeat (first | (with_reducible exact Ext.refl _) | (with_reducible assumption) | (with_reducible refine Ext.drewN ?_ _) | (with_reducible refine Ext.drew ?_) | (with_reducible refine Ext.alloc ?_ _) | ((with_reducible refine Ext.setCell ?_ ?_ _); rotate_left; focus (first | (simp; done) | (simp; omega) | omega)) | (with_reducible refine Ext.trans ?_ (by with_reducible assumption)))) hy; clear hy) | (go_at_call 23; (with_reducible refine (HIx.out _ (by repeat (first | (with_reducible exact Ext.refl _) | (with_reducible assumption) | (with_reducible refine Ext.drewN ?_ _) | (with_reducible refine Ext.drew ?_) | (with_reducible refine Ext.alloc ?_ _) | ((with_reducible refine Ext.setCell ?_ ?_ _); rotate_left; focus (first | (simp; done) | (simp; omega) | omega)) | (with_reducible refine Ext.trans ?_ (by with_reducible assumption))))).mono ?_); rintro e w2 ⟨rfl, rfl⟩) | (go_at_call 24; (with_reducible refine (HCt.out _ (by repeat (first | (with_reducible exact Ext.refl _) | (with_reducible assumption) | (with_reducible refine Ext.drewN ?_ _) | (with_reducible refine Ext.drew ?_) | (with_reducible refine Ext.alloc ?_ _) | ((with_reducible refine Ext.setCell ?_ ?_ _); rotate_left; focus (first | (simp; done) | (simp; omega) | omega)) | (with_reducible refine Ext.trans ?_ (by with_reducible assumption))))).mono ?_); rintro e w3 ⟨rfl, rfl⟩)); first | refine ⟨up_of (by repeat (first | (with_reducible exact Ext.refl _) | (with_reducible refine Ext.drewN ?_ _) | (with_reducible refine Ext.drew ?_) | (with_reducible refine Ext.alloc ?_ _) | ((with_reducible refine Ext.setCell ?_ ?_ _); rotate_left; focus (first | (simp; done) | (simp; omega) | omega)) | assumption | (with_reducible refine Ext.trans ?_ (by assumption)))), ?_⟩ | refine ⟨rfl, rfl, up_of (by repeat (first | (with_reducible exact Ext.refl _) | (with_reducible refine Ext.drewN ?_ _) | (with_reducible refine Ext.drew ?_) | (with_reducible refine Ext.alloc ?_ _) | ((with_reducible refine Ext.setCell ?_ ?_ _); rotate_left; focus (first | (simp; done) | (simp; omega) | omega)) | assumption | (with_reducible refine Ext.trans ?_ (by assumption)))), ?_⟩))); refine mix_nil ?_)
    go_wp2_with (go_at_call 25; (with_reducible refine (impl_cloneRegistry D a n c b m d ia im ic ra rm rc _ (HN.out.ext (by repeat (first | (with_reducible exact Ext.refl _) | (with_reducible assumption) | (with_reducible refine Ext.drewN ?_ _) | (with_reducible refine Ext.drew ?_) | (with_reducible refine Ext.alloc ?_ _) | ((with_reducible refine Ext.setCell ?_ ?_ _); rotate_left; focus (first | (simp; done) | (simp; omega) | omega)) | (with_reducible refine Ext.trans ?_ (by with_reducible assumption)))))).mono ?_); rintro e w4 ⟨a4, c4, b4, d4, ia4, ic4, ra4, rc4, rfl, hr4, hy4⟩; have HR4 := Lib.hid (RgR.mono (lo' := wb.heap.size) (hi' := w4.heap.size) hr4 (Ext.le (by repeat (first | (with_reducible exact Ext.refl _) | (with_reducible assumption) | (with_reducible refine Ext.drewN ?_ _) | (with_reducible refine Ext.drew ?_) | (with_reducible refine Ext.alloc ?_ _) | ((with_reducible refine Ext.setCell ?_ ?_ _); rotate_left; focus (first | (simp; done) | (simp; omega) | omega)) | (with_reducible refine Ext.trans ?_ (by with_reducible assumption))))) (Nat.le_refl _)); have hx4 : Ext wb w4 := Ext.trans (by repeat (first | (with_reducible exact Ext.refl _) | (with_reducible assumption) | (with_reducible refine Ext.drewN ?_ _) | (with_reducible refine Ext.drew ?_) | (with_reducible refine Ext.alloc ?_ _) | ((with_reducible refine Ext.setCell ?_ ?_ _); rotate_left; focus (first | (simp; done) | (simp; omega) | omega)) | (with_reducible refine Ext.trans ?_ (by with_reducible assumption)))) hy4; clear hy4 hr4)
    obtain ⟨q6, hq6⟩ : ∃ q, q = w4.heap.size := ⟨_, rfl⟩
    obtain ⟨wA, hwA⟩ : ∃ W, W = w4.alloc (.cells #[.int .i64 D.ch.base, .int .i64 D.ch.states, .int .i64 D.ch.start, .int .i64 D.ch.fin, .slice a4 n c4, .slice b4 m d4, .int .i64 D.apart, .slice ia4 im ic4, .slice ra4 rm rc4] 32) := ⟨_, rfl⟩
    rw [← hwA, ← hq6]
    have hx4A : Ext w4 wA := by rw [hwA]; exact (Ext.refl _).alloc _
    have HSA := Lib.hid (show SAt wA q6 32 #[.int .i64 D.ch.base, .int .i64 D.ch.states, .int .i64 D.ch.start, .int .i64 D.ch.fin, .slice a4 n c4, .slice b4 m d4, .int .i64 D.apart, .slice ia4 im ic4, .slice ra4 rm rc4] by rw [hwA]; exact SAt.new' _ _ _ hq6)
    have hAs : wA.heap.size = q6 + 1 := by rw [hwA, hq6]; simp
    obtain ⟨q1, i0, i1, r0, r1, g, hch4, his4, hrs4⟩ := HR4.out
    rw [← hq6, hbs] at g
    rw [hbs] at hch4
    have HCH := Lib.hid (hch4.ext hx4A)
    have HIS := Lib.hid (his4.ext hx4A)
    have HRS := Lib.hid (hrs4.ext hx4A)
    have hxA : Ext wb wA := hx4.trans hx4A
    have hxAA : Ext wA wA := Ext.refl _
    have e8 : ∀ w', Ext wA w' → w'.cell? ⟨q6, 8, none⟩ = some (.slice ra4 rm rc4) := fun w' h => (HSA.out.ext h).cell 8 (by simp)
    have HRl := Lib.hid (show D.revoked.length = rm from HN.out.rs.len)
    have HBs := Lib.hid (fun W (h : Ext wA W) => bsearch64 ra4 rm rc4 D.revoked i W (Ints.ext HRS.out.1.ints h) hrm (fun x y h1 h2 => rev_mono HOk.out x y h1 (by rw [HRl.out]; exact h2)))
    clear hch4 his4 hrs4 hwA hq6 HR4
    (refine wp_region_from wA (by repeat (first | (with_reducible exact Ext.refl _) | (with_reducible refine Ext.drewN ?_ _) | (with_reducible refine Ext.drew ?_) | (with_reducible refine Ext.alloc ?_ _) | ((with_reducible refine Ext.setCell ?_ ?_ _); rotate_left; focus (first | (simp; done) | (simp; omega) | omega)) | assumption | (with_reducible refine Ext.trans ?_ (by assumption)))) (by kernel_rfl) (by kernel_rfl) (by kernel_rfl) ?_; (repeat (first | (refine mix_q rfl ?_; go_big_quiet_step (fail); refine wpQuiet_nil ?_; show wpMix _ _ _ _ _ _ _) | (refine mix_s rfl ?_; go_wp2_with (first | (go_at_call 23; (with_reducible refine (HIx.out _ (by repeat (first | (with_reducible exact Ext.refl _) | (with_reducible assumption) | (with_reducible refine Ext.drewN ?_ _) | (with_reducible refine Ext.drew ?_) | (with_reducible refine Ext.alloc ?_ _) | ((with_reducible refine Ext.setCell ?_ ?_ _); rotate_left; focus (first | (simp; done) | (simp; omega) | omega)) | (with_reducible refine Ext.trans ?_ (by with_reducible assumption))))).mono ?_); rintro e w5 ⟨rfl, rfl⟩) | (go_at_call 26; (with_reducible refine (HBs.out _ (by repeat (first | (with_reducible exact Ext.refl _) | (with_reducible assumption) | (with_reducible refine Ext.drewN ?_ _) | (with_reducible refine Ext.drew ?_) | (with_reducible refine Ext.alloc ?_ _) | ((with_reducible refine Ext.setCell ?_ ?_ _); rotate_left; focus (first | (simp; done) | (simp; omega) | omega)) | (with_reducible refine Ext.trans ?_ (by with_reducible assumption))))).mono ?_); rintro e w6 ⟨k, f, rfl, hpl, qq, rfl⟩)); first | refine ⟨up_of (by repeat (first | (with_reducible exact Ext.refl _) | (with_reducible refine Ext.drewN ?_ _) | (with_reducible refine Ext.drew ?_) | (with_reducible refine Ext.alloc ?_ _) | ((with_reducible refine Ext.setCell ?_ ?_ _); rotate_left; focus (first | (simp; done) | (simp; omega) | omega)) | assumption | (with_reducible refine Ext.trans ?_ (by assumption)))), ?_⟩ | refine ⟨rfl, rfl, up_of (by repeat (first | (with_reducible exact Ext.refl _) | (with_reducible refine Ext.drewN ?_ _) | (with_reducible refine Ext.drew ?_) | (with_reducible refine Ext.alloc ?_ _) | ((with_reducible refine Ext.setCell ?_ ?_ _); rotate_left; focus (first | (simp; done) | (simp; omega) | omega)) | assumption | (with_reducible refine Ext.trans ?_ (by assumption)))), ?_⟩))); refine mix_nil ?_)
    go_wp2_with fail
    refine wp_gen (fun W' => Ext wA W') (by repeat (first | (with_reducible exact Ext.refl _) | (with_reducible assumption) | (with_reducible refine Ext.drewN ?_ _) | (with_reducible refine Ext.drew ?_) | (with_reducible refine Ext.alloc ?_ _) | ((with_reducible refine Ext.setCell ?_ ?_ _); rotate_left; focus (first | (simp; done) | (simp; omega) | omega)) | (with_reducible refine Ext.trans ?_ (by with_reducible assumption)))) ?_
    intro w7 hx7
    have HPl := Lib.hid hpl
    have hkn : k ≤ rm := by have := hpl.1; rw [HRl.out] at this; exact this
    clear hpl
    have hx7b : Ext wb w7 := hxA.trans hx7
    have h7s : q6 + 1 ≤ w7.heap.size := by have := hx7.le; omega
    have HS7 := Lib.hid (HSA.out.ext (hx7.drew))
    have HIx7 := Lib.hid (HIx.out w7.drew hx7b.drew)
    obtain ⟨C0, hC0⟩ : ∃ C : World → Prop, C = fun w' => SAt w' q6 32 #[.int .i64 D.ch.base, .int .i64 D.ch.states, .int .i64 D.ch.start, .int .i64 D.ch.fin, .slice a4 n c4, .slice b4 m d4, .int .i64 D.apart, .slice ia4 im ic4, .slice ra4 rm rc4] := ⟨_, rfl⟩
    have hin : C0 w7.drew := by rw [hC0]; exact HS7.out
    have hpk : ∀ z, SAt (World.pk C0 w7.drew z) q6 32 #[.int .i64 D.ch.base, .int .i64 D.ch.states, .int .i64 D.ch.start, .int .i64 D.ch.fin, .slice a4 n c4, .slice b4 m d4, .int .i64 D.apart, .slice ia4 im ic4, .slice ra4 rm rc4] := fun z => by have := pk_in hin z; rw [hC0] at this; rw [hC0]; exact this
    have p8 : ∀ z, (World.pk C0 w7.drew z).cell? ⟨q6, 8, none⟩ = some (.slice ra4 rm rc4) := fun z => (hpk z).cell 8 (by simp)
    have HIn := Lib.hid (insert64 r0 ra4 rm rc4 D.revoked k i w7.heap.size ((w7.alloc (.cells #[.int .i64 (i : Int)] 2)).drew) ((HRS.out.1.ext hx7).alloc' _).drew (by simp; omega) hkn (by omega) (SAt.new' w7 _ _ rfl).drew (fun y hy => by have := HRS.out.2 y hy; omega))
    have hra : ∀ y, ra4 = some y → y.block < q6 := fun y hy => by have := HRS.out.2 y hy; omega
    have HRA := Lib.hid hra
    have Hhpk := Lib.hid hpk; clear hpk; have Hhin := Lib.hid hin; clear hin; have HhC0 := Lib.hid hC0; clear hC0; have Hhra := Lib.hid hra; clear hra
    refine wp_region_pk C0 8 Hhin.out rfl (by kernel_rfl) (by kernel_rfl) (by kernel_rfl) (by kernel_rfl) ?_
    simp only [List.take_succ_cons, List.take_zero, List.drop_succ_cons, List.drop_zero]
    (repeat (first | (refine mix_q rfl ?_; go_big_quiet_step (fail); refine wpQuiet_nil ?_; show wpMix _ _ _ _ _ _ _) | (refine mix_s rfl ?_; go_wp2_with (first
      | (go_at_call 23; (with_reducible refine HIx7.out.mono ?_); rintro e w5 ⟨rfl, rfl⟩)
      | (go_at_call 27; (with_reducible refine HIn.out.mono ?_); rintro e w8 ⟨ad8, c8, rfl, ho8, hb8, hg8, hp8⟩; have HS8 := Lib.hid (((HSA.out.ext hx7).alloc (.cells #[.int .i64 (i : Int)] 2)).drew.grown hg8 (row_ne_s (fun y hy => by have := HRA.out y hy; omega))); have HO8 := Lib.hid ho8; have HB8 := Lib.hid hb8; have HG8 := Lib.hid hg8; have HP8 := Lib.hid hp8; clear ho8 hb8 hg8 hp8)); first
      | refine ⟨pk_of (by rw [HhC0.out]; exact HS8.out), ?_⟩ | refine ⟨rfl, rfl, pk_of (by rw [HhC0.out]; exact HS8.out), ?_⟩ | refine ⟨pk_of (by rw [HhC0.out]; exact HS7.out), ?_⟩ | refine ⟨rfl, rfl, pk_of (by rw [HhC0.out]; exact HS7.out), ?_⟩ | refine ⟨pk_of (by rw [HhC0.out]; exact HS7.out.alloc _), ?_⟩ | refine ⟨rfl, rfl, pk_of (by rw [HhC0.out]; exact HS7.out.alloc _), ?_⟩)))
    refine mix_nil ?_
    have HZ8 := Lib.hid (show SAt w8 (w.heap.size + 1) 32 #[.int .i64 0, .int .i64 0, .int .i64 0, .int .i64 0, .slice none 0 0, .slice none 0 0, .int .i64 0, .slice none 0 0, .slice none 0 0] from
      (HB8.out.block _ (by omega)).trans ((HZ.out.ext hx7b).alloc (.cells #[.int .i64 (i : Int)] 2)).drew)
    have s0 := HS8.out.cell 0 (by simp)
    have s1 := HS8.out.cell 1 (by simp)
    have s2 := HS8.out.cell 2 (by simp)
    have s3 := HS8.out.cell 3 (by simp)
    have s4 := HS8.out.cell 4 (by simp)
    have s5 := HS8.out.cell 5 (by simp)
    have s6 := HS8.out.cell 6 (by simp)
    have s7 := HS8.out.cell 7 (by simp)
    have s8 := HS8.out.cell 8 (by simp)
    try simp only [List.getElem_toArray, List.getElem_cons_succ, List.getElem_cons_zero] at s0 s1 s2 s3 s4 s5 s6 s7 s8
    have y0 := HZ8.out.cell 0 (by simp)
    have y1 := HZ8.out.cell 1 (by simp)
    have y2 := HZ8.out.cell 2 (by simp)
    have y3 := HZ8.out.cell 3 (by simp)
    have y4 := HZ8.out.cell 4 (by simp)
    have y5 := HZ8.out.cell 5 (by simp)
    have y6 := HZ8.out.cell 6 (by simp)
    have y7 := HZ8.out.cell 7 (by simp)
    have y8 := HZ8.out.cell 8 (by simp)
    try simp only [List.getElem_toArray, List.getElem_cons_succ, List.getElem_cons_zero] at y0 y1 y2 y3 y4 y5 y6 y7 y8
    have yf := fun j => HZ8.out.frozen j
    have yl := HZ8.out.lt
    have sf := fun j => HS8.out.frozen j
    have sl := HS8.out.lt
    have hqz : w.heap.size + 1 ≠ q6 := by omega
    have hqz' : q6 ≠ w.heap.size + 1 := by omega
    go_wp2_with fail
    refine bodyPost_ret (v := .tuple #[.agg #[.int .i64 D.ch.base, .int .i64 D.ch.states, .int .i64 D.ch.start, .int .i64 D.ch.fin, .slice a4 n c4, .slice b4 m d4, .int .i64 D.apart, .slice ia4 im ic4, .slice ad8 (rm + 1) c8], .bool true]) ?_ rfl ?_
    · simp [results, Tryz.results7, go_sem, y0, y1, y2, y3, y4, y5, y6, y7, y8]
    · rw [HR.out, HO.out]
      have hns := HN.out.szs
      have hpe : putR D s = ⟨D.ch, D.apart, D.issued, D.revoked.take k ++ (i : Int) :: D.revoked.drop k⟩ := by rw [putR, ← HIxe.out, putI_at _ _ _ HPl.out]
      have h9 : Chg q6 (q6 + 1) w8 (w8.setCell ⟨q6, 8, none⟩ (.slice ad8 (rm + 1) c8)) := Chg.set w8 8 _ (Nat.le_refl _) (Nat.lt_succ_self _)
      have hx7a : Ext wA ((w7.alloc (.cells #[.int .i64 (i : Int)] 2)).drew) := (hx7.alloc _).drew
      have HQ := Lib.hid (revoke_r (lo := w.heap.size + 2) D a4 n c4 b4 m d4 ia4 im ic4 ra4 rm rc4 (D.revoked.take k ++ (i : Int) :: D.revoked.drop k) (gb := q6) (wa := (w7.alloc (.cells #[.int .i64 (i : Int)] 2)).drew) (by simp; omega) (by omega) (HCH.out.ext hx7a) (HIS.out.ext hx7a) (HRS.out.1.ext hx7a) HRS.out.2 HG8.out HP8.out HO8.out h9 (size_setCell _ _ _))
      rw [hpe]
      refine ⟨a4, n, c4, b4, m, d4, ia4, im, ic4, ad8, rm + 1, c8, rfl, ?_, ⟨hns.hn, hns.hm, hns.sm, hns.hi, ?_, hns.sz⟩, ?_⟩
      · refine RgR.mono (lo := w.heap.size + 2) ?_ (by omega) (Nat.le_refl _)
        have hq : ∀ wf, Chg 0 (w.heap.size + 2) (w8.setCell ⟨q6, 8, none⟩ (.slice ad8 (rm + 1) c8)) wf → wf.heap.size = (w8.setCell ⟨q6, 8, none⟩ (.slice ad8 (rm + 1) c8)).heap.size → RgR wf (w.heap.size + 2) wf.heap.size ⟨D.ch, D.apart, D.issued, D.revoked.take k ++ (i : Int) :: D.revoked.drop k⟩ a4 n c4 b4 m d4 ia4 im ic4 ad8 (rm + 1) c8 := fun wf hc he => he ▸ HQ.out.chg hc (.inl (Nat.le_refl _))
        exact hq _ (by repeat (first | (with_reducible exact Chg.refl _ _ _) | (with_reducible assumption) | ((with_reducible refine Chg.trans ?_ (Chg.setP _ _ _ ?_ ?_)); rotate_left; (focus (first | (simp; done) | (simp; omega) | omega)); (focus (first | (simp; done) | (simp; omega) | omega))) | (with_reducible refine Chg.trans ?_ (Chg.ext (Ext.alloc (Ext.refl _) _) _ _)) | (with_reducible refine Chg.trans ?_ (Chg.ext (Ext.drew (Ext.refl _)) _ _)) | (with_reducible refine Chg.trans ?_ (Chg.ext (Ext.drewN (Ext.refl _) _) _ _)))) (by simp)
      · have h1 := rev_low HOk.out; have h2 := HOk.out.n40; have h3 := HRl.out; omega
      · have hxw8 : Ext w w8 := ((hxb.trans hx7b).alloc _).drew.below (HB8.out.mono (by omega))
        exact (by repeat (first | (with_reducible exact Ext.refl _) | (with_reducible assumption) | (with_reducible refine Ext.drewN ?_ _) | (with_reducible refine Ext.drew ?_) | (with_reducible refine Ext.alloc ?_ _) | ((with_reducible refine Ext.setCell ?_ ?_ _); rotate_left; focus (first | (simp; done) | (simp; omega) | omega)) | (with_reducible refine Ext.trans ?_ (by with_reducible assumption))))
  · rw [hrh] at HCt
    have HO := Lib.hid (show revOk D s = false by rw [revOk, ← HIxe.out, hrh]; simp)
    clear hrh
    go_enter Tryz.func7, Tryz.ntmps7
    go_wp2_with fail
    rw [← HWb.out]
    (refine wp_region_from wb (by repeat (first | (with_reducible exact Ext.refl _) | (with_reducible refine Ext.drewN ?_ _) | (with_reducible refine Ext.drew ?_) | (with_reducible refine Ext.alloc ?_ _) | ((with_reducible refine Ext.setCell ?_ ?_ _); rotate_left; focus (first | (simp; done) | (simp; omega) | omega)) | assumption | (with_reducible refine Ext.trans ?_ (by assumption)))) (by kernel_rfl) (by kernel_rfl) (by kernel_rfl) ?_; (repeat (first | (refine mix_q rfl ?_; go_big_quiet_step (fail); refine wpQuiet_nil ?_; show wpMix _ _ _ _ _ _ _) | (refine mix_s rfl ?_; go_wp2_with (first | (go_at_call 22; (with_reducible refine (HVal.out _ (by repeat (first | (with_reducible exact Ext.refl _) | (with_reducible assumption) | (with_reducible refine Ext.drewN ?_ _) | (with_reducible refine Ext.drew ?_) | (with_reducible refine Ext.alloc ?_ _) | ((with_reducible refine Ext.setCell ?_ ?_ _); rotate_left; focus (first | (simp; done) | (simp; omega) | omega)) | (with_reducible refine Ext.trans ?_ (by with_reducible assumption))))).mono ?_); rintro e w1 ⟨rfl, hy⟩; have hx1 : Ext wb w1 := Ext.trans (by repeat (first | (with_reducible exact Ext.refl _) | (with_reducible assumption) | (with_reducible refine Ext.drewN ?_ _) | (with_reducible refine Ext.drew ?_) | (with_reducible refine Ext.alloc ?_ _) | ((with_reducible refine Ext.setCell ?_ ?_ _); rotate_left; focus (first | (simp; done) | (simp; omega) | omega)) | (with_reducible refine Ext.trans ?_ (by with_reducible assumption)))) hy; clear hy) | (go_at_call 23; (with_reducible refine (HIx.out _ (by repeat (first | (with_reducible exact Ext.refl _) | (with_reducible assumption) | (with_reducible refine Ext.drewN ?_ _) | (with_reducible refine Ext.drew ?_) | (with_reducible refine Ext.alloc ?_ _) | ((with_reducible refine Ext.setCell ?_ ?_ _); rotate_left; focus (first | (simp; done) | (simp; omega) | omega)) | (with_reducible refine Ext.trans ?_ (by with_reducible assumption))))).mono ?_); rintro e w2 ⟨rfl, rfl⟩) | (go_at_call 24; (with_reducible refine (HCt.out _ (by repeat (first | (with_reducible exact Ext.refl _) | (with_reducible assumption) | (with_reducible refine Ext.drewN ?_ _) | (with_reducible refine Ext.drew ?_) | (with_reducible refine Ext.alloc ?_ _) | ((with_reducible refine Ext.setCell ?_ ?_ _); rotate_left; focus (first | (simp; done) | (simp; omega) | omega)) | (with_reducible refine Ext.trans ?_ (by with_reducible assumption))))).mono ?_); rintro e w3 ⟨rfl, rfl⟩)); first | refine ⟨up_of (by repeat (first | (with_reducible exact Ext.refl _) | (with_reducible refine Ext.drewN ?_ _) | (with_reducible refine Ext.drew ?_) | (with_reducible refine Ext.alloc ?_ _) | ((with_reducible refine Ext.setCell ?_ ?_ _); rotate_left; focus (first | (simp; done) | (simp; omega) | omega)) | assumption | (with_reducible refine Ext.trans ?_ (by assumption)))), ?_⟩ | refine ⟨rfl, rfl, up_of (by repeat (first | (with_reducible exact Ext.refl _) | (with_reducible refine Ext.drewN ?_ _) | (with_reducible refine Ext.drew ?_) | (with_reducible refine Ext.alloc ?_ _) | ((with_reducible refine Ext.setCell ?_ ?_ _); rotate_left; focus (first | (simp; done) | (simp; omega) | omega)) | assumption | (with_reducible refine Ext.trans ?_ (by assumption)))), ?_⟩))); refine mix_nil ?_)
    have hl := hx1
    have hxw := hxb.trans hx1
    have hz1 := HZ.out.ext hx1
    have y0 := hz1.cell 0 (by simp)
    have y1 := hz1.cell 1 (by simp)
    have y2 := hz1.cell 2 (by simp)
    have y3 := hz1.cell 3 (by simp)
    have y4 := hz1.cell 4 (by simp)
    have y5 := hz1.cell 5 (by simp)
    have y6 := hz1.cell 6 (by simp)
    have y7 := hz1.cell 7 (by simp)
    have y8 := hz1.cell 8 (by simp)
    try simp only [List.getElem_toArray, List.getElem_cons_succ, List.getElem_cons_zero] at y0 y1 y2 y3 y4 y5 y6 y7 y8
    have yf := fun i => hz1.frozen i
    have yl := hz1.lt
    go_wp2_with fail
    refine bodyPost_ret (v := .tuple #[.agg #[.int .i64 0, .int .i64 0, .int .i64 0, .int .i64 0, .slice none 0 0, .slice none 0 0, .int .i64 0, .slice none 0 0, .slice none 0 0], .bool false]) ?_ rfl ?_
    · simp [results, Tryz.results7, go_sem, y0, y1, y2, y3, y4, y5, y6, y7, y8]
    · exact HZF.out _ (by repeat (first | (with_reducible exact Ext.refl _) | (with_reducible assumption) | (with_reducible refine Ext.drewN ?_ _) | (with_reducible refine Ext.drew ?_) | (with_reducible refine Ext.alloc ?_ _) | ((with_reducible refine Ext.setCell ?_ ?_ _); rotate_left; focus (first | (simp; done) | (simp; omega) | omega)) | (with_reducible refine Ext.trans ?_ (by with_reducible assumption)))) HO.out
end Go.Proofs.YthbdnkokklahcaaGreat
