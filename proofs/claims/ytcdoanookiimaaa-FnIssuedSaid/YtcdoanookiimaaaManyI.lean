/- Walks: IssueMany of the reference. -/
import Derived.Test.YtcdoanookiimaaaIss
import Derived.Test.YtcdoanookiimaaaLMk
import Derived.Test.YtcdoanookiimaaaTrial
import Derived.Deep.RegionLaw
import Derived.Test.YtcdoanookiimaaaStrs
namespace Go.Proofs.Ytcdoanookiimaaa
set_option maxRecDepth 100000
open Go.RowKit

/-- a registry whose rows are the call's own, in a block of nine cells -/
structure RgOwn (w : World) (g B : Nat) (D : Rg) (a : Option Addr) (n c : Nat) (b : Option Addr) (m d : Nat) (ia : Option Addr) (im ic : Nat) (ra : Option Addr) (rm rc : Nat) : Prop where
  blk : SAt w g 30 #[.int .i64 D.ch.base, .int .i64 D.ch.states, .int .i64 D.ch.start, .int .i64 D.ch.fin, .slice a n c, .slice b m d, .int .i64 D.apart, .slice ia im ic, .slice ra rm rc]
  cube : OwnCube w B 88 25 2 a n c D.ch.tabs
  pl : Own w B 2 b m d (I D.ch.places)
  is : Own w B 9 ia im ic (St D.issued)
  rs : Own w B 2 ra rm rc (I D.revoked)
section
variable {w w' : World} {g B : Nat} {D : Rg} {a : Option Addr} {n c : Nat} {b : Option Addr} {m d : Nat} {ia : Option Addr} {im ic : Nat} {ra : Option Addr} {rm rc : Nat}
theorem RgOwn.ext (h : RgOwn w g B D a n c b m d ia im ic ra rm rc) (hx : Ext w w') : RgOwn w' g B D a n c b m d ia im ic ra rm rc := ⟨h.blk.ext hx, h.cube.ext hx, h.pl.ext hx, h.is.ext hx, h.rs.ext hx⟩
theorem RgOwn.rgAt (h : RgOwn w g B D a n c b m d ia im ic ra rm rc) : RgAt w g D a n c b m d ia im ic ra rm rc :=
  ⟨⟨h.blk.rule 0 _ rfl, h.blk.rule 1 _ rfl, h.blk.rule 2 _ rfl, h.blk.rule 3 _ rfl, h.blk.rule 4 _ rfl, h.blk.rule 5 _ rfl, h.cube.cube, h.pl.ints⟩, h.blk.rule 6 _ rfl, h.blk.rule 7 _ rfl, h.blk.rule 8 _ rfl, h.is.sl, h.rs.ints⟩
theorem RgOwn.rgIn (h : RgOwn w g B D a n c b m d ia im ic ra rm rc) (hz : RgSz D n m im rm) : RgIn w D a n c b m d ia im ic ra rm rc := ⟨⟨h.cube.cube, h.pl.ints, hz.hn, hz.hm, hz.sm⟩, h.is.sl, h.rs.ints, hz.hi, hz.hr, hz.sz⟩
end
theorem add_sz {D : Rg} {L : List ByteArray} {n m im rm k : Nat} (hz : RgSz D n m im rm) (ho : OkRg (addL D L)) (hk : im + k ≤ 1048576) : RgSz (addL D L) n m (im + k) rm :=
  ⟨hz.hn, hz.hm, hz.sm, hk, hz.hr, fun s hs => by
    obtain ⟨i, hi, rfl⟩ := List.mem_iff_getElem.1 hs
    have := ho.s20 i hi
    rw [gs_get hi] at this
    omega⟩
theorem SAt.nines {w : World} {g : Nat} {T : TypeId} {z0 z1 z2 z3 z4 z5 z6 z7 z8 : Value} (h : SAt w g T #[z0, z1, z2, z3, z4, z5, z6, z7, z8]) (v0 v1 v2 v3 v4 v5 v6 v7 v8 : Value) :
    SAt (((((((((w.setCell ⟨g, 0, none⟩ v0).setCell ⟨g, 1, none⟩ v1).setCell ⟨g, 2, none⟩ v2).setCell ⟨g, 3, none⟩ v3).setCell ⟨g, 4, none⟩ v4).setCell ⟨g, 5, none⟩ v5).setCell ⟨g, 6, none⟩ v6).setCell ⟨g, 7, none⟩ v7).setCell ⟨g, 8, none⟩ v8) g T #[v0, v1, v2, v3, v4, v5, v6, v7, v8] := by
  have h0 : SAt (w.setCell ⟨g, 0, none⟩ v0) g T #[v0, z1, z2, z3, z4, z5, z6, z7, z8] := h.set 0 v0
  have h1 : SAt ((w.setCell ⟨g, 0, none⟩ v0).setCell ⟨g, 1, none⟩ v1) g T #[v0, v1, z2, z3, z4, z5, z6, z7, z8] := h0.set 1 v1
  have h2 : SAt (((w.setCell ⟨g, 0, none⟩ v0).setCell ⟨g, 1, none⟩ v1).setCell ⟨g, 2, none⟩ v2) g T #[v0, v1, v2, z3, z4, z5, z6, z7, z8] := h1.set 2 v2
  have h3 : SAt ((((w.setCell ⟨g, 0, none⟩ v0).setCell ⟨g, 1, none⟩ v1).setCell ⟨g, 2, none⟩ v2).setCell ⟨g, 3, none⟩ v3) g T #[v0, v1, v2, v3, z4, z5, z6, z7, z8] := h2.set 3 v3
  have h4 : SAt (((((w.setCell ⟨g, 0, none⟩ v0).setCell ⟨g, 1, none⟩ v1).setCell ⟨g, 2, none⟩ v2).setCell ⟨g, 3, none⟩ v3).setCell ⟨g, 4, none⟩ v4) g T #[v0, v1, v2, v3, v4, z5, z6, z7, z8] := h3.set 4 v4
  have h5 : SAt ((((((w.setCell ⟨g, 0, none⟩ v0).setCell ⟨g, 1, none⟩ v1).setCell ⟨g, 2, none⟩ v2).setCell ⟨g, 3, none⟩ v3).setCell ⟨g, 4, none⟩ v4).setCell ⟨g, 5, none⟩ v5) g T #[v0, v1, v2, v3, v4, v5, z6, z7, z8] := h4.set 5 v5
  have h6 : SAt (((((((w.setCell ⟨g, 0, none⟩ v0).setCell ⟨g, 1, none⟩ v1).setCell ⟨g, 2, none⟩ v2).setCell ⟨g, 3, none⟩ v3).setCell ⟨g, 4, none⟩ v4).setCell ⟨g, 5, none⟩ v5).setCell ⟨g, 6, none⟩ v6) g T #[v0, v1, v2, v3, v4, v5, v6, z7, z8] := h5.set 6 v6
  have h7 : SAt ((((((((w.setCell ⟨g, 0, none⟩ v0).setCell ⟨g, 1, none⟩ v1).setCell ⟨g, 2, none⟩ v2).setCell ⟨g, 3, none⟩ v3).setCell ⟨g, 4, none⟩ v4).setCell ⟨g, 5, none⟩ v5).setCell ⟨g, 6, none⟩ v6).setCell ⟨g, 7, none⟩ v7) g T #[v0, v1, v2, v3, v4, v5, v6, v7, z8] := h6.set 7 v7
  have h8 : SAt (((((((((w.setCell ⟨g, 0, none⟩ v0).setCell ⟨g, 1, none⟩ v1).setCell ⟨g, 2, none⟩ v2).setCell ⟨g, 3, none⟩ v3).setCell ⟨g, 4, none⟩ v4).setCell ⟨g, 5, none⟩ v5).setCell ⟨g, 6, none⟩ v6).setCell ⟨g, 7, none⟩ v7).setCell ⟨g, 8, none⟩ v8) g T #[v0, v1, v2, v3, v4, v5, v6, v7, v8] := h7.set 8 v8
  exact h8
/-- a registry, words and a bool: the reference's -/
def RetManyK (R : Rg) (ts : List ByteArray) (ok : Bool) (w : World) (e : Ending) (w' : World) : Prop :=
  ∃ a n c b m d ia im ic ra rm rc la ln lc, e = .returned (.tuple #[.agg #[.int .i64 R.ch.base, .int .i64 R.ch.states, .int .i64 R.ch.start, .int .i64 R.ch.fin, .slice a n c, .slice b m d, .int .i64 R.apart, .slice ia im ic, .slice ra rm rc], .slice la ln lc, .bool ok]) ∧ RgK w.heap.size w'.heap.size w' R a n c b m d ia im ic ra rm rc ∧ (∀ W, KeepB w.heap.size w'.heap.size w' W → Strs W la ln lc ts) ∧ ln ≤ 40 ∧ Ext w w'
end Go.Proofs.Ytcdoanookiimaaa

/- Walks: IssueMany of the program: the trial. -/
namespace Go.Proofs.Ytcdoanookiimaaa
set_option maxRecDepth 100000
open Go.RowKit
theorem own_ne_up {w : World} {B b : Nat} {E : TypeId} {a : Option Addr} {n c : Nat} {vs : List Value} (h : Own w B E a n c vs) (hb : w.heap.size ≤ b) : some b ≠ (Value.slice a n c).ownBlock :=
  row_ne_s (fun x hx => by have := (h.blk x hx).2; omega)
theorem cell_grown2 {w w' : World} {row : Option Nat} {b : Nat} {u : Value} (hg : w.grownBy w' row) (hr : some b ≠ row) (hb : b < w.heap.size) (hc : w.cell? ⟨b, 0, none⟩ = some u) : w'.cell? ⟨b, 0, none⟩ = some u := by
  have h := hg.block b hb hr
  unfold World.cell? at hc ⊢
  rw [← hc]
  simp only [h]
/-- append within a region that draws its order: which block has changed -/
theorem step_append1g {P : Program} {W : World} {ops : Array Oper} {o : Oper} {a : Act} {K : Act → World → Prop} {Q : Exit → Act → World → Prop} {E : Prop}
    (hg : o.guard = none) (s x : Operand) (t : TypeId) (hop : o.op = Op.call { callee := Callee.builtin Builtin.append, args := #[s, x], argTypes := #[t, t] })
    (e : TypeId) (z : Value) (bytes : Nat) (h1 : P.underlying t = some (.slice e)) (h2 : (P.info? e).map (fun i => (i.zero, i.size, i.bytes)) = some (some z, 1, bytes)) (hz : z.cells.size = 1)
    (B : Nat) (ad : Option Addr) (n c : Nat) (vs : List Value) (u : Value) (b : Nat) (hs : a.eval s = .slice ad n c) (hx : a.eval x = .slice (some ⟨b, 0, none⟩) 1 1)
    (hcell : W.cell? ⟨b, 0, none⟩ = some u) (hown : Own W B e ad n c vs) (hu : u.oneCell' = true) (hB : B ≤ W.heap.size) (hn : n < 1099511627776) (hb : bytes ≤ 64)
    (hK : ∀ ad' c' w', Own w' B e ad' (n + 1) c' (vs ++ [u]) → Below B W w' → W.grownBy w' (Value.slice ad n c).ownBlock → (∀ g, ad' = Option.some g → (∃ g', ad = Option.some g' ∧ g'.block = g.block) ∨ W.heap.size ≤ g.block) → K (a.put o.dst (.slice ad' (n + 1) c')) w') :
    if Region.wanted o (yielded ops a.tmps) = true then Oper.wp P o a W K Q else E := by
  have hw : Region.wanted o (yielded ops a.tmps) = true := by simp [Region.wanted, hg]
  rw [if_pos hw]
  obtain ⟨i, hi, hz0, hz1, rfl⟩ := info_parts h2
  obtain ⟨v', w', hr, h3, h4, h5, h6⟩ := run_append_own_at (P := P) W B t o.type e i z 1 i.bytes h1 hi hz0 hz1 rfl hz (by omega) (.slice ad n c) n vs hown ⟨b, 0, none⟩ 1 1 [u] rfl
    (fun j v hj => by
      have : j = 0 := by have := (List.getElem?_eq_some_iff.1 hj).1; simp at this; omega
      subst this
      simp at hj; subst hj; exact hcell) (by simpa using hu) (by unfold maxLen; omega) (by have := Nat.mul_le_mul (show n + 1 ≤ 1099511627776 by omega) hb; omega) hB
  have hv : ∃ ad' c', v' = .slice ad' (n + 1) c' := by
    rcases h3.2 with ⟨_, h⟩ | ⟨g, cap, cur, hv, _⟩
    · omega
    · exact ⟨_, _, hv⟩
  obtain ⟨ad', c', rfl⟩ := hv
  unfold Oper.wp execOp
  simp only [hop, resolve, invoke, builtin, Sem.run_bind, Sem.run_pure, Result.andThen_ok, List.map_toArray, List.map_cons, List.map_nil, hs, hx, hr]
  refine hK ad' c' w' h3 (Below.grown (Below.refl B W) h4 hB (fun k hk => (World.ownsRow.lt hown k hk).1)) h4 ?_
  rintro g rfl
  rcases h6 with h6 | h6
  · left
    cases ad with
    | none => simp [Value.ownBlock] at h6
    | some g' => exact ⟨g', rfl, by simpa [Value.ownBlock] using h6.symm⟩
  · right
    simp [Value.ownBlock] at h6
    omega
/-- a word more in the registry at q and in the list at pl -/
structure ManyNew (W W' : World) (q pl B : Nat) (D : Rg) (a : Option Addr) (n c : Nat) (b : Option Addr) (m d : Nat) (ia : Option Addr) (im ic : Nat) (ra : Option Addr) (rm rc : Nat) (la : Option Addr) (ln lc : Nat) (L : List ByteArray) (s : ByteArray) (ad6 : Option Addr) (c6 : Nat) (ad8 : Option Addr) (c8 : Nat) : Prop where
  blk : SAt W' q 30 #[.int .i64 D.ch.base, .int .i64 D.ch.states, .int .i64 D.ch.start, .int .i64 D.ch.fin, .slice a n c, .slice b m d, .int .i64 D.apart, .slice ad6 (im + 1) c6, .slice ra rm rc]
  var : VarAt W' pl 28 (.slice ad8 (ln + 1) c8)
  is : Own W' B 9 ad6 (im + 1) c6 (St D.issued ++ [.string s])
  ls : Own W' B 9 ad8 (ln + 1) c8 (St L ++ [.string s])
  bi : ∀ g, ad6 = some g → (∃ g', ia = some g' ∧ g'.block = g.block) ∨ W.heap.size ≤ g.block
  bl : ∀ g, ad8 = some g → (∃ g', la = some g' ∧ g'.block = g.block) ∨ W.heap.size ≤ g.block
  ne : ∀ g g', ad6 = some g → ad8 = some g' → g.block ≠ g'.block
  fr : ∀ x, x < W.heap.size → x ≠ q → x ≠ pl → some x ≠ (Value.slice ia im ic).ownBlock → some x ≠ (Value.slice la ln lc).ownBlock → W'.heap[x]? = W.heap[x]?
  le : W.heap.size ≤ W'.heap.size
  os : W'.os = W.os
  tape : W'.tape = W.tape
  output : W'.output = W.output
theorem many_leaf {W W2 wA w6 wB w8 : World} {q pl B : Nat} {D : Rg} {a : Option Addr} {n c : Nat} {b : Option Addr} {m d : Nat} {ia : Option Addr} {im ic : Nat} {ra : Option Addr} {rm rc : Nat} {la : Option Addr} {ln lc : Nat} {L : List ByteArray} {s : ByteArray} {ad6 : Option Addr} {c6 : Nat} {ad8 : Option Addr} {c8 : Nat}
    (hW : Ext W W2) (hA : Ext W2 wA) (g6 : wA.grownBy w6 (Value.slice ia im ic).ownBlock) (o6 : Own w6 B 9 ad6 (im + 1) c6 (St D.issued ++ [.string s])) (b6 : ∀ g, ad6 = some g → (∃ g', ia = some g' ∧ g'.block = g.block) ∨ wA.heap.size ≤ g.block)
    (hB : Ext w6 wB) (g8 : wB.grownBy w8 (Value.slice la ln lc).ownBlock) (o8 : Own w8 B 9 ad8 (ln + 1) c8 (St L ++ [.string s])) (b8 : ∀ g, ad8 = some g → (∃ g', la = some g' ∧ g'.block = g.block) ∨ wB.heap.size ≤ g.block)
    (hS : SAt w8 q 30 #[.int .i64 D.ch.base, .int .i64 D.ch.states, .int .i64 D.ch.start, .int .i64 D.ch.fin, .slice a n c, .slice b m d, .int .i64 D.apart, .slice ia im ic, .slice ra rm rc]) (hV : VarAt w8 pl 28 (.slice la ln lc)) (hL : Own W2 B 9 la ln lc (St L)) (hqp : q ≠ pl)
    (hne : ∀ g g', ia = some g → la = some g' → g.block ≠ g'.block) :
    ManyNew W ((w8.setCell ⟨q, 7, none⟩ (.slice ad6 (im + 1) c6)).setCell ⟨pl, 0, none⟩ (.slice ad8 (ln + 1) c8)) q pl B D a n c b m d ia im ic ra rm rc la ln lc L s ad6 c6 ad8 c8 := by
  have l1 := hW.le
  have l2 := hA.le
  have l3 := g6.size
  have l4 := hB.le
  have l5 := g8.size
  have hS1 := hS.set 7 (.slice ad6 (im + 1) c6)
  have hV1 := hV.other (p := ⟨q, 7, none⟩) (.slice ad6 (im + 1) c6) (fun h => hqp h.symm)
  have blt : ∀ g, la = some g → g.block < W2.heap.size := fun g h => (hL.blk g h).2
  have six : ∀ g, ad6 = some g → some g.block ≠ (Value.slice la ln lc).ownBlock := fun g h => row_ne_s (fun x hx => by
    rcases b6 g h with ⟨g', h1, h2⟩ | h1
    · have := hne g' x h1 hx; omega
    · have := blt x hx; omega)
  have o6' : Own w8 B 9 ad6 (im + 1) c6 (St D.issued ++ [.string s]) := (o6.ext hB).grown g8 six
  refine ⟨hS1.other (p := ⟨pl, 0, none⟩) _ hqp, hV1.set _, ?_, ?_, fun g h => ?_, fun g h => ?_, fun g g' h h' => ?_, fun x h1 h2 h3 h4 h5 => ?_, ?_, g8.os.trans ((Below.os hB).trans (g6.os.trans ((Below.os hA).trans (Below.os hW)))), g8.tape.trans ((Below.tape hB).trans (g6.tape.trans ((Below.tape hA).trans (Below.tape hW)))), g8.output.trans ((Below.output hB).trans (g6.output.trans ((Below.output hA).trans (Below.output hW))))⟩
  · have o7 := o6'.other (p := ⟨q, 7, none⟩) (.slice ad6 (im + 1) c6) (o6'.ne_s hS (by decide))
    exact o7.other (p := ⟨pl, 0, none⟩) _ (o7.ne_var hV1 (by decide))
  · have o7 := o8.other (p := ⟨q, 7, none⟩) (.slice ad6 (im + 1) c6) (o8.ne_s hS (by decide))
    exact o7.other (p := ⟨pl, 0, none⟩) _ (o7.ne_var hV1 (by decide))
  · rcases b6 g h with h1 | h1
    · exact .inl h1
    · exact .inr (by omega)
  · rcases b8 g h with h1 | h1
    · exact .inl h1
    · exact .inr (by omega)
  · rcases b8 g' h' with ⟨g2, h1, h2⟩ | h1
    · intro e
      refine six g h ?_
      rw [h1]
      simp [Value.ownBlock]
      have h9 := (hL.blk g2 h1)
      omega
    · have := (o6.blk g h).2
      omega
  · rw [Below.heap_setCell _ _ _ _ (show x ≠ pl from h3), Below.heap_setCell _ _ _ _ (show x ≠ q from h2), g8.block x (by omega) h5, Below.block hB x (by omega), g6.block x (by omega) h4, Below.block hA x (by omega), Below.block hW x h1]
  · rw [size_setCell, size_setCell]; omega
set_option maxHeartbeats 2000000 in
theorem many1 (D : Rg) (q pl pc cnt B : Nat) (a : Option Addr) (n c : Nat) (b : Option Addr) (m d : Nat) (ia : Option Addr) (im ic : Nat) (ra : Option Addr) (rm rc : Nat) (la : Option Addr) (ln lc : Nat) (L : List ByteArray) (s : ByteArray) (W : World) (hO : RgOwn W q B D a n c b m d ia im ic ra rm rc) (hV : VarAt W pl 28 (.slice la ln lc)) (hP : VarAt W pc 2 (.int .i64 cnt)) (hL : Own W B 9 la ln lc (St L)) (hne : ∀ g g', ia = some g → la = some g' → g.block ≠ g'.block)
    (hB : B ≤ W.heap.size) (hn : im ≤ 40) (hl : ∀ v ∈ D.issued, v.size ≤ 64) (hs : s.size ≤ 64) (_hc : cnt ≤ 40) (hln : ln ≤ 40) (hlt : ln < cnt) (hf : freeB D s = true) :
    Calls Try.prog 60 (#[.string s] ++ #[.pointer (some ⟨pl, 0, none⟩), .pointer (some ⟨pc, 0, none⟩), .pointer (some ⟨q, 0, none⟩)]) W (fun e W' => e = .returned (.bool (decide (((ln + 1 : Nat) : Int) < (cnt : Int)))) ∧ ∃ ad6 c6 ad8 c8, ManyNew W W' q pl B D a n c b m d ia im ic ra rm rc la ln lc L s ad6 c6 ad8 c8) := by
  have HF := Lib.hid (fun W' (h : Ext W W') => impl_free D q a n c b m d ia im ic ra rm rc s W' (hO.rgAt.ext h) (by omega) hl hs)
  rw [hf] at HF
  have hv1 : ∀ w', Ext W w' → w'.cell? ⟨pl, 0, none⟩ = some (.slice la ln lc) := fun w' h => (hV.ext h).cell
  have hv2 : ∀ w', Ext W w' → w'.cell? ⟨pc, 0, none⟩ = some (.int .i64 cnt) := fun w' h => (hP.ext h).cell
  obtain ⟨e0, e1, e2, e3, e4, e5, e6, e7, e8⟩ := hO.blk.r9
  clear hf hl
  go_enter Try.func60, Try.ntmps60
  go_wp2_with (first | (go_at_call 57; (with_reducible refine (HF.out _ (by repeat (first | (with_reducible exact Ext.refl _) | (with_reducible assumption) | (with_reducible refine Ext.drewN ?_ _) | (with_reducible refine Ext.drew ?_) | (with_reducible refine Ext.alloc ?_ _) | ((with_reducible refine Ext.setCell ?_ ?_ _); rotate_left; focus (first | (simp; done) | (simp; omega) | omega)) | (with_reducible refine Ext.trans ?_ (by with_reducible assumption))))).mono ?_); rintro e W2 ⟨rfl, hx2⟩; have hxW2 : Ext W W2 := Ext.trans (by repeat (first | (with_reducible exact Ext.refl _) | (with_reducible assumption) | (with_reducible refine Ext.drewN ?_ _) | (with_reducible refine Ext.drew ?_) | (with_reducible refine Ext.alloc ?_ _) | ((with_reducible refine Ext.setCell ?_ ?_ _); rotate_left; focus (first | (simp; done) | (simp; omega) | omega)) | (with_reducible refine Ext.trans ?_ (by with_reducible assumption)))) hx2))
  have HO2 := Lib.hid (hO.ext hxW2)
  have HL2 := Lib.hid (hL.ext hxW2)
  have HV2 := Lib.hid (hV.ext hxW2)
  have HP2 := Lib.hid (hP.ext hxW2)
  have hplc : pl ≠ pc := HV2.out.ne HP2.out (by decide)
  have hqpc : q ≠ pc := fun h => by have h1 := HO2.out.blk; have h2 := HP2.out; rw [h] at h1; unfold SAt at h1; unfold VarAt at h2; rw [h1] at h2; simp at h2
  have hqpl : q ≠ pl := fun h => by have h1 := HO2.out.blk; have h2 := HV2.out; rw [h] at h1; unfold SAt at h1; unfold VarAt at h2; rw [h1] at h2; simp at h2
  have hqs := HO2.out.blk.lt
  have hps := HV2.out.lt
  have HS2 := Lib.hid HO2.out.blk
  have HI2 := Lib.hid HO2.out.is
  have hBs : B ≤ W2.heap.size := Nat.le_trans hB hxW2.le
  clear hO hL hV
  have HNe1 := Lib.hid (show ∀ g, la = some g → some g.block ≠ (Value.slice ia im ic).ownBlock from fun g e => row_ne_s (fun x hx => hne x g hx e))
  go_region_law (first
    | ((refine step_append1g rfl _ _ 28 rfl 9 (.string .empty) 16 und_strs info_str rfl B ia im ic (St D.issued) (.string s) (W2.heap.size) ?_ ?_ ?_ ?_ rfl ?_ (by omega) (by omega) ?_); (focus (simp [Act.eval]; done)); (focus (simp [Act.eval]; done)); (focus (go_simp; done)); (focus (exact HI2.out.ext (by repeat (first | (with_reducible exact Ext.refl _) | (with_reducible assumption) | (with_reducible refine Ext.drewN ?_ _) | (with_reducible refine Ext.drew ?_) | (with_reducible refine Ext.alloc ?_ _) | ((with_reducible refine Ext.setCell ?_ ?_ _); rotate_left; focus (first | (simp; done) | (simp; omega) | omega)) | (with_reducible refine Ext.trans ?_ (by with_reducible assumption)))))); (focus (simp; omega)); intro ad6 c6 w6 ho6 hb6 hg6 hbk6; have HG6 := Lib.hid hg6; have HO6 := Lib.hid ho6; have HB6 := Lib.hid hbk6; have hv6 := VarAt.grown (HV2.out.ext (by repeat (first | (with_reducible exact Ext.refl _) | (with_reducible assumption) | (with_reducible refine Ext.drewN ?_ _) | (with_reducible refine Ext.drew ?_) | (with_reducible refine Ext.alloc ?_ _) | ((with_reducible refine Ext.setCell ?_ ?_ _); rotate_left; focus (first | (simp; done) | (simp; omega) | omega)) | (with_reducible refine Ext.trans ?_ (by with_reducible assumption))))) hg6 (row_ne_s (HI2.out.ne_var HV2.out (by decide))); have hp6 := VarAt.grown (HP2.out.ext (by repeat (first | (with_reducible exact Ext.refl _) | (with_reducible assumption) | (with_reducible refine Ext.drewN ?_ _) | (with_reducible refine Ext.drew ?_) | (with_reducible refine Ext.alloc ?_ _) | ((with_reducible refine Ext.setCell ?_ ?_ _); rotate_left; focus (first | (simp; done) | (simp; omega) | omega)) | (with_reducible refine Ext.trans ?_ (by with_reducible assumption))))) hg6 (row_ne_s (HI2.out.ne_var HP2.out (by decide))); have HP6 := Lib.hid hp6; have hs6 := SAt.grown (HS2.out.ext (by repeat (first | (with_reducible exact Ext.refl _) | (with_reducible assumption) | (with_reducible refine Ext.drewN ?_ _) | (with_reducible refine Ext.drew ?_) | (with_reducible refine Ext.alloc ?_ _) | ((with_reducible refine Ext.setCell ?_ ?_ _); rotate_left; focus (first | (simp; done) | (simp; omega) | omega)) | (with_reducible refine Ext.trans ?_ (by with_reducible assumption))))) hg6 (row_ne_s (HI2.out.ne_s HS2.out (by decide))); have HL6 := Lib.hid (Own.grown (HL2.out.ext (by repeat (first | (with_reducible exact Ext.refl _) | (with_reducible assumption) | (with_reducible refine Ext.drewN ?_ _) | (with_reducible refine Ext.drew ?_) | (with_reducible refine Ext.alloc ?_ _) | ((with_reducible refine Ext.setCell ?_ ?_ _); rotate_left; focus (first | (simp; done) | (simp; omega) | omega)) | (with_reducible refine Ext.trans ?_ (by with_reducible assumption))))) hg6 HNe1.out); have hz6 := hg6.size; have HW6 := Lib.hid hs6; have HX6 := Lib.hid hv6; have HZ6 := Lib.hid (fun b u (h1 : W2.heap.size ≤ b) (h2 : b < _) h3 => cell_grown2 (b := b) (u := u) hg6 (own_ne_up HI2.out h1) h2 h3); have r1 : ∀ w', Ext w6 w' → w'.cell? ⟨pl, 0, none⟩ = some (.slice la ln lc) := fun w' h => (HX6.out.ext h).cell; have r0 := hv6.cell; simp at hz6; clear hg6 ho6 hbk6 hv6 hs6 hb6 hp6)
    | ((refine step_append1g rfl _ _ 28 rfl 9 (.string .empty) 16 und_strs info_str rfl B ia im ic (St D.issued) (.string s) (W2.heap.size + 1) ?_ ?_ ?_ ?_ rfl ?_ (by omega) (by omega) ?_); (focus (simp [Act.eval]; done)); (focus (simp [Act.eval]; done)); (focus (go_simp; done)); (focus (exact HI2.out.ext (by repeat (first | (with_reducible exact Ext.refl _) | (with_reducible assumption) | (with_reducible refine Ext.drewN ?_ _) | (with_reducible refine Ext.drew ?_) | (with_reducible refine Ext.alloc ?_ _) | ((with_reducible refine Ext.setCell ?_ ?_ _); rotate_left; focus (first | (simp; done) | (simp; omega) | omega)) | (with_reducible refine Ext.trans ?_ (by with_reducible assumption)))))); (focus (simp; omega)); intro ad6 c6 w6 ho6 hb6 hg6 hbk6; have HG6 := Lib.hid hg6; have HO6 := Lib.hid ho6; have HB6 := Lib.hid hbk6; have hv6 := VarAt.grown (HV2.out.ext (by repeat (first | (with_reducible exact Ext.refl _) | (with_reducible assumption) | (with_reducible refine Ext.drewN ?_ _) | (with_reducible refine Ext.drew ?_) | (with_reducible refine Ext.alloc ?_ _) | ((with_reducible refine Ext.setCell ?_ ?_ _); rotate_left; focus (first | (simp; done) | (simp; omega) | omega)) | (with_reducible refine Ext.trans ?_ (by with_reducible assumption))))) hg6 (row_ne_s (HI2.out.ne_var HV2.out (by decide))); have hp6 := VarAt.grown (HP2.out.ext (by repeat (first | (with_reducible exact Ext.refl _) | (with_reducible assumption) | (with_reducible refine Ext.drewN ?_ _) | (with_reducible refine Ext.drew ?_) | (with_reducible refine Ext.alloc ?_ _) | ((with_reducible refine Ext.setCell ?_ ?_ _); rotate_left; focus (first | (simp; done) | (simp; omega) | omega)) | (with_reducible refine Ext.trans ?_ (by with_reducible assumption))))) hg6 (row_ne_s (HI2.out.ne_var HP2.out (by decide))); have HP6 := Lib.hid hp6; have hs6 := SAt.grown (HS2.out.ext (by repeat (first | (with_reducible exact Ext.refl _) | (with_reducible assumption) | (with_reducible refine Ext.drewN ?_ _) | (with_reducible refine Ext.drew ?_) | (with_reducible refine Ext.alloc ?_ _) | ((with_reducible refine Ext.setCell ?_ ?_ _); rotate_left; focus (first | (simp; done) | (simp; omega) | omega)) | (with_reducible refine Ext.trans ?_ (by with_reducible assumption))))) hg6 (row_ne_s (HI2.out.ne_s HS2.out (by decide))); have HL6 := Lib.hid (Own.grown (HL2.out.ext (by repeat (first | (with_reducible exact Ext.refl _) | (with_reducible assumption) | (with_reducible refine Ext.drewN ?_ _) | (with_reducible refine Ext.drew ?_) | (with_reducible refine Ext.alloc ?_ _) | ((with_reducible refine Ext.setCell ?_ ?_ _); rotate_left; focus (first | (simp; done) | (simp; omega) | omega)) | (with_reducible refine Ext.trans ?_ (by with_reducible assumption))))) hg6 HNe1.out); have hz6 := hg6.size; have HW6 := Lib.hid hs6; have HX6 := Lib.hid hv6; have HZ6 := Lib.hid (fun b u (h1 : W2.heap.size ≤ b) (h2 : b < _) h3 => cell_grown2 (b := b) (u := u) hg6 (own_ne_up HI2.out h1) h2 h3); have r1 : ∀ w', Ext w6 w' → w'.cell? ⟨pl, 0, none⟩ = some (.slice la ln lc) := fun w' h => (HX6.out.ext h).cell; have r0 := hv6.cell; simp at hz6; clear hg6 ho6 hbk6 hv6 hs6 hb6 hp6)
    | ((refine step_append1g rfl _ _ 28 rfl 9 (.string .empty) 16 und_strs info_str rfl B la ln lc (St L) (.string s) (w6.heap.size) ?_ ?_ ?_ ?_ rfl ?_ (by omega) (by omega) ?_); (focus (simp [Act.eval]; done)); (focus (simp [Act.eval]; done)); (focus (go_simp; done)); (focus (exact HL6.out.ext (by repeat (first | (with_reducible exact Ext.refl _) | (with_reducible assumption) | (with_reducible refine Ext.drewN ?_ _) | (with_reducible refine Ext.drew ?_) | (with_reducible refine Ext.alloc ?_ _) | ((with_reducible refine Ext.setCell ?_ ?_ _); rotate_left; focus (first | (simp; done) | (simp; omega) | omega)) | (with_reducible refine Ext.trans ?_ (by with_reducible assumption)))))); (focus (first | omega | (simp; omega))); intro ad8 c8 w8 ho8 hb8 hg8 hbk8; have HG8 := Lib.hid hg8; have HO8 := Lib.hid ho8; have HB8 := Lib.hid hbk8; have hv8 := VarAt.grown (HX6.out.ext (by repeat (first | (with_reducible exact Ext.refl _) | (with_reducible assumption) | (with_reducible refine Ext.drewN ?_ _) | (with_reducible refine Ext.drew ?_) | (with_reducible refine Ext.alloc ?_ _) | ((with_reducible refine Ext.setCell ?_ ?_ _); rotate_left; focus (first | (simp; done) | (simp; omega) | omega)) | (with_reducible refine Ext.trans ?_ (by with_reducible assumption))))) hg8 (row_ne_s (HL2.out.ne_var HV2.out (by decide))); have hp8 := VarAt.grown (HP6.out.ext (by repeat (first | (with_reducible exact Ext.refl _) | (with_reducible assumption) | (with_reducible refine Ext.drewN ?_ _) | (with_reducible refine Ext.drew ?_) | (with_reducible refine Ext.alloc ?_ _) | ((with_reducible refine Ext.setCell ?_ ?_ _); rotate_left; focus (first | (simp; done) | (simp; omega) | omega)) | (with_reducible refine Ext.trans ?_ (by with_reducible assumption))))) hg8 (row_ne_s (HL2.out.ne_var HP2.out (by decide))); have u8 := hp8.cell; have hs8 := SAt.grown (HW6.out.ext (by repeat (first | (with_reducible exact Ext.refl _) | (with_reducible assumption) | (with_reducible refine Ext.drewN ?_ _) | (with_reducible refine Ext.drew ?_) | (with_reducible refine Ext.alloc ?_ _) | ((with_reducible refine Ext.setCell ?_ ?_ _); rotate_left; focus (first | (simp; done) | (simp; omega) | omega)) | (with_reducible refine Ext.trans ?_ (by with_reducible assumption))))) hg8 (row_ne_s (HL2.out.ne_s HS2.out (by decide))); have v8 := hv8.cell; have v9 := hv8.frozen; have v10 := hv8.lt; have s7 := hs8.cell 7 (by simp); have s8 := hs8.frozen 7; have s9 := hs8.lt; have HW8 := Lib.hid hs8; have HX8 := Lib.hid hv8; clear hg8 ho8 hbk8 hv8 hs8 hb8 hp8)
    | ((refine step_append1g rfl _ _ 28 rfl 9 (.string .empty) 16 und_strs info_str rfl B la ln lc (St L) (.string s) (W2.heap.size) ?_ ?_ ?_ ?_ rfl ?_ (by omega) (by omega) ?_); (focus (simp [Act.eval]; done)); (focus (simp [Act.eval]; done)); (focus (exact HZ6.out _ _ (by omega) (by first | (simp; done) | (simp; omega)) (by go_simp))); (focus (exact HL6.out.ext (by repeat (first | (with_reducible exact Ext.refl _) | (with_reducible assumption) | (with_reducible refine Ext.drewN ?_ _) | (with_reducible refine Ext.drew ?_) | (with_reducible refine Ext.alloc ?_ _) | ((with_reducible refine Ext.setCell ?_ ?_ _); rotate_left; focus (first | (simp; done) | (simp; omega) | omega)) | (with_reducible refine Ext.trans ?_ (by with_reducible assumption)))))); (focus (first | omega | (simp; omega))); intro ad8 c8 w8 ho8 hb8 hg8 hbk8; have HG8 := Lib.hid hg8; have HO8 := Lib.hid ho8; have HB8 := Lib.hid hbk8; have hv8 := VarAt.grown (HX6.out.ext (by repeat (first | (with_reducible exact Ext.refl _) | (with_reducible assumption) | (with_reducible refine Ext.drewN ?_ _) | (with_reducible refine Ext.drew ?_) | (with_reducible refine Ext.alloc ?_ _) | ((with_reducible refine Ext.setCell ?_ ?_ _); rotate_left; focus (first | (simp; done) | (simp; omega) | omega)) | (with_reducible refine Ext.trans ?_ (by with_reducible assumption))))) hg8 (row_ne_s (HL2.out.ne_var HV2.out (by decide))); have hp8 := VarAt.grown (HP6.out.ext (by repeat (first | (with_reducible exact Ext.refl _) | (with_reducible assumption) | (with_reducible refine Ext.drewN ?_ _) | (with_reducible refine Ext.drew ?_) | (with_reducible refine Ext.alloc ?_ _) | ((with_reducible refine Ext.setCell ?_ ?_ _); rotate_left; focus (first | (simp; done) | (simp; omega) | omega)) | (with_reducible refine Ext.trans ?_ (by with_reducible assumption))))) hg8 (row_ne_s (HL2.out.ne_var HP2.out (by decide))); have u8 := hp8.cell; have hs8 := SAt.grown (HW6.out.ext (by repeat (first | (with_reducible exact Ext.refl _) | (with_reducible assumption) | (with_reducible refine Ext.drewN ?_ _) | (with_reducible refine Ext.drew ?_) | (with_reducible refine Ext.alloc ?_ _) | ((with_reducible refine Ext.setCell ?_ ?_ _); rotate_left; focus (first | (simp; done) | (simp; omega) | omega)) | (with_reducible refine Ext.trans ?_ (by with_reducible assumption))))) hg8 (row_ne_s (HL2.out.ne_s HS2.out (by decide))); have v8 := hv8.cell; have v9 := hv8.frozen; have v10 := hv8.lt; have s7 := hs8.cell 7 (by simp); have s8 := hs8.frozen 7; have s9 := hs8.lt; have HW8 := Lib.hid hs8; have HX8 := Lib.hid hv8; clear hg8 ho8 hbk8 hv8 hs8 hb8 hp8)
    | ((refine step_append1g rfl _ _ 28 rfl 9 (.string .empty) 16 und_strs info_str rfl B la ln lc (St L) (.string s) (W2.heap.size + 1) ?_ ?_ ?_ ?_ rfl ?_ (by omega) (by omega) ?_); (focus (simp [Act.eval]; done)); (focus (simp [Act.eval]; done)); (focus (exact HZ6.out _ _ (by omega) (by first | (simp; done) | (simp; omega)) (by go_simp))); (focus (exact HL6.out.ext (by repeat (first | (with_reducible exact Ext.refl _) | (with_reducible assumption) | (with_reducible refine Ext.drewN ?_ _) | (with_reducible refine Ext.drew ?_) | (with_reducible refine Ext.alloc ?_ _) | ((with_reducible refine Ext.setCell ?_ ?_ _); rotate_left; focus (first | (simp; done) | (simp; omega) | omega)) | (with_reducible refine Ext.trans ?_ (by with_reducible assumption)))))); (focus (first | omega | (simp; omega))); intro ad8 c8 w8 ho8 hb8 hg8 hbk8; have HG8 := Lib.hid hg8; have HO8 := Lib.hid ho8; have HB8 := Lib.hid hbk8; have hv8 := VarAt.grown (HX6.out.ext (by repeat (first | (with_reducible exact Ext.refl _) | (with_reducible assumption) | (with_reducible refine Ext.drewN ?_ _) | (with_reducible refine Ext.drew ?_) | (with_reducible refine Ext.alloc ?_ _) | ((with_reducible refine Ext.setCell ?_ ?_ _); rotate_left; focus (first | (simp; done) | (simp; omega) | omega)) | (with_reducible refine Ext.trans ?_ (by with_reducible assumption))))) hg8 (row_ne_s (HL2.out.ne_var HV2.out (by decide))); have hp8 := VarAt.grown (HP6.out.ext (by repeat (first | (with_reducible exact Ext.refl _) | (with_reducible assumption) | (with_reducible refine Ext.drewN ?_ _) | (with_reducible refine Ext.drew ?_) | (with_reducible refine Ext.alloc ?_ _) | ((with_reducible refine Ext.setCell ?_ ?_ _); rotate_left; focus (first | (simp; done) | (simp; omega) | omega)) | (with_reducible refine Ext.trans ?_ (by with_reducible assumption))))) hg8 (row_ne_s (HL2.out.ne_var HP2.out (by decide))); have u8 := hp8.cell; have hs8 := SAt.grown (HW6.out.ext (by repeat (first | (with_reducible exact Ext.refl _) | (with_reducible assumption) | (with_reducible refine Ext.drewN ?_ _) | (with_reducible refine Ext.drew ?_) | (with_reducible refine Ext.alloc ?_ _) | ((with_reducible refine Ext.setCell ?_ ?_ _); rotate_left; focus (first | (simp; done) | (simp; omega) | omega)) | (with_reducible refine Ext.trans ?_ (by with_reducible assumption))))) hg8 (row_ne_s (HL2.out.ne_s HS2.out (by decide))); have v8 := hv8.cell; have v9 := hv8.frozen; have v10 := hv8.lt; have s7 := hs8.cell 7 (by simp); have s8 := hs8.frozen 7; have s9 := hs8.lt; have HW8 := Lib.hid hs8; have HX8 := Lib.hid hv8; clear hg8 ho8 hbk8 hv8 hs8 hb8 hp8))
  all_goals
    go_wp2
    go_ret
    exact ⟨by first | rfl | simp, _, _, _, _, many_leaf hxW2 (by repeat (first | (with_reducible exact Ext.refl _) | (with_reducible assumption) | (with_reducible refine Ext.drewN ?_ _) | (with_reducible refine Ext.drew ?_) | (with_reducible refine Ext.alloc ?_ _) | ((with_reducible refine Ext.setCell ?_ ?_ _); rotate_left; focus (first | (simp; done) | (simp; omega) | omega)) | (with_reducible refine Ext.trans ?_ (by with_reducible assumption)))) HG6.out HO6.out HB6.out (by repeat (first | (with_reducible exact Ext.refl _) | (with_reducible assumption) | (with_reducible refine Ext.drewN ?_ _) | (with_reducible refine Ext.drew ?_) | (with_reducible refine Ext.alloc ?_ _) | ((with_reducible refine Ext.setCell ?_ ?_ _); rotate_left; focus (first | (simp; done) | (simp; omega) | omega)) | (with_reducible refine Ext.trans ?_ (by with_reducible assumption)))) HG8.out HO8.out HB8.out HW8.out HX8.out HL2.out hqpl hne⟩
end Go.Proofs.Ytcdoanookiimaaa

/- Walks: IssueMany of the program: the trial that takes no word. -/
namespace Go.Proofs.Ytcdoanookiimaaa
set_option maxRecDepth 100000
open Go.RowKit
set_option maxHeartbeats 2000000 in
theorem many0 (D : Rg) (q pl pc cnt B : Nat) (a : Option Addr) (n c : Nat) (b : Option Addr) (m d : Nat) (ia : Option Addr) (im ic : Nat) (ra : Option Addr) (rm rc : Nat) (la : Option Addr) (ln lc : Nat) (_L : List ByteArray) (s : ByteArray) (W : World) (hO : RgOwn W q B D a n c b m d ia im ic ra rm rc) (hV : VarAt W pl 28 (.slice la ln lc)) (hP : VarAt W pc 2 (.int .i64 cnt))
    (hn : im ≤ 40) (hl : ∀ v ∈ D.issued, v.size ≤ 64) (hs : s.size ≤ 64) (hf : (decide (ln < cnt) && freeB D s) = false) (_hc : cnt ≤ 40) (_hln : ln ≤ 40) :
    Calls Try.prog 60 (#[.string s] ++ #[.pointer (some ⟨pl, 0, none⟩), .pointer (some ⟨pc, 0, none⟩), .pointer (some ⟨q, 0, none⟩)]) W (Ret (.bool (decide ((ln : Int) < (cnt : Int)))) W) := by
  have HF := Lib.hid (fun W' (h : Ext W W') => impl_free D q a n c b m d ia im ic ra rm rc s W' (hO.rgAt.ext h) (by omega) hl hs)
  have hv1 : ∀ w', Ext W w' → w'.cell? ⟨pl, 0, none⟩ = some (.slice la ln lc) := fun w' h => (hV.ext h).cell
  have hv2 : ∀ w', Ext W w' → w'.cell? ⟨pc, 0, none⟩ = some (.int .i64 cnt) := fun w' h => (hP.ext h).cell
  obtain ⟨e0, e1, e2, e3, e4, e5, e6, e7, e8⟩ := hO.blk.r9
  clear hl hO hV hP
  by_cases hlt : ln < cnt
  · have hf2 : freeB D s = false := by simpa [hlt] using hf
    rw [hf2] at HF
    clear hf hf2
    go_enter Try.func60, Try.ntmps60
    go_wp2_with (first | (go_at_call 57; (with_reducible refine (HF.out _ (by repeat (first | (with_reducible exact Ext.refl _) | (with_reducible assumption) | (with_reducible refine Ext.drewN ?_ _) | (with_reducible refine Ext.drew ?_) | (with_reducible refine Ext.alloc ?_ _) | ((with_reducible refine Ext.setCell ?_ ?_ _); rotate_left; focus (first | (simp; done) | (simp; omega) | omega)) | (with_reducible refine Ext.trans ?_ (by with_reducible assumption))))).mono ?_); rintro e W2 ⟨rfl, hx2⟩; have hxW2 : Ext W W2 := Ext.trans (by repeat (first | (with_reducible exact Ext.refl _) | (with_reducible assumption) | (with_reducible refine Ext.drewN ?_ _) | (with_reducible refine Ext.drew ?_) | (with_reducible refine Ext.alloc ?_ _) | ((with_reducible refine Ext.setCell ?_ ?_ _); rotate_left; focus (first | (simp; done) | (simp; omega) | omega)) | (with_reducible refine Ext.trans ?_ (by with_reducible assumption)))) hx2))
    go_ret
    exact ⟨by first | (simp; done) | (simp; omega) | rfl, (by repeat (first | (with_reducible exact Ext.refl _) | (with_reducible assumption) | (with_reducible refine Ext.drewN ?_ _) | (with_reducible refine Ext.drew ?_) | (with_reducible refine Ext.alloc ?_ _) | ((with_reducible refine Ext.setCell ?_ ?_ _); rotate_left; focus (first | (simp; done) | (simp; omega) | omega)) | (with_reducible refine Ext.trans ?_ (by with_reducible assumption))))⟩
  · clear hf
    go_enter Try.func60, Try.ntmps60
    go_wp2_with fail
    go_ret
    exact ⟨by first | (simp; done) | (simp; omega) | rfl, (by repeat (first | (with_reducible exact Ext.refl _) | (with_reducible assumption) | (with_reducible refine Ext.drewN ?_ _) | (with_reducible refine Ext.drew ?_) | (with_reducible refine Ext.alloc ?_ _) | ((with_reducible refine Ext.setCell ?_ ?_ _); rotate_left; focus (first | (simp; done) | (simp; omega) | omega)) | (with_reducible refine Ext.trans ?_ (by with_reducible assumption))))⟩
end Go.Proofs.Ytcdoanookiimaaa

/- Words: what holds between two trials of IssueMany. -/
namespace Go.Proofs.Ytcdoanookiimaaa
set_option maxRecDepth 100000
open Go.RowKit

/-- between two trials: wS is the world in which the copy lies at q, the list at pl, the count at pc; the copy's issued words lie between i0 and i1 there, the list's row in block l0 -/
def MInv (wS : World) (q pl _pc B i0 i1 l0 : Nat) (D : Rg) (a : Option Addr) (n c : Nat) (b : Option Addr) (m d : Nat) (im : Nat) (ra : Option Addr) (rm rc : Nat) (cnt _lo hi k : Nat) (W : World) : Prop :=
  ∃ (ia : Option Addr) (ic : Nat) (la : Option Addr) (lc : Nat),
    SAt W q 30 #[.int .i64 D.ch.base, .int .i64 D.ch.states, .int .i64 D.ch.start, .int .i64 D.ch.fin, .slice a n c, .slice b m d, .int .i64 D.apart, .slice ia (im + (scanL D cnt k).length) ic, .slice ra rm rc] ∧
    VarAt W pl 28 (.slice la (scanL D cnt k).length lc) ∧
    Own W B 9 ia (im + (scanL D cnt k).length) ic (St (D.issued ++ scanL D cnt k)) ∧ Own W B 9 la (scanL D cnt k).length lc (St (scanL D cnt k)) ∧
    (∀ g, ia = some g → (i0 ≤ g.block ∧ g.block < i1) ∨ hi ≤ g.block) ∧ (∀ g, la = some g → g.block = l0 ∨ hi ≤ g.block) ∧ (∀ g g', ia = some g → la = some g' → g.block ≠ g'.block) ∧
    (∀ x, x < wS.heap.size → x ≠ q → x ≠ pl → x < i0 ∨ i1 ≤ x → x ≠ l0 → W.heap[x]? = wS.heap[x]?) ∧ wS.heap.size ≤ W.heap.size ∧ W.os = wS.os ∧ W.tape = wS.tape ∧ W.output = wS.output
theorem MInv.ext {wS : World} {q pl pc B i0 i1 l0 : Nat} {D : Rg} {a : Option Addr} {n c : Nat} {b : Option Addr} {m d : Nat} {im : Nat} {ra : Option Addr} {rm rc : Nat} {cnt lo hi k : Nat} {W W' : World}
    (h : MInv wS q pl pc B i0 i1 l0 D a n c b m d im ra rm rc cnt lo hi k W) (hx : Ext W W') : MInv wS q pl pc B i0 i1 l0 D a n c b m d im ra rm rc cnt lo hi k W' := by
  obtain ⟨ia, ic, la, lc, h1, h2, h3, h4, h5, h6, h7, h8, h9, h10, h11, h12⟩ := h
  exact ⟨ia, ic, la, lc, h1.ext hx, h2.ext hx, h3.ext hx, h4.ext hx, h5, h6, h7, fun x g1 g2 g3 g4 g5 => (Below.block hx x (by omega)).trans (h8 x g1 g2 g3 g4 g5), Nat.le_trans h9 hx.le, (Below.os hx).trans h10, (Below.tape hx).trans h11, (Below.output hx).trans h12⟩
theorem scan_take {D : Rg} {cnt k : Nat} (h1 : (scanL D cnt k).length < cnt) (h2 : freeB (addL D (scanL D cnt k)) (wordR D.ch (k + 1)) = true) : scanL D cnt (k + 1) = scanL D cnt k ++ [wordR D.ch (k + 1)] := by
  rw [scanL, if_pos (by simp [h1, h2])]
theorem scan_skip {D : Rg} {cnt k : Nat} (h : (decide ((scanL D cnt k).length < cnt) && freeB (addL D (scanL D cnt k)) (wordR D.ch (k + 1))) = false) : scanL D cnt (k + 1) = scanL D cnt k := by
  rw [scanL, if_neg (by rw [h]; simp)]
theorem minv_take {wS W W' : World} {q pl pc B i0 i1 l0 : Nat} {D : Rg} {a : Option Addr} {n c : Nat} {b : Option Addr} {m d : Nat} {ia : Option Addr} {im ic : Nat} {ra : Option Addr} {rm rc : Nat} {cnt lo hi k : Nat} {la : Option Addr} {lc : Nat} {s : ByteArray} {L : List ByteArray} {ad6 : Option Addr} {c6 : Nat} {ad8 : Option Addr} {c8 : Nat}
    (hs : scanL D cnt (k + 1) = L ++ [s]) (hN : ManyNew W W' q pl B (addL D L) a n c b m d ia (im + L.length) ic ra rm rc la L.length lc L s ad6 c6 ad8 c8)
    (hlo : q < lo ∧ pl < lo ∧ i1 ≤ lo ∧ l0 < lo) (hhi : hi ≤ W.heap.size) (hws : wS.heap.size ≤ hi)
    (h5 : ∀ g, ia = some g → (i0 ≤ g.block ∧ g.block < i1) ∨ hi ≤ g.block) (h6 : ∀ g, la = some g → g.block = l0 ∨ hi ≤ g.block)
    (h8 : ∀ x, x < wS.heap.size → x ≠ q → x ≠ pl → x < i0 ∨ i1 ≤ x → x ≠ l0 → W.heap[x]? = wS.heap[x]?) (h9 : wS.heap.size ≤ W.heap.size) (h10 : W.os = wS.os) (h11 : W.tape = wS.tape) (h12 : W.output = wS.output) :
    MInv wS q pl pc B i0 i1 l0 D a n c b m d im ra rm rc cnt lo hi (k + 1) W' ∧ KeepB lo hi W W' ∧ W.heap.size ≤ W'.heap.size := by
  have hlen : (scanL D cnt (k + 1)).length = L.length + 1 := by rw [hs, List.length_append]; rfl
  have si : ∀ x, (x < i0 ∨ i1 ≤ x) → x < hi → some x ≠ (Value.slice ia (im + L.length) ic).ownBlock := fun x h1 h2 => row_ne_s (fun g hg => by rcases h5 g hg with h | h <;> omega)
  have sl : ∀ x, x ≠ l0 → x < hi → some x ≠ (Value.slice la L.length lc).ownBlock := fun x h1 h2 => row_ne_s (fun g hg => by rcases h6 g hg with h | h <;> omega)
  refine ⟨⟨ad6, c6, ad8, c8, ?_, ?_, ?_, ?_, fun g hg => ?_, fun g hg => ?_, hN.ne, fun x g1 g2 g3 g4 g5 => ?_, Nat.le_trans h9 hN.le, hN.os.trans h10, hN.tape.trans h11, hN.output.trans h12⟩, fun x g1 g2 => ?_, hN.le⟩
  · rw [hlen]; exact hN.blk
  · rw [hlen]; exact hN.var
  · rw [hs, List.length_append, ← List.append_assoc, St_append]; exact hN.is
  · rw [hs, List.length_append, St_append]; exact hN.ls
  · rcases hN.bi g hg with ⟨g', e1, e2⟩ | h
    · rw [← e2]; exact h5 g' e1
    · exact .inr (by omega)
  · rcases hN.bl g hg with ⟨g', e1, e2⟩ | h
    · rw [← e2]; exact h6 g' e1
    · exact .inr (by omega)
  · exact (hN.fr x (by omega) g2 g3 (si x g4 (by omega)) (sl x g5 (by omega))).trans (h8 x g1 g2 g3 g4 g5)
  · exact hN.fr x (by omega) (by omega) (by omega) (si x (by omega) g2) (sl x (by omega) g2)
theorem OwnIn.keep {w w' : World} {lo hi : Nat} {E : TypeId} {a : Option Addr} {n c : Nat} {vs : List Value} (h : OwnIn w lo hi E a n c vs) (hk : KeepB lo hi w w') : OwnIn w' lo hi E a n c vs := by
  refine ⟨⟨h.1.1, ?_⟩, h.2⟩
  have hb := h.2
  rcases h.1.2 with h2 | ⟨g, cap, cur, hv, hg, h4, r⟩
  · exact .inl h2
  · have hv' := hv
    simp only [Value.slice.injEq, true_and] at hv'
    obtain ⟨rfl, rfl⟩ := hv'
    exact .inr ⟨g, c, cur, rfl, hg, by rw [hk g hg (hb _ rfl)]; exact h4, r⟩
theorem MatR.own {w : World} {lo hi : Nat} {E1 E0 : TypeId} {a : Option Addr} {n c : Nat} {ll : List (List Int)} (h : MatR w lo hi E1 E0 a n c ll) : OwnMat w lo E1 E0 a n c ll :=
  let ⟨vs, _, _, h1, h2⟩ := h; ⟨h1, vs, h2.own, fun k hk => let ⟨h5, _, _, a', n', c', h3, h4⟩ := h2.el k hk; ⟨a', n', c', h3, h4.1.mono h5⟩⟩
theorem OwnMat.mono2 {w : World} {B B' : Nat} {E1 E0 : TypeId} {a : Option Addr} {n c : Nat} {ll : List (List Int)} (h : OwnMat w B E1 E0 a n c ll) (hB : B' ≤ B) : OwnMat w B' E1 E0 a n c ll :=
  ⟨h.len, let ⟨vs, h1, h2⟩ := h.rows; ⟨vs, h1.mono hB, fun k hk => let ⟨a', n', c', h3, h4⟩ := h2 k hk; ⟨a', n', c', h3, h4.mono hB⟩⟩⟩
theorem CubeR.own {w : World} {lo hi : Nat} {E2 E1 E0 : TypeId} {a : Option Addr} {n c : Nat} {ll : List (List (List Int))} (h : CubeR w lo hi E2 E1 E0 a n c ll) : OwnCube w lo E2 E1 E0 a n c ll :=
  let ⟨vs, _, _, h1, h2⟩ := h; ⟨h1, vs, h2.own, fun k hk => let ⟨h5, _, _, a', n', c', h3, h4⟩ := h2.el k hk; ⟨a', n', c', h3, h4.own.mono2 h5⟩⟩
/-- one row: between the bounds where it began, or in a block of its own behind hi -/
theorem own_split {w : World} {B i0 i1 hi : Nat} {E : TypeId} {a : Option Addr} {n c : Nat} {vs : List Value} (h : Own w B E a n c vs) (_h0 : i0 ≤ i1) (h5 : ∀ g, a = some g → (i0 ≤ g.block ∧ g.block < i1) ∨ hi ≤ g.block) :
    OwnIn w i0 i1 E a n c vs ∨ ∃ g, a = some g ∧ hi ≤ g.block ∧ g.block < w.heap.size ∧ OwnIn w g.block (g.block + 1) E a n c vs := by
  cases a with
  | none => exact .inl ⟨h.raise (fun g hg => by cases hg), fun g hg => by cases hg⟩
  | some g =>
    rcases h5 g rfl with h1 | h1
    · exact .inl ⟨h.raise (fun g' hg => by cases hg; exact h1.1), fun g' hg => by cases hg; exact h1.2⟩
    · exact .inr ⟨g, rfl, h1, (h.blk g rfl).2, h.raise (fun g' hg => by cases hg; exact Nat.le_refl _), fun g' hg => by cases hg; exact Nat.lt_succ_self _⟩
/-- a registry and words of the call's own, each row between bounds -/
def ManyR (w : World) (lo hi : Nat) (D : Rg) (a : Option Addr) (n c : Nat) (b : Option Addr) (m d : Nat) (ia : Option Addr) (im ic : Nat) (ra : Option Addr) (rm rc : Nat) (la : Option Addr) (ln lc : Nat) (ts : List ByteArray) : Prop :=
  ∃ q1 i0 i1 r0 r1 l0 l1, (lo ≤ q1 ∧ q1 ≤ i0 ∧ i0 ≤ i1 ∧ i1 ≤ hi ∧ q1 ≤ r0 ∧ r0 ≤ r1 ∧ r1 ≤ hi ∧ q1 ≤ l0 ∧ l0 ≤ l1 ∧ l1 ≤ hi ∧ (i1 ≤ r0 ∨ r1 ≤ i0) ∧ (i1 ≤ l0 ∨ l1 ≤ i0) ∧ (l1 ≤ r0 ∨ r1 ≤ l0)) ∧
    ChR w lo q1 D.ch a n c b m d ∧ OwnIn w i0 i1 9 ia im ic (St D.issued) ∧ OwnIn w r0 r1 2 ra rm rc (I D.revoked) ∧ OwnIn w l0 l1 9 la ln lc (St ts)
theorem ManyR.chg {w w' : World} {lo hi lo' hi' : Nat} {D : Rg} {a : Option Addr} {n c : Nat} {b : Option Addr} {m d : Nat} {ia : Option Addr} {im ic : Nat} {ra : Option Addr} {rm rc : Nat} {la : Option Addr} {ln lc : Nat} {ts : List ByteArray} (h : ManyR w lo hi D a n c b m d ia im ic ra rm rc la ln lc ts) (hc : Chg lo' hi' w w') (hd : hi' ≤ lo ∨ hi ≤ lo') : ManyR w' lo hi D a n c b m d ia im ic ra rm rc la ln lc ts :=
  let ⟨q1, i0, i1, r0, r1, l0, l1, g, g1, g2, g3, g4⟩ := h; ⟨q1, i0, i1, r0, r1, l0, l1, g, g1.chg hc (by omega), g2.chg hc (by omega), g3.chg hc (by omega), g4.chg hc (by omega)⟩
theorem ManyR.mono {w : World} {lo hi lo' hi' : Nat} {D : Rg} {a : Option Addr} {n c : Nat} {b : Option Addr} {m d : Nat} {ia : Option Addr} {im ic : Nat} {ra : Option Addr} {rm rc : Nat} {la : Option Addr} {ln lc : Nat} {ts : List ByteArray} (h : ManyR w lo hi D a n c b m d ia im ic ra rm rc la ln lc ts) (hl : lo' ≤ lo) (hh : hi ≤ hi') : ManyR w lo' hi' D a n c b m d ia im ic ra rm rc la ln lc ts :=
  let ⟨q1, i0, i1, r0, r1, l0, l1, g, g1, g2, g3, g4⟩ := h; ⟨q1, i0, i1, r0, r1, l0, l1, by omega, g1.mono hl (Nat.le_refl _), g2, g3, g4⟩
theorem ManyR.rg {w : World} {lo hi : Nat} {D : Rg} {a : Option Addr} {n c : Nat} {b : Option Addr} {m d : Nat} {ia : Option Addr} {im ic : Nat} {ra : Option Addr} {rm rc : Nat} {la : Option Addr} {ln lc : Nat} {ts : List ByteArray} (h : ManyR w lo hi D a n c b m d ia im ic ra rm rc la ln lc ts) : RgR w lo hi D a n c b m d ia im ic ra rm rc :=
  let ⟨q1, i0, i1, r0, r1, _, _, g, g1, g2, g3, _⟩ := h; ⟨q1, i0, i1, r0, r1, by omega, g1, g2, g3⟩
/-- a registry, words and a bool: the program's -/
def RetManyO (R : Rg) (ts : List ByteArray) (ok : Bool) (w : World) (e : Ending) (w' : World) : Prop :=
  ∃ a n c b m d ia im ic ra rm rc la ln lc, e = .returned (.tuple #[.agg #[.int .i64 R.ch.base, .int .i64 R.ch.states, .int .i64 R.ch.start, .int .i64 R.ch.fin, .slice a n c, .slice b m d, .int .i64 R.apart, .slice ia im ic, .slice ra rm rc], .slice la ln lc, .bool ok]) ∧ ManyR w' w.heap.size w'.heap.size R a n c b m d ia im ic ra rm rc la ln lc ts ∧ RgSz R n m im rm ∧ ln ≤ 40 ∧ Ext w w'
theorem minv_end {wS W : World} {q pl pc B i0 i1 l0 q1 r0 r1 s0 : Nat} {D : Rg} {a : Option Addr} {n c : Nat} {b : Option Addr} {m d : Nat} {im : Nat} {ra : Option Addr} {rm rc : Nat} {cnt lo hi k : Nat}
    (h : MInv wS q pl pc B i0 i1 l0 D a n c b m d im ra rm rc cnt lo hi k W) (g : s0 ≤ q1 ∧ q1 ≤ i0 ∧ i0 ≤ i1 ∧ i1 ≤ l0 ∧ q1 ≤ r0 ∧ r0 ≤ r1 ∧ r1 ≤ l0 ∧ (i1 ≤ r0 ∨ r1 ≤ i0)) (hq : l0 < q ∧ l0 < pl ∧ q < wS.heap.size ∧ pl < wS.heap.size) (hh : wS.heap.size ≤ hi)
    (hc : ChR wS s0 q1 D.ch a n c b m d) (hr : OwnIn wS r0 r1 2 ra rm rc (I D.revoked)) :
    ∃ ia ic la lc, SAt W q 30 #[.int .i64 D.ch.base, .int .i64 D.ch.states, .int .i64 D.ch.start, .int .i64 D.ch.fin, .slice a n c, .slice b m d, .int .i64 D.apart, .slice ia (im + (scanL D cnt k).length) ic, .slice ra rm rc] ∧ VarAt W pl 28 (.slice la (scanL D cnt k).length lc) ∧
      ManyR W s0 W.heap.size (addL D (scanL D cnt k)) a n c b m d ia (im + (scanL D cnt k).length) ic ra rm rc la (scanL D cnt k).length lc (scanL D cnt k) := by
  obtain ⟨ia, ic, la, lc, h1, h2, h3, h4, h5, h6, h7, h8, h9, h10, h11, h12⟩ := h
  refine ⟨ia, ic, la, lc, h1, h2, ?_⟩
  have hcg : Chg q1 wS.heap.size wS W := ⟨h10, h11, h12, h9, fun x g1 g2 => h8 x g1 (by omega) (by omega) (by omega) (by omega)⟩
  have hc' : ChR W s0 q1 (addL D (scanL D cnt k)).ch a n c b m d := hc.chg hcg (.inr (Nat.le_refl _))
  have hr' : OwnIn W r0 r1 2 ra rm rc (I (addL D (scanL D cnt k)).revoked) := hr.keep (fun x g1 g2 => h8 x (by omega) (by omega) (by omega) (by omega) (by omega))
  have h3' : Own W B 9 ia (im + (scanL D cnt k).length) ic (St (addL D (scanL D cnt k)).issued) := h3
  rcases own_split h3' g.2.2.1 h5 with s1 | ⟨g1, e1, e2, e3, s1⟩ <;> rcases own_split (i0 := l0) (i1 := l0 + 1) (hi := hi) h4 (by omega) (fun x hx => by rcases h6 x hx with h | h <;> omega) with s2 | ⟨g2, e4, e5, e6, s2⟩
  · exact ⟨q1, i0, i1, r0, r1, l0, l0 + 1, by omega, hc', s1, hr', s2⟩
  · exact ⟨q1, i0, i1, r0, r1, g2.block, g2.block + 1, by omega, hc', s1, hr', s2⟩
  · exact ⟨q1, g1.block, g1.block + 1, r0, r1, l0, l0 + 1, by omega, hc', s1, hr', s2⟩
  · have := h7 g1 g2 e1 e4
    exact ⟨q1, g1.block, g1.block + 1, r0, r1, g2.block, g2.block + 1, by omega, hc', s1, hr', s2⟩
end Go.Proofs.Ytcdoanookiimaaa

/- Walks: IssueMany of the program: what a trial leaves. -/
namespace Go.Proofs.Ytcdoanookiimaaa
set_option maxRecDepth 100000
open Go.RowKit

theorem MInv.skip {wS : World} {q pl pc B i0 i1 l0 : Nat} {D : Rg} {a : Option Addr} {n c : Nat} {b : Option Addr} {m d : Nat} {im : Nat} {ra : Option Addr} {rm rc : Nat} {cnt lo hi k : Nat} {W : World}
    (h : MInv wS q pl pc B i0 i1 l0 D a n c b m d im ra rm rc cnt lo hi k W) (hs : scanL D cnt (k + 1) = scanL D cnt k) : MInv wS q pl pc B i0 i1 l0 D a n c b m d im ra rm rc cnt lo hi (k + 1) W := by
  unfold MInv at h ⊢
  rw [hs]
  exact h
theorem MInv.chg {wS : World} {q pl pc B i0 i1 l0 s0 : Nat} {D : Rg} {a : Option Addr} {n c : Nat} {b : Option Addr} {m d : Nat} {im : Nat} {ra : Option Addr} {rm rc : Nat} {cnt lo hi k : Nat} {W : World}
    (h : MInv wS q pl pc B i0 i1 l0 D a n c b m d im ra rm rc cnt lo hi k W) (h0 : s0 ≤ i0 ∧ s0 ≤ l0 ∧ l0 < q ∧ l0 < pl) : Chg s0 wS.heap.size wS W := by
  obtain ⟨ia, ic, la, lc, h1, h2, h3, h4, h5, h6, h7, h8, h9, h10, h11, h12⟩ := h
  exact ⟨h10, h11, h12, h9, fun x g1 g2 => h8 x g1 (by omega) (by omega) (by omega) (by omega)⟩
/-- what stands between two trials, as a registry of the call's own -/
theorem MInv.rg {wS : World} {q pl pc B i0 i1 l0 q1 r0 r1 : Nat} {D : Rg} {a : Option Addr} {n c : Nat} {b : Option Addr} {m d : Nat} {im : Nat} {ra : Option Addr} {rm rc : Nat} {cnt lo hi k : Nat} {W : World}
    (h : MInv wS q pl pc B i0 i1 l0 D a n c b m d im ra rm rc cnt lo hi k W) (g : B ≤ q1 ∧ q1 ≤ i0 ∧ i0 ≤ i1 ∧ i1 ≤ l0 ∧ q1 ≤ r0 ∧ r0 ≤ r1 ∧ r1 ≤ l0 ∧ (i1 ≤ r0 ∨ r1 ≤ i0)) (hq : l0 < q ∧ l0 < pl ∧ q < wS.heap.size ∧ pl < wS.heap.size)
    (hc : ChR wS B q1 D.ch a n c b m d) (hr : OwnIn wS r0 r1 2 ra rm rc (I D.revoked)) :
    ∃ ia ic la lc, RgOwn W q B (addL D (scanL D cnt k)) a n c b m d ia (im + (scanL D cnt k).length) ic ra rm rc ∧ VarAt W pl 28 (.slice la (scanL D cnt k).length lc) ∧ Own W B 9 la (scanL D cnt k).length lc (St (scanL D cnt k)) ∧
      (∀ g, ia = some g → (i0 ≤ g.block ∧ g.block < i1) ∨ hi ≤ g.block) ∧ (∀ g, la = some g → g.block = l0 ∨ hi ≤ g.block) ∧ (∀ g g', ia = some g → la = some g' → g.block ≠ g'.block) ∧
      (∀ x, x < wS.heap.size → x ≠ q → x ≠ pl → x < i0 ∨ i1 ≤ x → x ≠ l0 → W.heap[x]? = wS.heap[x]?) ∧ wS.heap.size ≤ W.heap.size ∧ W.os = wS.os ∧ W.tape = wS.tape ∧ W.output = wS.output := by
  have hcg : Chg q1 wS.heap.size wS W := h.chg (by omega)
  obtain ⟨ia, ic, la, lc, h1, h2, h3, h4, h5, h6, h7, h8, h9, h10, h11, h12⟩ := h
  obtain ⟨mid, e1, e2, e3, e4⟩ := hc.chg hcg (.inr (Nat.le_refl _))
  have hr' : OwnIn W r0 r1 2 ra rm rc (I D.revoked) := hr.keep (fun x g1 g2 => h8 x (by omega) (by omega) (by omega) (by omega) (by omega))
  exact ⟨ia, ic, la, lc, ⟨h1, e3.own, e4.1.mono (by omega), h3, hr'.1.mono (by omega)⟩, h2, h4, h5, h6, h7, h8, h9, h10, h11, h12⟩
theorem ChR.cubeI {w : World} {lo hi : Nat} {D : Ch} {a : Option Addr} {n c : Nat} {b : Option Addr} {m d : Nat} (h : ChR w lo hi D a n c b m d) : Cube w a n c D.tabs := let ⟨_, _, _, g3, _⟩ := h; g3.cube
theorem ChR.plI {w : World} {lo hi : Nat} {D : Ch} {a : Option Addr} {n c : Nat} {b : Option Addr} {m d : Nat} (h : ChR w lo hi D a n c b m d) : Ints w b m d D.places := let ⟨_, _, _, _, g4⟩ := h; g4.1.ints
theorem hSum2 {im cnt : Nat} (h : im + cnt ≤ 40) : im + cnt ≤ 40 ∧ cnt ≤ 40 := ⟨h, by omega⟩
theorem minv_zero {wS : World} {q pl pc B i0 i1 l0 : Nat} {D : Rg} {a : Option Addr} {n c : Nat} {b : Option Addr} {m d : Nat} {ia : Option Addr} {im ic : Nat} {ra : Option Addr} {rm rc : Nat}
    (hS : SAt wS q 30 #[.int .i64 D.ch.base, .int .i64 D.ch.states, .int .i64 D.ch.start, .int .i64 D.ch.fin, .slice a n c, .slice b m d, .int .i64 D.apart, .slice ia im ic, .slice ra rm rc]) (hV : VarAt wS pl 28 (.slice (some ⟨l0, 0, none⟩) 0 0)) (hL : Own wS B 9 (some ⟨l0, 0, none⟩) 0 0 (St [])) (hI : OwnIn wS i0 i1 9 ia im ic (St D.issued)) (hB : B ≤ i0) (h1 : i1 ≤ l0) (cnt lo hi : Nat) :
    MInv wS q pl pc B i0 i1 l0 D a n c b m d im ra rm rc cnt lo hi 0 wS := by
  refine ⟨ia, ic, some ⟨l0, 0, none⟩, 0, hS, hV, ?_, hL, fun g hg => .inl ⟨(hI.1.blk g hg).1, hI.2 g hg⟩, fun g hg => .inl (by cases hg; rfl), fun g g' hg hg' => ?_, fun x _ _ _ _ _ => rfl, Nat.le_refl _, rfl, rfl, rfl⟩
  · rw [show scanL D cnt 0 = [] from rfl, List.append_nil]
    exact hI.1.mono hB
  · cases hg'
    have := hI.2 g hg
    show g.block ≠ l0
    omega
theorem zero_many (w : World) (lo hi : Nat) (h : lo ≤ hi) : ManyR w lo hi zeroR none 0 0 none 0 0 none 0 0 none 0 0 none 0 0 [] := by
  exact ⟨lo, lo, lo, lo, lo, lo, lo, by omega, ⟨lo, Nat.le_refl _, Nat.le_refl _, ⟨[], fun _ => 0, fun _ => 0, rfl, Own.nil _ _ _, fun g h => (by cases h), fun g h => (by cases h), fun k h => by omega, fun j k _ h => by omega⟩, own_none _ _ _ _⟩, own_none _ _ _ _, own_none _ _ _ _, own_none _ _ _ _⟩
theorem many_fail {D : Rg} {x : Int} {w w' : World} (h : manyOk D x = false) (hx : Ext w w') :
    RetManyO (manyRg D x) (manyT D x) (manyOk D x) w (.returned (.tuple #[.agg #[.int .i64 0, .int .i64 0, .int .i64 0, .int .i64 0, .slice none 0 0, .slice none 0 0, .int .i64 0, .slice none 0 0, .slice none 0 0], .slice none 0 0, .bool false])) w' := by
  rw [many_r0 h, many_t0 h, h]
  exact ⟨none, 0, 0, none, 0, 0, none, 0, 0, none, 0, 0, none, 0, 0, rfl, zero_many _ _ _ hx.le, zero_sz, by omega, hx⟩
theorem minv_trial {wS : World} {q pl pc B i0 i1 l0 q1 r0 r1 : Nat} {D : Rg} {a : Option Addr} {n c : Nat} {b : Option Addr} {m d : Nat} {im : Nat} {ra : Option Addr} {rm rc : Nat} {cnt lo hi k : Nat} {W : World}
    (h : MInv wS q pl pc B i0 i1 l0 D a n c b m d im ra rm rc cnt lo hi k W) (g : B ≤ q1 ∧ q1 ≤ i0 ∧ i0 ≤ i1 ∧ i1 ≤ l0 ∧ q1 ≤ r0 ∧ r0 ≤ r1 ∧ r1 ≤ l0 ∧ (i1 ≤ r0 ∨ r1 ≤ i0)) (hq : l0 < q ∧ l0 < pl ∧ q < wS.heap.size ∧ pl < wS.heap.size)
    (hc : ChR wS B q1 D.ch a n c b m d) (hr : OwnIn wS r0 r1 2 ra rm rc (I D.revoked)) (hpc : VarAt wS pc 2 (.int .i64 cnt)) (hpb : pc < B)
    (hok : OkRg D) (him : D.issued.length = im) (hsum : im + cnt ≤ 40) (hk : k < triesN D.ch) (hhi : hi ≤ W.heap.size) (hlo : q < lo ∧ pl < lo ∧ i1 ≤ lo ∧ l0 < lo ∧ wS.heap.size ≤ hi) :
    Calls Try.prog 60 (#[.string (wordR D.ch (k + 1))] ++ #[.pointer (some ⟨pl, 0, none⟩), .pointer (some ⟨pc, 0, none⟩), .pointer (some ⟨q, 0, none⟩)]) W
      fun e W' => (e = .returned (.bool true) ∧ MInv wS q pl pc B i0 i1 l0 D a n c b m d im ra rm rc cnt lo hi (k + 1) W' ∧ KeepB lo hi W W' ∧ W.heap.size ≤ W'.heap.size) ∨
        (e = .returned (.bool false) ∧ MInv wS q pl pc B i0 i1 l0 D a n c b m d im ra rm rc cnt lo hi (k + 1) W' ∧ ¬ (scanL D cnt (k + 1)).length < cnt) := by
  obtain ⟨ia, ic, la, lc, hO, hV, hL, h5, h6, h7, h8, h9, h10, h11, h12⟩ := h.rg g hq hc hr
  have hP : VarAt W pc 2 (.int .i64 cnt) := by
    have h1 := h8 pc (by omega) (by omega) (by omega) (by omega) (by omega)
    unfold VarAt at hpc ⊢
    rw [h1]; exact hpc
  obtain ⟨s1, s2, s3⟩ := scan_inv hok.a1 cnt k (by omega)
  have hoL : OkRg (addL D (scanL D cnt k)) := many_ok hok (by omega) s1
  have hsz : ∀ v ∈ (addL D (scanL D cnt k)).issued, v.size ≤ 64 := fun v hv => by
    obtain ⟨i, hi, rfl⟩ := List.mem_iff_getElem.1 hv
    have := hoL.s20 i hi
    rw [gs_get hi] at this
    omega
  have hkl : k < (wordsA D.ch).length := Nat.lt_of_lt_of_le hk (tries_le _)
  have hws := wordR_len hok.ch hkl
  have hp20 := hok.ch.p20
  cases hf : (decide ((scanL D cnt k).length < cnt) && freeB (addL D (scanL D cnt k)) (wordR D.ch (k + 1)))
  · have hs := scan_skip hf
    refine (many0 (addL D (scanL D cnt k)) q pl pc cnt B a n c b m d ia (im + (scanL D cnt k).length) ic ra rm rc la (scanL D cnt k).length lc (scanL D cnt k) (wordR D.ch (k + 1)) W hO hV hP (by omega) hsz (by omega) hf (by omega) (by omega)).mono ?_
    rintro e W' ⟨rfl, hx⟩
    have hM := (h.skip hs).ext hx
    by_cases hlt : (scanL D cnt k).length < cnt
    · exact .inl ⟨by rw [decide_eq_true (show ((scanL D cnt k).length : Int) < (cnt : Int) by omega)], hM, KeepB.ext hx hhi, hx.le⟩
    · exact .inr ⟨by rw [decide_eq_false (show ¬ ((scanL D cnt k).length : Int) < (cnt : Int) by omega)], hM, by rw [hs]; exact hlt⟩
  · simp only [Bool.and_eq_true, decide_eq_true_eq] at hf
    have hs := scan_take hf.1 hf.2
    refine (many1 (addL D (scanL D cnt k)) q pl pc cnt B a n c b m d ia (im + (scanL D cnt k).length) ic ra rm rc la (scanL D cnt k).length lc (scanL D cnt k) (wordR D.ch (k + 1)) W hO hV hP hL h7 (by omega) (by omega) hsz (by omega) (by omega) (by omega) hf.1 hf.2).mono ?_
    rintro e W' ⟨rfl, ad6, c6, ad8, c8, hN⟩
    obtain ⟨hM, hK, hle⟩ := minv_take (pc := pc) (lo := lo) (hi := hi) hs hN (by omega) hhi (by omega) h5 h6 h8 h9 h10 h11 h12
    by_cases hlt : (scanL D cnt k).length + 1 < cnt
    · exact .inl ⟨by rw [decide_eq_true (show (((scanL D cnt k).length + 1 : Nat) : Int) < (cnt : Int) by omega)], hM, hK, hle⟩
    · exact .inr ⟨by rw [decide_eq_false (show ¬ (((scanL D cnt k).length + 1 : Nat) : Int) < (cnt : Int) by omega)], hM, by rw [hs, List.length_append]; simp; omega⟩
end Go.Proofs.Ytcdoanookiimaaa

/- Walks: IssueMany of the program. -/
namespace Go.Proofs.Ytcdoanookiimaaa
set_option maxRecDepth 100000
open Go.RowKit

set_option maxRecDepth 20000 in
set_option maxHeartbeats 8000000 in
theorem impl_IssueMany (D : Rg) (a : Option Addr) (n c : Nat) (b : Option Addr) (m d : Nat) (ia : Option Addr) (im ic : Nat) (ra : Option Addr) (rm rc : Nat) (x : Int) (w : World) (hv : RgIn w D a n c b m d ia im ic ra rm rc) : Calls Try.prog 17 #[.agg #[.int .i64 D.ch.base, .int .i64 D.ch.states, .int .i64 D.ch.start, .int .i64 D.ch.fin, .slice a n c, .slice b m d, .int .i64 D.apart, .slice ia im ic, .slice ra rm rc], .int .i64 x] w (RetManyO (manyRg D x) (manyT D x) (manyOk D x) w) := by
  obtain ⟨wb, hwb⟩ : ∃ wb, wb = ((w.alloc (.cells #[.int .i64 D.ch.base, .int .i64 D.ch.states, .int .i64 D.ch.start, .int .i64 D.ch.fin, .slice a n c, .slice b m d, .int .i64 D.apart, .slice ia im ic, .slice ra rm rc] 30)).alloc (.cells #[.int .i64 x] 2)).alloc (.cells #[.int .i64 0, .int .i64 0, .int .i64 0, .int .i64 0, .slice none 0 0, .slice none 0 0, .int .i64 0, .slice none 0 0, .slice none 0 0] 30) := ⟨_, rfl⟩
  have hxb : Ext w wb := by rw [hwb]; exact (by repeat (first | (with_reducible exact Ext.refl _) | (with_reducible refine Ext.drewN ?_ _) | (with_reducible refine Ext.drew ?_) | (with_reducible refine Ext.alloc ?_ _) | ((with_reducible refine Ext.setCell ?_ ?_ _); rotate_left; focus (first | (simp; done) | (simp; omega) | omega)) | assumption | (with_reducible refine Ext.trans ?_ (by assumption))))
  have hbs : wb.heap.size = w.heap.size + 3 := by rw [hwb]; simp
  have HAt := Lib.hid (show RgAt wb w.heap.size D a n c b m d ia im ic ra rm rc by rw [hwb]; exact ((hv.box 30).ext ((Ext.refl _).alloc _)).ext ((Ext.refl _).alloc _))
  have HPc := Lib.hid (show VarAt wb (w.heap.size + 1) 2 (.int .i64 x) by rw [hwb]; exact VarAt.ext (by have := VarAt.new (w.alloc (.cells #[.int .i64 D.ch.base, .int .i64 D.ch.states, .int .i64 D.ch.start, .int .i64 D.ch.fin, .slice a n c, .slice b m d, .int .i64 D.apart, .slice ia im ic, .slice ra rm rc] 30)) 2 (.int .i64 x); rwa [show (w.alloc (.cells #[.int .i64 D.ch.base, .int .i64 D.ch.states, .int .i64 D.ch.start, .int .i64 D.ch.fin, .slice a n c, .slice b m d, .int .i64 D.apart, .slice ia im ic, .slice ra rm rc] 30)).heap.size = w.heap.size + 1 by simp] at this) ((Ext.refl _).alloc _))
  have kx : ∀ w', Ext wb w' → w'.cell? ⟨w.heap.size + 1, 0, none⟩ = some (.int .i64 x) := fun w' h => (HPc.out.ext h).cell
  have HN := Lib.hid (hv.ext hxb)
  have him := hv.hi
  have HL := Lib.hid hv.is.len
  have zc0 : ∀ w', Ext wb w' → w'.cell? ⟨w.heap.size + 2, 0, none⟩ = some (.int .i64 0) := fun w' hx => hx.cell (by rw [hwb]; go_simp)
  have zc1 : ∀ w', Ext wb w' → w'.cell? ⟨w.heap.size + 2, 1, none⟩ = some (.int .i64 0) := fun w' hx => hx.cell (by rw [hwb]; go_simp)
  have zc2 : ∀ w', Ext wb w' → w'.cell? ⟨w.heap.size + 2, 2, none⟩ = some (.int .i64 0) := fun w' hx => hx.cell (by rw [hwb]; go_simp)
  have zc3 : ∀ w', Ext wb w' → w'.cell? ⟨w.heap.size + 2, 3, none⟩ = some (.int .i64 0) := fun w' hx => hx.cell (by rw [hwb]; go_simp)
  have zc4 : ∀ w', Ext wb w' → w'.cell? ⟨w.heap.size + 2, 4, none⟩ = some (.slice none 0 0) := fun w' hx => hx.cell (by rw [hwb]; go_simp)
  have zc5 : ∀ w', Ext wb w' → w'.cell? ⟨w.heap.size + 2, 5, none⟩ = some (.slice none 0 0) := fun w' hx => hx.cell (by rw [hwb]; go_simp)
  have zc6 : ∀ w', Ext wb w' → w'.cell? ⟨w.heap.size + 2, 6, none⟩ = some (.int .i64 0) := fun w' hx => hx.cell (by rw [hwb]; go_simp)
  have zc7 : ∀ w', Ext wb w' → w'.cell? ⟨w.heap.size + 2, 7, none⟩ = some (.slice none 0 0) := fun w' hx => hx.cell (by rw [hwb]; go_simp)
  have zc8 : ∀ w', Ext wb w' → w'.cell? ⟨w.heap.size + 2, 8, none⟩ = some (.slice none 0 0) := fun w' hx => hx.cell (by rw [hwb]; go_simp)
  have zf : ∀ i w', Ext wb w' → w'.frozen? ⟨w.heap.size + 2, i, none⟩ = false := fun i w' hx => (Below.frozen (p := ⟨w.heap.size + 2, i, none⟩) hx (by show w.heap.size + 2 < wb.heap.size; omega)).trans (by rw [hwb]; exact SAt.frozen (SAt.new' _ _ _ (by simp)) i)
  have zs : ∀ w', Ext wb w' → w.heap.size + 2 < w'.heap.size := fun w' hx => by have := hx.le; omega
  obtain ⟨⟨k0, k1, k2, k3, k4, k5, _, _⟩, k6, k7, k8, _, _⟩ := HAt.out
  have HVal := Lib.hid (fun W (h : Ext wb W) => impl_ValidRegistry D a n c b m d ia im ic ra rm rc W (HN.out.ext h))
  have HIn := Lib.hid (fun W => impl_in x 0 40 W)
  have HWb := Lib.hid hwb
  clear hv hwb
  cases hval : validRg D
  · rw [hval] at HVal
    have HO := Lib.hid (show manyOk D x = false from many_in0 (by rw [manyIn]; rw [hval]; rfl))
    go_enter Try.func17, Try.ntmps17
    go_wp2_with fail
    rw [← HWb.out]
    go_wp2_with (first | (go_at_call 18; (with_reducible refine (HVal.out _ (by repeat (first | (with_reducible exact Ext.refl _) | (with_reducible assumption) | (with_reducible refine Ext.drewN ?_ _) | (with_reducible refine Ext.drew ?_) | (with_reducible refine Ext.alloc ?_ _) | ((with_reducible refine Ext.setCell ?_ ?_ _); rotate_left; focus (first | (simp; done) | (simp; omega) | omega)) | (with_reducible refine Ext.trans ?_ (by with_reducible assumption))))).mono ?_); rintro e w1 ⟨rfl, hy⟩; have hl : Ext wb w1 := Ext.trans (by repeat (first | (with_reducible exact Ext.refl _) | (with_reducible assumption) | (with_reducible refine Ext.drewN ?_ _) | (with_reducible refine Ext.drew ?_) | (with_reducible refine Ext.alloc ?_ _) | ((with_reducible refine Ext.setCell ?_ ?_ _); rotate_left; focus (first | (simp; done) | (simp; omega) | omega)) | (with_reducible refine Ext.trans ?_ (by with_reducible assumption)))) hy; clear hy; have hfr6 := fun i => zf i w1 hl; have hls := zs w1 hl; have y0 := zc0 w1 hl; have y1 := zc1 w1 hl; have y2 := zc2 w1 hl; have y3 := zc3 w1 hl; have y4 := zc4 w1 hl; have y5 := zc5 w1 hl; have y6 := zc6 w1 hl; have y7 := zc7 w1 hl; have y8 := zc8 w1 hl) | ((with_reducible refine (HIn.out _).mono ?_); rintro e w2 ⟨rfl, rfl⟩))
    refine bodyPost_ret (v := .tuple #[.agg #[.int .i64 0, .int .i64 0, .int .i64 0, .int .i64 0, .slice none 0 0, .slice none 0 0, .int .i64 0, .slice none 0 0, .slice none 0 0], .slice none 0 0, .bool false]) ?_ rfl ?_
    · simp [results, Try.results17, go_sem, y0, y1, y2, y3, y4, y5, y6, y7, y8]
    · have hxw := hxb.trans hl
      exact many_fail HO.out (by repeat (first | (with_reducible exact Ext.refl _) | (with_reducible assumption) | (with_reducible refine Ext.drewN ?_ _) | (with_reducible refine Ext.drew ?_) | (with_reducible refine Ext.alloc ?_ _) | ((with_reducible refine Ext.setCell ?_ ?_ _); rotate_left; focus (first | (simp; done) | (simp; omega) | omega)) | (with_reducible refine Ext.trans ?_ (by with_reducible assumption))))
  have hok := validRg_ok hval
  rw [hval] at HVal
  have Hhok := Lib.hid hok; clear hok
  cases hin : inB x 0 40
  · rw [hin] at HIn
    have HO := Lib.hid (show manyOk D x = false from many_in0 (by rw [manyIn]; rw [hin]; simp))
    clear hin
    go_enter Try.func17, Try.ntmps17
    go_wp2_with fail
    rw [← HWb.out]
    go_wp2_with (first | (go_at_call 18; (with_reducible refine (HVal.out _ (by repeat (first | (with_reducible exact Ext.refl _) | (with_reducible assumption) | (with_reducible refine Ext.drewN ?_ _) | (with_reducible refine Ext.drew ?_) | (with_reducible refine Ext.alloc ?_ _) | ((with_reducible refine Ext.setCell ?_ ?_ _); rotate_left; focus (first | (simp; done) | (simp; omega) | omega)) | (with_reducible refine Ext.trans ?_ (by with_reducible assumption))))).mono ?_); rintro e w1 ⟨rfl, hy⟩; have hl : Ext wb w1 := Ext.trans (by repeat (first | (with_reducible exact Ext.refl _) | (with_reducible assumption) | (with_reducible refine Ext.drewN ?_ _) | (with_reducible refine Ext.drew ?_) | (with_reducible refine Ext.alloc ?_ _) | ((with_reducible refine Ext.setCell ?_ ?_ _); rotate_left; focus (first | (simp; done) | (simp; omega) | omega)) | (with_reducible refine Ext.trans ?_ (by with_reducible assumption)))) hy; clear hy; have hfr6 := fun i => zf i w1 hl; have hls := zs w1 hl; have y0 := zc0 w1 hl; have y1 := zc1 w1 hl; have y2 := zc2 w1 hl; have y3 := zc3 w1 hl; have y4 := zc4 w1 hl; have y5 := zc5 w1 hl; have y6 := zc6 w1 hl; have y7 := zc7 w1 hl; have y8 := zc8 w1 hl) | ((with_reducible refine (HIn.out _).mono ?_); rintro e w2 ⟨rfl, rfl⟩))
    refine bodyPost_ret (v := .tuple #[.agg #[.int .i64 0, .int .i64 0, .int .i64 0, .int .i64 0, .slice none 0 0, .slice none 0 0, .int .i64 0, .slice none 0 0, .slice none 0 0], .slice none 0 0, .bool false]) ?_ rfl ?_
    · simp [results, Try.results17, go_sem, y0, y1, y2, y3, y4, y5, y6, y7, y8]
    · have hxw := hxb.trans hl
      exact many_fail HO.out (by repeat (first | (with_reducible exact Ext.refl _) | (with_reducible assumption) | (with_reducible refine Ext.drewN ?_ _) | (with_reducible refine Ext.drew ?_) | (with_reducible refine Ext.alloc ?_ _) | ((with_reducible refine Ext.setCell ?_ ?_ _); rotate_left; focus (first | (simp; done) | (simp; omega) | omega)) | (with_reducible refine Ext.trans ?_ (by with_reducible assumption))))
  have hin' := inB_t.1 hin
  have h40 := Hhok.out.n40
  rw [HL.out] at h40
  rw [hin] at HIn
  by_cases hsum : 40 < (im : Int) + x
  · have HO := Lib.hid (show manyOk D x = false from many_in0 (by rw [manyIn]; rw [HL.out]; simp; intros; omega))
    have hs1 : decide (40 < (im : Int) + x) = true := decide_eq_true hsum
    clear hin
    go_enter Try.func17, Try.ntmps17
    go_wp2_with fail
    rw [← HWb.out]
    go_wp2_with (first | (go_at_call 18; (with_reducible refine (HVal.out _ (by repeat (first | (with_reducible exact Ext.refl _) | (with_reducible assumption) | (with_reducible refine Ext.drewN ?_ _) | (with_reducible refine Ext.drew ?_) | (with_reducible refine Ext.alloc ?_ _) | ((with_reducible refine Ext.setCell ?_ ?_ _); rotate_left; focus (first | (simp; done) | (simp; omega) | omega)) | (with_reducible refine Ext.trans ?_ (by with_reducible assumption))))).mono ?_); rintro e w1 ⟨rfl, hy⟩; have hl : Ext wb w1 := Ext.trans (by repeat (first | (with_reducible exact Ext.refl _) | (with_reducible assumption) | (with_reducible refine Ext.drewN ?_ _) | (with_reducible refine Ext.drew ?_) | (with_reducible refine Ext.alloc ?_ _) | ((with_reducible refine Ext.setCell ?_ ?_ _); rotate_left; focus (first | (simp; done) | (simp; omega) | omega)) | (with_reducible refine Ext.trans ?_ (by with_reducible assumption)))) hy; clear hy; have hfr6 := fun i => zf i w1 hl; have hls := zs w1 hl; have y0 := zc0 w1 hl; have y1 := zc1 w1 hl; have y2 := zc2 w1 hl; have y3 := zc3 w1 hl; have y4 := zc4 w1 hl; have y5 := zc5 w1 hl; have y6 := zc6 w1 hl; have y7 := zc7 w1 hl; have y8 := zc8 w1 hl) | ((with_reducible refine (HIn.out _).mono ?_); rintro e w2 ⟨rfl, rfl⟩))
    refine bodyPost_ret (v := .tuple #[.agg #[.int .i64 0, .int .i64 0, .int .i64 0, .int .i64 0, .slice none 0 0, .slice none 0 0, .int .i64 0, .slice none 0 0, .slice none 0 0], .slice none 0 0, .bool false]) ?_ rfl ?_
    · simp [results, Try.results17, go_sem, y0, y1, y2, y3, y4, y5, y6, y7, y8]
    · have hxw := hxb.trans hl
      exact many_fail HO.out (by repeat (first | (with_reducible exact Ext.refl _) | (with_reducible assumption) | (with_reducible refine Ext.drewN ?_ _) | (with_reducible refine Ext.drew ?_) | (with_reducible refine Ext.alloc ?_ _) | ((with_reducible refine Ext.setCell ?_ ?_ _); rotate_left; focus (first | (simp; done) | (simp; omega) | omega)) | (with_reducible refine Ext.trans ?_ (by with_reducible assumption))))
  have hmi : manyIn D x = true := by rw [manyIn, hval, hin, HL.out]; simp; omega
  have hs1 : decide (40 < (im : Int) + x) = false := decide_eq_false hsum
  obtain ⟨cnt, rfl⟩ : ∃ cnt : Nat, x = cnt := ⟨x.toNat, by omega⟩
  have HSum := Lib.hid (show im + cnt ≤ 40 by omega)
  have Hhmi := Lib.hid hmi; clear hmi
  clear hin hval
  go_enter Try.func17, Try.ntmps17
  go_wp2_with fail
  rw [← HWb.out]
  go_wp2_with (first | (go_at_call 18; (with_reducible refine (HVal.out _ (by repeat (first | (with_reducible exact Ext.refl _) | (with_reducible assumption) | (with_reducible refine Ext.drewN ?_ _) | (with_reducible refine Ext.drew ?_) | (with_reducible refine Ext.alloc ?_ _) | ((with_reducible refine Ext.setCell ?_ ?_ _); rotate_left; focus (first | (simp; done) | (simp; omega) | omega)) | (with_reducible refine Ext.trans ?_ (by with_reducible assumption))))).mono ?_); rintro e w1 ⟨rfl, hy⟩; have hl : Ext wb w1 := Ext.trans (by repeat (first | (with_reducible exact Ext.refl _) | (with_reducible assumption) | (with_reducible refine Ext.drewN ?_ _) | (with_reducible refine Ext.drew ?_) | (with_reducible refine Ext.alloc ?_ _) | ((with_reducible refine Ext.setCell ?_ ?_ _); rotate_left; focus (first | (simp; done) | (simp; omega) | omega)) | (with_reducible refine Ext.trans ?_ (by with_reducible assumption)))) hy; clear hy; have hfr6 := fun i => zf i w1 hl; have hls := zs w1 hl; have y0 := zc0 w1 hl; have y1 := zc1 w1 hl; have y2 := zc2 w1 hl; have y3 := zc3 w1 hl; have y4 := zc4 w1 hl; have y5 := zc5 w1 hl; have y6 := zc6 w1 hl; have y7 := zc7 w1 hl; have y8 := zc8 w1 hl) | ((with_reducible refine (HIn.out _).mono ?_); rintro e w2 ⟨rfl, rfl⟩))
  clear HVal HIn
  refine (impl_cloneRegistry D a n c b m d ia im ic ra rm rc w1 (HN.out.ext hl)).mono ?_
  rintro e w3 ⟨a3, c3, b3, d3, ia3, ic3, ra3, rc3, rfl, hr3, hx3⟩
  have hl3 : Ext wb w3 := hl.trans hx3
  obtain ⟨q1, i0, i1, r0, r1, ⟨g1, g2, g3, g4, g5, g6, g7, g8⟩, hch, his, hrs⟩ := hr3
  have h13 : wb.heap.size ≤ w1.heap.size := hl.le
  have h133 : w1.heap.size ≤ w3.heap.size := hx3.le
  obtain ⟨l0, hl0⟩ : ∃ l0, l0 = w3.heap.size := ⟨_, rfl⟩
  obtain ⟨wS, hwS⟩ : ∃ wS, wS = (((w3.alloc (.cells #[] 9)).alloc (.cells #[.int .i64 D.ch.base, .int .i64 D.ch.states, .int .i64 D.ch.start, .int .i64 D.ch.fin, .slice a3 n c3, .slice b3 m d3, .int .i64 D.apart, .slice ia3 im ic3, .slice ra3 rm rc3] 30)).alloc (.cells #[.slice (some ⟨w3.heap.size, 0, none⟩) 0 0] 28)) := ⟨_, rfl⟩
  have hxS : Ext w3 wS := by rw [hwS]; exact (by repeat (first | (with_reducible exact Ext.refl _) | (with_reducible refine Ext.drewN ?_ _) | (with_reducible refine Ext.drew ?_) | (with_reducible refine Ext.alloc ?_ _) | ((with_reducible refine Ext.setCell ?_ ?_ _); rotate_left; focus (first | (simp; done) | (simp; omega) | omega)) | assumption | (with_reducible refine Ext.trans ?_ (by assumption))))
  have hSs : wS.heap.size = l0 + 3 := by rw [hwS, hl0]; simp
  have HSq := Lib.hid (show SAt wS (l0 + 1) 30 #[.int .i64 D.ch.base, .int .i64 D.ch.states, .int .i64 D.ch.start, .int .i64 D.ch.fin, .slice a3 n c3, .slice b3 m d3, .int .i64 D.apart, .slice ia3 im ic3, .slice ra3 rm rc3] by rw [hwS]; exact (SAt.new' _ _ _ (by rw [hl0]; simp)).alloc _)
  have HVl := Lib.hid (show VarAt wS (l0 + 1 + 1) 28 (.slice (some ⟨l0, 0, none⟩) 0 0) by
    rw [hwS]
    have h := VarAt.new ((w3.alloc (.cells #[] 9)).alloc (.cells #[.int .i64 D.ch.base, .int .i64 D.ch.states, .int .i64 D.ch.start, .int .i64 D.ch.fin, .slice a3 n c3, .slice b3 m d3, .int .i64 D.apart, .slice ia3 im ic3, .slice ra3 rm rc3] 30)) 28 (.slice (some ⟨w3.heap.size, 0, none⟩) 0 0)
    rw [show ((w3.alloc (.cells #[] 9)).alloc (.cells #[.int .i64 D.ch.base, .int .i64 D.ch.states, .int .i64 D.ch.start, .int .i64 D.ch.fin, .slice a3 n c3, .slice b3 m d3, .int .i64 D.apart, .slice ia3 im ic3, .slice ra3 rm rc3] 30)).heap.size = l0 + 1 + 1 by rw [hl0]; simp] at h
    rw [hl0]
    rw [hl0] at h
    exact h)
  have HLl := Lib.hid (show Own wS w1.heap.size 9 (some ⟨l0, 0, none⟩) 0 0 (St []) by rw [hwS]; exact ((Own.lit0' _ _ (by omega) hl0).alloc' _).alloc' _)
  have HCh := Lib.hid (hch.ext hxS)
  have HRs := Lib.hid (hrs.ext hxS)
  have HIs := Lib.hid (his.ext hxS)
  have HPcS := Lib.hid (HPc.out.ext (hl3.trans hxS))
  have hlS : Ext wb wS := hl3.trans hxS
  clear hch his hrs
  go_wp2_with fail
  rw [← hwS, ← hl0]
  clear hwS
  have HC := Lib.hid (impl_trials D.ch (l0 + 1) a3 n c3 b3 m d3 60 #[.pointer (some ⟨l0 + 1 + 1, 0, none⟩), .pointer (some ⟨w.heap.size + 1, 0, none⟩), .pointer (some ⟨l0 + 1, 0, none⟩)]
    (fun lo hi k W => MInv wS (l0 + 1) (l0 + 1 + 1) (w.heap.size + 1) w1.heap.size i0 i1 l0 D a3 n c3 b3 m d3 im ra3 rm rc3 cnt lo hi k W ∧ (l0 + 1 < lo ∧ l0 + 1 + 1 < lo ∧ i1 ≤ lo ∧ l0 < lo ∧ wS.heap.size ≤ hi))
    (fun W => ∃ lo hi k, k ≤ triesN D.ch ∧ MInv wS (l0 + 1) (l0 + 1 + 1) (w.heap.size + 1) w1.heap.size i0 i1 l0 D a3 n c3 b3 m d3 im ra3 rm rc3 cnt lo hi k W ∧ wS.heap.size ≤ hi ∧ ¬ (scanL D cnt k).length < cnt)
    wS ⟨HSq.out.rule 0 _ rfl, HSq.out.rule 1 _ rfl, HSq.out.rule 2 _ rfl, HSq.out.rule 3 _ rfl, HSq.out.rule 4 _ rfl, HSq.out.rule 5 _ rfl, HCh.out.cubeI, HCh.out.plI⟩ Hhok.out.ch (fun _ _ => rfl)
    (fun w2 hx2 => ⟨(minv_zero HSq.out HVl.out HLl.out HIs.out (by omega) (by omega) cnt _ _).ext hx2, by have := hx2.le; omega⟩)
    (fun lo hi k W W' h hx => ⟨h.1.ext hx, h.2⟩)
    (fun lo hi k W h => by
      obtain ⟨_, _, _, _, hO, _⟩ := h.1.rg (q1 := q1) (r0 := r0) (r1 := r1) (by omega) (by omega) HCh.out HRs.out
      exact hO.rgAt.ch)
    (fun lo hi k W hk h hh => (minv_trial h.1 (q1 := q1) (r0 := r0) (r1 := r1) (by omega) (by omega) HCh.out HRs.out HPcS.out (by omega) Hhok.out HL.out HSum.out hk hh (by omega)).mono (by
      rintro e W' (⟨h1, h2, h3, h4⟩ | ⟨h1, h2, h3⟩)
      · exact .inl ⟨h1, ⟨h2, h.2⟩, h3, h4⟩
      · exact .inr ⟨h1, lo, hi, k + 1, hk, h2, h.2.2.2.2.2, h3⟩)))
  refine HC.out.mono ?_
  rintro e w4 ⟨rfl, hres⟩
  have hfin : ∃ lo hi j, j ≤ triesN D.ch ∧ MInv wS (l0 + 1) (l0 + 1 + 1) (w.heap.size + 1) w1.heap.size i0 i1 l0 D a3 n c3 b3 m d3 im ra3 rm rc3 cnt lo hi j w4 ∧ wS.heap.size ≤ hi ∧ ((scanL D cnt j).length < cnt → j = triesN D.ch) := by
    rcases hres with ⟨lo, hi, h1, h2⟩ | ⟨lo, hi, k, h1, h2, h3, h4⟩
    · exact ⟨lo, hi, _, Nat.le_refl _, h1, h2.2.2.2.2, fun _ => rfl⟩
    · exact ⟨lo, hi, k, h1, h2, h3, fun h => absurd h h4⟩
  obtain ⟨lo, hi, j, hj, hM, hhi, hjl⟩ := hfin
  clear hres HC
  have hx4 : Ext wb w4 := (hM.chg (s0 := w1.heap.size) (by omega)).to hlS h13
  obtain ⟨ia4, ic4, la4, lc4, hS4, hV4, hR4⟩ := minv_end hM (q1 := q1) (r0 := r0) (r1 := r1) (s0 := w1.heap.size) (by omega) (by omega) hhi HCh.out HRs.out
  have hs4 := hM.chg (s0 := w1.heap.size) (by omega)
  have hsz4 : wS.heap.size ≤ w4.heap.size := hs4.size
  have HSc := Lib.hid (scan_inv Hhok.out.a1 cnt j hj)
  have HJl := Lib.hid hjl
  obtain ⟨L, hL⟩ : ∃ L, L = scanL D cnt j := ⟨_, rfl⟩
  have HScan := Lib.hid hL
  rw [← hL] at hS4 hV4 hR4 HSc HJl
  clear hM hs4 hL hjl
  have HR4 := Lib.hid hR4
  have HV4 := Lib.hid hV4
  have hLc : L.length ≤ cnt := HSc.out.2.1
  obtain ⟨y0, y1, y2, y3, y4, y5, y6, y7, y8⟩ := SAt.r9 hS4
  have yl : ∀ w', Ext w4 w' → w'.cell? ⟨l0 + 1 + 1, 0, none⟩ = some (.slice la4 L.length lc4) := fun w' h => (HV4.out.ext h).cell
  have hs2 := hSum2 HSum.out
  have hfr6 := fun i => zf i w4 hx4
  have hls := zs w4 hx4
  clear hV4 hR4 hS4
  subst hl0
  by_cases hlt : L.length < cnt
  · have HO := Lib.hid (show manyOk D (cnt : Int) = false from many_no (by rw [Int.toNat_natCast]; exact scan_no Hhok.out.a1 (by rw [← HJl.out hlt, ← HScan.out]; exact hlt)))
    have hd : decide ((L.length : Int) < (cnt : Int)) = true := decide_eq_true (by omega)
    have u0 := zc0 w4 hx4
    have u1 := zc1 w4 hx4
    have u2 := zc2 w4 hx4
    have u3 := zc3 w4 hx4
    have u4 := zc4 w4 hx4
    have u5 := zc5 w4 hx4
    have u6 := zc6 w4 hx4
    have u7 := zc7 w4 hx4
    have u8 := zc8 w4 hx4
    go_wp2_with fail
    refine bodyPost_ret (v := .tuple #[.agg #[.int .i64 0, .int .i64 0, .int .i64 0, .int .i64 0, .slice none 0 0, .slice none 0 0, .int .i64 0, .slice none 0 0, .slice none 0 0], .slice none 0 0, .bool false]) ?_ rfl ?_
    · simp [results, Try.results17, go_sem, u0, u1, u2, u3, u4, u5, u6, u7, u8]
    · have hxw := hxb.trans hx4
      exact many_fail HO.out (by repeat (first | (with_reducible exact Ext.refl _) | (with_reducible assumption) | (with_reducible refine Ext.drewN ?_ _) | (with_reducible refine Ext.drew ?_) | (with_reducible refine Ext.alloc ?_ _) | ((with_reducible refine Ext.setCell ?_ ?_ _); rotate_left; focus (first | (simp; done) | (simp; omega) | omega)) | (with_reducible refine Ext.trans ?_ (by with_reducible assumption))))
  · have HMl := Lib.hid (show manyL D cnt = some L by rw [HScan.out]; exact scan_yes Hhok.out.a1 hj (by rw [← HScan.out]; exact hlt))
    have HO := Lib.hid (show manyOk D (cnt : Int) = true from many_yes Hhmi.out (by rw [Int.toNat_natCast]; exact HMl.out))
    have hd : decide ((L.length : Int) < (cnt : Int)) = false := decide_eq_false (by omega)
    go_wp2_with fail
    have u0 := zc0 w4 hx4
    have u1 := zc1 w4 hx4
    have u2 := zc2 w4 hx4
    have u3 := zc3 w4 hx4
    have u4 := zc4 w4 hx4
    have u5 := zc5 w4 hx4
    have u6 := zc6 w4 hx4
    have u7 := zc7 w4 hx4
    have u8 := zc8 w4 hx4
    go_region
    go_wp2
    refine bodyPost_ret (v := .tuple #[.agg #[.int .i64 D.ch.base, .int .i64 D.ch.states, .int .i64 D.ch.start, .int .i64 D.ch.fin, .slice a3 n c3, .slice b3 m d3, .int .i64 D.apart, .slice ia4 (im + L.length) ic4, .slice ra3 rm rc3], .slice la4 L.length lc4, .bool true]) ?_ rfl ?_
    · simp [results, Try.results17, go_sem, u0, u1, u2, u3, u4, u5, u6, u7, u8]
    · have hxw := hxb.trans hx4
      have hml : manyL D (cnt : Int).toNat = some L := by rw [Int.toNat_natCast]; exact HMl.out
      rw [many_r1 HO.out hml, many_t1 HO.out hml, HO.out]
      have hq : ∀ wf, Chg 0 (w.heap.size + 3) w4 wf → wf.heap.size = w4.heap.size → ManyR wf w.heap.size wf.heap.size (addL D L) a3 n c3 b3 m d3 ia4 (im + L.length) ic4 ra3 rm rc3 la4 L.length lc4 L := fun wf hc he => by
        rw [he]; exact (HR4.out.chg hc (.inl (by omega))).mono (by omega) (Nat.le_refl _)
      refine ⟨a3, n, c3, b3, m, d3, ia4, im + L.length, ic4, ra3, rm, rc3, la4, L.length, lc4, rfl, ?_, ?_, ?_, ?_⟩
      · refine hq _ ?_ ?_
        · refine Chg.trans ?_ (Chg.ext (Ext.drew (Ext.refl _)) _ _)
          iterate 9 (refine Chg.trans ?_ (Chg.setP _ _ _ (Nat.zero_le _) (show w.heap.size + 1 + 1 < w.heap.size + 3 by omega)))
          exact Chg.refl _ _ _
        · simp
      · exact add_sz HN.out.szs (many_ok Hhok.out (by rw [HL.out]; omega) HMl.out) (by omega)
      · omega
      · refine Ext.drew ?_
        exact (by repeat (first | (with_reducible exact Ext.refl _) | (with_reducible assumption) | (with_reducible refine Ext.drewN ?_ _) | (with_reducible refine Ext.drew ?_) | (with_reducible refine Ext.alloc ?_ _) | ((with_reducible refine Ext.setCell ?_ ?_ _); rotate_left; focus (first | (simp; done) | (simp; omega) | omega)) | (with_reducible refine Ext.trans ?_ (by with_reducible assumption))))
end Go.Proofs.Ytcdoanookiimaaa

/- Walks: the laws write marks into a registry and a list of words. -/
namespace Go.Proofs.Ytcdoanookiimaaa
set_option maxRecDepth 100000
open Go.RowKit

theorem ManyR.ext {w w' : World} {lo hi : Nat} {D : Rg} {a : Option Addr} {n c : Nat} {b : Option Addr} {m d : Nat} {ia : Option Addr} {im ic : Nat} {ra : Option Addr} {rm rc : Nat} {la : Option Addr} {ln lc : Nat} {ts : List ByteArray} (h : ManyR w lo hi D a n c b m d ia im ic ra rm rc la ln lc ts) (hx : Ext w w') : ManyR w' lo hi D a n c b m d ia im ic ra rm rc la ln lc ts :=
  h.chg (Chg.ext hx 0 0) (.inl (Nat.zero_le _))
theorem ManyR.ls {w : World} {lo hi : Nat} {D : Rg} {a : Option Addr} {n c : Nat} {b : Option Addr} {m d : Nat} {ia : Option Addr} {im ic : Nat} {ra : Option Addr} {rm rc : Nat} {la : Option Addr} {ln lc : Nat} {ts : List ByteArray} (h : ManyR w lo hi D a n c b m d ia im ic ra rm rc la ln lc ts) : Strs w la ln lc ts :=
  let ⟨_, _, _, _, _, _, _, _, _, _, _, g4⟩ := h; g4.1.sl
theorem eqStrsT (a a' : Option Addr) (n c c' : Nat) (l : List ByteArray) (w : World) (hv : Strs w a n c l) (hv' : Strs w a' n c' l) (hn : n ≤ 4611686018427387904) :
    Calls Try.prog 38 #[.slice a n c, .slice a' n c'] w (Ret (.bool true) w) := by
  have h := eqStrs a a' n n c c' l l w hv hv' hn hn
  rwa [decide_eq_true rfl] at h
theorem heldStrsZ (a : Option Addr) (n c z : Nat) (w : World) (hv : Strs w a n c (markTs (1 + z) n)) (hk : 1 + z + n ≤ 549755813888) :
    Calls Try.prog 42 #[.slice a n c, .int .i64 (1 + (z : Int))] w (Ret (.int .i64 (1 + (z : Int) + n)) w) := by
  have h := heldStrsX a n c (1 + z) w hv hk
  rwa [show (((1 + z : Nat)) : Int) = 1 + (z : Int) by omega] at h
theorem markManyL (D : Rg) (a : Option Addr) (n c : Nat) (b : Option Addr) (m d : Nat) (ia : Option Addr) (im ic : Nat) (ra : Option Addr) (rm rc : Nat) (la : Option Addr) (ln lc : Nat) (ts : List ByteArray) (z lo hi : Nat) (w : World) (hv : ManyR w lo hi D a n c b m d ia im ic ra rm rc la ln lc ts) (hhi : hi ≤ w.heap.size) (hk : 1 + z + ln ≤ 549755813888) :
    Calls Try.prog 41 #[.slice la ln lc, .int .i64 (1 + (z : Int))] w (MarkR (1 + z + ln) lo hi w fun w' => ManyR w' lo hi D a n c b m d ia im ic ra rm rc la ln lc (markTs (1 + z) ln)) := by
  obtain ⟨q1, i0, i1, r0, r1, l0, l1, g, hc, hi', hr, hl⟩ := hv
  have h := markStrsX la ln lc (St ts) (1 + z) l0 l1 w hl (by omega) hk
  rw [show (((1 + z : Nat)) : Int) = 1 + (z : Int) by omega] at h
  refine h.mono ?_
  rintro e w' ⟨h1, h2, h3⟩
  exact ⟨h1, h2.mono (by omega) (by omega), q1, i0, i1, r0, r1, l0, l1, g, hc.chg h2 (by omega), hi'.chg h2 (by omega), hr.chg h2 (by omega), h3⟩
/-- the sizes of what IssueMany returns -/
theorem szresIssueMany {w : World} {D : Rg} {a : Option Addr} {n c : Nat} {b : Option Addr} {m d : Nat} {ia : Option Addr} {im ic : Nat} {ra : Option Addr} {rm rc : Nat} {x : Int} (hi : RgIn w D a n c b m d ia im ic ra rm rc) (h : rgSize D ≤ 1048576) : szRg2 (manyRg D x) ≤ 5000000 ∧ SmallCh (manyRg D x).ch := by
  cases hk : manyOk D x
  · rw [many_r0 hk]
    exact ⟨by show (0 : Nat) ≤ _; omega, fun t h => by cases h⟩
  · have hin : manyIn D x = true := by unfold manyOk at hk; simp only [Bool.and_eq_true] at hk; exact hk.1
    cases hl : manyL D x.toNat with
    | none => rw [many_no hl] at hk; cases hk
    | some L =>
      rw [many_r1 hk hl]
      have := szRg2_le h
      refine ⟨?_, hi.ch.sm⟩
      show szCh2 D.ch + (D.issued ++ L).length + D.revoked.length ≤ 5000000
      rw [List.length_append, many_len hl]
      unfold szRg2 at this
      unfold manyIn at hin
      simp only [Bool.and_eq_true, decide_eq_true_eq] at hin
      omega
end Go.Proofs.Ytcdoanookiimaaa

/- Walks: IssueWord, both sides. -/
namespace Go.Proofs.Ytcdoanookiimaaa
set_option maxRecDepth 100000
open Go.RowKit

theorem manyL_one (D : Rg) : manyL D 1 = (trialO D).map (fun s => [s]) := by
  rw [manyL, manyL]
  simp only [addL_nil]
  cases trialO D <;> rfl
theorem one_no1 {D : Rg} (h : D.issued.length = 40) : manyOk D 1 = false := many_in0 (by rw [manyIn, h]; simp)
theorem one_no2 {D : Rg} (h : trialO D = none) : manyOk D 1 = false := many_no (by show manyL D 1 = none; rw [manyL_one, h]; rfl)
theorem one_yes {D : Rg} {s : ByteArray} (hval : validRg D = true) (h : D.issued.length + 1 ≤ 40) (ht : trialO D = some s) : manyOk D 1 = true ∧ manyRg D 1 = issR D s ∧ manyT D 1 = [s] := by
  have hl : manyL D (1 : Int).toNat = some [s] := by show manyL D 1 = _; rw [manyL_one, ht]; rfl
  have hin : manyIn D 1 = true := by rw [manyIn, hval]; simp [inB]; omega
  have hk := many_yes hin hl
  exact ⟨hk, many_r1 hk hl, many_t1 hk hl⟩
theorem one_some {D : Rg} (h : manyOk D 1 = true) : ∃ s, manyT D 1 = [s] := by
  cases ht : trialO D with
  | none => rw [one_no2 ht] at h; cases h
  | some s => exact ⟨s, many_t1 h (by show manyL D 1 = _; rw [manyL_one, ht]; rfl)⟩
/-- a registry, a text and a bool: the reference's; the program's -/
def RetRgTK (D : Rg) (t : ByteArray) (ok : Bool) (w : World) (e : Ending) (w' : World) : Prop :=
  ∃ a n c b m d ia im ic ra rm rc, e = .returned (.tuple #[.agg #[.int .i64 D.ch.base, .int .i64 D.ch.states, .int .i64 D.ch.start, .int .i64 D.ch.fin, .slice a n c, .slice b m d, .int .i64 D.apart, .slice ia im ic, .slice ra rm rc], .string t, .bool ok]) ∧ RgK w.heap.size w'.heap.size w' D a n c b m d ia im ic ra rm rc ∧ Ext w w'
def RetRgTO (D : Rg) (t : ByteArray) (ok : Bool) (w : World) (e : Ending) (w' : World) : Prop :=
  ∃ a n c b m d ia im ic ra rm rc, e = .returned (.tuple #[.agg #[.int .i64 D.ch.base, .int .i64 D.ch.states, .int .i64 D.ch.start, .int .i64 D.ch.fin, .slice a n c, .slice b m d, .int .i64 D.apart, .slice ia im ic, .slice ra rm rc], .string t, .bool ok]) ∧ RgR w' w.heap.size w'.heap.size D a n c b m d ia im ic ra rm rc ∧ RgSz D n m im rm ∧ Ext w w'
theorem one_failK {D : Rg} {w w' : World} (h : manyOk D 1 = false) (hx : Ext w w') : RetRgTK (manyRg D 1) (gs (manyT D 1) 0) (manyOk D 1) w (.returned (.tuple #[.agg #[.int .i64 0, .int .i64 0, .int .i64 0, .int .i64 0, .slice none 0 0, .slice none 0 0, .int .i64 0, .slice none 0 0, .slice none 0 0], .string ⟨#[]⟩, .bool false])) w' := by
  rw [many_r0 h, many_t0 h, h]
  exact ⟨none, 0, 0, none, 0, 0, none, 0, 0, none, 0, 0, rfl, fun W _ => zero_in W, hx⟩
theorem one_failO {D : Rg} {w w' : World} (h : manyOk D 1 = false) (hx : Ext w w') : RetRgTO (manyRg D 1) (gs (manyT D 1) 0) (manyOk D 1) w (.returned (.tuple #[.agg #[.int .i64 0, .int .i64 0, .int .i64 0, .int .i64 0, .slice none 0 0, .slice none 0 0, .int .i64 0, .slice none 0 0, .slice none 0 0], .string ⟨#[]⟩, .bool false])) w' := by
  rw [many_r0 h, many_t0 h, h]
  exact ⟨none, 0, 0, none, 0, 0, none, 0, 0, none, 0, 0, rfl, zero_r _ _ _ hx.le, zero_sz, hx⟩
set_option maxRecDepth 20000 in
set_option maxHeartbeats 8000000 in
theorem impl_IssueWord (D : Rg) (a : Option Addr) (n c : Nat) (b : Option Addr) (m d : Nat) (ia : Option Addr) (im ic : Nat) (ra : Option Addr) (rm rc : Nat) (w : World) (hv : RgIn w D a n c b m d ia im ic ra rm rc) : Calls Try.prog 14 #[.agg #[.int .i64 D.ch.base, .int .i64 D.ch.states, .int .i64 D.ch.start, .int .i64 D.ch.fin, .slice a n c, .slice b m d, .int .i64 D.apart, .slice ia im ic, .slice ra rm rc]] w (RetRgTO (manyRg D 1) (gs (manyT D 1) 0) (manyOk D 1) w) := by
  obtain ⟨wb, hwb⟩ : ∃ wb, wb = (w.alloc (.cells #[.int .i64 D.ch.base, .int .i64 D.ch.states, .int .i64 D.ch.start, .int .i64 D.ch.fin, .slice a n c, .slice b m d, .int .i64 D.apart, .slice ia im ic, .slice ra rm rc] 30)).alloc (.cells #[.int .i64 0, .int .i64 0, .int .i64 0, .int .i64 0, .slice none 0 0, .slice none 0 0, .int .i64 0, .slice none 0 0, .slice none 0 0] 30) := ⟨_, rfl⟩
  have hxb : Ext w wb := by rw [hwb]; exact (by repeat (first | (with_reducible exact Ext.refl _) | (with_reducible refine Ext.drewN ?_ _) | (with_reducible refine Ext.drew ?_) | (with_reducible refine Ext.alloc ?_ _) | ((with_reducible refine Ext.setCell ?_ ?_ _); rotate_left; focus (first | (simp; done) | (simp; omega) | omega)) | assumption | (with_reducible refine Ext.trans ?_ (by assumption))))
  have hbs : wb.heap.size = w.heap.size + 2 := by rw [hwb]; simp
  have HAt := Lib.hid (show RgAt wb w.heap.size D a n c b m d ia im ic ra rm rc by rw [hwb]; exact (hv.box 30).ext ((Ext.refl _).alloc _))
  have HN := Lib.hid (hv.ext hxb)
  have him := hv.hi
  have HL := Lib.hid hv.is.len
  have zc0 : ∀ w', Ext wb w' → w'.cell? ⟨w.heap.size + 1, 0, none⟩ = some (.int .i64 0) := fun w' hx => hx.cell (by rw [hwb]; go_simp)
  have zc1 : ∀ w', Ext wb w' → w'.cell? ⟨w.heap.size + 1, 1, none⟩ = some (.int .i64 0) := fun w' hx => hx.cell (by rw [hwb]; go_simp)
  have zc2 : ∀ w', Ext wb w' → w'.cell? ⟨w.heap.size + 1, 2, none⟩ = some (.int .i64 0) := fun w' hx => hx.cell (by rw [hwb]; go_simp)
  have zc3 : ∀ w', Ext wb w' → w'.cell? ⟨w.heap.size + 1, 3, none⟩ = some (.int .i64 0) := fun w' hx => hx.cell (by rw [hwb]; go_simp)
  have zc4 : ∀ w', Ext wb w' → w'.cell? ⟨w.heap.size + 1, 4, none⟩ = some (.slice none 0 0) := fun w' hx => hx.cell (by rw [hwb]; go_simp)
  have zc5 : ∀ w', Ext wb w' → w'.cell? ⟨w.heap.size + 1, 5, none⟩ = some (.slice none 0 0) := fun w' hx => hx.cell (by rw [hwb]; go_simp)
  have zc6 : ∀ w', Ext wb w' → w'.cell? ⟨w.heap.size + 1, 6, none⟩ = some (.int .i64 0) := fun w' hx => hx.cell (by rw [hwb]; go_simp)
  have zc7 : ∀ w', Ext wb w' → w'.cell? ⟨w.heap.size + 1, 7, none⟩ = some (.slice none 0 0) := fun w' hx => hx.cell (by rw [hwb]; go_simp)
  have zc8 : ∀ w', Ext wb w' → w'.cell? ⟨w.heap.size + 1, 8, none⟩ = some (.slice none 0 0) := fun w' hx => hx.cell (by rw [hwb]; go_simp)
  have zf : ∀ i w', Ext wb w' → w'.frozen? ⟨w.heap.size + 1, i, none⟩ = false := fun i w' hx => (Below.frozen (p := ⟨w.heap.size + 1, i, none⟩) hx (by show w.heap.size + 1 < wb.heap.size; omega)).trans (by rw [hwb]; exact SAt.frozen (SAt.new' _ _ _ (by simp)) i)
  have zs : ∀ w', Ext wb w' → w.heap.size + 1 < w'.heap.size := fun w' hx => by have := hx.le; omega
  obtain ⟨⟨k0, k1, k2, k3, k4, k5, _, _⟩, k6, k7, k8, _, _⟩ := HAt.out
  have HWb := Lib.hid hwb
  clear hv hwb
  obtain ⟨R, hR⟩ : ∃ R, R = manyRg D 1 := ⟨_, rfl⟩
  obtain ⟨ts, hts⟩ : ∃ ts, ts = manyT D 1 := ⟨_, rfl⟩
  have HIm := Lib.hid (impl_IssueMany D a n c b m d ia im ic ra rm rc 1 wb HN.out)
  rw [← hR, ← hts] at HIm
  have HR := Lib.hid hR
  have HTs := Lib.hid hts
  clear hR hts
  cases hok : manyOk D 1
  · rw [hok] at HIm
    have HO := Lib.hid hok
    clear hok
    go_enter Try.func14, Try.ntmps14
    go_wp2_with fail
    rw [← HWb.out]
    refine HIm.out.mono ?_
    rintro e w3 ⟨a3, n3, c3, b3, m3, d3, ia3, im3, ic3, ra3, rm3, rc3, la3, ln3, lc3, rfl, hr3, hz3, hln3, hx3⟩
    have hl : Ext wb w3 := hx3
    have hfr6 := fun i => zf i w3 hl
    have hls := zs w3 hl
    have y0 := zc0 w3 hl
    have y1 := zc1 w3 hl
    have y2 := zc2 w3 hl
    have y3 := zc3 w3 hl
    have y4 := zc4 w3 hl
    have y5 := zc5 w3 hl
    have y6 := zc6 w3 hl
    have y7 := zc7 w3 hl
    have y8 := zc8 w3 hl
    go_wp2_with fail
    refine bodyPost_ret (v := .tuple #[.agg #[.int .i64 0, .int .i64 0, .int .i64 0, .int .i64 0, .slice none 0 0, .slice none 0 0, .int .i64 0, .slice none 0 0, .slice none 0 0], .string ⟨#[]⟩, .bool false]) ?_ rfl ?_
    · simp [results, Try.results14, go_sem, hls, y0, y1, y2, y3, y4, y5, y6, y7, y8]
    · have hxw := hxb.trans hl
      have hp : ∀ wf, Ext w wf → RetRgTO (manyRg D 1) (gs (manyT D 1) 0) false w (.returned (.tuple #[.agg #[.int .i64 0, .int .i64 0, .int .i64 0, .int .i64 0, .slice none 0 0, .slice none 0 0, .int .i64 0, .slice none 0 0, .slice none 0 0], .string ⟨#[]⟩, .bool false])) wf := fun wf h => by
        have h9 := one_failO HO.out h
        rwa [HO.out] at h9
      exact hp _ (by repeat (first | (with_reducible exact Ext.refl _) | (with_reducible assumption) | (with_reducible refine Ext.drewN ?_ _) | (with_reducible refine Ext.drew ?_) | (with_reducible refine Ext.alloc ?_ _) | ((with_reducible refine Ext.setCell ?_ ?_ _); rotate_left; focus (first | (simp; done) | (simp; omega) | omega)) | (with_reducible refine Ext.trans ?_ (by with_reducible assumption))))
  · rw [hok] at HIm
    obtain ⟨s, hs⟩ := one_some hok
    rw [← HTs.out] at hs
    subst hs
    go_enter Try.func14, Try.ntmps14
    go_wp2_with fail
    rw [← HWb.out]
    refine HIm.out.mono ?_
    rintro e w3 ⟨a3, n3, c3, b3, m3, d3, ia3, im3, ic3, ra3, rm3, rc3, la3, ln3, lc3, rfl, hr3, hz3, hln3, hx3⟩
    have hl : Ext wb w3 := hx3
    have hfr6 := fun i => zf i w3 hl
    have hls := zs w3 hl
    have hln : (1 : Nat) = ln3 := hr3.ls.len
    subst hln
    have HR3 := Lib.hid hr3.rg
    obtain ⟨q1, i0, i1, r0, r1, l0, l1, hbd, _, _, _, hrow⟩ := hr3
    obtain ⟨g, rfl⟩ := hrow.1.some (by omega)
    have hgl : wb.heap.size ≤ g := by have := hrow.1.lt.1; omega
    have hg3 : g < w3.heap.size := hrow.1.lt.2
    obtain ⟨hix0, hc0, _⟩ := hrow.1.at (P := Try.prog) 28 und_strs cell_str 0 (by omega) .i64
    rw [show (St [s]).getD 0 undef = .string s from rfl] at hc0
    have hgne : w.heap.size + 1 ≠ g := by omega
    have hgne' : g ≠ w.heap.size + 1 := by omega
    clear hrow hbd
    have y0 := zc0 w3 hl
    have y1 := zc1 w3 hl
    have y2 := zc2 w3 hl
    have y3 := zc3 w3 hl
    have y4 := zc4 w3 hl
    have y5 := zc5 w3 hl
    have y6 := zc6 w3 hl
    have y7 := zc7 w3 hl
    have y8 := zc8 w3 hl
    go_wp2_with fail
    go_region
    go_wp2
    refine bodyPost_ret (v := .tuple #[.agg #[.int .i64 R.ch.base, .int .i64 R.ch.states, .int .i64 R.ch.start, .int .i64 R.ch.fin, .slice a3 n3 c3, .slice b3 m3 d3, .int .i64 R.apart, .slice ia3 im3 ic3, .slice ra3 rm3 rc3], .string s, .bool true]) ?_ rfl ?_
    · simp [results, Try.results14, go_sem, hls, y0, y1, y2, y3, y4, y5, y6, y7, y8]
    · have hxw := hxb.trans hl
      rw [← HTs.out]
      have hq : ∀ wf, Chg 0 (w.heap.size + 2) w3 wf → w3.heap.size ≤ wf.heap.size → RgR wf w.heap.size wf.heap.size R a3 n3 c3 b3 m3 d3 ia3 im3 ic3 ra3 rm3 rc3 := fun wf hc he => (HR3.out.chg hc (.inl (by omega))).mono (by omega) he
      have hp : ∀ wf, Chg 0 (w.heap.size + 2) w3 wf → w3.heap.size ≤ wf.heap.size → Ext w wf → RetRgTO R (gs [s] 0) true w (.returned (.tuple #[.agg #[.int .i64 R.ch.base, .int .i64 R.ch.states, .int .i64 R.ch.start, .int .i64 R.ch.fin, .slice a3 n3 c3, .slice b3 m3 d3, .int .i64 R.apart, .slice ia3 im3 ic3, .slice ra3 rm3 rc3], .string s, .bool true])) wf := fun wf hc he hx => ⟨_, _, _, _, _, _, _, _, _, _, _, _, rfl, hq wf hc he, hz3, hx⟩
      rw [← HR.out]
      refine hp _ ?_ (by simp) (Ext.drew (by repeat (first | (with_reducible exact Ext.refl _) | (with_reducible assumption) | (with_reducible refine Ext.drewN ?_ _) | (with_reducible refine Ext.drew ?_) | (with_reducible refine Ext.alloc ?_ _) | ((with_reducible refine Ext.setCell ?_ ?_ _); rotate_left; focus (first | (simp; done) | (simp; omega) | omega)) | (with_reducible refine Ext.trans ?_ (by with_reducible assumption)))))
      refine Chg.trans ?_ (Chg.ext (Ext.drew (Ext.refl _)) _ _)
      refine Chg.trans ?_ (Chg.ext (Ext.alloc (Ext.refl _) _) _ _)
      iterate 9 (refine Chg.trans ?_ (Chg.setP _ _ _ (Nat.zero_le _) (show w.heap.size + 1 < w.heap.size + 2 by omega)))
      exact Chg.refl _ _ _
theorem szresIssueWord {w : World} {D : Rg} {a : Option Addr} {n c : Nat} {b : Option Addr} {m d : Nat} {ia : Option Addr} {im ic : Nat} {ra : Option Addr} {rm rc : Nat} (hi : RgIn w D a n c b m d ia im ic ra rm rc) (h : rgSize D ≤ 1048576) : szRg2 (manyRg D 1) ≤ 5000000 ∧ SmallCh (manyRg D 1).ch := szresIssueMany hi h
end Go.Proofs.Ytcdoanookiimaaa
