/- Walks: joined chains, in the program. -/
import Derived.Test.YtaiieodllhoelaaJoinM
import Derived.Test.YtaiieodllhoelaaSAt
import Derived.Deep.RegionHeld3
import Derived.Deep.RegionLaw
namespace Go.Proofs.Ytaiieodllhoelaa
set_option maxRecDepth 100000
open Go.RowKit

/-- all blocks behind q that were there are as they were, but for those of two rows -/
def KeepOff (q : Nat) (ad pd : Option Addr) (W W' : World) : Prop := ∀ r, q < r → r < W.heap.size → (∀ g, ad = some g → g.block ≠ r) → (∀ g, pd = some g → g.block ≠ r) → W'.heap[r]? = W.heap[r]?
/-- half joined: block q holds the chain -/
structure JI (w : World) (q : Nat) (b S st fi : Int) (v4 v5 : Value) (ad : Option Addr) (x cc : Nat) (vs : List Value) (tt : List (List (List Int))) (pd : Option Addr) (y pc : Nat) (pp : List Int) (W : World) : Prop where
  s : SAt W q 27 #[.int .i64 b, .int .i64 S, .int .i64 st, .int .i64 fi, v4, v5]
  o : Own W w.heap.size 43 ad x cc vs
  i : ∀ j, j < x → ∃ a' n' c', gv vs j = .slice a' n' c' ∧ ∀ W', KeepOff q ad pd W W' → Mat W' a' n' c' (gm tt j)
  p : Own W w.heap.size 2 pd y pc (I pp)
  h : Ext w W
  q1 : w.heap.size ≤ q
section
variable {w : World} {q : Nat} {b S st fi : Int} {v4 v5 : Value} {ad : Option Addr} {x cc : Nat} {vs : List Value} {tt : List (List (List Int))} {pd : Option Addr} {y pc : Nat} {pp : List Int} {W W' : World}
theorem KeepOff.ext {W'' : World} (hx : Ext W W') (k : KeepOff q ad pd W' W'') : KeepOff q ad pd W W'' := fun r h1 h2 h3 h4 =>
  (k r h1 (Nat.lt_of_lt_of_le h2 hx.le) h3 h4).trans (Below.block hx r h2)
theorem KeepOff.app {W'' : World} {ad' : Option Addr} {k c : Nat} (hg : W.grownBy W' (Value.slice ad k c).ownBlock) (hk : ∀ g, ad' = some g → (∃ g', ad = some g' ∧ g'.block = g.block) ∨ W.heap.size ≤ g.block) (h : KeepOff q ad' pd W' W'') : KeepOff q ad pd W W'' := fun r h1 h2 h3 h4 => by
  refine (h r h1 (Nat.lt_of_lt_of_le h2 hg.size) (fun g hg' he => ?_) h4).trans (hg.block r h2 ?_)
  · rcases hk g hg' with ⟨g', h5, h6⟩ | h5
    · exact h3 g' h5 (h6.trans he)
    · omega
  · cases ad with
    | none => simp [Value.ownBlock]
    | some g => simp [Value.ownBlock]; exact fun e => h3 g rfl e.symm
theorem KeepOff.put {W'' : World} {pd' : Option Addr} {k c : Nat} (hg : W.grownBy W' (Value.slice pd k c).ownBlock) (hk : ∀ g, pd' = some g → (∃ g', pd = some g' ∧ g'.block = g.block) ∨ W.heap.size ≤ g.block) (h : KeepOff q ad pd' W' W'') : KeepOff q ad pd W W'' := fun r h1 h2 h3 h4 => by
  refine (h r h1 (Nat.lt_of_lt_of_le h2 hg.size) h3 (fun g hg' he => ?_)).trans (hg.block r h2 ?_)
  · rcases hk g hg' with ⟨g', h5, h6⟩ | h5
    · exact h4 g' h5 (h6.trans he)
    · omega
  · cases pd with
    | none => simp [Value.ownBlock]
    | some g => simp [Value.ownBlock]; exact fun e => h4 g rfl e.symm
theorem JI.ext (d : JI w q b S st fi v4 v5 ad x cc vs tt pd y pc pp W) (hx : Ext W W') : JI w q b S st fi v4 v5 ad x cc vs tt pd y pc pp W' :=
  ⟨d.s.ext hx, d.o.ext hx, fun j hj => by obtain ⟨a', n', c', h1, h2⟩ := d.i j hj; exact ⟨a', n', c', h1, fun W'' hk => h2 W'' (hk.ext hx)⟩, d.p.ext hx, d.h.trans hx, d.q1⟩
theorem JI.set (d : JI w q b S st fi v4 v5 ad x cc vs tt pd y pc pp W) (j : Nat) (u : Value) {b' S' st' fi' : Int} {v4' v5' : Value} (he : (#[Value.int .i64 b, .int .i64 S, .int .i64 st, .int .i64 fi, v4, v5]).setIfInBounds j u = #[.int .i64 b', .int .i64 S', .int .i64 st', .int .i64 fi', v4', v5']) :
    JI w q b' S' st' fi' v4' v5' ad x cc vs tt pd y pc pp (W.setCell ⟨q, j, none⟩ u) := by
  have hs := d.s.set j u
  rw [he] at hs
  refine ⟨hs, d.o.setS d.s (by decide) j u, fun k hk => ?_, d.p.setS d.s (by decide) j u, d.h.setCell d.q1 u, d.q1⟩
  obtain ⟨a', n', c', h1, h2⟩ := d.i k hk
  refine ⟨a', n', c', h1, fun W'' hK => h2 W'' fun r h3 h4 h5 h6 => ?_⟩
  exact (hK r h3 (by simpa [World.setCell] using h4) h5 h6).trans (Below.heap_setCell W ⟨q, j, none⟩ u r (by simp only; omega))
/-- a table more, laid behind all that was there -/
theorem JI.app (d : JI w q b S st fi v4 v5 ad x cc vs tt pd y pc pp W) {B0 : Nat} {ad' a1 : Option Addr} {cc' n1 c1 : Nat} {t : List (List Int)} (htl : tt.length = x) (hnew : OwnMat W B0 25 2 a1 n1 c1 t) (hq : q < B0) (ha : ∀ g, ad = some g → g.block < B0) (hp : ∀ g, pd = some g → g.block < B0)
    (hb : Below w.heap.size W W') (hg : W.grownBy W' (Value.slice ad x cc).ownBlock) (ho : Own W' w.heap.size 43 ad' (x + 1) cc' (vs ++ [.slice a1 n1 c1])) (hk : ∀ g, ad' = some g → (∃ g', ad = some g' ∧ g'.block = g.block) ∨ W.heap.size ≤ g.block) :
    JI w q b S st fi v4 v5 ad' (x + 1) cc' (vs ++ [.slice a1 n1 c1]) (tt ++ [t]) pd y pc pp W' := by
  have hvl := d.o.len
  refine ⟨d.s.grown hg (row_ne_s (d.o.ne_s d.s (by decide))), ho, fun j hj => ?_, d.p.grownT d.o hg (by decide), d.h.below hb, d.q1⟩
  by_cases h : j < x
  · obtain ⟨a', n', c', h1, h2⟩ := d.i j h
    exact ⟨a', n', c', (gv_lt (by omega)).trans h1, fun W'' hK => by rw [gm_lt (by omega)]; exact h2 W'' (hK.app hg hk)⟩
  · obtain rfl : j = x := by omega
    refine ⟨a1, n1, c1, gv_last hvl, fun W'' hK => ?_⟩
    rw [gm_last htl]
    have h3 := hK.app hg hk
    exact (hnew.keepB fun r h4 h5 => h3 r (by omega) h5 (fun g hg' => by have := ha g hg'; omega) (fun g hg' => by have := hp g hg'; omega)).mat
/-- a place more -/
theorem JI.put (d : JI w q b S st fi v4 v5 ad x cc vs tt pd y pc pp W) {pd' : Option Addr} {pc' : Nat} {u : Int}
    (hb : Below w.heap.size W W') (hg : W.grownBy W' (Value.slice pd y pc).ownBlock) (ho : Own W' w.heap.size 2 pd' (y + 1) pc' (I pp ++ [.int .i64 u])) (hk : ∀ g, pd' = some g → (∃ g', pd = some g' ∧ g'.block = g.block) ∨ W.heap.size ≤ g.block) :
    JI w q b S st fi v4 v5 ad x cc vs tt pd' (y + 1) pc' (pp ++ [u]) W' :=
  ⟨d.s.grown hg (row_ne_s (d.p.ne_s d.s (by decide))), d.o.grownT d.p hg (by decide), fun j hj => by obtain ⟨a', n', c', h1, h2⟩ := d.i j hj; exact ⟨a', n', c', h1, fun W'' hK => h2 W'' (hK.put hg hk)⟩, by rw [I_append]; exact ho, d.h.below hb, d.q1⟩
theorem JI.cube (d : JI w q b S st fi v4 v5 ad x cc vs tt pd y pc pp W) (htl : tt.length = x) : Cube W ad x cc tt :=
  ⟨htl, vs, d.o.sl, fun j hj => by obtain ⟨a', n', c', h1, h2⟩ := d.i j hj; exact ⟨a', n', c', h1, h2 W fun _ _ _ _ _ => rfl⟩⟩
end
theorem JI.fin {w : World} {q : Nat} {b S st fi : Int} {v4 v5 : Value} {ad : Option Addr} {x cc : Nat} {vs : List Value} {tt : List (List (List Int))} {pd : Option Addr} {y pc : Nat} {pp : List Int} {W W2 : World}
    (d : JI w q b S st fi v4 v5 ad x cc vs tt pd y pc pp W) (htl : tt.length = x) (hk : KeepB w.heap.size W.heap.size W W2) : Cube W2 ad x cc tt ∧ Ints W2 pd y pc pp :=
  ⟨⟨htl, vs, (d.o.keepB hk).sl, fun j hj => by obtain ⟨a', n', c', h1, h2⟩ := d.i j hj; exact ⟨a', n', c', h1, h2 W2 fun r h3 h4 _ _ => hk r (by have := d.q1; omega) h4⟩⟩, (d.p.keepB hk).ints⟩
theorem own_up {w : World} {B : Nat} {E : TypeId} {a : Option Addr} {n c : Nat} {vs : List Value} (h : Own w B E a n c vs) : ∀ g, a = some g → g.block < w.heap.size := fun g hg => (h.blk g hg).2
theorem row_ne_up {w : World} {B : Nat} {E : TypeId} {a : Option Addr} {n c r : Nat} {vs : List Value} (h : Own w B E a n c vs) (hr : w.heap.size ≤ r) : some r ≠ (Value.slice a n c).ownBlock := row_ne_s (fun x hx => by have := (h.blk x hx).2; omega)
theorem cell_grownU {w w' : World} {row : Option Nat} {b : Nat} {u : Value} (hg : w.grownBy w' row) (hr : some b ≠ row) (hb : b < w.heap.size) (hc : w.cell? ⟨b, 0, none⟩ = some u) : w'.cell? ⟨b, 0, none⟩ = some u := by
  have h := hg.block b hb hr
  unfold World.cell? at hc ⊢
  rw [← hc]
  simp only [h]
/-- append within a region that draws its order: which block has changed -/
theorem step_append1j {P : Program} {W : World} {ops : Array Oper} {o : Oper} {a : Act} {K : Act → World → Prop} {Q : Exit → Act → World → Prop} {E : Prop}
    (hg : o.guard = none) (s x : Operand) (t : TypeId) (hop : o.op = Op.call { callee := Callee.builtin Builtin.append, args := #[s, x], argTypes := #[t, t] })
    (e : TypeId) (z : Value) (bytes : Nat) (h1 : P.underlying t = some (.slice e)) (h2 : (P.info? e).map (fun i => (i.zero, i.size, i.bytes)) = some (some z, 1, bytes)) (hz : z.cells.size = 1)
    (B : Nat) (ad : Option Addr) (n c : Nat) (vs : List Value) (u : Value) (b : Nat) (hs : a.eval s = .slice ad n c) (hx : a.eval x = .slice (some ⟨b, 0, none⟩) 1 1)
    (hcell : W.cell? ⟨b, 0, none⟩ = some u) (hown : Own W B e ad n c vs) (hu : u.oneCell' = true) (hB : B ≤ W.heap.size) (hn : n < 1099511627776) (hb : bytes ≤ 64)
    (hK : ∀ ad' c' w', Own w' B e ad' (n + 1) c' (vs ++ [u]) → Below B W w' → W.grownBy w' (Value.slice ad n c).ownBlock → (∀ g, ad' = Option.some g → (∃ g', ad = Option.some g' ∧ g'.block = g.block) ∨ W.heap.size ≤ g.block) → K (a.put o.dst (.slice ad' (n + 1) c')) w') :
    if Region.wanted o (yielded ops a.tmps) = true then Oper.wp P o a W K Q else E := by
  have hw : Region.wanted o (yielded ops a.tmps) = true := by simp [Region.wanted, hg]
  rw [if_pos hw]
  obtain ⟨i, hi, hz0, hz1, rfl⟩ := info_parts h2
  obtain ⟨v', w', hr, h3, h4, h5, h6⟩ := run_append_own_at (P := P) W B t o.type e i z 1 i.bytes h1 hi hz0 hz1 rfl hz (by omega) (.slice ad n c) n vs hown ⟨b, 0, none⟩ 1 1 [u] rfl
    (fun j v hj => by
      have : j = 0 := by have := (List.getElem?_eq_some_iff.1 hj).1; simp at this; omega
      subst this
      simp at hj; subst hj; exact hcell) (by simpa using hu) (by unfold maxLen; omega) (by have := Nat.mul_le_mul (show n + 1 ≤ 1099511627776 by omega) hb; omega) hB
  have hv : ∃ ad' c', v' = .slice ad' (n + 1) c' := by
    rcases h3.2 with ⟨_, h⟩ | ⟨g, cap, cur, hv, _⟩
    · omega
    · exact ⟨_, _, hv⟩
  obtain ⟨ad', c', rfl⟩ := hv
  unfold Oper.wp execOp
  simp only [hop, resolve, invoke, builtin, Sem.run_bind, Sem.run_pure, Result.andThen_ok, List.map_toArray, List.map_cons, List.map_nil, hs, hx, hr]
  refine hK ad' c' w' h3 (Below.grown (Below.refl B W) h4 hB (fun k hk => (World.ownsRow.lt hown k hk).1)) h4 ?_
  rintro g rfl
  rcases h6 with h6 | h6
  · left
    cases ad with
    | none => simp [Value.ownBlock] at h6
    | some g' => exact ⟨g', rfl, by simpa [Value.ownBlock] using h6.symm⟩
  · right
    simp [Value.ownBlock] at h6
    omega
theorem und_cubeJ : Try.prog.underlying 24 = some (.slice 43) := by kernel_rfl
theorem info_cubeJ : (Try.prog.info? 43).map (fun i => (i.zero, i.size, i.bytes)) = some (some (.slice none 0 0), 1, 24) := by kernel_rfl
/-- the joined chain, and yes -/
def RetJoin (C D : Ch) (w : World) (e : Ending) (w' : World) : Prop :=
  ∃ a x c b y d, e = .returned (.tuple #[.agg #[.int .i64 (joinCh C D).base, .int .i64 (joinCh C D).states, .int .i64 (joinCh C D).start, .int .i64 (joinCh C D).fin, .slice a x c, .slice b y d], .bool true]) ∧ ChIn w' (joinCh C D) a x c b y d ∧ Ext w w'
set_option maxHeartbeats 8000000 in
theorem impl_JoinYes (C D : Ch) (a : Option Addr) (n c : Nat) (b : Option Addr) (m d : Nat) (a2 : Option Addr) (n2 c2 : Nat) (b2 : Option Addr) (d2 : Nat) (w : World) (hC : ChIn w C a n c b m d) (hD : ChIn w D a2 n2 c2 b2 m d2) (hf : Fit C D) (hvc : validCh C = true) (hvd : validCh D = true) :
    Calls Try.prog 27 #[.agg #[.int .i64 C.base, .int .i64 C.states, .int .i64 C.start, .int .i64 C.fin, .slice a n c, .slice b m d], .agg #[.int .i64 D.base, .int .i64 D.states, .int .i64 D.start, .int .i64 D.fin, .slice a2 n2 c2, .slice b2 m d2]] w (RetJoin C D w) := by
  have HF := Lib.hid hf
  have HPC := Lib.hid hC.ps.len
  have HVC := Lib.hid (fun W (h : Ext w W) => impl_ValidChain C a n c b m d W (Cube.ext hC.ts h) (hC.ps.ext h) hC.hn hC.hn' hC.sm)
  have HVD := Lib.hid (fun W (h : Ext w W) => impl_ValidChain D a2 n2 c2 b2 m d2 W (Cube.ext hD.ts h) (hD.ps.ext h) hD.hn hD.hn' hD.sm)
  rw [hvc] at HVC
  rw [hvd] at HVD
  have HIC := Lib.hid hC
  have HID := Lib.hid hD
  have hs1 := hf.c.s1
  have hs2 := hf.d.s1
  have hs3 := hf.c.s36
  have hs4 := hf.d.s36
  have hb2 := hf.c.b2
  have hb36 := hf.c.b36
  have hst := two_bd hf.c.st0 hf.c.st1 hf.d.st0 hf.d.st1
  have hfi := two_bd hf.c.en0 hf.c.en1 hf.d.en0 hf.d.en1
  have hm1 := hf.c.p1
  have hm20 := hf.c.p20
  have h36 := hf.s
  have hst0 : 0 ≤ C.start * D.states ∧ C.start * D.states ≤ 36 := by have h1 := hf.d.st0; have h2 := hf.d.st1; have h3 : 0 ≤ C.start * D.states := Int.mul_nonneg hf.c.st0 (by omega); omega
  have hfi0 : 0 ≤ C.fin * D.states ∧ C.fin * D.states ≤ 36 := by have h1 := hf.d.en0; have h2 := hf.d.en1; have h3 : 0 ≤ C.fin * D.states := Int.mul_nonneg hf.c.en0 (by omega); omega
  have hpos : 1 ≤ C.states * D.states := by have := Int.mul_pos (show 0 < C.states by omega) (show 0 < D.states by omega); omega
  rw [HPC.out] at hm1 hm20
  have HB := Lib.hid hf.b
  clear hC hD hf hvc hvd
  go_enter Try.func27, Try.ntmps27
  go_wp2_with fail
  obtain ⟨wb, hwb⟩ : ∃ wb, wb = ((w.alloc (.cells #[.int .i64 C.base, .int .i64 C.states, .int .i64 C.start, .int .i64 C.fin, .slice a n c, .slice b m d] 27)).alloc (.cells #[.int .i64 D.base, .int .i64 D.states, .int .i64 D.start, .int .i64 D.fin, .slice a2 n2 c2, .slice b2 m d2] 27)).alloc (.cells #[.int .i64 0, .int .i64 0, .int .i64 0, .int .i64 0, .slice none 0 0, .slice none 0 0] 27) := ⟨_, rfl⟩
  have hxb : Ext w wb := by rw [hwb]; exact (by repeat (first | (with_reducible exact Ext.refl _) | (with_reducible refine Ext.drewN ?_ _) | (with_reducible refine Ext.drew ?_) | (with_reducible refine Ext.alloc ?_ _) | ((with_reducible refine Ext.setCell ?_ ?_ _); rotate_left; focus (first | (simp; done) | (simp; omega) | omega)) | assumption | (with_reducible refine Ext.trans ?_ (by assumption))))
  have HAC := Lib.hid (show ChAt wb w.heap.size C a n c b m d by rw [hwb]; exact ((HIC.out.box 27).ext ((Ext.refl _).alloc _)).ext ((Ext.refl _).alloc _))
  have HAD := Lib.hid (show ChAt wb (w.heap.size + 1) D a2 n2 c2 b2 m d2 by
    have h1 := (HID.out.ext ((Ext.refl w).alloc (.cells #[.int .i64 C.base, .int .i64 C.states, .int .i64 C.start, .int .i64 C.fin, .slice a n c, .slice b m d] 27))).box 27
    rw [show (w.alloc (.cells #[.int .i64 C.base, .int .i64 C.states, .int .i64 C.start, .int .i64 C.fin, .slice a n c, .slice b m d] 27)).heap.size = w.heap.size + 1 by simp] at h1
    rw [hwb]; exact h1.ext ((Ext.refl _).alloc _))
  have HZ := Lib.hid (show SAt wb (w.heap.size + 2) 27 #[.int .i64 0, .int .i64 0, .int .i64 0, .int .i64 0, .slice none 0 0, .slice none 0 0] by rw [hwb]; exact SAt.new' _ _ _ (by simp))
  have hq12 : w.heap.size + 1 + 1 = w.heap.size + 2 := rfl
  try rw [hq12]
  rw [← hwb]
  obtain ⟨q1, hq1⟩ : ∃ q, q = w.heap.size := ⟨_, rfl⟩
  rw [← hq1] at HAC HAD HZ ⊢
  have hq1l : w.heap.size ≤ q1 := by omega
  clear hwb hq1 hq12
  obtain ⟨k0, k1, k2, k3, k4, k5, _, _⟩ := HAC.out
  obtain ⟨j0, j1, j2, j3, j4, j5, _, _⟩ := HAD.out
  rw [← HB.out] at j0 HVD
  have hxbb : Ext wb wb := Ext.refl _
  go_wp2_with (first | ((with_reducible refine (HVC.out _ (hxb.trans (by repeat (first | (with_reducible exact Ext.refl _) | (with_reducible assumption) | (with_reducible refine Ext.drewN ?_ _) | (with_reducible refine Ext.drew ?_) | (with_reducible refine Ext.alloc ?_ _) | ((with_reducible refine Ext.setCell ?_ ?_ _); rotate_left; focus (first | (simp; done) | (simp; omega) | omega)) | (with_reducible refine Ext.trans ?_ (by with_reducible assumption)))))).mono ?_); rintro e w1 ⟨rfl, hy1⟩; have hx1 : Ext wb w1 := Ext.trans (by repeat (first | (with_reducible exact Ext.refl _) | (with_reducible assumption) | (with_reducible refine Ext.drewN ?_ _) | (with_reducible refine Ext.drew ?_) | (with_reducible refine Ext.alloc ?_ _) | ((with_reducible refine Ext.setCell ?_ ?_ _); rotate_left; focus (first | (simp; done) | (simp; omega) | omega)) | (with_reducible refine Ext.trans ?_ (by with_reducible assumption)))) hy1; clear hy1) | ((with_reducible refine (HVD.out _ (hxb.trans (by repeat (first | (with_reducible exact Ext.refl _) | (with_reducible assumption) | (with_reducible refine Ext.drewN ?_ _) | (with_reducible refine Ext.drew ?_) | (with_reducible refine Ext.alloc ?_ _) | ((with_reducible refine Ext.setCell ?_ ?_ _); rotate_left; focus (first | (simp; done) | (simp; omega) | omega)) | (with_reducible refine Ext.trans ?_ (by with_reducible assumption)))))).mono ?_); rintro e w3 ⟨rfl, hy3⟩; have hx3 : Ext wb w3 := Ext.trans (by repeat (first | (with_reducible exact Ext.refl _) | (with_reducible assumption) | (with_reducible refine Ext.drewN ?_ _) | (with_reducible refine Ext.drew ?_) | (with_reducible refine Ext.alloc ?_ _) | ((with_reducible refine Ext.setCell ?_ ?_ _); rotate_left; focus (first | (simp; done) | (simp; omega) | omega)) | (with_reducible refine Ext.trans ?_ (by with_reducible assumption)))) hy3; clear hy3))
  obtain ⟨q2, hq2⟩ : ∃ q, q = w3.heap.size := ⟨_, rfl⟩
  obtain ⟨SN, hSN⟩ := Int.eq_ofNat_of_zero_le (show 0 ≤ C.states * D.states by omega)
  obtain ⟨st, hste⟩ : ∃ x, x = C.start * D.states + D.start := ⟨_, rfl⟩
  obtain ⟨fi, hfie⟩ : ∃ x, x = C.fin * D.states + D.fin := ⟨_, rfl⟩
  obtain ⟨bN, hbN⟩ := Int.eq_ofNat_of_zero_le (show 0 ≤ C.base by omega)
  obtain ⟨w4, hw4⟩ : ∃ W, W = w3.alloc (.cells #[.int .i64 C.base, .int .i64 (C.states * D.states), .int .i64 (C.start * D.states + D.start), .int .i64 (C.fin * D.states + D.fin), .slice none 0 0, .slice none 0 0] 27) := ⟨_, rfl⟩
  have hx34 : Ext w3 w4 := by rw [hw4]; exact (by repeat (first | (with_reducible exact Ext.refl _) | (with_reducible refine Ext.drewN ?_ _) | (with_reducible refine Ext.drew ?_) | (with_reducible refine Ext.alloc ?_ _) | ((with_reducible refine Ext.setCell ?_ ?_ _); rotate_left; focus (first | (simp; done) | (simp; omega) | omega)) | assumption | (with_reducible refine Ext.trans ?_ (by assumption))))
  have HJ4 := Lib.hid (show JI w3 q2 bN SN st fi (.slice none 0 0) (.slice none 0 0) none 0 0 [] [] none 0 0 [] w4 from
    ⟨by rw [hw4, hste, hfie, ← hSN, ← hbN, hq2]; exact SAt.new' _ _ _ rfl, Own.nil _ _ _, fun j hj => by omega, Own.nil _ _ _, hx34, by rw [hq2]; exact Nat.le_refl _⟩)
  rw [← hq2, ← hw4]
  have HST := Lib.hid hste
  have HFI := Lib.hid hfie
  have HSN := Lib.hid hSN
  have HBN := Lib.hid hbN
  have hx4 : Ext wb w4 := hx3.trans hx34
  have hSN36 : 1 ≤ SN ∧ SN ≤ 36 := by omega
  have hbN36 : 2 ≤ bN ∧ bN ≤ 36 := by omega
  have hq2l : q2 < w4.heap.size := by rw [hq2, hw4]; simp
  have hpos2 : 1 ≤ D.states := hs2
  have HNC := Lib.hid (fun (k s e : Nat) (hk : k < m) (hs : (s : Int) < C.states * D.states) (he : (e : Int) < C.base) => HF.out.bd (p := (k : Int)) (x := (s : Int)) (d := (e : Int)) (by omega) (by rw [HPC.out]; omega) (by omega) hs (by omega) he)
  clear hste hfie hSN hbN hw4 hq2
  clear hst hfi hst0 hfi0 h36 hpos
  go_loopw [72] (fun ki wr => ∃ (k : Nat) (ad : Option Addr) (cc : Nat) (vs : List Value) (pd : Option Addr) (pc : Nat), k ≤ m ∧ ki = .int .i64 k ∧ Hid (JI w3 q2 bN SN st fi (.slice ad k cc) (.slice pd k pc) ad k cc vs ((List.range k).map (joinTab C D)) pd k pc ((List.range k).map fun (j : Nat) => (j : Int)) wr)) (fun ki _ => m - (intOf ki).toNat)
  case atStart => exact ⟨0, none, 0, [], none, 0, Nat.zero_le _, rfl, HJ4.out⟩
  case round =>
    obtain ⟨k, ad, cc, vs, pd, pc, hk, rfl, HJ⟩ := hrel
    have hbr : Ext wb wr := hx3.trans HJ.out.h
    by_cases hlt : k < m
    · have c1 : ∀ w', Ext wr w' → w'.cell? ⟨q2, 1, none⟩ = some (.int .i64 SN) := fun w' h => (HJ.out.s.ext h).cell 1 (by simp)
      obtain ⟨wo, hwo⟩ : ∃ wo, wo = wr := ⟨_, rfl⟩
      subst hwo
      have hxoo : Ext wo wo := Ext.refl _
      go_wp2
      go_loopw [8, 78] (fun tb si wr => ∃ (s : Nat) (ar : Option Addr) (cr : Nat), s ≤ SN ∧ si = .int .i64 s ∧ tb = .slice ar s cr ∧ Hid (OwnMat wr wo.heap.size 25 2 ar s cr ((List.range s).map (joinRow C D k))) ∧ Ext wo wr) (fun _ si _ => SN - (intOf si).toNat)
      case atStart => exact ⟨0, _, _, Nat.zero_le _, rfl, rfl, OwnMat.lit0 wo _ _, (by repeat (first | (with_reducible exact Ext.refl _) | (with_reducible assumption) | (with_reducible refine Ext.drewN ?_ _) | (with_reducible refine Ext.drew ?_) | (with_reducible refine Ext.alloc ?_ _) | ((with_reducible refine Ext.setCell ?_ ?_ _); rotate_left; focus (first | (simp; done) | (simp; omega) | omega)) | (with_reducible refine Ext.trans ?_ (by with_reducible assumption))))⟩
      case round =>
        obtain ⟨s, ar, cr, hs, rfl, rfl, HM, hx2⟩ := hrel
        have hxr2 : Ext wo wr := hx2
        have hbr2 : Ext wb wr := hbr.trans hx2
        by_cases hls : s < SN
        · obtain ⟨wi, hwi⟩ : ∃ wi, wi = wr := ⟨_, rfl⟩
          subst hwi
          have hxii : Ext wi wi := Ext.refl _
          have hsS : (s : Int) < C.states * D.states := by have := HSN.out; omega
          have hsp := split_bd (x := (s : Int)) (S := D.states) (T := C.states) hpos2 (by omega) hsS
          obtain ⟨u0, u1, u2, u3⟩ := hsp
          go_wp2
          go_loopw [10, 84] (fun rw ei wr => ∃ (e : Nat) (ae : Option Addr) (ce : Nat), e ≤ bN ∧ ei = .int .i64 e ∧ rw = .slice ae e ce ∧ Hid (Own wr wi.heap.size 2 ae e ce (I ((joinRow C D k s).take e))) ∧ Ext wi wr) (fun _ ei _ => bN - (intOf ei).toNat)
          case atStart => exact ⟨0, _, _, Nat.zero_le _, rfl, rfl, Own.lit0 wi _, (by repeat (first | (with_reducible exact Ext.refl _) | (with_reducible assumption) | (with_reducible refine Ext.drewN ?_ _) | (with_reducible refine Ext.drew ?_) | (with_reducible refine Ext.alloc ?_ _) | ((with_reducible refine Ext.setCell ?_ ?_ _); rotate_left; focus (first | (simp; done) | (simp; omega) | omega)) | (with_reducible refine Ext.trans ?_ (by with_reducible assumption))))⟩
          case round =>
            obtain ⟨e, ae, ce, he, rfl, rfl, HR, hx3'⟩ := hrel
            have hxr3 : Ext wi wr := hx3'
            have hbr3 : Ext wb wr := hbr2.trans hx3'
            by_cases hle : e < bN
            · have heB : (e : Int) < C.base := by have := HBN.out; omega
              obtain ⟨g0, g1, g2, g3⟩ := HNC.out k s e hlt hsS heB
              have HN1 := Lib.hid (fun W (h : Ext wb W) => impl_next C q1 a n c b m d (k : Int) ((s : Int) / D.states) (e : Int) W (HAC.out.ext h) HF.out.c (by omega) (by rw [HPC.out]; omega) u0 u1 (by omega) heB)
              have HN2 := Lib.hid (fun W (h : Ext wb W) => impl_next D (q1 + 1) a2 n2 c2 b2 m d2 (k : Int) ((s : Int) % D.states) (e : Int) W (HAD.out.ext h) HF.out.d (by omega) (by rw [← HF.out.l, HPC.out]; omega) u2 u3 (by omega) (by rw [← HB.out]; exact heB))
              have HRow := Lib.hid (joinRow_at (C := C) (D := D) (k := k) (s := s) (e := e) heB)
              have HLn := Lib.hid (show e < (joinRow C D k s).length by simp only [joinRow, List.length_map, List.length_range]; have := HBN.out; omega)
              have hmul := two_bd g0 g1 g2 g3
              have hm0 : 0 ≤ nextS C (k : Int) ((s : Int) / D.states) (e : Int) * D.states := Int.mul_nonneg g0 (by omega)
              have hm36 : C.states * D.states ≤ 36 := by have := HSN.out; omega
              generalize nextS C (k : Int) ((s : Int) / D.states) (e : Int) = y1 at *
              generalize nextS D (k : Int) ((s : Int) % D.states) (e : Int) = y2 at *
              go_wp2
              have hrr3 : Ext wr wr := Ext.refl _
              (refine wp_region_from wi (by repeat (first | (with_reducible exact Ext.refl _) | (with_reducible refine Ext.drewN ?_ _) | (with_reducible refine Ext.drew ?_) | (with_reducible refine Ext.alloc ?_ _) | ((with_reducible refine Ext.setCell ?_ ?_ _); rotate_left; focus (first | (simp; done) | (simp; omega) | omega)) | assumption | (with_reducible refine Ext.trans ?_ (by assumption)))) (by kernel_rfl) (by kernel_rfl) (by kernel_rfl) ?_; (repeat (first | (refine mix_q rfl ?_; go_big_quiet_step (fail); refine wpQuiet_nil ?_; show wpMix _ _ _ _ _ _ _) | (refine mix_s rfl ?_; go_wp2_with (first | (go_at_call 77; (with_reducible refine (HN1.out _ (Ext.trans hbr3 (by repeat (first | (with_reducible exact Ext.refl _) | (with_reducible assumption) | (with_reducible refine Ext.drewN ?_ _) | (with_reducible refine Ext.drew ?_) | (with_reducible refine Ext.alloc ?_ _) | ((with_reducible refine Ext.setCell ?_ ?_ _); rotate_left; focus (first | (simp; done) | (simp; omega) | omega)) | (with_reducible refine Ext.trans ?_ (by with_reducible assumption)))))).mono ?_); rintro e w6 ⟨rfl, hy6⟩; have hx6 : Ext wr w6 := Ext.trans (by repeat (first | (with_reducible exact Ext.refl _) | (with_reducible assumption) | (with_reducible refine Ext.drewN ?_ _) | (with_reducible refine Ext.drew ?_) | (with_reducible refine Ext.alloc ?_ _) | ((with_reducible refine Ext.setCell ?_ ?_ _); rotate_left; focus (first | (simp; done) | (simp; omega) | omega)) | (with_reducible refine Ext.trans ?_ (by with_reducible assumption)))) hy6; clear hy6; have hxi6 : Ext wi w6 := hxr3.trans hx6) | (go_at_call 77; (with_reducible refine (HN2.out _ (Ext.trans hbr3 (by repeat (first | (with_reducible exact Ext.refl _) | (with_reducible assumption) | (with_reducible refine Ext.drewN ?_ _) | (with_reducible refine Ext.drew ?_) | (with_reducible refine Ext.alloc ?_ _) | ((with_reducible refine Ext.setCell ?_ ?_ _); rotate_left; focus (first | (simp; done) | (simp; omega) | omega)) | (with_reducible refine Ext.trans ?_ (by with_reducible assumption)))))).mono ?_); rintro e w7 ⟨rfl, hy7⟩; have hx7 : Ext wr w7 := Ext.trans (by repeat (first | (with_reducible exact Ext.refl _) | (with_reducible assumption) | (with_reducible refine Ext.drewN ?_ _) | (with_reducible refine Ext.drew ?_) | (with_reducible refine Ext.alloc ?_ _) | ((with_reducible refine Ext.setCell ?_ ?_ _); rotate_left; focus (first | (simp; done) | (simp; omega) | omega)) | (with_reducible refine Ext.trans ?_ (by with_reducible assumption)))) hy7; clear hy7; have hxi7 : Ext wi w7 := hxr3.trans hx7) | (at_builtin; refine law_append1 w7 rfl _ _ 25 rfl 2 (.int .i64 0) 8 und_int64s info_int64 rfl wi.heap.size ae e ce _ _ rfl rfl (by simp [Act.eval, go_sem]) (HR.out.ext hx7) hxi7.le (by omega) (by omega) ?_; intro ae' ce' w8 ho8 hb8 hg8; have hxi8 : Ext wi w8 := Ext.below hxi7 hb8; clear hb8 hg8)); first | refine ⟨up_of (by repeat (first | (with_reducible exact Ext.refl _) | (with_reducible refine Ext.drewN ?_ _) | (with_reducible refine Ext.drew ?_) | (with_reducible refine Ext.alloc ?_ _) | ((with_reducible refine Ext.setCell ?_ ?_ _); rotate_left; focus (first | (simp; done) | (simp; omega) | omega)) | assumption | (with_reducible refine Ext.trans ?_ (by assumption)))), ?_⟩ | refine ⟨rfl, rfl, up_of (by repeat (first | (with_reducible exact Ext.refl _) | (with_reducible refine Ext.drewN ?_ _) | (with_reducible refine Ext.drew ?_) | (with_reducible refine Ext.alloc ?_ _) | ((with_reducible refine Ext.setCell ?_ ?_ _); rotate_left; focus (first | (simp; done) | (simp; omega) | omega)) | assumption | (with_reducible refine Ext.trans ?_ (by assumption)))), ?_⟩))); refine mix_nil ?_)
              go_wp2
              exact ⟨⟨e + 1, ae', ce', hle, by go_num, rfl, by rw [Hid, take_gi HLn.out, I_append, HRow.out]; exact ho8, hxi8⟩, by simp [intOf]; omega⟩
            · obtain rfl : e = bN := by omega
              have heB : ¬ ((e : Int) < C.base) := by have := HBN.out; omega
              have HRl := Lib.hid (show (joinRow C D k s).length = e by simp only [joinRow, List.length_map, List.length_range]; have := HBN.out; omega)
              have HRf := Lib.hid (show Own wr wo.heap.size 2 ae e ce (I (joinRow C D k s)) from by
                have h1 := HR.out
                rw [take_full (by rw [HRl.out]; exact Nat.le_refl _)] at h1
                exact h1.mono hxr2.le)
              have HM3 := Lib.hid (HM.out.ext hxr3)
              have hxo3 : Ext wo wr := hxr2.trans hxr3
              obtain ⟨vr, hvr, hpr⟩ := HM3.out.rows
              have HVr := Lib.hid hvr
              have HPr := Lib.hid hpr
              clear hvr hpr
              go_wp2_with (at_builtin; refine law_append1 _ rfl _ _ 43 rfl 25 (.slice none 0 0) 24 und_rows info_row1 rfl wo.heap.size ar s cr vr _ rfl rfl rfl HVr.out hxo3.le (by omega) (by omega) ?_; intro ar' cr' w9 ho9 hb9 hg9; have hxo9 : Ext wo w9 := Ext.below hxo3 hb9)
              exact ⟨⟨s + 1, ar', cr', by omega, by go_num, rfl, by rw [Hid, List.range_succ, List.map_append]; exact OwnMat.push HM3.out.len HPr.out HVr.out HRf.out ho9 hg9 (by decide), hxo9⟩, by simp [intOf]; omega⟩
        · obtain rfl : s = SN := by omega
          have HTb := Lib.hid (show OwnMat wr wo.heap.size 25 2 ar s cr (joinTab C D k) from by
            have h1 := HM.out
            rw [show (List.range s).map (joinRow C D k) = joinTab C D k by rw [joinTab, HSN.out, Int.toNat_natCast]] at h1
            exact h1)
          have HJr := Lib.hid (HJ.out.ext hxr2)
          have HAd := Lib.hid (own_up HJ.out.o)
          have HPd := Lib.hid (own_up HJ.out.p)
          have hqwo : q2 < wo.heap.size := HJ.out.s.lt
          have h3wo : w3.heap.size ≤ wo.heap.size := HJ.out.h.le
          have hwor : wo.heap.size ≤ wr.heap.size := hxr2.le
          have hxrr : Ext wr wr := Ext.refl _
          have k4 : ∀ w', Ext wr w' → w'.cell? ⟨q2, 4, none⟩ = some (.slice ad k cc) := fun w' h => (HJr.out.s.ext h).cell 4 (by simp)
          have k5 : ∀ w', Ext wr w' → w'.cell? ⟨q2, 5, none⟩ = some (.slice pd k pc) := fun w' h => (HJr.out.s.ext h).cell 5 (by simp)
          have c4w := HJr.out.s.cell 4 (by simp)
          have c5w := HJr.out.s.cell 5 (by simp)
          have lw0 := HJr.out.s.lt
          have lw1 : q2 < wr.heap.size + 1 := by omega
          have lw2 : q2 < wr.heap.size + 1 + 1 := by omega
          go_wp2
          go_region_law (first | ((refine step_append1j rfl _ _ 24 rfl 43 (.slice none 0 0) 24 und_cubeJ info_cubeJ rfl w3.heap.size ad k cc vs (.slice ar s cr) (wr.heap.size) ?_ ?_ ?_ ?_ rfl ?_ (by omega) (by omega) ?_); (focus (first | (simp [Act.eval]; done) | (simp [Act.eval, Act.put]; done) | (simp [Act.eval, Act.put, go_sem]; done))); (focus (first | (simp [Act.eval]; done) | (simp [Act.eval, go_sem]; done))); (focus (go_simp; done)); (focus (exact (HJr.out.ext (by repeat (first | (with_reducible exact Ext.refl _) | (with_reducible assumption) | (with_reducible refine Ext.drewN ?_ _) | (with_reducible refine Ext.drew ?_) | (with_reducible refine Ext.alloc ?_ _) | ((with_reducible refine Ext.setCell ?_ ?_ _); rotate_left; focus (first | (simp; done) | (simp; omega) | omega)) | (with_reducible refine Ext.trans ?_ (by with_reducible assumption))))).o)); (focus (first | omega | (simp; omega))); intro ad6 cc6 w6 ho6 hb6 hg6 hk6; have HJ6 := Lib.hid ((HJr.out.ext (by repeat (first | (with_reducible exact Ext.refl _) | (with_reducible assumption) | (with_reducible refine Ext.drewN ?_ _) | (with_reducible refine Ext.drew ?_) | (with_reducible refine Ext.alloc ?_ _) | ((with_reducible refine Ext.setCell ?_ ?_ _); rotate_left; focus (first | (simp; done) | (simp; omega) | omega)) | (with_reducible refine Ext.trans ?_ (by with_reducible assumption))))).app (B0 := wo.heap.size) (by simp) (HTb.out.ext (show Ext wr _ from (by repeat (first | (with_reducible exact Ext.refl _) | (with_reducible assumption) | (with_reducible refine Ext.drewN ?_ _) | (with_reducible refine Ext.drew ?_) | (with_reducible refine Ext.alloc ?_ _) | ((with_reducible refine Ext.setCell ?_ ?_ _); rotate_left; focus (first | (simp; done) | (simp; omega) | omega)) | (with_reducible refine Ext.trans ?_ (by with_reducible assumption)))))) hqwo HAd.out HPd.out hb6 hg6 ho6 hk6); have hz6 := hg6.size; have HZ6 := Lib.hid (fun b u (h1 : wr.heap.size ≤ b) (h2 : b < _) h3 => cell_grownU (b := b) (u := u) hg6 (row_ne_up HJr.out.o h1) h2 h3); have r5 : ∀ w', Ext w6 w' → w'.cell? ⟨q2, 5, none⟩ = some (.slice pd k pc) := (fun w' h => (HJ6.out.s.ext h).cell 5 (by simp)); simp at hz6; have r0 := HJ6.out.s.cell 5 (by simp); have r4 := HJ6.out.s.cell 4 (by simp); have l6 := HJ6.out.s.lt; have l61 : q2 < w6.heap.size + 1 := Nat.lt_succ_of_lt l6; clear hb6 hg6 ho6 hk6) | ((refine step_append1j rfl _ _ 24 rfl 43 (.slice none 0 0) 24 und_cubeJ info_cubeJ rfl w3.heap.size ad k cc vs (.slice ar s cr) (wr.heap.size + 1) ?_ ?_ ?_ ?_ rfl ?_ (by omega) (by omega) ?_); (focus (first | (simp [Act.eval]; done) | (simp [Act.eval, Act.put]; done) | (simp [Act.eval, Act.put, go_sem]; done))); (focus (first | (simp [Act.eval]; done) | (simp [Act.eval, Act.put]; done) | (simp [Act.eval, Act.put, go_sem]; done))); (focus (go_simp; done)); (focus (exact (HJr.out.ext (by repeat (first | (with_reducible exact Ext.refl _) | (with_reducible assumption) | (with_reducible refine Ext.drewN ?_ _) | (with_reducible refine Ext.drew ?_) | (with_reducible refine Ext.alloc ?_ _) | ((with_reducible refine Ext.setCell ?_ ?_ _); rotate_left; focus (first | (simp; done) | (simp; omega) | omega)) | (with_reducible refine Ext.trans ?_ (by with_reducible assumption))))).o)); (focus (first | omega | (simp; omega))); intro ad6 cc6 w6 ho6 hb6 hg6 hk6; have HJ6 := Lib.hid ((HJr.out.ext (by repeat (first | (with_reducible exact Ext.refl _) | (with_reducible assumption) | (with_reducible refine Ext.drewN ?_ _) | (with_reducible refine Ext.drew ?_) | (with_reducible refine Ext.alloc ?_ _) | ((with_reducible refine Ext.setCell ?_ ?_ _); rotate_left; focus (first | (simp; done) | (simp; omega) | omega)) | (with_reducible refine Ext.trans ?_ (by with_reducible assumption))))).app (B0 := wo.heap.size) (by simp) (HTb.out.ext (show Ext wr _ from (by repeat (first | (with_reducible exact Ext.refl _) | (with_reducible assumption) | (with_reducible refine Ext.drewN ?_ _) | (with_reducible refine Ext.drew ?_) | (with_reducible refine Ext.alloc ?_ _) | ((with_reducible refine Ext.setCell ?_ ?_ _); rotate_left; focus (first | (simp; done) | (simp; omega) | omega)) | (with_reducible refine Ext.trans ?_ (by with_reducible assumption)))))) hqwo HAd.out HPd.out hb6 hg6 ho6 hk6); have hz6 := hg6.size; have HZ6 := Lib.hid (fun b u (h1 : wr.heap.size ≤ b) (h2 : b < _) h3 => cell_grownU (b := b) (u := u) hg6 (row_ne_up HJr.out.o h1) h2 h3); have r5 : ∀ w', Ext w6 w' → w'.cell? ⟨q2, 5, none⟩ = some (.slice pd k pc) := (fun w' h => (HJ6.out.s.ext h).cell 5 (by simp)); simp at hz6; have r0 := HJ6.out.s.cell 5 (by simp); have r4 := HJ6.out.s.cell 4 (by simp); have l6 := HJ6.out.s.lt; have l61 : q2 < w6.heap.size + 1 := Nat.lt_succ_of_lt l6; clear hb6 hg6 ho6 hk6) | ((refine step_append1j rfl _ _ 25 rfl 2 (.int .i64 0) 8 und_int64s info_int64 rfl w3.heap.size pd k pc (I ((List.range k).map fun (j : Nat) => (j : Int))) (.int .i64 (k : Int)) (w6.heap.size) ?_ ?_ ?_ ?_ rfl ?_ (by omega) (by omega) ?_); (focus (first | (simp [Act.eval]; done) | (simp [Act.eval, Act.put]; done) | (simp [Act.eval, Act.put, go_sem]; done))); (focus (first | (simp [Act.eval]; done) | (simp [Act.eval, Act.put]; done) | (simp [Act.eval, Act.put, go_sem]; done))); (focus (go_simp; done)); (focus (exact (HJ6.out.ext (by repeat (first | (with_reducible exact Ext.refl _) | (with_reducible assumption) | (with_reducible refine Ext.drewN ?_ _) | (with_reducible refine Ext.drew ?_) | (with_reducible refine Ext.alloc ?_ _) | ((with_reducible refine Ext.setCell ?_ ?_ _); rotate_left; focus (first | (simp; done) | (simp; omega) | omega)) | (with_reducible refine Ext.trans ?_ (by with_reducible assumption))))).p)); (focus (first | omega | (simp; omega))); intro pd8 pc8 w8 ho8 hb8 hg8 hk8; have HB8 := Lib.hid hb8; have HG8 := Lib.hid hg8; have HO8 := Lib.hid ho8; have HK8 := Lib.hid hk8; have hs8 := SAt.grown (HJ6.out.s.ext (by repeat (first | (with_reducible exact Ext.refl _) | (with_reducible assumption) | (with_reducible refine Ext.drewN ?_ _) | (with_reducible refine Ext.drew ?_) | (with_reducible refine Ext.alloc ?_ _) | ((with_reducible refine Ext.setCell ?_ ?_ _); rotate_left; focus (first | (simp; done) | (simp; omega) | omega)) | (with_reducible refine Ext.trans ?_ (by with_reducible assumption))))) hg8 (row_ne_s (HJ6.out.p.ne_s HJ6.out.s (by decide))); have v4 := hs8.cell 4 (by simp); have v5 := hs8.cell 5 (by simp); have vf := (fun j => hs8.frozen j); have vl := hs8.lt; clear hb8 hg8 ho8 hk8 hs8) | ((refine step_append1j rfl _ _ 25 rfl 2 (.int .i64 0) 8 und_int64s info_int64 rfl w3.heap.size pd k pc (I ((List.range k).map fun (j : Nat) => (j : Int))) (.int .i64 (k : Int)) (wr.heap.size) ?_ ?_ ?_ ?_ rfl ?_ (by omega) (by omega) ?_); (focus (first | (simp [Act.eval]; done) | (simp [Act.eval, Act.put]; done) | (simp [Act.eval, Act.put, go_sem]; done))); (focus (first | (simp [Act.eval]; done) | (simp [Act.eval, Act.put]; done) | (simp [Act.eval, Act.put, go_sem]; done))); (focus (exact HZ6.out _ _ (by omega) (by first | (simp; done) | (simp; omega)) (by go_simp))); (focus (exact (HJ6.out.ext (by repeat (first | (with_reducible exact Ext.refl _) | (with_reducible assumption) | (with_reducible refine Ext.drewN ?_ _) | (with_reducible refine Ext.drew ?_) | (with_reducible refine Ext.alloc ?_ _) | ((with_reducible refine Ext.setCell ?_ ?_ _); rotate_left; focus (first | (simp; done) | (simp; omega) | omega)) | (with_reducible refine Ext.trans ?_ (by with_reducible assumption))))).p)); (focus (first | omega | (simp; omega))); intro pd8 pc8 w8 ho8 hb8 hg8 hk8; have HB8 := Lib.hid hb8; have HG8 := Lib.hid hg8; have HO8 := Lib.hid ho8; have HK8 := Lib.hid hk8; have hs8 := SAt.grown (HJ6.out.s.ext (by repeat (first | (with_reducible exact Ext.refl _) | (with_reducible assumption) | (with_reducible refine Ext.drewN ?_ _) | (with_reducible refine Ext.drew ?_) | (with_reducible refine Ext.alloc ?_ _) | ((with_reducible refine Ext.setCell ?_ ?_ _); rotate_left; focus (first | (simp; done) | (simp; omega) | omega)) | (with_reducible refine Ext.trans ?_ (by with_reducible assumption))))) hg8 (row_ne_s (HJ6.out.p.ne_s HJ6.out.s (by decide))); have v4 := hs8.cell 4 (by simp); have v5 := hs8.cell 5 (by simp); have vf := (fun j => hs8.frozen j); have vl := hs8.lt; clear hb8 hg8 ho8 hk8 hs8) | ((refine step_append1j rfl _ _ 25 rfl 2 (.int .i64 0) 8 und_int64s info_int64 rfl w3.heap.size pd k pc (I ((List.range k).map fun (j : Nat) => (j : Int))) (.int .i64 (k : Int)) (wr.heap.size + 1) ?_ ?_ ?_ ?_ rfl ?_ (by omega) (by omega) ?_); (focus (first | (simp [Act.eval]; done) | (simp [Act.eval, Act.put]; done) | (simp [Act.eval, Act.put, go_sem]; done))); (focus (first | (simp [Act.eval]; done) | (simp [Act.eval, Act.put]; done) | (simp [Act.eval, Act.put, go_sem]; done))); (focus (exact HZ6.out _ _ (by omega) (by first | (simp; done) | (simp; omega)) (by go_simp))); (focus (exact (HJ6.out.ext (by repeat (first | (with_reducible exact Ext.refl _) | (with_reducible assumption) | (with_reducible refine Ext.drewN ?_ _) | (with_reducible refine Ext.drew ?_) | (with_reducible refine Ext.alloc ?_ _) | ((with_reducible refine Ext.setCell ?_ ?_ _); rotate_left; focus (first | (simp; done) | (simp; omega) | omega)) | (with_reducible refine Ext.trans ?_ (by with_reducible assumption))))).p)); (focus (first | omega | (simp; omega))); intro pd8 pc8 w8 ho8 hb8 hg8 hk8; have HB8 := Lib.hid hb8; have HG8 := Lib.hid hg8; have HO8 := Lib.hid ho8; have HK8 := Lib.hid hk8; have hs8 := SAt.grown (HJ6.out.s.ext (by repeat (first | (with_reducible exact Ext.refl _) | (with_reducible assumption) | (with_reducible refine Ext.drewN ?_ _) | (with_reducible refine Ext.drew ?_) | (with_reducible refine Ext.alloc ?_ _) | ((with_reducible refine Ext.setCell ?_ ?_ _); rotate_left; focus (first | (simp; done) | (simp; omega) | omega)) | (with_reducible refine Ext.trans ?_ (by with_reducible assumption))))) hg8 (row_ne_s (HJ6.out.p.ne_s HJ6.out.s (by decide))); have v4 := hs8.cell 4 (by simp); have v5 := hs8.cell 5 (by simp); have vf := (fun j => hs8.frozen j); have vl := hs8.lt; clear hb8 hg8 ho8 hk8 hs8))
          all_goals
            go_wp2
            have HJ8 := Lib.hid ((HJ6.out.ext (show Ext w6 _ from (by repeat (first | (with_reducible exact Ext.refl _) | (with_reducible assumption) | (with_reducible refine Ext.drewN ?_ _) | (with_reducible refine Ext.drew ?_) | (with_reducible refine Ext.alloc ?_ _) | ((with_reducible refine Ext.setCell ?_ ?_ _); rotate_left; focus (first | (simp; done) | (simp; omega) | omega)) | (with_reducible refine Ext.trans ?_ (by with_reducible assumption)))))).put HB8.out HG8.out HO8.out HK8.out)
            exact ⟨⟨k + 1, ad6, cc6, _, pd8, pc8, hlt, by go_num, by rw [Hid, List.range_succ, List.map_append, List.map_append]; exact (HJ8.out.set 4 (.slice ad6 (k + 1) cc6) rfl).set 5 (.slice pd8 (k + 1) pc8) rfl⟩, by simp [intOf]; omega⟩
    · obtain rfl : k = m := by omega
      have HFv := Lib.hid HF.out.valid
      have hjt : (joinCh C D).tabs = (List.range k).map (joinTab C D) := by simp only [joinCh]; rw [HPC.out]
      have hjp : (joinCh C D).places = (List.range k).map (fun (j : Nat) => (j : Int)) := by simp only [joinCh]; rw [HPC.out]
      have HCh := Lib.hid (show ChIn wr (joinCh C D) ad k cc pd k pc from ⟨by rw [hjt]; exact HJ.out.cube (by simp), by rw [hjp]; exact HJ.out.p.ints, by omega, by omega, HF.out.small⟩)
      have HVJ := Lib.hid (fun W (h : Ext wr W) => impl_ValidChain (joinCh C D) ad k cc pd k pc W (Cube.ext HCh.out.ts h) (HCh.out.ps.ext h) HCh.out.hn HCh.out.hn' HCh.out.sm)
      rw [HFv.out] at HVJ
      have HS := Lib.hid (show SAt wr q2 27 #[.int .i64 (joinCh C D).base, .int .i64 (joinCh C D).states, .int .i64 (joinCh C D).start, .int .i64 (joinCh C D).fin, .slice ad k cc, .slice pd k pc] from by
        have h1 := HJ.out.s
        rw [← HBN.out, ← HSN.out, HST.out, HFI.out] at h1
        exact h1)
      have HZr := Lib.hid (HZ.out.ext hbr)
      obtain ⟨JB, hJB⟩ : ∃ x, x = (joinCh C D).base := ⟨_, rfl⟩
      obtain ⟨JS, hJS⟩ : ∃ x, x = (joinCh C D).states := ⟨_, rfl⟩
      obtain ⟨Js, hJs⟩ : ∃ x, x = (joinCh C D).start := ⟨_, rfl⟩
      obtain ⟨Je, hJe⟩ : ∃ x, x = (joinCh C D).fin := ⟨_, rfl⟩
      rw [← hJB, ← hJS, ← hJs, ← hJe] at HS HVJ
      have HR := Lib.hid (show ∀ W, ChIn W (joinCh C D) ad k cc pd k pc → Ext w W → RetJoin C D w (.returned (.tuple #[.agg #[.int .i64 JB, .int .i64 JS, .int .i64 Js, .int .i64 Je, .slice ad k cc, .slice pd k pc], .bool true])) W from fun W h1 h2 => ⟨ad, k, cc, pd, k, pc, by rw [hJB, hJS, hJs, hJe], h1, h2⟩)
      clear hJB hJS hJs hJe hjt hjp
      have e0 := HS.out.cell 0 (by simp)
      have e1 := HS.out.cell 1 (by simp)
      have e2 := HS.out.cell 2 (by simp)
      have e3 := HS.out.cell 3 (by simp)
      have e4 := HS.out.cell 4 (by simp)
      have e5 := HS.out.cell 5 (by simp)
      try simp only [List.getElem_toArray, List.getElem_cons_succ, List.getElem_cons_zero] at e0 e1 e2 e3 e4 e5
      have hxrr : Ext wr wr := Ext.refl _
      go_wp2_with (go_at_call 18; (with_reducible refine (HVJ.out _ (by repeat (first | (with_reducible exact Ext.refl _) | (with_reducible assumption) | (with_reducible refine Ext.drewN ?_ _) | (with_reducible refine Ext.drew ?_) | (with_reducible refine Ext.alloc ?_ _) | ((with_reducible refine Ext.setCell ?_ ?_ _); rotate_left; focus (first | (simp; done) | (simp; omega) | omega)) | (with_reducible refine Ext.trans ?_ (by with_reducible assumption))))).mono ?_); rintro e w9 ⟨rfl, hy9⟩; have hx9 : Ext wr w9 := Ext.trans (by repeat (first | (with_reducible exact Ext.refl _) | (with_reducible assumption) | (with_reducible refine Ext.drewN ?_ _) | (with_reducible refine Ext.drew ?_) | (with_reducible refine Ext.alloc ?_ _) | ((with_reducible refine Ext.setCell ?_ ?_ _); rotate_left; focus (first | (simp; done) | (simp; omega) | omega)) | (with_reducible refine Ext.trans ?_ (by with_reducible assumption)))) hy9; clear hy9; have HS9 := Lib.hid (HS.out.ext hx9); have HZ9 := Lib.hid (HZr.out.ext hx9); have g0 := HS9.out.cell 0 (by simp); have g1 := HS9.out.cell 1 (by simp); have g2 := HS9.out.cell 2 (by simp); have g3 := HS9.out.cell 3 (by simp); have g4 := HS9.out.cell 4 (by simp); have g5 := HS9.out.cell 5 (by simp); have z0 := HZ9.out.cell 0 (by simp); have z1 := HZ9.out.cell 1 (by simp); have z2 := HZ9.out.cell 2 (by simp); have z3 := HZ9.out.cell 3 (by simp); have z4 := HZ9.out.cell 4 (by simp); have z5 := HZ9.out.cell 5 (by simp); have zf := (fun j => HZ9.out.frozen j); have zl := HZ9.out.lt)
      refine bodyPost_ret (v := .tuple #[.agg #[.int .i64 JB, .int .i64 JS, .int .i64 Js, .int .i64 Je, .slice ad k cc, .slice pd k pc], .bool true]) ?_ rfl ?_
      · simp [results, Try.results27, go_sem, z0, z1, z2, z3, z4, z5]
      · have hq3 : q1 + 2 < w3.heap.size := Nat.lt_of_lt_of_le HZ.out.lt hx3.le
        have hkc : ∀ W, Chg 0 w3.heap.size w9 W → KeepB w3.heap.size wr.heap.size wr W := fun W hc => (KeepB.ext hx9 (Nat.le_refl _)).trans (KeepB.chg hc hx9.le (.inl (Nat.le_refl _)))
        have hjt : (joinCh C D).tabs = (List.range k).map (joinTab C D) := by simp only [joinCh]; rw [HPC.out]
        have hjp : (joinCh C D).places = (List.range k).map (fun (j : Nat) => (j : Int)) := by simp only [joinCh]; rw [HPC.out]
        have hxw9 : Ext w w9 := hxb.trans (hbr.trans hx9)
        refine HR.out _ ?_ (by repeat (first | (with_reducible exact Ext.refl _) | (with_reducible assumption) | (with_reducible refine Ext.drewN ?_ _) | (with_reducible refine Ext.drew ?_) | (with_reducible refine Ext.alloc ?_ _) | ((with_reducible refine Ext.setCell ?_ ?_ _); rotate_left; focus (first | (simp; done) | (simp; omega) | omega)) | (with_reducible refine Ext.trans ?_ (by with_reducible assumption))))
        refine ChIn.mk ?_ ?_ (by omega) (by omega) HF.out.small
        · rw [hjt]; exact (HJ.out.fin (by simp) (hkc _ (by repeat (first | (with_reducible exact Chg.refl _ _ _) | (with_reducible assumption) | ((with_reducible refine Chg.trans ?_ (Chg.setP _ _ _ ?_ ?_)); rotate_left; (focus (first | (simp; done) | (simp; omega) | omega)); (focus (first | (simp; done) | (simp; omega) | omega))) | (with_reducible refine Chg.trans ?_ (Chg.ext (Ext.alloc (Ext.refl _) _) _ _)) | (with_reducible refine Chg.trans ?_ (Chg.ext (Ext.drew (Ext.refl _)) _ _)) | (with_reducible refine Chg.trans ?_ (Chg.ext (Ext.drewN (Ext.refl _) _) _ _)))))).1
        · rw [hjp]; exact (HJ.out.fin (by simp) (hkc _ (by repeat (first | (with_reducible exact Chg.refl _ _ _) | (with_reducible assumption) | ((with_reducible refine Chg.trans ?_ (Chg.setP _ _ _ ?_ ?_)); rotate_left; (focus (first | (simp; done) | (simp; omega) | omega)); (focus (first | (simp; done) | (simp; omega) | omega))) | (with_reducible refine Chg.trans ?_ (Chg.ext (Ext.alloc (Ext.refl _) _) _ _)) | (with_reducible refine Chg.trans ?_ (Chg.ext (Ext.drew (Ext.refl _)) _ _)) | (with_reducible refine Chg.trans ?_ (Chg.ext (Ext.drewN (Ext.refl _) _) _ _)))))).2
end Go.Proofs.Ytaiieodllhoelaa
