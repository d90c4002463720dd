/- Words for the law on issued words: registries that stay while their blocks do; equal lists of texts; the least distance of issued words. -/
import Derived.Test.YtcdoanookiimaaaR8A
import Derived.Test.YtcdoanookiimaaaR8
import Derived.Test.YtcdoanookiimaaaManyI
import Derived.Test.YtcdoanookiimaaaRgG
namespace Go.Proofs.Ytcdoanookiimaaa
set_option maxRecDepth 100000
open Go.RowKit

theorem RgR.keep {w : World} {lo : Nat} {D : Rg} {a : Option Addr} {n c : Nat} {b : Option Addr} {m d : Nat} {ia : Option Addr} {im ic : Nat} {ra : Option Addr} {rm rc : Nat} (h : RgR w lo w.heap.size D a n c b m d ia im ic ra rm rc) (hz : RgSz D n m im rm) {W : World} (hk : KeepB lo w.heap.size w W) : RgIn W D a n c b m d ia im ic ra rm rc := by
  obtain ⟨c1, i0, i1, r0, r1, g, hc, hi, hr⟩ := h
  obtain ⟨h1, g1, g2, hcu, hpl⟩ := hc
  exact ⟨⟨(hcu.own.keepB hk).cube, ((hpl.1.mono (by omega)).keepB hk).ints, hz.hn, hz.hm, hz.sm⟩, ((hi.1.mono (by omega)).keepB hk).sl, ((hr.1.mono (by omega)).keepB hk).ints, hz.hi, hz.hr, hz.sz⟩
theorem minL_ge (b s : Int) : ∀ l : List Int, (∀ x ∈ l, b ≤ x) → b ≤ s → b ≤ minL s l
  | [], _, h => h
  | x :: l, hl, h => minL_ge b (min s x) l (fun y hy => hl y (List.mem_cons_of_mem _ hy)) (by have := hl x (List.mem_cons_self ..); omega)
theorem la_ge {D : Rg} (h : OkRg D) (h2 : 2 ≤ D.issued.length) : laOk D = true ∧ D.apart ≤ laRes D := by
  have hl : laOk D = true := by rw [laOk, h.valid, decide_eq_true h2]; rfl
  refine ⟨hl, ?_⟩
  rw [la_yes hl]
  refine minL_ge _ _ _ (fun x hx => ?_) (by have := h.a6; omega)
  simp only [distL, List.range_zero, List.map_nil, List.append_nil, List.mem_flatMap, List.mem_map, List.mem_range] at hx
  obtain ⟨i, hi, j, hj, rfl⟩ := hx
  have := h.far i j hj hi
  unfold farR at this
  simp only [Bool.not_eq_true', decide_eq_false_iff_not] at this
  show D.apart ≤ (distS (gs D.issued i) (gs D.issued j) : Int)
  omega
theorem la_less {D : Rg} (h2 : ¬ 2 ≤ D.issued.length) : laOk D = false := by rw [laOk, decide_eq_false h2]; simp
theorem full_is {D : Rg} (h : OkRg D) : fullR D = !trialB D := by rw [fullR, h.valid]; rfl
theorem iss_ok {D : Rg} (h : OkRg D) (hn : D.issued.length < 40) {s : ByteArray} (ht : trialO D = some s) : issOk D s = true ∧ OkRg (issR D s) := by
  have h1 := trial_ok h.ch h.vc ht
  refine ⟨?_, h.issue h1.1 h1.2 hn⟩
  rw [issOk, h.valid, h1.1, h1.2, decide_eq_false (by omega)]; rfl
theorem manyL_more {D : Rg} {k : Nat} {L : List ByteArray} (h : manyL D k = some L) {s : ByteArray} (ht : trialO (addL D L) = some s) : manyL D (k + 1) = some (L ++ [s]) := by rw [manyL, h]; simp only [ht]
theorem manyL_end {D : Rg} {k j : Nat} {L : List ByteArray} (h : manyL D k = some L) (ht : trialO (addL D L) = none) (hj : k < j) : manyL D j = none := many_none (k := k + 1) (by rw [manyL, h]; simp only [ht]) hj
theorem many_all {D : Rg} (h : OkRg D) {k : Nat} {L : List ByteArray} (hn : D.issued.length + k ≤ 40) (hm : manyL D k = some L) : manyOk D (k : Int) = true ∧ manyRg D (k : Int) = addL D L ∧ manyT D (k : Int) = L := by
  have hin : manyIn D (k : Int) = true := by
    rw [manyIn, h.valid]
    simp only [Bool.true_and, Bool.and_eq_true, decide_eq_true_eq]
    exact ⟨inB_t.2 (by omega), by omega⟩
  have hl : manyL D (k : Int).toNat = some L := by rw [Int.toNat_natCast]; exact hm
  have hk := many_yes hin hl
  exact ⟨hk, many_r1 hk hl, many_t1 hk hl⟩
theorem many_few {D : Rg} {k j : Nat} {L : List ByteArray} (h : manyL D k = some L) (ht : trialO (addL D L) = none) (hj : k < j) : manyOk D (j : Int) = false := many_no (by rw [Int.toNat_natCast]; exact manyL_end h ht hj)
theorem gcell {w w' : World} {row : Option Nat} {b : Nat} (hg : w.grownBy w' row) (hr : some b ≠ row) (hb : b < w.heap.size) : ∀ o, w'.cell? ⟨b, o, none⟩ = w.cell? ⟨b, o, none⟩ := fun _ =>
  World.cell?_of_block (hg.block b hb hr)
/-- the registry that has got the words L, in its block, and the words in their row -/
structure NowAt (wq W : World) (q B : Nat) (N : Rg) (L : List ByteArray) (a : Option Addr) (n c : Nat) (b : Option Addr) (m d : Nat) (ia : Option Addr) (im ic : Nat) (ra : Option Addr) (rm rc : Nat) (lo hi : Nat) (la : Option Addr) (ln lc : Nat) : Prop where
  s : SAt W q 30 #[.int .i64 N.ch.base, .int .i64 N.ch.states, .int .i64 N.ch.start, .int .i64 N.ch.fin, .slice a n c, .slice b m d, .int .i64 N.apart, .slice ia im ic, .slice ra rm rc]
  inn : ∀ V, Ext wq V → KeepB lo hi W V → RgIn V N a n c b m d ia im ic ra rm rc
  ws : Own W B 9 la ln lc (St L)
  pos : ∀ g, la = some g → g.block < lo ∨ hi ≤ g.block
  le : lo ≤ hi ∧ hi ≤ W.heap.size
  out : q < lo ∨ hi ≤ q
  x : Ext wq W
  b : wq.heap.size ≤ q ∧ q < B
theorem NowAt.ext {wq W W' : World} {q B : Nat} {N : Rg} {L : List ByteArray} {a : Option Addr} {n c : Nat} {b : Option Addr} {m d : Nat} {ia : Option Addr} {im ic : Nat} {ra : Option Addr} {rm rc : Nat} {lo hi : Nat} {la : Option Addr} {ln lc : Nat} (h : NowAt wq W q B N L a n c b m d ia im ic ra rm rc lo hi la ln lc) (hx : Ext W W') : NowAt wq W' q B N L a n c b m d ia im ic ra rm rc lo hi la ln lc :=
  ⟨h.s.ext hx, fun V h1 h2 => h.inn V h1 ((KeepB.ext hx h.le.2).trans h2), h.ws.ext hx, h.pos, ⟨h.le.1, Nat.le_trans h.le.2 hx.le⟩, h.out, h.x.trans hx, h.b⟩
theorem NowAt.rgIn {wq W : World} {q B : Nat} {N : Rg} {L : List ByteArray} {a : Option Addr} {n c : Nat} {b : Option Addr} {m d : Nat} {ia : Option Addr} {im ic : Nat} {ra : Option Addr} {rm rc : Nat} {lo hi : Nat} {la : Option Addr} {ln lc : Nat} (h : NowAt wq W q B N L a n c b m d ia im ic ra rm rc lo hi la ln lc) : RgIn W N a n c b m d ia im ic ra rm rc := h.inn W h.x (KeepB.refl _ _ _)
/-- a word more: the registry that came of a call, the row with the word, the stores -/
theorem NowAt.more {wq W w2 w5 w6 : World} {q B : Nat} {N N2 : Rg} {L : List ByteArray} {s : ByteArray} {a : Option Addr} {n c : Nat} {b : Option Addr} {m d : Nat} {ia : Option Addr} {im ic : Nat} {ra : Option Addr} {rm rc : Nat} {a2 : Option Addr} {n2 c2 : Nat} {b2 : Option Addr} {m2 d2 : Nat} {ia2 : Option Addr} {im2 ic2 : Nat} {ra2 : Option Addr} {rm2 rc2 : Nat} {lo hi : Nat} {la : Option Addr} {ln lc : Nat} {ad : Option Addr} {ac : Nat} (h : NowAt wq W q B N L a n c b m d ia im ic ra rm rc lo hi la ln lc)
    (hx2 : Ext W w2) (hr : RgR w2 W.heap.size w2.heap.size N2 a2 n2 c2 b2 m2 d2 ia2 im2 ic2 ra2 rm2 rc2) (hz : RgSz N2 n2 m2 im2 rm2) (hx5 : Ext w2 w5) (ho : Own w6 B 9 ad (ln + 1) ac (St L ++ [.string s])) (hb : Below B w5 w6) (hg : w5.grownBy w6 (Value.slice la ln lc).ownBlock)
    (hp : ∀ g, ad = some g → (∃ g', la = some g' ∧ g'.block = g.block) ∨ w5.heap.size ≤ g.block) :
    NowAt wq (W9 w6 q (.int .i64 N2.ch.base) (.int .i64 N2.ch.states) (.int .i64 N2.ch.start) (.int .i64 N2.ch.fin) (.slice a2 n2 c2) (.slice b2 m2 d2) (.int .i64 N2.apart) (.slice ia2 im2 ic2) (.slice ra2 rm2 rc2)) q B N2 (L ++ [s]) a2 n2 c2 b2 m2 d2 ia2 im2 ic2 ra2 rm2 rc2 W.heap.size w2.heap.size ad (ln + 1) ac := by
  have hq := h.b
  have hql := h.s.lt
  have l2 := hx2.le
  have l5 := hx5.le
  have l6 := hg.size
  have hs6 : SAt w6 q 30 #[.int .i64 N.ch.base, .int .i64 N.ch.states, .int .i64 N.ch.start, .int .i64 N.ch.fin, .slice a n c, .slice b m d, .int .i64 N.apart, .slice ia im ic, .slice ra rm rc] := (((h.s.ext hx2).ext hx5).grown hg (row_ne_s (h.ws.ne_s h.s (by decide))))
  have hla : ∀ g, la = some g → g.block < W.heap.size := fun g hgl => (h.ws.blk g hgl).2
  have k56 : KeepB W.heap.size w2.heap.size w5 w6 := fun x h1 h2 => hg.block x (by omega) (by
    cases la with
    | none => simp [Value.ownBlock]
    | some g => have := hla g rfl; simp [Value.ownBlock]; omega)
  refine ⟨hs6.w9 .., fun V h1 h2 => hr.keep hz ?_, ?_, fun g hga => ?_, ⟨l2, by rw [w9_size]; omega⟩, .inl hql, ?_, hq⟩
  · exact (KeepB.ext hx5 (Nat.le_refl _)).trans (k56.trans (KeepB.trans (fun x h3 h4 => w9_block (by omega) ..) h2))
  · have e : St (L ++ [s]) = St L ++ [.string s] := by simp [St]
    rw [e]
    exact own_w9 ho (fun g hga => by have := (ho.blk g hga).1; omega) ..
  · rcases hp g hga with ⟨g', h1, h2⟩ | h1
    · have := hla g' h1; omega
    · omega
  · exact (((h.x.trans hx2).trans hx5).below (hb.mono (by omega))).below (w9_below hq.1 ..)
end Go.Proofs.Ytcdoanookiimaaa
