/- Words: a chain of the call's own whose rows lie in any order, apart from one another; half joined chains of this kind. Conditions: none. -/
import Derived.Test.YtaiieodllhoelaaJoinI
import Derived.Test.YtaiieodllhoelaaChg
namespace Go.Proofs.Ytaiieodllhoelaa
set_option maxRecDepth 100000
open Go.RowKit

section
variable {w w' : World} {lo hi : Nat} {E : TypeId} {a : Option Addr} {n c m : Nat} {vs : List Value} {s t : Nat → Nat} {R : Nat → Value → World → Nat → Nat → Prop}
theorem Row.touch1 {q : Nat} (hR : Keeps R) (h : Row w lo hi E a n c vs m s t R) (hc : Chg q (q + 1) w w') (ho : Own w' lo E a n c vs) (hq : ∀ k, k < m → q < s k ∨ t k ≤ q) : Row w' lo hi E a n c vs m s t R :=
  ⟨ho, h.top, h.out, fun k hk => let ⟨h1, h2, h3, h4⟩ := h.el k hk; ⟨h1, h2, h3, hR k _ w w' _ _ q (q + 1) h4 hc (by have := hq k hk; omega)⟩, h.sep⟩
theorem Row.grownO {g : Option Addr} {k1 c1 : Nat} (hR : Keeps R) (h : Row w lo hi E a n c vs m s t R) (hg : w.grownBy w' (Value.slice g k1 c1).ownBlock) (ho : Own w' lo E a n c vs) (hq : ∀ x, g = some x → ∀ k, k < m → x.block < s k ∨ t k ≤ x.block) : Row w' lo hi E a n c vs m s t R := by
  cases hgg : g with
  | none =>
    refine ⟨ho, h.top, h.out, fun k hk => ?_, h.sep⟩
    obtain ⟨h1, h2, h3, h4⟩ := h.el k hk
    exact ⟨h1, h2, h3, hR k _ w w' _ _ 0 0 h4 (grown_chg hg (fun k hk => by rw [hgg] at hk; simp [Value.ownBlock] at hk)) (.inl (Nat.zero_le _))⟩
  | some x => exact h.touch1 hR (grown_chg hg (fun k hk => by rw [hgg] at hk; simp [Value.ownBlock] at hk; omega)) ho (hq x hgg)
theorem Row.pushB {w6 : World} {v : Value} {a6 : Option Addr} {c6 B0 : Nat} (hR : Keeps R) (h : Row w lo hi E a n c vs n s t R) (hlo : lo ≤ B0) (hB : hi ≤ B0) (hBw : B0 ≤ w.heap.size) (hv : R n v w B0 w.heap.size)
    (ho : Own w6 lo E a6 (n + 1) c6 (vs ++ [v])) (hg : w.grownBy w6 (Value.slice a n c).ownBlock) (hb : ∀ g, a6 = Option.some g → (∃ g', a = Option.some g' ∧ g'.block = g.block) ∨ w.heap.size ≤ g.block) :
    Row w6 lo w6.heap.size E a6 (n + 1) c6 (vs ++ [v]) (n + 1) (updN s n B0) (updN t n w.heap.size) R := by
  have hlen := h.own.len
  have hsz := hg.size
  have hkeep : ∀ k v l u, R k v w l u → (∀ g, a = Option.some g → g.block < l ∨ u ≤ g.block) → R k v w6 l u := fun k v l u hr hd => by
    cases ha : a with
    | none => exact hR k v w w6 l u 0 0 hr (grown_chg hg (fun k hk => by rw [ha] at hk; simp [Value.ownBlock] at hk)) (.inl (Nat.zero_le _))
    | some g =>
      refine hR k v w w6 l u g.block (g.block + 1) hr (grown_chg hg (fun k hk => by rw [ha] at hk; simp [Value.ownBlock] at hk; omega)) ?_
      have := hd g ha; omega
  have htop : ∀ g, a = Option.some g → g.block < B0 := fun g hg' => Nat.lt_of_lt_of_le (h.top g hg') hB
  refine ⟨ho, fun g hg' => (ho.blk g hg').2, fun g hg' k hk => ?_, fun k hk => ?_, fun j k hjk hk => ?_⟩
  · rcases hb g hg' with ⟨g', ha, he⟩ | h1
    · rw [← he]
      by_cases e : k = n
      · subst e; rw [updN_same, updN_same]; exact .inl (htop g' ha)
      · rw [updN_ne e, updN_ne e]; exact h.out g' ha k (by omega)
    · refine .inr ?_
      by_cases e : k = n
      · subst e; rw [updN_same]; exact h1
      · rw [updN_ne e]; have := (h.el k (by omega)).2.2.1; omega
  · by_cases e : k = n
    · subst e
      rw [updN_same, updN_same, gv_last hlen]
      exact ⟨hlo, hBw, hsz, hkeep _ _ _ _ hv fun g hg' => .inl (htop g hg')⟩
    · obtain ⟨h1, h2, h3, h4⟩ := h.el k (by omega)
      rw [updN_ne e, updN_ne e, gv_lt (by omega)]
      exact ⟨h1, h2, by omega, hkeep _ _ _ _ h4 fun g hg' => h.out g hg' k (by omega)⟩
  · by_cases e : k = n
    · subst e; rw [updN_same, updN_ne (by omega)]; have := (h.el j hjk).2.2.1; omega
    · rw [updN_ne e, updN_ne (by omega)]; exact h.sep j k hjk (by omega)
end
/-- a chain of the call's own: its tables lie between bounds of their own, the row of its places beside all of these -/
def ChP (w : World) (lo hi : Nat) (D : Ch) (a : Option Addr) (n c : Nat) (b : Option Addr) (m d : Nat) : Prop :=
  ∃ vs s t, D.tabs.length = n ∧ Row w lo hi 43 a n c vs n s t (RM 25 2 D.tabs) ∧ OwnIn w lo hi 2 b m d (I D.places) ∧ ∀ g, b = some g → ∀ k, k < n → g.block < s k ∨ t k ≤ g.block
theorem ChP.chg {w w' : World} {lo hi lo' hi' : Nat} {D : Ch} {a : Option Addr} {n c : Nat} {b : Option Addr} {m d : Nat} (h : ChP w lo hi D a n c b m d) (hc : Chg lo' hi' w w') (hd : hi' ≤ lo ∨ hi ≤ lo') : ChP w' lo hi D a n c b m d :=
  let ⟨vs, s, t, h1, h2, h3, h4⟩ := h; ⟨vs, s, t, h1, h2.chg (RM.keeps _ _ _) hc hd, h3.chg hc hd, h4⟩
theorem ChP.ext {w w' : World} {lo hi : Nat} {D : Ch} {a : Option Addr} {n c : Nat} {b : Option Addr} {m d : Nat} (h : ChP w lo hi D a n c b m d) (hx : Ext w w') : ChP w' lo hi D a n c b m d := h.chg (Chg.ext hx 0 0) (.inl (Nat.zero_le _))
theorem ChP.mono {w : World} {lo hi lo' hi' : Nat} {D : Ch} {a : Option Addr} {n c : Nat} {b : Option Addr} {m d : Nat} (h : ChP w lo hi D a n c b m d) (hl : lo' ≤ lo) (hh : hi ≤ hi') : ChP w lo' hi' D a n c b m d :=
  let ⟨vs, s, t, h1, h2, h3, h4⟩ := h; ⟨vs, s, t, h1, h2.mono hl hh, h3.mono hl hh, h4⟩
theorem ChP.inn {w : World} {lo hi : Nat} {D : Ch} {a : Option Addr} {n c : Nat} {b : Option Addr} {m d : Nat} (h : ChP w lo hi D a n c b m d) (hn : n ≤ 1048576) (hm : m ≤ 1048576) (hs : SmallCh D) : ChIn w D a n c b m d :=
  let ⟨vs, s, t, h1, h2, h3, _⟩ := h; ⟨CubeR.cube ⟨vs, s, t, h1, h2⟩, h3.1.ints, hn, hm, hs⟩
/-- half joined: block q holds the chain -/
structure JR (w : World) (q : Nat) (b S st fi : Int) (v4 v5 : Value) (ad : Option Addr) (x cc : Nat) (vs : List Value) (tt : List (List (List Int))) (pd : Option Addr) (y pc : Nat) (pp : List Int) (hi : Nat) (W : World) : Prop where
  s : SAt W q 27 #[.int .i64 b, .int .i64 S, .int .i64 st, .int .i64 fi, v4, v5]
  r : ∃ ss te, Row W w.heap.size hi 43 ad x cc vs x ss te (RM 25 2 tt) ∧ (∀ k, k < x → q < ss k) ∧ ∀ g, pd = some g → ∀ k, k < x → g.block < ss k ∨ te k ≤ g.block
  p : Own W w.heap.size 2 pd y pc (I pp)
  ph : ∀ g, pd = some g → g.block < hi
  hh : hi ≤ W.heap.size
  h : Ext w W
  q1 : w.heap.size ≤ q
  qh : q < hi
section
variable {w : World} {q : Nat} {b S st fi : Int} {v4 v5 : Value} {ad : Option Addr} {x cc : Nat} {vs : List Value} {tt : List (List (List Int))} {pd : Option Addr} {y pc : Nat} {pp : List Int} {hi : Nat} {W W' : World}
theorem JR.o (d : JR w q b S st fi v4 v5 ad x cc vs tt pd y pc pp hi W) : Own W w.heap.size 43 ad x cc vs := by obtain ⟨_, _, h, _⟩ := d.r; exact h.own
theorem JR.ext (d : JR w q b S st fi v4 v5 ad x cc vs tt pd y pc pp hi W) (hx : Ext W W') : JR w q b S st fi v4 v5 ad x cc vs tt pd y pc pp hi W' :=
  ⟨d.s.ext hx, by obtain ⟨ss, te, h1, h2, h3⟩ := d.r; exact ⟨ss, te, h1.ext (RM.keeps _ _ _) hx, h2, h3⟩, d.p.ext hx, d.ph, Nat.le_trans d.hh hx.le, d.h.trans hx, d.q1, d.qh⟩
theorem JR.set (d : JR w q b S st fi v4 v5 ad x cc vs tt pd y pc pp hi W) (j : Nat) (u : Value) {b' S' st' fi' : Int} {v4' v5' : Value} (he : (#[Value.int .i64 b, .int .i64 S, .int .i64 st, .int .i64 fi, v4, v5]).setIfInBounds j u = #[.int .i64 b', .int .i64 S', .int .i64 st', .int .i64 fi', v4', v5']) :
    JR w q b' S' st' fi' v4' v5' ad x cc vs tt pd y pc pp hi (W.setCell ⟨q, j, none⟩ u) := by
  have hs := d.s.set j u
  rw [he] at hs
  refine ⟨hs, ?_, d.p.setS d.s (by decide) j u, d.ph, by simpa [World.setCell] using d.hh, d.h.setCell d.q1 u, d.q1, d.qh⟩
  obtain ⟨ss, te, h1, h2, h3⟩ := d.r
  exact ⟨ss, te, h1.touch1 (RM.keeps _ _ _) (Chg.set W j u (Nat.le_refl _) (Nat.lt_succ_self _)) (h1.own.setS d.s (by decide) j u) (fun k hk => .inl (h2 k hk)), h2, h3⟩
/-- a table more, laid behind all that was there -/
theorem JR.app (d : JR w q b S st fi v4 v5 ad x cc vs tt pd y pc pp hi W) {B0 : Nat} {ad' a1 : Option Addr} {cc' n1 c1 : Nat} (hnew : MatR W B0 W.heap.size 25 2 a1 n1 c1 (gm tt x)) (hB : hi ≤ B0) (hBW : B0 ≤ W.heap.size)
    (hb : Below w.heap.size W W') (hg : W.grownBy W' (Value.slice ad x cc).ownBlock) (ho : Own W' w.heap.size 43 ad' (x + 1) cc' (vs ++ [.slice a1 n1 c1])) (hk : ∀ g, ad' = some g → (∃ g', ad = some g' ∧ g'.block = g.block) ∨ W.heap.size ≤ g.block) :
    JR w q b S st fi v4 v5 ad' (x + 1) cc' (vs ++ [.slice a1 n1 c1]) tt pd y pc pp W'.heap.size W' := by
  have hsz := hg.size
  have hwB : w.heap.size ≤ B0 := by have := d.q1; have := d.qh; omega
  refine ⟨d.s.grown hg (row_ne_s (d.o.ne_s d.s (by decide))), ?_, d.p.grownT d.o hg (by decide), fun g hg' => by have := d.ph g hg'; have := d.hh; omega, Nat.le_refl _, d.h.below hb, d.q1, by have := d.qh; omega⟩
  obtain ⟨ss, te, h1, h2, h3⟩ := d.r
  refine ⟨_, _, h1.pushB (RM.keeps _ _ _) hwB hB hBW ⟨a1, n1, c1, rfl, hnew⟩ ho hg hk, fun k hk => ?_, fun g hg' k hk => ?_⟩
  · by_cases e : k = x
    · subst e; rw [updN_same]; have := d.qh; omega
    · rw [updN_ne e]; exact h2 k (by omega)
  · by_cases e : k = x
    · subst e; rw [updN_same, updN_same]; have := d.ph g hg'; exact .inl (by omega)
    · rw [updN_ne e, updN_ne e]; exact h3 g hg' k (by omega)
/-- a place more -/
theorem JR.put (d : JR w q b S st fi v4 v5 ad x cc vs tt pd y pc pp hi W) {pd' : Option Addr} {pc' : Nat} {u : Int}
    (hb : Below w.heap.size W W') (hg : W.grownBy W' (Value.slice pd y pc).ownBlock) (ho : Own W' w.heap.size 2 pd' (y + 1) pc' (I pp ++ [.int .i64 u])) (hk : ∀ g, pd' = some g → (∃ g', pd = some g' ∧ g'.block = g.block) ∨ W.heap.size ≤ g.block) :
    JR w q b S st fi v4 v5 ad x cc vs tt pd' (y + 1) pc' (pp ++ [u]) W'.heap.size W' := by
  have hsz := hg.size
  have hhW := d.hh
  refine ⟨d.s.grown hg (row_ne_s (d.p.ne_s d.s (by decide))), ?_, by rw [I_append]; exact ho, fun g hg' => (ho.blk g hg').2, Nat.le_refl _, d.h.below hb, d.q1, by have := d.qh; omega⟩
  obtain ⟨ss, te, h1, h2, h3⟩ := d.r
  refine ⟨ss, te, (h1.grownO (RM.keeps _ _ _) hg (h1.own.grownT d.p hg (by decide)) h3).mono (Nat.le_refl _) (by omega), h2, fun g hg' k hk' => ?_⟩
  rcases hk g hg' with ⟨g', h4, h5⟩ | h4
  · rw [← h5]; exact h3 g' h4 k hk'
  · have := (h1.el k hk').2.2.1; exact .inr (by omega)
theorem JR.chP (d : JR w q b S st fi v4 v5 ad x cc vs tt pd y pc pp hi W) (htl : tt.length = x) : ChP W w.heap.size W.heap.size ⟨b, S, st, fi, tt, pp⟩ ad x cc pd y pc := by
  obtain ⟨ss, te, h1, _, h3⟩ := d.r
  exact ⟨vs, ss, te, htl, h1.mono (Nat.le_refl _) d.hh, ⟨d.p, fun g hg => Nat.lt_of_lt_of_le (d.ph g hg) d.hh⟩, h3⟩
end
end Go.Proofs.Ytaiieodllhoelaa
