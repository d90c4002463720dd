/- Walks: the chain of a weighting, in the reference. -/
import Derived.Test.YtaiieodllhoelaaWtE
import Derived.Test.YtaiieodllhoelaaMix2
import Derived.Test.YtaiieodllhoelaaApa
import Derived.Test.YtaiieodllhoelaaJoinI
import Derived.Test.YtaiieodllhoelaaChVS
import Derived.Deep.CutRange
namespace Go.Proofs.Ytaiieodllhoelaa
set_option maxRecDepth 100000
open Go.RowKit

/-- what a weight adds for each digit -/
def adL (base : Nat) (m x : Int) : List Int := (List.range base).map fun (d : Nat) => x * (d : Int) % m
theorem adL_len (base : Nat) (m x : Int) : (adL base m x).length = base := by simp [adL]
theorem adL_step {base k : Nat} {m x : Int} (h : k < base) : (adL base m x).take (k + 1) = (adL base m x).take k ++ [x * (k : Int) % m] := by
  rw [List.take_succ_eq_append_getElem (by rw [adL_len]; exact h)]
  simp [adL]
theorem gi_ltW {ps : List Int} {y : Int} {i : Nat} (hi : i < ps.length) : gi (ps ++ [y]) i = gi ps i := by
  unfold gi; rw [List.getD_eq_getElem?_getD, List.getElem?_append_left hi, List.getD_eq_getElem?_getD]
theorem gi_lastW {ps : List Int} {y : Int} {z : Nat} (h : ps.length = z) : gi (ps ++ [y]) z = y := by
  subst h
  unfold gi; rw [List.getD_eq_getElem?_getD, List.getElem?_append_right (Nat.le_refl _)]; simp
theorem addF_nodup (ls : List (List Int)) : ∀ k, k ≤ ls.length → (addF ls k).1.Nodup
  | 0, _ => by simp [addF]
  | k + 1, h => by
    have ih := addF_nodup ls k (by omega)
    rw [addF_step (by omega), addStep]
    split
    · exact ih
    · rename_i hm
      rw [List.nodup_append]
      exact ⟨ih, by simp, fun x hx y hy => by simp only [List.mem_singleton] at hy; subst hy; exact fun he => hm (he ▸ hx)⟩
theorem gl_inj {l : List (List Int)} (hn : l.Nodup) {i j : Nat} (hi : i < l.length) (hj : j < l.length) (h : gl l i = gl l j) : i = j := by
  rw [gl_get hi, gl_get hj] at h
  rcases Nat.lt_trichotomy i j with hlt | rfl | hlt
  · exact absurd h (List.pairwise_iff_getElem.1 hn i j hi hj hlt)
  · rfl
  · exact absurd h.symm (List.pairwise_iff_getElem.1 hn j i hj hi hlt)
theorem addF_map {g : List Int → List Int} (ks : List (List Int)) (hg : ∀ x ∈ ks, ∀ y ∈ ks, g x = g y → x = y) : ∀ k, k ≤ ks.length → addF (ks.map g) k = ((addF ks k).1.map g, (addF ks k).2)
  | 0, _ => by simp [addF]
  | k + 1, h => by
    have ih := addF_map ks hg k (by omega)
    have hk : k < ks.length := by omega
    have hk2 : k < (ks.map g).length := by rw [List.length_map]; exact hk
    have hsub := (addF_inv ks k (by omega)).2.2.2.1
    have hgk : gl (ks.map g) k = g (gl ks k) := by rw [gl_get hk2, gl_get hk, List.getElem_map]
    have hmk : gl ks k ∈ ks := gl_mem hk
    rw [addF_step hk2, addF_step hk, ih, hgk, addStep, addStep]
    by_cases hm : gl ks k ∈ (addF ks k).1
    · have hm2 : g (gl ks k) ∈ (addF ks k).1.map g := List.mem_map.2 ⟨_, hm, rfl⟩
      rw [if_pos hm, if_pos hm2]
      have hidx : ∀ l : List (List Int), (∀ x ∈ l, x ∈ ks) → (l.map g).idxOf (g (gl ks k)) = l.idxOf (gl ks k) := fun l => by
        induction l with
        | nil => intro _; rfl
        | cons a l ih2 =>
          intro hl
          rw [List.map_cons, List.idxOf_cons, List.idxOf_cons, ih2 fun x hx => hl x (List.mem_cons_of_mem _ hx)]
          by_cases ha : a = gl ks k
          · subst ha; simp
          · have h2 : ¬ g a = g (gl ks k) := fun he => ha (hg a (hl a (List.mem_cons_self ..)) _ hmk he)
            rw [show (a == gl ks k) = false by simpa using ha, show (g a == g (gl ks k)) = false by simpa using h2]
      rw [hidx _ hsub]
    · have hm2 : g (gl ks k) ∉ (addF ks k).1.map g := fun h2 => by
        obtain ⟨x, hx, he⟩ := List.mem_map.1 h2
        exact hm (hg x (hsub x hx) _ hmk he ▸ hx)
      rw [if_neg hm, if_neg hm2, List.map_append, List.length_map]
      rfl
set_option maxHeartbeats 1000000 in
theorem spec_l03Adds (bs : Nat) (x m : Int) (w : World) (hb : bs ≤ 36) (h0 : 0 ≤ x) (h1 : x ≤ 36) (hm : 1 ≤ m) : Calls Try.prog 145 #[.int .i64 x, .int .i64 bs, .int .i64 m] w (RetOwn 2 (I (adL bs m x)) w) := by
  go_enter Try.func145, Try.ntmps145
  go_wp2_with fail
  go_loopw [7, 8] (fun v7 v8 wr => ∃ (k : Nat) (ra : Option Addr) (rc : Nat), k ≤ bs ∧ v8 = .int .i64 k ∧ v7 = .slice ra k rc ∧ Hid (Own wr w.heap.size 2 ra k rc (I ((adL bs m x).take k))) ∧ Ext w wr) (fun _ v8 _ => bs - (intOf v8).toNat)
  case atStart => exact ⟨0, _, _, Nat.zero_le _, rfl, rfl, Own.lit0 _ _, (Ext.refl _).alloc _⟩
  case round =>
    obtain ⟨k, ra, rc, hk, rfl, rfl, HR, hx⟩ := hrel
    by_cases hlt : k < bs
    · have HN := Lib.hid (adL_step (m := m) (x := x) hlt)
      have hm1 : 0 ≤ x * (k : Int) := Int.mul_nonneg h0 (by omega)
      have hm2 : x * (k : Int) ≤ 36 * 36 := Int.mul_le_mul h1 (by omega) (by omega) (by omega)
      have htm : (x * (k : Int)).tmod m = x * (k : Int) % m := Int.tmod_eq_emod_of_nonneg hm1
      go_wp2_with (at_builtin; refine law_append1 _ rfl _ _ 25 rfl 2 (.int .i64 0) 8 und_int64s info_int64 rfl w.heap.size ra k rc _ _ rfl rfl rfl HR.out hx.le (by omega) (by omega) ?_; intro ra' rc' w6 ho6 hb6 _; have hxo6 : Ext w w6 := Ext.below hx hb6)
      exact ⟨⟨k + 1, ra', rc', by omega, by go_num, rfl, by rw [Hid, HN.out, I_append]; exact ho6, hxo6⟩, by simp [intOf]; omega⟩
    · obtain rfl : k = bs := by omega
      go_wp2_with fail
      go_ret
      have h := HR.out
      rw [take_full (by rw [adL_len]; exact Nat.le_refl _)] at h
      exact RetOwn.mk h (adL_len _ _ _) hx
/-- a table, of the call's own -/
def RetMatO (ll : List (List Int)) (w : World) (e : Ending) (w' : World) : Prop := ∃ a c, e = .returned (.slice a ll.length c) ∧ OwnMat w' w.heap.size 25 2 a ll.length c ll ∧ Ext w w'
set_option maxHeartbeats 2000000 in
theorem spec_l03Table (M : Nat) (a : Option Addr) (n c : Nat) (l : List Int) (w : World) (hi : Ints w a n c l) (hM : 1 ≤ M) (hM2 : M ≤ 36) (hn : n ≤ 36) (hl : ∀ x ∈ l, 0 ≤ x ∧ x ≤ 1000000) :
    Calls Try.prog 180 #[.slice a n c, .int .i64 M] w (RetMatO (tabA M l) w) := by
  have HLn := Lib.hid hi.len
  have HNn := Lib.hid hl
  obtain ⟨bW, oW, hixW, hcellW⟩ := hi.ix (P := Try.prog) 25 2 und_int64s cell_int64
  clear hi hl
  go_enter Try.func180, Try.ntmps180
  go_wp2_with fail
  go_loopw [5, 6] (fun v5 v6 wr => ∃ (s : Nat) (ta : Option Addr) (tc : Nat), s ≤ M ∧ v6 = .int .i64 s ∧ v5 = .slice ta s tc ∧ Hid (OwnMat wr w.heap.size 25 2 ta s tc ((List.range s).map (rowA M l))) ∧ Ext w wr) (fun _ v6 _ => M - (intOf v6).toNat)
  case atStart => exact ⟨0, _, _, Nat.zero_le _, rfl, rfl, OwnMat.lit0 _ _ _, (Ext.refl _).alloc _⟩
  case round =>
    obtain ⟨s, ta, tc, hs, rfl, rfl, HT, hx⟩ := hrel
    have hxw : Ext w wr := hx
    clear hx
    by_cases hls : s < M
    · obtain ⟨wo, hwo⟩ : ∃ W, W = wr := ⟨_, rfl⟩
      rw [← hwo] at HT hxw ⊢
      clear hwo
      go_wp2_with fail
      go_loopw [7, 8] (fun v7 v8 wr => ∃ (d : Nat) (ra : Option Addr) (rc : Nat), d ≤ n ∧ v8 = .int .i64 d ∧ v7 = .slice ra d rc ∧ Hid (Own wr wo.heap.size 2 ra d rc (I ((rowA M l s).take d))) ∧ Ext wo wr) (fun _ v8 _ => n - (intOf v8).toNat)
      case atStart => exact ⟨0, _, _, Nat.zero_le _, rfl, rfl, Own.lit0 _ _, (Ext.refl _).alloc _⟩
      case round =>
        obtain ⟨d, ra, rc, hd, rfl, rfl, HR, hx⟩ := hrel
        have hxr2 : Ext wo wr := hx
        have hxw2 : Ext w wr := hxw.trans hx
        clear hx
        by_cases hld : d < n
        · have hdl : d < l.length := by rw [HLn.out]; exact hld
          have hnn := HNn.out _ (gi_mem hdl)
          have HN := Lib.hid (rowA_step (m := (M : Int)) (s := s) hdl)
          have htm : ((s : Int) + gi l d).tmod M = ((s : Int) + gi l d) % M := Int.tmod_eq_emod_of_nonneg (by omega)
          clear hdl
          go_wp2_with (at_builtin; refine law_append1 _ rfl _ _ 25 rfl 2 (.int .i64 0) 8 und_int64s info_int64 rfl wo.heap.size ra d rc _ _ rfl rfl rfl HR.out hxr2.le (by omega) (by omega) ?_; intro ra' rc' w6 ho6 hb6 _; have hxo6 : Ext wo w6 := Ext.below hxr2 hb6)
          exact ⟨⟨d + 1, ra', rc', by omega, by go_num, rfl, by rw [Hid, HN.out, I_append]; exact ho6, hxo6⟩, by simp [intOf]; omega⟩
        · obtain rfl : d = n := by omega
          have HT4 := Lib.hid (HT.out.ext hxr2)
          have HO4 := Lib.hid (show Own wr w.heap.size 2 ra d rc (I (rowA M l s)) from by
            have h := HR.out
            rw [take_full (by rw [rowA, List.length_map, HLn.out]; exact Nat.le_refl _)] at h
            exact h.mono hxw.le)
          obtain ⟨tvs, htv, htp⟩ := HT4.out.rows
          have HTV := Lib.hid htv
          have HTP := Lib.hid htp
          clear htv htp HR HT
          go_wp2_with (at_builtin; refine law_append1 _ rfl _ _ 43 rfl 25 (.slice none 0 0) 24 und_rows info_row2 rfl w.heap.size ta s tc _ _ rfl rfl rfl HTV.out hxw2.le (by omega) (by omega) ?_; intro ta' tc' w6 ho6 hb6 hg6; have hx6 : Ext w w6 := Ext.below hxw2 hb6)
          exact ⟨⟨s + 1, ta', tc', by omega, by go_num, rfl, by rw [Hid, List.range_succ, List.map_append]; exact OwnMat.push HT4.out.len HTP.out HTV.out HO4.out ho6 hg6 (by decide), hx6⟩, by simp [intOf]; omega⟩
    · obtain rfl : s = M := by omega
      have HTa := Lib.hid (show OwnMat wr w.heap.size 25 2 ta s tc (tabA s l) from by have h := HT.out; unfold tabA; rwa [Int.toNat_natCast])
      have hll : (tabA s l).length = s := by simp [tabA]
      go_wp2_with fail
      go_ret
      refine ⟨ta, tc, by rw [hll]; rfl, by rw [hll]; exact HTa.out, hxw⟩
/-- half made: block q holds the chain; the lists that are known -/
structure AK (w : World) (q : Nat) (b S st fi : Int) (v4 v5 : Value) (ad : Option Addr) (x cc : Nat) (vs : List Value) (tt : List (List (List Int))) (pd : Option Addr) (y pc : Nat) (pp : List Int) (kd : Option Addr) (z kc : Nat) (kv : List Value) (W : World) : Prop where
  s : SAt W q 27 #[.int .i64 b, .int .i64 S, .int .i64 st, .int .i64 fi, v4, v5]
  o : Own W w.heap.size 43 ad x cc vs
  p : Own W w.heap.size 2 pd y pc (I pp)
  k : Own W w.heap.size 3 kd z kc kv
  i : ∀ j, j < x → ∃ a' n' c' lo hi, gv vs j = .slice a' n' c' ∧ q < lo ∧ hi ≤ W.heap.size ∧ Off ad lo hi ∧ Off pd lo hi ∧ Off kd lo hi ∧ ∀ W', KeepB lo hi W W' → Mat W' a' n' c' (gm tt j)
  h : Ext w W
  q1 : w.heap.size ≤ q
section
variable {w : World} {q : Nat} {b S st fi : Int} {v4 v5 : Value} {ad : Option Addr} {x cc : Nat} {vs : List Value} {tt : List (List (List Int))} {pd : Option Addr} {y pc : Nat} {pp : List Int} {kd : Option Addr} {z kc : Nat} {kv : List Value} {W W' : World}
theorem AK.ext (d : AK w q b S st fi v4 v5 ad x cc vs tt pd y pc pp kd z kc kv W) (hx : Ext W W') : AK w q b S st fi v4 v5 ad x cc vs tt pd y pc pp kd z kc kv W' :=
  ⟨d.s.ext hx, d.o.ext hx, d.p.ext hx, d.k.ext hx, fun j hj => by
    obtain ⟨a', n', c', lo, hi, h1, h2, h3, h4, h5, h6, h7⟩ := d.i j hj
    exact ⟨a', n', c', lo, hi, h1, h2, Nat.le_trans h3 hx.le, h4, h5, h6, fun W'' hk => h7 W'' ((KeepB.ext hx h3).trans hk)⟩, d.h.trans hx, d.q1⟩
theorem AK.set (d : AK w q b S st fi v4 v5 ad x cc vs tt pd y pc pp kd z kc kv W) (j : Nat) (u : Value) {b' S' st' fi' : Int} {v4' v5' : Value} (he : (#[Value.int .i64 b, .int .i64 S, .int .i64 st, .int .i64 fi, v4, v5]).setIfInBounds j u = #[.int .i64 b', .int .i64 S', .int .i64 st', .int .i64 fi', v4', v5']) :
    AK w q b' S' st' fi' v4' v5' ad x cc vs tt pd y pc pp kd z kc kv (W.setCell ⟨q, j, none⟩ u) := by
  have hs := d.s.set j u
  rw [he] at hs
  refine ⟨hs, d.o.setS d.s (by decide) j u, d.p.setS d.s (by decide) j u, d.k.setS d.s (by decide) j u, fun k hk => ?_, d.h.setCell d.q1 u, d.q1⟩
  obtain ⟨a', n', c', lo, hi, h1, h2, h3, h4, h5, h6, h7⟩ := d.i k hk
  exact ⟨a', n', c', lo, hi, h1, h2, by simpa [World.setCell] using h3, h4, h5, h6, fun W'' hK => h7 W'' (KeepB.trans (fun r h8 h9 => Below.heap_setCell W ⟨q, j, none⟩ u r (by simp only; omega)) hK)⟩
/-- a list more that is known -/
theorem AK.know (d : AK w q b S st fi v4 v5 ad x cc vs tt pd y pc pp kd z kc kv W) {kd' : Option Addr} {kc' : Nat} {kv' : List Value}
    (hb : Below w.heap.size W W') (hg : W.grownBy W' (Value.slice kd z kc).ownBlock) (ho : Own W' w.heap.size 3 kd' (z + 1) kc' kv') (hk : ∀ g, kd' = some g → (∃ g', kd = some g' ∧ g'.block = g.block) ∨ W.heap.size ≤ g.block) :
    AK w q b S st fi v4 v5 ad x cc vs tt pd y pc pp kd' (z + 1) kc' kv' W' := by
  refine ⟨d.s.grown hg (row_ne_s (d.k.ne_s d.s (by decide))), d.o.grownT d.k hg (by decide), d.p.grownT d.k hg (by decide), ho, fun j hj => ?_, d.h.below hb, d.q1⟩
  obtain ⟨a', n', c', lo, hi, h1, h2, h3, h4, h5, h6, h7⟩ := d.i j hj
  exact ⟨a', n', c', lo, hi, h1, h2, Nat.le_trans h3 hg.size, h4, h5, h6.app h3 hk, fun W'' hK => h7 W'' ((keepB_grown hg h6 h3).trans hK)⟩
/-- a place more -/
theorem AK.put (d : AK w q b S st fi v4 v5 ad x cc vs tt pd y pc pp kd z kc kv W) {pd' : Option Addr} {pc' : Nat} {u : Int}
    (hb : Below w.heap.size W W') (hg : W.grownBy W' (Value.slice pd y pc).ownBlock) (ho : Own W' w.heap.size 2 pd' (y + 1) pc' (I pp ++ [.int .i64 u])) (hk : ∀ g, pd' = some g → (∃ g', pd = some g' ∧ g'.block = g.block) ∨ W.heap.size ≤ g.block) :
    AK w q b S st fi v4 v5 ad x cc vs tt pd' (y + 1) pc' (pp ++ [u]) kd z kc kv W' := by
  refine ⟨d.s.grown hg (row_ne_s (d.p.ne_s d.s (by decide))), d.o.grownT d.p hg (by decide), by rw [I_append]; exact ho, d.k.grownT d.p hg (by decide), fun j hj => ?_, d.h.below hb, d.q1⟩
  obtain ⟨a', n', c', lo, hi, h1, h2, h3, h4, h5, h6, h7⟩ := d.i j hj
  exact ⟨a', n', c', lo, hi, h1, h2, Nat.le_trans h3 hg.size, h4, h5.app h3 hk, h6, fun W'' hK => h7 W'' ((keepB_grown hg h5 h3).trans hK)⟩
/-- a table more, laid from block B0 on -/
theorem AK.app (d : AK w q b S st fi v4 v5 ad x cc vs tt pd y pc pp kd z kc kv W) {B0 : Nat} {ad' a1 : Option Addr} {cc' n1 c1 : Nat} {t : List (List Int)} (htl : tt.length = x) (hnew : OwnMat W B0 25 2 a1 n1 c1 t) (hq : q < B0) (ha : ∀ g, ad = some g → g.block < B0) (hp : ∀ g, pd = some g → g.block < B0) (hkd : ∀ g, kd = some g → g.block < B0)
    (hb : Below w.heap.size W W') (hg : W.grownBy W' (Value.slice ad x cc).ownBlock) (ho : Own W' w.heap.size 43 ad' (x + 1) cc' (vs ++ [.slice a1 n1 c1])) (hk : ∀ g, ad' = some g → (∃ g', ad = some g' ∧ g'.block = g.block) ∨ W.heap.size ≤ g.block) :
    AK w q b S st fi v4 v5 ad' (x + 1) cc' (vs ++ [.slice a1 n1 c1]) (tt ++ [t]) pd y pc pp kd z kc kv W' := by
  have hvl := d.o.len
  refine ⟨d.s.grown hg (row_ne_s (d.o.ne_s d.s (by decide))), ho, d.p.grownT d.o hg (by decide), d.k.grownT d.o hg (by decide), fun j hj => ?_, d.h.below hb, d.q1⟩
  by_cases h : j < x
  · obtain ⟨a', n', c', lo, hi, h1, h2, h3, h4, h5, h6, h7⟩ := d.i j h
    refine ⟨a', n', c', lo, hi, (gv_lt (by omega)).trans h1, h2, Nat.le_trans h3 hg.size, h4.app h3 hk, h5, h6, fun W'' hK => ?_⟩
    rw [gm_lt (by omega)]
    exact h7 W'' ((keepB_grown hg h4 h3).trans hK)
  · obtain rfl : j = x := by omega
    have hoA : Off ad B0 W.heap.size := fun g hg' => .inl (ha g hg')
    refine ⟨a1, n1, c1, B0, W.heap.size, gv_last hvl, hq, hg.size, hoA.app (Nat.le_refl _) hk, fun g hg' => .inl (hp g hg'), fun g hg' => .inl (hkd g hg'), fun W'' hK => ?_⟩
    rw [gm_last htl]
    exact (hnew.keepB ((keepB_grown hg hoA (Nat.le_refl _)).trans hK)).mat
theorem AK.chIn (d : AK w q b S st fi v4 v5 ad x cc vs tt pd y pc pp kd z kc kv W) (htl : tt.length = x) (hx : x ≤ 20) (hy : y ≤ 20) (hsm : SmallCh ⟨b, S, st, fi, tt, pp⟩) : ChIn W ⟨b, S, st, fi, tt, pp⟩ ad x cc pd y pc :=
  ⟨⟨htl, vs, d.o.sl, fun j hj => by obtain ⟨a', n', c', lo, hi, h1, _, _, _, _, _, h7⟩ := d.i j hj; exact ⟨a', n', c', h1, h7 W (KeepB.refl _ _ _)⟩⟩, d.p.ints, by omega, by omega, hsm⟩
theorem AK.chInK (d : AK w q b S st fi v4 v5 ad x cc vs tt pd y pc pp kd z kc kv W) (htl : tt.length = x) (hx : x ≤ 20) (hy : y ≤ 20) (hsm : SmallCh ⟨b, S, st, fi, tt, pp⟩) (hk : KeepB w.heap.size W.heap.size W W') : ChIn W' ⟨b, S, st, fi, tt, pp⟩ ad x cc pd y pc :=
  ⟨⟨htl, vs, (Own.keepB d.o hk).sl, fun j hj => by obtain ⟨a', n', c', lo, hi, h1, h2, h3, _, _, _, h7⟩ := d.i j hj; exact ⟨a', n', c', h1, h7 W' (hk.mono (by have := d.q1; omega) h3)⟩⟩, (Own.keepB d.p hk).ints, by omega, by omega, hsm⟩
end
theorem AK.setZ {w : World} {q q1 : Nat} {b S st fi : Int} {v4 v5 : Value} {ad : Option Addr} {x cc : Nat} {vs : List Value} {tt : List (List (List Int))} {pd : Option Addr} {y pc : Nat} {pp : List Int} {kd : Option Addr} {z kc : Nat} {kv : List Value} {W : World} {zs : Array Value}
    (d : AK w q b S st fi v4 v5 ad x cc vs tt pd y pc pp kd z kc kv W) (hz : SAt W q1 27 zs) (hq : q1 < q) (hw : w.heap.size ≤ q1) (j : Nat) (u : Value) : AK w q b S st fi v4 v5 ad x cc vs tt pd y pc pp kd z kc kv (W.setCell ⟨q1, j, none⟩ u) := by
  refine ⟨d.s.other u (by simp only; omega), d.o.setS hz (by decide) j u, d.p.setS hz (by decide) j u, d.k.setS hz (by decide) j u, fun k hk => ?_, d.h.setCell hw u, d.q1⟩
  obtain ⟨a', n', c', lo, hi, h1, h2, h3, h4, h5, h6, h7⟩ := d.i k hk
  exact ⟨a', n', c', lo, hi, h1, h2, by simpa [World.setCell] using h3, h4, h5, h6, fun W'' hK => h7 W'' (KeepB.trans (fun r h8 h9 => Below.heap_setCell W ⟨q1, j, none⟩ u r (by simp only; omega)) hK)⟩
def keyCh (base m target : Int) (ks : List (List Int)) (G : List Int → List Int) : Ch := ⟨base, m, 0, target, (addF ks ks.length).1.map (fun x => tabA m (G x)), (addF ks ks.length).2⟩
/-- where the list that is sought stands among those before j -/
def atJ (K : List (List Int)) (x : List Int) (j : Nat) (v : Value) : Prop := (v = .int .i64 (-1) ∧ ∀ i, i < j → gl K i ≠ x) ∨ ∃ i : Nat, i < j ∧ v = .int .i64 i ∧ gl K i = x
theorem atJ.no {K : List (List Int)} {x : List Int} {j : Nat} {v : Value} (h : atJ K x j v) (hne : gl K j ≠ x) : atJ K x (j + 1) v := by
  rcases h with ⟨h1, h2⟩ | ⟨i, h1, h2, h3⟩
  · refine .inl ⟨h1, fun i hi => ?_⟩
    by_cases hij : i < j
    · exact h2 i hij
    · obtain rfl : i = j := by omega
      exact hne
  · exact .inr ⟨i, by omega, h2, h3⟩
set_option maxHeartbeats 1000000 in
theorem spec_sameW (a a' : Option Addr) (n n' c c' : Nat) (l l' : List Int) (w : World) (hv : Ints w a n c l) (hv' : Ints w a' n' c' l') (hn : n ≤ 4611686018427387904) :
    Calls Try.prog 179 #[.slice a n c, .slice a' n' c'] w (Ret (.bool (decide (l = l'))) w) := by
  have HL := Lib.hid hv.len
  have HL' := Lib.hid hv'.len
  by_cases he : n = n'
  · subst he
    obtain ⟨b, off, hix, hcell⟩ := hv.ix (P := Try.prog) 25 2 und_int64s cell_int64
    obtain ⟨b', off', hix', hcell'⟩ := hv'.ix (P := Try.prog) 25 2 und_int64s cell_int64
    have Hhv := Lib.hid hv; clear hv; have Hhv' := Lib.hid hv'; clear hv'
    go_enter Try.func179, Try.ntmps179
    go_wp2
    go_loopw [5] (fun i wr => ∃ k : Nat, k ≤ n ∧ i = .int .i64 k ∧ l.take k = l'.take k ∧ Ext w wr) (fun i _ => n - (intOf i).toNat)
    case atStart => exact ⟨0, Nat.zero_le _, rfl, rfl, Ext.refl _⟩
    case round =>
      obtain ⟨k, hk, rfl, hp, hx⟩ := hrel
      have Hhp := Lib.hid hp; clear hp
      by_cases hlt : k < n
      · have HT := Lib.hid (take_gi (l := l) (k := k) (by rw [HL.out]; exact hlt))
        have HT' := Lib.hid (take_gi (l := l') (k := k) (by rw [HL'.out]; exact hlt))
        go_wp2
        (refine wp_region_up (by kernel_rfl) (by kernel_rfl) (by kernel_rfl) ?_; (repeat (first | (refine mix_q rfl ?_; go_big_quiet_step (fail); refine wpQuiet_nil ?_; show wpMix _ _ _ _ _ _ _) | (refine mix_s rfl ?_; go_wp2_with (fail); first | refine ⟨up_of (by repeat (first | (with_reducible exact Ext.refl _) | (with_reducible refine Ext.drewN ?_ _) | (with_reducible refine Ext.drew ?_) | (with_reducible refine Ext.alloc ?_ _) | ((with_reducible refine Ext.setCell ?_ ?_ _); rotate_left; focus (first | (simp; done) | (simp; omega) | omega)) | assumption | (with_reducible refine Ext.trans ?_ (by assumption)))), ?_⟩ | refine ⟨rfl, rfl, up_of (by repeat (first | (with_reducible exact Ext.refl _) | (with_reducible refine Ext.drewN ?_ _) | (with_reducible refine Ext.drew ?_) | (with_reducible refine Ext.alloc ?_ _) | ((with_reducible refine Ext.setCell ?_ ?_ _); rotate_left; focus (first | (simp; done) | (simp; omega) | omega)) | assumption | (with_reducible refine Ext.trans ?_ (by assumption)))), ?_⟩))); refine mix_nil ?_)
        go_wp2
        · have h1 : (gi l k != gi l' k) = true := by assumption
          go_ret
          refine ⟨rb ?_, (by repeat (first | (with_reducible exact Ext.refl _) | (with_reducible refine Ext.drewN ?_ _) | (with_reducible refine Ext.drew ?_) | (with_reducible refine Ext.alloc ?_ _) | ((with_reducible refine Ext.setCell ?_ ?_ _); rotate_left; focus (first | (simp; done) | (simp; omega) | omega)) | assumption | (with_reducible refine Ext.trans ?_ (by assumption))))⟩
          have hne : ¬ l = l' := fun h => by subst h; simp at h1
          simp [hne]
        · have h1 : (gi l k != gi l' k) = false := by assumption
          have h2 : gi l k = gi l' k := by simpa using h1
          exact ⟨⟨k + 1, by omega, by go_num, by rw [HT.out, HT'.out, Hhp.out, h2], (by repeat (first | (with_reducible exact Ext.refl _) | (with_reducible refine Ext.drewN ?_ _) | (with_reducible refine Ext.drew ?_) | (with_reducible refine Ext.alloc ?_ _) | ((with_reducible refine Ext.setCell ?_ ?_ _); rotate_left; focus (first | (simp; done) | (simp; omega) | omega)) | assumption | (with_reducible refine Ext.trans ?_ (by assumption))))⟩, by simp [intOf]; omega⟩
      · go_wp2
        go_ret
        refine ⟨rb ?_, hx⟩
        have := Hhp.out
        rw [take_full (by rw [HL.out]; omega), take_full (by rw [HL'.out]; omega)] at this
        simp [this]
  · have hne : l ≠ l' := fun h => he (by rw [← HL.out, ← HL'.out, h])
    have HN := Lib.hid hne
    have hb : ((n : Int) != (n' : Int)) = true := by simp; omega
    clear hne hv hv' he
    go_enter Try.func179, Try.ntmps179
    go_wp2
    go_ret
    exact ⟨rb (by simp [HN.out]), Ext.refl _⟩
theorem und_nsW : Try.prog.underlying 169 = some (.slice 3) := by kernel_rfl
theorem cell_nW : Try.prog.cellsOf 3 = 1 := by kernel_rfl
theorem info_nW : (Try.prog.info? 3).map (fun i => (i.zero, i.size, i.bytes)) = some (some (.int .i64 0), 1, 8) := by kernel_rfl
set_option maxHeartbeats 8000000 in
theorem spec_l03Chain (base target : Int) (M : Nat) (ka : Option Addr) (n kc' : Nat) (ks : List (List Int)) (aa : Option Addr) (ac : Nat) (al : List (List Int)) (G : List Int → List Int) (w : World) (hk : Mat w ka n kc' ks) (ha : Mat w aa n ac al)
    (hG : ∀ i, i < n → gl al i = G (gl ks i)) (h20 : n ≤ 20) (hM : 1 ≤ M) (hM2 : M ≤ 36) (hK36 : ∀ l ∈ ks, l.length ≤ 36) (hA36 : ∀ l ∈ al, l.length ≤ 36) (hnn : ∀ l ∈ al, ∀ x ∈ l, 0 ≤ x ∧ x ≤ 1000000) (hsm : SmallCh (keyCh base M target ks G)) :
    Calls Try.prog 146 #[.slice ka n kc', .slice aa n ac, .int .i64 base, .int .i64 M, .int .i64 target] w (RetChO (keyCh base M target ks G) w) := by
  have HV := Lib.hid hk
  have HA := Lib.hid ha
  have HLn := Lib.hid hk.len
  have HLa := Lib.hid ha.len
  have HhG := Lib.hid hG; clear hG; have HhK36 := Lib.hid hK36; clear hK36; have HhA36 := Lib.hid hA36; clear hA36; have Hhnn := Lib.hid hnn; clear hnn; have Hhsm := Lib.hid hsm; clear hsm
  clear hk ha
  go_enter Try.func146, Try.ntmps146
  go_wp2_with fail
  obtain ⟨q1, hq1⟩ : ∃ q1, q1 = w.heap.size := ⟨_, rfl⟩
  obtain ⟨q, hq⟩ : ∃ q, q = w.heap.size + 1 := ⟨_, rfl⟩
  obtain ⟨w3, hw3⟩ : ∃ W, W = ((w.alloc (.cells #[.int .i64 0, .int .i64 0, .int .i64 0, .int .i64 0, .slice none 0 0, .slice none 0 0] 27)).alloc (.cells #[.int .i64 base, .int .i64 (M : Int), .int .i64 0, .int .i64 target, .slice none 0 0, .slice none 0 0] 27)).alloc (.cells #[] 3) := ⟨_, rfl⟩
  have hx3 : Ext w w3 := by rw [hw3]; exact (by repeat (first | (with_reducible exact Ext.refl _) | (with_reducible refine Ext.drewN ?_ _) | (with_reducible refine Ext.drew ?_) | (with_reducible refine Ext.alloc ?_ _) | ((with_reducible refine Ext.setCell ?_ ?_ _); rotate_left; focus (first | (simp; done) | (simp; omega) | omega)) | assumption | (with_reducible refine Ext.trans ?_ (by assumption))))
  have HZ3 := Lib.hid (show SAt w3 q1 27 #[.int .i64 0, .int .i64 0, .int .i64 0, .int .i64 0, .slice none 0 0, .slice none 0 0] from by rw [hw3, hq1]; exact ((SAt.new' w #[.int .i64 0, .int .i64 0, .int .i64 0, .int .i64 0, .slice none 0 0, .slice none 0 0] 27 rfl).alloc _).alloc _)
  have HD3 := Lib.hid (show AK w q base M 0 target (.slice none 0 0) (.slice none 0 0) none 0 0 [] [] none 0 0 [] (some ⟨q + 1, 0, none⟩) 0 0 (I []) w3 from by
    rw [hq]
    refine ⟨by rw [hw3]; exact (SAt.new' _ _ _ (by simp)).alloc _, Own.nil _ _ _, Own.nil _ _ _, by rw [hw3]; exact Own.lit0' _ 3 (by omega) (by simp), fun j hj => by omega, hx3, by omega⟩)
  have hqq : q1 < q := by omega
  have hwq1 : w.heap.size ≤ q1 := by omega
  rw [← hw3, ← hq, ← hq1]
  clear hw3 hq hq1
  go_loopw [12, 13] (fun v12 v13 wr => ∃ (k z : Nat) (fa : Option Addr) (fc : Nat) (fi : List Int) (ad : Option Addr) (cc : Nat) (vs : List Value) (pd : Option Addr) (pc : Nat), k ≤ n ∧ v13 = .int .i64 k ∧ v12 = .slice fa z fc ∧ Hid ((addF ks k).1.length = z) ∧
      Hid (AK w q base M 0 target (.slice ad z cc) (.slice pd k pc) ad z cc vs ((addF ks k).1.map (fun x => tabA M (G x))) pd k pc (addF ks k).2 fa z fc (I fi) wr) ∧ Hid (SAt wr q1 27 #[.int .i64 0, .int .i64 0, .int .i64 0, .int .i64 0, .slice none 0 0, .slice none 0 0]) ∧
      Hid (∀ j, j < z → 0 ≤ gi fi j ∧ gi fi j < n ∧ gl ks (gi fi j).toNat = gl (addF ks k).1 j)) (fun _ v13 _ => n - (intOf v13).toNat)
  case atStart => exact ⟨0, 0, _, 0, [], none, 0, [], none, 0, Nat.zero_le _, rfl, rfl, rfl, HD3.out, HZ3.out, fun j hj => by omega⟩
  case round =>
    clear HD3 HZ3 hx3
    obtain ⟨k, z, fa, fc, fi, ad, cc, vs, pd, pc, hk, rfl, rfl, HL, HD, HZ, HFi⟩ := hrel
    have hinv := addF_inv ks k (by rw [HLn.out]; exact hk)
    have hzk : z ≤ k := by rw [← HL.out]; exact hinv.2.1
    have HNd := Lib.hid (addF_nodup ks k (by rw [HLn.out]; exact hk))
    clear hinv
    by_cases hlt : k < n
    · obtain ⟨b0, o0, a', n', c', ⟨f1, f2⟩, hrow⟩ := HV.out.one (P := Try.prog) 43 25 und_rows cell_row1 (k : Int) (by omega) (by omega)
      rw [Int.toNat_natCast] at hrow
      have hn36 : n' ≤ 36 := by have h1 := HhK36.out _ (gl_mem (show k < ks.length by rw [HLn.out]; exact hlt)); have h2 := hrow.len; omega
      have HRow := Lib.hid hrow
      have hxr : Ext w wr := HD.out.h
      clear hrow
      obtain ⟨wo, hwo⟩ : ∃ W, W = wr := ⟨_, rfl⟩
      subst hwo
      obtain ⟨bF, oF, hixF, hcellF⟩ := (show Ints wo fa z fc fi from HD.out.k.ints).ix (P := Try.prog) 169 3 und_nsW cell_nW
      go_wp2_with fail
      go_loopw [14, 15] (fun v14 v15 wr => ∃ (j : Nat), j ≤ z ∧ v15 = .int .i64 j ∧ Hid (atJ (addF ks k).1 (gl ks k) j v14) ∧ Ext wo wr) (fun _ v15 _ => z - (intOf v15).toNat)
      case atStart => exact ⟨0, Nat.zero_le _, rfl, .inl ⟨rfl, fun i hi => by omega⟩, Ext.refl _⟩
      case round =>
        obtain ⟨j, hj, rfl, HJ, hx2⟩ := hrel
        have hxw2 : Ext w wr := hxr.trans hx2
        by_cases hlj : j < z
        · obtain ⟨g0, g1, g2⟩ := HFi.out j hlj
          obtain ⟨b1, o1, a1, n1, c1, ⟨f3, f4⟩, hrow1⟩ := HV.out.one (P := Try.prog) 43 25 und_rows cell_row1 (gi fi j) g0 g1
          rw [g2] at hrow1
          have hn1 : n1 ≤ 36 := by have h1 := HhK36.out _ (gl_mem (show (gi fi j).toNat < ks.length by rw [HLn.out]; omega)); rw [g2] at h1; have h2 := hrow1.len; omega
          have HS := Lib.hid (fun W (h : Ext w W) => spec_sameW a1 a' n1 n' c1 c' _ _ W (hrow1.ext h) (HRow.out.ext h) (by omega))
          clear hrow1
          have hww : Ext wr wr := Ext.refl _
          by_cases he : gl (addF ks k).1 j = gl ks k
          · rw [decide_eq_true he] at HS
            have HE := Lib.hid he
            clear he
            go_wp2_with fail
            (refine wp_region_from wr (by repeat (first | (with_reducible exact Ext.refl _) | (with_reducible refine Ext.drewN ?_ _) | (with_reducible refine Ext.drew ?_) | (with_reducible refine Ext.alloc ?_ _) | ((with_reducible refine Ext.setCell ?_ ?_ _); rotate_left; focus (first | (simp; done) | (simp; omega) | omega)) | assumption | (with_reducible refine Ext.trans ?_ (by assumption)))) (by kernel_rfl) (by kernel_rfl) (by kernel_rfl) ?_; (repeat (first | (refine mix_q rfl ?_; go_big_quiet_step (fail); refine wpQuiet_nil ?_; show wpMix _ _ _ _ _ _ _) | (refine mix_s rfl ?_; go_wp2_with ((with_reducible refine (HS.out _ (hxw2.trans (by repeat (first | (with_reducible exact Ext.refl _) | (with_reducible assumption) | (with_reducible refine Ext.drewN ?_ _) | (with_reducible refine Ext.drew ?_) | (with_reducible refine Ext.alloc ?_ _) | ((with_reducible refine Ext.setCell ?_ ?_ _); rotate_left; focus (first | (simp; done) | (simp; omega) | omega)) | (with_reducible refine Ext.trans ?_ (by with_reducible assumption)))))).mono ?_); rintro e w6 ⟨rfl, hy6⟩; have hx6 : Ext wr w6 := Ext.trans (by repeat (first | (with_reducible exact Ext.refl _) | (with_reducible assumption) | (with_reducible refine Ext.drewN ?_ _) | (with_reducible refine Ext.drew ?_) | (with_reducible refine Ext.alloc ?_ _) | ((with_reducible refine Ext.setCell ?_ ?_ _); rotate_left; focus (first | (simp; done) | (simp; omega) | omega)) | (with_reducible refine Ext.trans ?_ (by with_reducible assumption)))) hy6; clear hy6); first | refine ⟨up_of (by repeat (first | (with_reducible exact Ext.refl _) | (with_reducible refine Ext.drewN ?_ _) | (with_reducible refine Ext.drew ?_) | (with_reducible refine Ext.alloc ?_ _) | ((with_reducible refine Ext.setCell ?_ ?_ _); rotate_left; focus (first | (simp; done) | (simp; omega) | omega)) | assumption | (with_reducible refine Ext.trans ?_ (by assumption)))), ?_⟩ | refine ⟨rfl, rfl, up_of (by repeat (first | (with_reducible exact Ext.refl _) | (with_reducible refine Ext.drewN ?_ _) | (with_reducible refine Ext.drew ?_) | (with_reducible refine Ext.alloc ?_ _) | ((with_reducible refine Ext.setCell ?_ ?_ _); rotate_left; focus (first | (simp; done) | (simp; omega) | omega)) | assumption | (with_reducible refine Ext.trans ?_ (by assumption)))), ?_⟩))); refine mix_nil ?_)
            go_wp2_with fail
            exact ⟨⟨j + 1, by omega, by go_num, .inr ⟨j, by omega, rfl, HE.out⟩, hx2.trans (by repeat (first | (with_reducible exact Ext.refl _) | (with_reducible assumption) | (with_reducible refine Ext.drewN ?_ _) | (with_reducible refine Ext.drew ?_) | (with_reducible refine Ext.alloc ?_ _) | ((with_reducible refine Ext.setCell ?_ ?_ _); rotate_left; focus (first | (simp; done) | (simp; omega) | omega)) | (with_reducible refine Ext.trans ?_ (by with_reducible assumption))))⟩, by simp [intOf]; omega⟩
          · rw [decide_eq_false he] at HS
            have HE := Lib.hid he
            clear he
            go_wp2_with fail
            (refine wp_region_from wr (by repeat (first | (with_reducible exact Ext.refl _) | (with_reducible refine Ext.drewN ?_ _) | (with_reducible refine Ext.drew ?_) | (with_reducible refine Ext.alloc ?_ _) | ((with_reducible refine Ext.setCell ?_ ?_ _); rotate_left; focus (first | (simp; done) | (simp; omega) | omega)) | assumption | (with_reducible refine Ext.trans ?_ (by assumption)))) (by kernel_rfl) (by kernel_rfl) (by kernel_rfl) ?_; (repeat (first | (refine mix_q rfl ?_; go_big_quiet_step (fail); refine wpQuiet_nil ?_; show wpMix _ _ _ _ _ _ _) | (refine mix_s rfl ?_; go_wp2_with ((with_reducible refine (HS.out _ (hxw2.trans (by repeat (first | (with_reducible exact Ext.refl _) | (with_reducible assumption) | (with_reducible refine Ext.drewN ?_ _) | (with_reducible refine Ext.drew ?_) | (with_reducible refine Ext.alloc ?_ _) | ((with_reducible refine Ext.setCell ?_ ?_ _); rotate_left; focus (first | (simp; done) | (simp; omega) | omega)) | (with_reducible refine Ext.trans ?_ (by with_reducible assumption)))))).mono ?_); rintro e w6 ⟨rfl, hy6⟩; have hx6 : Ext wr w6 := Ext.trans (by repeat (first | (with_reducible exact Ext.refl _) | (with_reducible assumption) | (with_reducible refine Ext.drewN ?_ _) | (with_reducible refine Ext.drew ?_) | (with_reducible refine Ext.alloc ?_ _) | ((with_reducible refine Ext.setCell ?_ ?_ _); rotate_left; focus (first | (simp; done) | (simp; omega) | omega)) | (with_reducible refine Ext.trans ?_ (by with_reducible assumption)))) hy6; clear hy6); first | refine ⟨up_of (by repeat (first | (with_reducible exact Ext.refl _) | (with_reducible refine Ext.drewN ?_ _) | (with_reducible refine Ext.drew ?_) | (with_reducible refine Ext.alloc ?_ _) | ((with_reducible refine Ext.setCell ?_ ?_ _); rotate_left; focus (first | (simp; done) | (simp; omega) | omega)) | assumption | (with_reducible refine Ext.trans ?_ (by assumption)))), ?_⟩ | refine ⟨rfl, rfl, up_of (by repeat (first | (with_reducible exact Ext.refl _) | (with_reducible refine Ext.drewN ?_ _) | (with_reducible refine Ext.drew ?_) | (with_reducible refine Ext.alloc ?_ _) | ((with_reducible refine Ext.setCell ?_ ?_ _); rotate_left; focus (first | (simp; done) | (simp; omega) | omega)) | assumption | (with_reducible refine Ext.trans ?_ (by assumption)))), ?_⟩))); refine mix_nil ?_)
            go_wp2_with fail
            refine ⟨⟨j + 1, by omega, by go_num, ?_, hx2.trans (by repeat (first | (with_reducible exact Ext.refl _) | (with_reducible assumption) | (with_reducible refine Ext.drewN ?_ _) | (with_reducible refine Ext.drew ?_) | (with_reducible refine Ext.alloc ?_ _) | ((with_reducible refine Ext.setCell ?_ ?_ _); rotate_left; focus (first | (simp; done) | (simp; omega) | omega)) | (with_reducible refine Ext.trans ?_ (by with_reducible assumption))))⟩, by simp [intOf]; omega⟩
            exact HJ.out.no HE.out
        · have hjz : z = j := by omega
          subst hjz
          obtain ⟨w1, hw1⟩ : ∃ W, W = wr := ⟨_, rfl⟩
          rw [← hw1] at hx2 ⊢
          clear hw1 hxw2
          have HD1 := Lib.hid (HD.out.ext hx2)
          have HZ1 := Lib.hid (HZ.out.ext hx2)
          have hle1 : w.heap.size ≤ w1.heap.size := HD1.out.h.le
          clear HD HZ hixF hcellF
          rcases HJ.out with ⟨rfl, hno⟩ | ⟨i, hi, rfl, hy⟩
          rotate_left
          · have HE := Lib.hid (addF_yes (ls := ks) (k := k) (j := i) (by rw [HLn.out]; exact hlt) (by rw [HL.out]; exact hi) hy (fun i' hi' he => by have := gl_inj HNd.out (i := i') (j := i) (by rw [HL.out]; omega) (by rw [HL.out]; exact hi) (he.trans hy.symm); omega))
            have c5 := HD1.out.s.cell 5 (by simp)
            have fr1 := fun j => HD1.out.s.frozen j
            have hlt1 := HD1.out.s.lt
            try simp only [List.getElem_toArray, List.getElem_cons_succ, List.getElem_cons_zero] at c5
            clear hy f1 f2
            go_wp2_with (at_builtin; refine law_append1_at _ rfl _ _ 25 rfl 2 (.int .i64 0) 8 und_int64s info_int64 rfl w.heap.size pd k pc _ _ rfl rfl rfl HD1.out.p hle1 (by omega) (by omega) ?_; intro pd' pc' w5 ho5 hb5 hg5 hk5; have HD5 := Lib.hid (HD1.out.put hb5 hg5 ho5 hk5); have HZ5 := Lib.hid (HZ1.out.grown hg5 (row_ne_s (HD1.out.p.ne_s HZ1.out (by decide)))); have c55 := HD5.out.s.cell 5 (by simp); have fr5 := fun j => HD5.out.s.frozen j; have hlt5 := HD5.out.s.lt; clear ho5 hb5 hg5 hk5; (try simp only [List.getElem_toArray, List.getElem_cons_succ, List.getElem_cons_zero] at c55))
            refine ⟨⟨k + 1, z, fa, fc, fi, ad, cc, vs, pd', pc', by omega, by go_num, rfl, by rw [Hid, HE.out]; exact HL.out, ?_, HZ5.out.other _ (by simp only; omega), ?_⟩, by simp [intOf]; omega⟩
            · rw [Hid, HE.out]; exact HD5.out.set 5 (.slice pd' (k + 1) pc') rfl
            · rw [Hid, HE.out]; exact HFi.out
          · have HE := Lib.hid (addF_no (ls := ks) (k := k) (by rw [HLn.out]; exact hlt) (fun i hi => hno i (by rw [← HL.out]; exact hi)))
            obtain ⟨bA, oA, aA, nA, cA, ⟨f5, f6⟩, hrowA⟩ := HA.out.one (P := Try.prog) 43 25 und_rows cell_row1 (k : Int) (by omega) (by omega)
            rw [Int.toNat_natCast] at hrowA
            have hmA : gl al k ∈ al := gl_mem (by rw [HLa.out]; exact hlt)
            have hnA : nA ≤ 36 := by have h1 := HhA36.out _ hmA; have h2 := hrowA.len; omega
            have HTa := Lib.hid (fun W (h : Ext w W) => spec_l03Table M aA nA cA (gl al k) W (hrowA.ext h) hM hM2 hnA (Hhnn.out _ hmA))
            rw [HhG.out k hlt] at HTa
            have HTl := Lib.hid (show (tabA (M : Int) (G (gl ks k))).length = M by simp [tabA])
            clear hno f1 f2 hrowA hmA HRow
            go_upto_region 15 with (at_builtin; refine law_append1_at _ rfl _ _ 169 rfl 3 (.int .i64 0) 8 und_nsW info_nW rfl w.heap.size fa z fc (I fi) (.int .i64 (k : Int)) rfl rfl rfl HD1.out.k hle1 (by omega) (by omega) ?_; intro fa' fc' w5 ho5 hb5 hg5 hk5; have HD5 := Lib.hid (HD1.out.know hb5 hg5 ho5 hk5); have HZ5 := Lib.hid (HZ1.out.grown hg5 (row_ne_s (HD1.out.k.ne_s HZ1.out (by decide)))); have hle5 : w1.heap.size ≤ w5.heap.size := hb5.size; clear ho5 hb5 hg5 hk5)
            have hxw5 : Ext w w5 := HD5.out.h
            have hq5 : q < w5.heap.size := HD5.out.s.lt
            have hml : ((addF ks k).1.map (fun x => tabA (M : Int) (G x))).length = z := by rw [List.length_map]; exact HL.out
            have HBl := Lib.hid (show (∀ g, ad = some g → g.block < w5.heap.size) ∧ (∀ g, pd = some g → g.block < w5.heap.size) ∧ (∀ g, fa' = some g → g.block < w5.heap.size) from ⟨own_blk HD5.out.o, own_blk HD5.out.p, own_blk HD5.out.k⟩)
            obtain ⟨C0, hC0⟩ : ∃ C : World → Prop, C = fun w' => Ext w w' ∧ SAt w' q 27 #[.int .i64 base, .int .i64 M, .int .i64 0, .int .i64 target, .slice ad z cc, .slice pd k pc] := ⟨_, rfl⟩
            have hin : C0 w5.drew := by rw [hC0]; exact ⟨hxw5.drew, HD5.out.s.drew⟩
            have hpk : ∀ z', Ext w (World.pk C0 w5.drew z') ∧ SAt (World.pk C0 w5.drew z') q 27 #[.int .i64 base, .int .i64 M, .int .i64 0, .int .i64 target, .slice ad z cc, .slice pd k pc] := fun z' => by have := pk_in hin z'; rw [hC0] at this; rw [hC0]; exact this
            have k4 : ∀ z', (World.pk C0 w5.drew z').cell? ⟨q, 4, none⟩ = some (.slice ad z cc) := fun z' => (hpk z').2.cell 4 (by simp)
            have k6 : ∀ z', (World.pk C0 w5.drew z').cell? ⟨bA, oA, none⟩ = some (.slice aA nA cA) := fun z' => f6 _ (hpk z').1
            have HTb := Lib.hid (HTa.out w5.drew hxw5.drew)
            clear f6
            have Hhpk := Lib.hid hpk; clear hpk; have Hhin := Lib.hid hin; clear hin; have HhC0 := Lib.hid hC0; clear hC0
            refine wp_region_pk C0 11 Hhin.out rfl (by kernel_rfl) (by kernel_rfl) (by kernel_rfl) (by kernel_rfl) ?_
            simp only [List.take_succ_cons, List.take_zero, List.drop_succ_cons, List.drop_zero]
            (repeat (first | (refine mix_q rfl ?_; go_big_quiet_step (fail); refine wpQuiet_nil ?_; show wpMix _ _ _ _ _ _ _) | (refine mix_s rfl ?_; go_wp2_with (first
              | (go_at_call 180; (with_reducible refine HTb.out.mono ?_); rintro e w6 ⟨ta, tc, rfl, hm6, hy6⟩; rw [HTl.out] at hm6 ⊢; have HM6 := Lib.hid hm6; have HD6 := Lib.hid (HD5.out.ext (Ext.trans ((Ext.refl w5).drew) hy6)); have HZ6 := Lib.hid (HZ5.out.ext (Ext.trans ((Ext.refl w5).drew) hy6)); have hle6 := HD6.out.h.le; clear hm6 hy6)
              | (at_builtin; refine law_append1_at w6 rfl _ _ 24 rfl 43 (.slice none 0 0) 24 und_cub2 info_tab2 rfl w.heap.size ad z cc _ _ rfl rfl (by simp [Act.eval, go_sem]) HD6.out.o hle6 (by omega) (by omega) ?_; intro ad' cc' w7 ho7 hb7 hg7 hk7; have HD7 := Lib.hid (HD6.out.app hml HM6.out hq5 HBl.out.1 HBl.out.2.1 HBl.out.2.2 hb7 hg7 ho7 hk7); have HZ7 := Lib.hid (HZ6.out.grown hg7 (row_ne_s (HD6.out.o.ne_s HZ6.out (by decide)))); clear hb7 hg7 ho7 hk7)); first | refine ⟨pk_of (by rw [HhC0.out]; exact ⟨HD7.out.h, HD7.out.s⟩), ?_⟩ | refine ⟨rfl, rfl, pk_of (by rw [HhC0.out]; exact ⟨HD7.out.h, HD7.out.s⟩), ?_⟩ | refine ⟨pk_of (by rw [HhC0.out]; exact ⟨HD6.out.h, HD6.out.s⟩), ?_⟩ | refine ⟨rfl, rfl, pk_of (by rw [HhC0.out]; exact ⟨HD6.out.h, HD6.out.s⟩), ?_⟩ | refine ⟨pk_of (by rw [HhC0.out]; exact ⟨HD6.out.h.alloc _, HD6.out.s.alloc _⟩), ?_⟩ | refine ⟨rfl, rfl, pk_of (by rw [HhC0.out]; exact ⟨HD6.out.h.alloc _, HD6.out.s.alloc _⟩), ?_⟩)))
            refine mix_nil ?_
            have c4 := HD7.out.s.cell 4 (by simp)
            have fr7 := HD7.out.s.frozen 4
            have hlt7 := HD7.out.s.lt
            try simp only [List.getElem_toArray, List.getElem_cons_succ, List.getElem_cons_zero] at c4
            have HD8 := Lib.hid (HD7.out.set 4 (.slice ad' (z + 1) cc') rfl)
            have HZ8 := Lib.hid (HZ7.out.other (p := ⟨q, 4, none⟩) (.slice ad' (z + 1) cc') (by simp only; omega))
            have hle8 := HD8.out.h.le
            have c58 := HD8.out.s.cell 5 (by simp)
            have fr8 := fun j => HD8.out.s.frozen j
            have hlt8 := HD8.out.s.lt
            try simp only [List.getElem_toArray, List.getElem_cons_succ, List.getElem_cons_zero] at c58
            go_wp2_with (at_builtin; refine law_append1_at _ rfl _ _ 25 rfl 2 (.int .i64 0) 8 und_int64s info_int64 rfl w.heap.size pd k pc _ _ rfl rfl (by simp [Act.eval, go_sem]) HD8.out.p hle8 (by omega) (by omega) ?_; intro pd' pc' w9 ho9 hb9 hg9 hk9; have HD9 := Lib.hid (HD8.out.put hb9 hg9 ho9 hk9); have HZ9 := Lib.hid (HZ8.out.grown hg9 (row_ne_s (HD8.out.p.ne_s HZ8.out (by decide)))); have c59 := HD9.out.s.cell 5 (by simp); have fr9 := fun j => HD9.out.s.frozen j; have hlt9 := HD9.out.s.lt; clear ho9 hb9 hg9 hk9; (try simp only [List.getElem_toArray, List.getElem_cons_succ, List.getElem_cons_zero] at c59))
            refine ⟨⟨k + 1, z + 1, fa', fc', fi ++ [(k : Int)], ad', cc', vs ++ [.slice ta M tc], pd', pc', by omega, by go_num, rfl, by rw [Hid, HE.out, List.length_append, HL.out, List.length_singleton], ?_, HZ9.out.other _ (by simp only; omega), ?_⟩, by simp [intOf]; omega⟩
            · rw [Hid, HE.out, HL.out, List.map_append, I_append]; exact HD9.out.set 5 (.slice pd' (k + 1) pc') rfl
            · rw [Hid, HE.out]
              have hfl : fi.length = z := by have := HD1.out.k.len; rwa [I_len] at this
              intro j hj
              by_cases hjz : j < z
              · have := HFi.out j hjz
                rw [gi_ltW (by omega), gl_lt (by rw [HL.out]; exact hjz)]
                exact this
              · obtain rfl : j = z := by omega
                rw [gi_lastW hfl, gl_last HL.out, Int.toNat_natCast]
                exact ⟨by omega, by omega, rfl⟩
    · obtain rfl : k = n := by omega
      have c0 := HD.out.s.cell 0 (by simp)
      have c1 := HD.out.s.cell 1 (by simp)
      have c2 := HD.out.s.cell 2 (by simp)
      have c3 := HD.out.s.cell 3 (by simp)
      have c4 := HD.out.s.cell 4 (by simp)
      have c5 := HD.out.s.cell 5 (by simp)
      have z0 := HZ.out.cell 0 (by simp)
      have z1 := HZ.out.cell 1 (by simp)
      have z2 := HZ.out.cell 2 (by simp)
      have z3 := HZ.out.cell 3 (by simp)
      have z4 := HZ.out.cell 4 (by simp)
      have z5 := HZ.out.cell 5 (by simp)
      have fr := fun j => HZ.out.frozen j
      have hltz := HZ.out.lt
      try simp only [List.getElem_toArray, List.getElem_cons_succ, List.getElem_cons_zero] at c0 c1 c2 c3 c4 c5 z0 z1 z2 z3 z4 z5
      clear hlt
      go_wp2
      refine bodyPost_ret (v := .agg #[.int .i64 base, .int .i64 (M : Int), .int .i64 0, .int .i64 target, .slice ad z cc, .slice pd k pc]) ?_ rfl ?_
      · simp [results, Try.results146, go_sem, z0, z1, z2, z3, z4, z5]
      · have d := HD.out
        have hz := HZ.out
        have d5 := (((((d.setZ hz hqq hwq1 0 (.int .i64 base)).setZ (hz.set 0 (.int .i64 base)) hqq hwq1 1 (.int .i64 (M : Int))).setZ ((hz.set 0 (.int .i64 base)).set 1 (.int .i64 (M : Int))) hqq hwq1 2 (.int .i64 0)).setZ (((hz.set 0 (.int .i64 base)).set 1 (.int .i64 (M : Int))).set 2 (.int .i64 0)) hqq hwq1 3 (.int .i64 target)).setZ ((((hz.set 0 (.int .i64 base)).set 1 (.int .i64 (M : Int))).set 2 (.int .i64 0)).set 3 (.int .i64 target)) hqq hwq1 4 (.slice ad z cc)).setZ (((((hz.set 0 (.int .i64 base)).set 1 (.int .i64 (M : Int))).set 2 (.int .i64 0)).set 3 (.int .i64 target)).set 4 (.slice ad z cc)) hqq hwq1 5 (.slice pd k pc)
        have hD : keyCh base (M : Int) target ks G = ⟨base, M, 0, target, (addF ks k).1.map (fun x => tabA M (G x)), (addF ks k).2⟩ := by rw [keyCh, HLn.out]
        have hs := Hhsm.out
        rw [hD] at hs ⊢
        exact ⟨ad, z, cc, pd, k, pc, rfl, fun V hV => d5.chInK (by rw [List.length_map]; exact HL.out) (by omega) (by omega) hs hV, d5.h⟩
end Go.Proofs.Ytaiieodllhoelaa

/- Walks: the chain of a weighting, in the reference: its keys and what they add. -/
namespace Go.Proofs.Ytaiieodllhoelaa
set_option maxRecDepth 100000
open Go.RowKit

/-- the keys of a weighting -/
def keyL (ws : List Int) : List (List Int) := ws.map fun x => [x]
theorem keyL_len (ws : List Int) : (keyL ws).length = ws.length := by simp [keyL]
theorem keyL_gl {ws : List Int} {i : Nat} (h : i < ws.length) : gl (keyL ws) i = [gi ws i] := by
  rw [gl_get (by rw [keyL_len]; exact h)]; simp [keyL, gi_get h]
theorem keyL_step {ws : List Int} {k : Nat} (h : k < ws.length) : (keyL ws).take (k + 1) = (keyL ws).take k ++ [[gi ws k]] := by
  rw [List.take_succ_eq_append_getElem (by rw [keyL_len]; exact h)]; simp [keyL, gi_get h]
def addsL (base : Nat) (m : Int) (ws : List Int) : List (List Int) := ws.map (adL base m)
theorem addsL_len (base : Nat) (m : Int) (ws : List Int) : (addsL base m ws).length = ws.length := by simp [addsL]
theorem addsL_step {base : Nat} {m : Int} {ws : List Int} {k : Nat} (h : k < ws.length) : (addsL base m ws).take (k + 1) = (addsL base m ws).take k ++ [adL base m (gi ws k)] := by
  rw [List.take_succ_eq_append_getElem (by rw [addsL_len]; exact h)]; simp [addsL, gi_get h]
theorem addsL_gl {base : Nat} {m : Int} {ws : List Int} {i : Nat} (h : i < ws.length) : gl (addsL base m ws) i = adL base m ((gl (keyL ws) i).headD 0) := by
  rw [keyL_gl h, gl_get (by rw [addsL_len]; exact h)]; simp [addsL, gi_get h]
/-- both chains of a weighting are one -/
theorem key_wt {X : Wt} (h : validB X = true) : keyCh X.base X.modulus X.target (keyL X.weights) (fun k => adL X.base.toNat X.modulus (k.headD 0)) = wtCh X := by
  have hok := validB_addOk h
  have hb := hok.b2
  have hinj : ∀ x ∈ keyL X.weights, ∀ y ∈ keyL X.weights, wgL X.base.toNat (x.headD 0) = wgL X.base.toNat (y.headD 0) → x = y := by
    intro x hx y hy he
    obtain ⟨a, _, rfl⟩ := List.mem_map.1 hx
    obtain ⟨b, _, rfl⟩ := List.mem_map.1 hy
    simp only [List.headD_cons] at he
    have h1 : gi (wgL X.base.toNat a) 1 = gi (wgL X.base.toNat b) 1 := by rw [he]
    rw [gi_get (by rw [wgL_len]; omega), gi_get (by rw [wgL_len]; omega)] at h1
    simp [wgL] at h1
    rw [h1]
  have hmap : X.weights.map (wgL X.base.toNat) = (keyL X.weights).map fun k => wgL X.base.toNat (k.headD 0) := by simp [keyL]
  have hf := addF_map (g := fun k => wgL X.base.toNat (k.headD 0)) (keyL X.weights) hinj (keyL X.weights).length (Nat.le_refl _)
  unfold wtCh addCh keyCh
  rw [hmap, List.length_map, hf]
  simp only [List.map_map]
  congr 1
  refine List.map_congr_left fun k _ => ?_
  show tabA X.modulus (adL X.base.toNat X.modulus (k.headD 0)) = tabA X.modulus (wgL X.base.toNat (k.headD 0))
  unfold tabA
  refine List.map_congr_left fun s _ => ?_
  unfold rowA adL wgL
  rw [List.map_map, List.map_map]
  refine List.map_congr_left fun d _ => ?_
  simp only [Function.comp, Int.add_emod_emod]
set_option maxHeartbeats 4000000 in
theorem spec_l03Weights (q : Nat) (X : Wt) (a : Option Addr) (n c : Nat) (w : World) (h : IsWt w q X a n c) (hval : validB X = true) :
    Calls Try.prog 96 #[.pointer (some ⟨q, 0, none⟩)] w (RetChO (wtCh X) w) := by
  have HOK := Lib.hid (validB_addOk hval)
  have HLn := Lib.hid h.ws.len
  have hb := validB_base hval
  have hmo := validB_mod hval
  have hl := validB_len hval
  rw [HLn.out] at hl
  have HSm := Lib.hid (show ∀ x ∈ X.weights, 0 ≤ x ∧ x ≤ 36 from validB_small hval)
  obtain ⟨bs, hbs⟩ := Int.eq_ofNat_of_zero_le (show 0 ≤ X.base by omega)
  obtain ⟨M, hM⟩ := Int.eq_ofNat_of_zero_le (show 0 ≤ X.modulus by omega)
  have hbs36 : 2 ≤ bs ∧ bs ≤ 36 := by omega
  have hM36 : 2 ≤ M ∧ M ≤ 36 := by omega
  obtain ⟨bW, oW, hixW, hcellW⟩ := h.ws.ix (P := Try.prog) 25 2 und_int64s cell_int64
  have c0 : ∀ w', Ext w w' → w'.cell? ⟨q, 0, none⟩ = some (.int .i64 bs) := fun w' hx => hbs ▸ hx.cell h.c0
  have c1 : ∀ w', Ext w w' → w'.cell? ⟨q, 1, none⟩ = some (.int .i64 M) := fun w' hx => hM ▸ hx.cell h.c1
  have c2 : ∀ w', Ext w w' → w'.cell? ⟨q, 2, none⟩ = some (.int .i64 X.target) := fun w' hx => hx.cell h.c2
  have c3 : ∀ w', Ext w w' → w'.cell? ⟨q, 3, none⟩ = some (.slice a n c) := fun w' hx => hx.cell h.c3
  have HWe := Lib.hid (fun x (hx : x ∈ X.weights) W => spec_l03Adds bs x M W (by omega) (HSm.out x hx).1 (HSm.out x hx).2 (by omega))
  have HD := Lib.hid (show wtCh X = keyCh bs M X.target (keyL X.weights) (fun k => adL bs M (k.headD 0)) by rw [← key_wt hval, hbs, hM, Int.toNat_natCast])
  have HSmall := Lib.hid (show SmallCh (wtCh X) from addCh_small HOK.out)
  rw [HD.out] at HSmall
  have HLc := Lib.hid (fun ka kc aa ac W (hk : Mat W ka n kc (keyL X.weights)) (ha : Mat W aa n ac (addsL bs M X.weights)) => spec_l03Chain bs X.target M ka n kc (keyL X.weights) aa ac (addsL bs M X.weights) (fun k => adL bs M (k.headD 0)) W hk ha
    (fun i hi => addsL_gl (by rw [HLn.out]; exact hi)) (by omega) (by omega) (by omega)
    (fun l hl => by obtain ⟨x, _, rfl⟩ := List.mem_map.1 hl; simp)
    (fun l hl => by obtain ⟨x, _, rfl⟩ := List.mem_map.1 hl; rw [adL_len]; omega)
    (fun l hl y hy => by
      obtain ⟨x, _, rfl⟩ := List.mem_map.1 hl
      obtain ⟨d, _, rfl⟩ := List.mem_map.1 hy
      have h1 := Int.emod_nonneg (x * (d : Int)) (show (M : Int) ≠ 0 by omega)
      have h2 := Int.emod_lt_of_pos (x * (d : Int)) (show 0 < (M : Int) by omega)
      omega) HSmall.out)
  have e0 := c0 w (Ext.refl _)
  have e1 := c1 w (Ext.refl _)
  have e2 := c2 w (Ext.refl _)
  have e3 := c3 w (Ext.refl _)
  clear h hval hbs hM
  rw [HD.out]
  go_enter Try.func96, Try.ntmps96
  go_wp2_with fail
  obtain ⟨g, hg⟩ : ∃ g, g = w.heap.size := ⟨_, rfl⟩
  obtain ⟨wz, hwz⟩ : ∃ W, W = ((w.alloc (.cells #[.int .i64 0, .int .i64 0, .int .i64 0, .int .i64 0, .slice none 0 0, .slice none 0 0] 27)).alloc (.cells #[] 25)).alloc (.cells #[] 25) := ⟨_, rfl⟩
  have hxz : Ext w wz := by rw [hwz]; exact (by repeat (first | (with_reducible exact Ext.refl _) | (with_reducible refine Ext.drewN ?_ _) | (with_reducible refine Ext.drew ?_) | (with_reducible refine Ext.alloc ?_ _) | ((with_reducible refine Ext.setCell ?_ ?_ _); rotate_left; focus (first | (simp; done) | (simp; omega) | omega)) | assumption | (with_reducible refine Ext.trans ?_ (by assumption))))
  have HZ := Lib.hid (show SAt wz g 27 #[.int .i64 0, .int .i64 0, .int .i64 0, .int .i64 0, .slice none 0 0, .slice none 0 0] from by rw [hwz, hg]; exact ((SAt.new' w #[.int .i64 0, .int .i64 0, .int .i64 0, .int .i64 0, .slice none 0 0, .slice none 0 0] 27 rfl).alloc _).alloc _)
  have hgw : w.heap.size ≤ g := by omega
  have HK0 := Lib.hid (show OwnMat wz w.heap.size 25 2 (some ⟨g + 1, 0, none⟩) 0 0 [] from by
    rw [hwz, hg]
    refine ⟨rfl, [], ?_, fun k hk => by omega⟩
    exact (Own.lit0' (w.alloc (.cells #[.int .i64 0, .int .i64 0, .int .i64 0, .int .i64 0, .slice none 0 0, .slice none 0 0] 27)) 25 (by omega) (by simp)).alloc' _)
  have HA0 := Lib.hid (show OwnMat wz w.heap.size 25 2 (some ⟨g + 1 + 1, 0, none⟩) 0 0 [] from by
    rw [hwz, hg]
    exact ⟨rfl, [], Own.lit0' _ 25 (by omega) (by simp), fun k hk => by omega⟩)
  have hap0 : Apa (some ⟨g + 1, 0, none⟩) (some ⟨g + 1 + 1, 0, none⟩) := fun x y hx hy => by cases hx; cases hy; simp only; omega
  rw [← hwz, ← hg]
  clear hwz hg
  go_loopw [3, 4, 5] (fun v3 v4 v5 wr => ∃ (k : Nat) (ka : Option Addr) (kc : Nat) (aa : Option Addr) (ac : Nat), k ≤ n ∧ v5 = .int .i64 k ∧ v3 = .slice ka k kc ∧ v4 = .slice aa k ac ∧ Hid (OwnMat wr w.heap.size 25 2 ka k kc ((keyL X.weights).take k)) ∧ Hid (OwnMat wr w.heap.size 25 2 aa k ac ((addsL bs M X.weights).take k)) ∧ Hid (Apa ka aa) ∧ Hid (SAt wr g 27 #[.int .i64 0, .int .i64 0, .int .i64 0, .int .i64 0, .slice none 0 0, .slice none 0 0]) ∧ Ext w wr) (fun _ _ v5 _ => n - (intOf v5).toNat)
  case atStart => exact ⟨0, _, _, _, _, Nat.zero_le _, rfl, rfl, rfl, HK0.out, HA0.out, hap0, HZ.out, hxz⟩
  case round =>
    obtain ⟨k, ka, kc, aa, ac, hk, rfl, rfl, rfl, HK, HA, HP, HZr, hxr⟩ := hrel
    have hle : w.heap.size ≤ wr.heap.size := hxr.le
    by_cases hlt : k < n
    · have hkl : k < X.weights.length := by rw [HLn.out]; exact hlt
      have HMem := Lib.hid (gi_mem hkl)
      have HN1 := Lib.hid (keyL_step hkl)
      have HN2 := Lib.hid (addsL_step (base := bs) (m := (M : Int)) hkl)
      have hxx : Ext wr wr := Ext.refl _
      obtain ⟨kvs, hkv, hkp⟩ := (HK.out.ext ((Ext.refl wr).alloc (.cells #[.int .i64 (gi X.weights k)] 2))).rows
      have HKV := Lib.hid hkv
      have HKP := Lib.hid hkp
      have HKl := Lib.hid HK.out.len
      have HAv := Lib.hid (HA.out.ext ((Ext.refl wr).alloc (.cells #[.int .i64 (gi X.weights k)] 2)))
      have HZv := Lib.hid (HZr.out.alloc (.cells #[.int .i64 (gi X.weights k)] 2))
      have HNew := Lib.hid (show Own (wr.alloc (.cells #[.int .i64 (gi X.weights k)] 2)) w.heap.size 2 (some ⟨wr.heap.size, 0, none⟩) 1 1 (I [gi X.weights k]) from (own_lit1 wr 2 _).mono hle)
      have hxv : Ext w (wr.alloc (.cells #[.int .i64 (gi X.weights k)] 2)) := hxr.alloc _
      clear hkv hkp
      go_upto_region 7 with (at_builtin; refine law_append1_at _ rfl _ _ 43 rfl 25 (.slice none 0 0) 24 und_rows info_row2 rfl w.heap.size ka k kc kvs _ rfl rfl (by simp [Act.eval, go_sem]) HKV.out hxv.le (by omega) (by omega) ?_; intro ka' kc' w5 ho5 hb5 hg5 hk5; have HK5 := Lib.hid (OwnMat.push HKl.out HKP.out HKV.out HNew.out ho5 hg5 (by decide)); have HA5 := Lib.hid (mat_apa HP.out HKV.out HAv.out hg5 (by decide)); have HZ5 := Lib.hid (HZv.out.grown hg5 (row_ne_s (HKV.out.ne_s HZv.out (by decide)))); have hx5 : Ext w w5 := Ext.below hxv hb5; have HP5 := Lib.hid (show Apa ka' aa from by obtain ⟨us, hu, _⟩ := HAv.out.rows; exact apa_put HP.out hu hk5); clear ho5 hb5 hg5 hk5)
      clear HK HA HP HZr HKV HKP HAv HZv HNew HKl
      obtain ⟨avs, hav, hapr⟩ := HA5.out.rows
      have HAl := Lib.hid HA5.out.len
      have HAV := Lib.hid hav
      have HAP := Lib.hid hapr
      clear hav hapr
      have hh : hixW = hixW := rfl
      clear hh
      have hww5 : Ext w w5 := hx5
      (refine wp_region_from w (by repeat (first | (with_reducible exact Ext.refl _) | (with_reducible refine Ext.drewN ?_ _) | (with_reducible refine Ext.drew ?_) | (with_reducible refine Ext.alloc ?_ _) | ((with_reducible refine Ext.setCell ?_ ?_ _); rotate_left; focus (first | (simp; done) | (simp; omega) | omega)) | assumption | (with_reducible refine Ext.trans ?_ (by assumption)))) (by kernel_rfl) (by kernel_rfl) (by kernel_rfl) ?_; (repeat (first | (refine mix_q rfl ?_; go_big_quiet_step (fail); refine wpQuiet_nil ?_; show wpMix _ _ _ _ _ _ _) | (refine mix_s rfl ?_; go_wp2_with (first | (go_at_call 145; (with_reducible refine (HWe.out _ HMem.out _).mono ?_); rintro e w6 ⟨ra, rc, rfl, ho6, hy6⟩; rw [I_len, adL_len] at ho6 ⊢; have hx56 : Ext w5 w6 := Ext.trans ((Ext.refl w5).drew) hy6; have HR6 := Lib.hid (ho6.mono (show w.heap.size ≤ w5.drew.heap.size from hx5.le)); have HAV6 := Lib.hid (HAV.out.ext hx56); have HAP6 := Lib.hid (fun j hj => by obtain ⟨a', n', c', h1, h2⟩ := HAP.out j hj; exact (⟨a', n', c', h1, h2.ext hx56⟩ : ∃ a' n' c', gv avs j = .slice a' n' c' ∧ Own w6 w.heap.size 2 a' n' c' (I (gl ((addsL bs (M : Int) X.weights).take k) j)))); have HK6 := Lib.hid (HK5.out.ext hx56); have HZ6 := Lib.hid (HZ5.out.ext hx56); have hx6 : Ext w w6 := hx5.trans hx56; clear ho6 hy6) | (at_builtin; refine law_append1_at w6 rfl _ _ 43 rfl 25 (.slice none 0 0) 24 und_rows info_row2 rfl w.heap.size aa k ac avs _ rfl rfl (by simp [Act.eval, go_sem]) HAV6.out hx6.le (by omega) (by omega) ?_; intro aa' ac' w8 ho8 hb8 hg8 hk8; have HA8 := Lib.hid (OwnMat.push HAl.out HAP6.out HAV6.out HR6.out ho8 hg8 (by decide)); have HK8 := Lib.hid (mat_apa HP5.out.symm HAV6.out HK6.out hg8 (by decide)); have HZ8 := Lib.hid (HZ6.out.grown hg8 (row_ne_s (HAV6.out.ne_s HZ6.out (by decide)))); have hx8 : Ext w w8 := Ext.below hx6 hb8; have HP8 := Lib.hid (show Apa ka' aa' from by obtain ⟨us, hu, _⟩ := HK6.out.rows; exact (apa_put HP5.out.symm hu hk8).symm); clear ho8 hb8 hg8 hk8)); first | refine ⟨up_of (by repeat (first | (with_reducible exact Ext.refl _) | (with_reducible refine Ext.drewN ?_ _) | (with_reducible refine Ext.drew ?_) | (with_reducible refine Ext.alloc ?_ _) | ((with_reducible refine Ext.setCell ?_ ?_ _); rotate_left; focus (first | (simp; done) | (simp; omega) | omega)) | assumption | (with_reducible refine Ext.trans ?_ (by assumption)))), ?_⟩ | refine ⟨rfl, rfl, up_of (by repeat (first | (with_reducible exact Ext.refl _) | (with_reducible refine Ext.drewN ?_ _) | (with_reducible refine Ext.drew ?_) | (with_reducible refine Ext.alloc ?_ _) | ((with_reducible refine Ext.setCell ?_ ?_ _); rotate_left; focus (first | (simp; done) | (simp; omega) | omega)) | assumption | (with_reducible refine Ext.trans ?_ (by assumption)))), ?_⟩))); refine mix_nil ?_)
      go_wp2_with fail
      exact ⟨⟨k + 1, ka', kc', aa', ac', by omega, by go_num, rfl, rfl, by rw [Hid, HN1.out]; exact HK8.out, by rw [Hid, HN2.out]; exact HA8.out, HP8.out, HZ8.out, hx8⟩, by simp [intOf]; omega⟩
    · obtain rfl : k = n := by omega
      have HKm := Lib.hid (show Mat wr ka k kc (keyL X.weights) from by have h := HK.out.mat; rwa [take_full (by rw [keyL_len, HLn.out]; exact Nat.le_refl _)] at h)
      have HAm := Lib.hid (show Mat wr aa k ac (addsL bs M X.weights) from by have h := HA.out.mat; rwa [take_full (by rw [addsL_len, HLn.out]; exact Nat.le_refl _)] at h)
      have hgr := HZr.out.lt
      generalize hDD : keyCh (bs : Int) (M : Int) X.target (keyL X.weights) (fun k => adL bs (M : Int) (k.headD 0)) = DD at *
      go_wp2_with fail
      go_region_held3 (fun w' => Ext w w') ((exact (by repeat (first | (with_reducible exact Ext.refl _) | (with_reducible assumption) | (with_reducible refine Ext.drewN ?_ _) | (with_reducible refine Ext.drew ?_) | (with_reducible refine Ext.alloc ?_ _) | ((with_reducible refine Ext.setCell ?_ ?_ _); rotate_left; focus (first | (simp; done) | (simp; omega) | omega)) | (with_reducible refine Ext.trans ?_ (by with_reducible assumption)))))) ((go_at_call 146; (with_reducible refine (HLc.out _ _ _ _ _ (HKm.out.ext (by repeat (first | (with_reducible exact Ext.refl _) | (with_reducible assumption) | (with_reducible refine Ext.drewN ?_ _) | (with_reducible refine Ext.drew ?_) | (with_reducible refine Ext.alloc ?_ _) | ((with_reducible refine Ext.setCell ?_ ?_ _); rotate_left; focus (first | (simp; done) | (simp; omega) | omega)) | (with_reducible refine Ext.trans ?_ (by with_reducible assumption))))) (HAm.out.ext (by repeat (first | (with_reducible exact Ext.refl _) | (with_reducible assumption) | (with_reducible refine Ext.drewN ?_ _) | (with_reducible refine Ext.drew ?_) | (with_reducible refine Ext.alloc ?_ _) | ((with_reducible refine Ext.setCell ?_ ?_ _); rotate_left; focus (first | (simp; done) | (simp; omega) | omega)) | (with_reducible refine Ext.trans ?_ (by with_reducible assumption)))))).mono ?_); rintro e w8 ⟨a8, x8, d8, b8, y8, g8, rfl, hch, hy8⟩; have hx8 : Ext w w8 := Ext.trans hxr (Ext.trans (by repeat (first | (with_reducible exact Ext.refl _) | (with_reducible assumption) | (with_reducible refine Ext.drewN ?_ _) | (with_reducible refine Ext.drew ?_) | (with_reducible refine Ext.alloc ?_ _) | ((with_reducible refine Ext.setCell ?_ ?_ _); rotate_left; focus (first | (simp; done) | (simp; omega) | omega)) | (with_reducible refine Ext.trans ?_ (by with_reducible assumption)))) hy8); have HCh := Lib.hid hch; have HZ8 := Lib.hid (HZr.out.ext (Ext.trans (by repeat (first | (with_reducible exact Ext.refl _) | (with_reducible assumption) | (with_reducible refine Ext.drewN ?_ _) | (with_reducible refine Ext.drew ?_) | (with_reducible refine Ext.alloc ?_ _) | ((with_reducible refine Ext.setCell ?_ ?_ _); rotate_left; focus (first | (simp; done) | (simp; omega) | omega)) | (with_reducible refine Ext.trans ?_ (by with_reducible assumption)))) hy8)); have z0 := HZ8.out.cell 0 (by simp); have z1 := HZ8.out.cell 1 (by simp); have z2 := HZ8.out.cell 2 (by simp); have z3 := HZ8.out.cell 3 (by simp); have z4 := HZ8.out.cell 4 (by simp); have z5 := HZ8.out.cell 5 (by simp); have fr := fun j => HZ8.out.frozen j; have hltz := HZ8.out.lt; (try simp only [List.getElem_toArray, List.getElem_cons_succ, List.getElem_cons_zero] at z0 z1 z2 z3 z4 z5); clear hch))
      go_wp2_with fail
      refine bodyPost_ret (v := .agg #[.int .i64 DD.base, .int .i64 DD.states, .int .i64 DD.start, .int .i64 DD.fin, .slice a8 x8 d8, .slice b8 y8 g8]) ?_ rfl ?_
      · simp [results, Try.results96, go_sem, z0, z1, z2, z3, z4, z5]
      · rw [hDD]
        refine ⟨a8, x8, d8, b8, y8, g8, rfl, fun V hV => HCh.out V (KeepB.trans ?_ (hV.mono ?_ ?_)), ?_⟩
        · repeat (first | with_reducible exact KeepB.refl _ _ _ | (with_reducible refine KeepB.setB ?_ _ _ (Or.inl ?_); rotate_left; (focus (simp <;> omega))))
        · simp <;> omega
        · simp
        · assumption
end Go.Proofs.Ytaiieodllhoelaa

/- Walks: joined chains, in the reference. -/
namespace Go.Proofs.Ytaiieodllhoelaa
set_option maxRecDepth 100000
open Go.RowKit

/-- the joined chain, and yes -/
def RetJoinK (C D : Ch) (w : World) (e : Ending) (w' : World) : Prop :=
  ∃ a x c b y d, e = .returned (.tuple #[.agg #[.int .i64 (joinCh C D).base, .int .i64 (joinCh C D).states, .int .i64 (joinCh C D).start, .int .i64 (joinCh C D).fin, .slice a x c, .slice b y d], .bool true]) ∧ (∀ V, KeepB w.heap.size w'.heap.size w' V → ChIn V (joinCh C D) a x c b y d) ∧ Ext w w'
set_option maxHeartbeats 8000000 in
theorem spec_JoinYes (C D : Ch) (a : Option Addr) (n c : Nat) (b : Option Addr) (m d : Nat) (a2 : Option Addr) (n2 c2 : Nat) (b2 : Option Addr) (d2 : Nat) (w : World) (hC : ChIn w C a n c b m d) (hD : ChIn w D a2 n2 c2 b2 m d2) (hf : Fit C D) (hvc : validCh C = true) (hvd : validCh D = true) :
    Calls Try.prog 95 #[.agg #[.int .i64 C.base, .int .i64 C.states, .int .i64 C.start, .int .i64 C.fin, .slice a n c, .slice b m d], .agg #[.int .i64 D.base, .int .i64 D.states, .int .i64 D.start, .int .i64 D.fin, .slice a2 n2 c2, .slice b2 m d2]] w (RetJoinK C D w) := by
  have HF := Lib.hid hf
  have HPC := Lib.hid hC.ps.len
  have HIC := Lib.hid hC
  have HID := Lib.hid hD
  have hs1 := hf.c.s1
  have hs2 := hf.d.s1
  have hs3 := hf.c.s36
  have hs4 := hf.d.s36
  have hb2 := hf.c.b2
  have hb36 := hf.c.b36
  have hst := two_bd hf.c.st0 hf.c.st1 hf.d.st0 hf.d.st1
  have hfi := two_bd hf.c.en0 hf.c.en1 hf.d.en0 hf.d.en1
  have hm1 := hf.c.p1
  have hm20 := hf.c.p20
  have h36 := hf.s
  have hst0 : 0 ≤ C.start * D.states ∧ C.start * D.states ≤ 36 := by have h1 := hf.d.st0; have h2 := hf.d.st1; have h3 : 0 ≤ C.start * D.states := Int.mul_nonneg hf.c.st0 (by omega); omega
  have hfi0 : 0 ≤ C.fin * D.states ∧ C.fin * D.states ≤ 36 := by have h1 := hf.d.en0; have h2 := hf.d.en1; have h3 : 0 ≤ C.fin * D.states := Int.mul_nonneg hf.c.en0 (by omega); omega
  have hpos : 1 ≤ C.states * D.states := by have := Int.mul_pos (show 0 < C.states by omega) (show 0 < D.states by omega); omega
  rw [HPC.out] at hm1 hm20
  have HB := Lib.hid hf.b
  have HVc := Lib.hid hvc
  have HVd := Lib.hid hvd
  clear hC hD hf hvc hvd
  go_enter Try.func95, Try.ntmps95
  go_wp2_with fail
  obtain ⟨wb, hwb⟩ : ∃ wb, wb = ((w.alloc (.cells #[.int .i64 C.base, .int .i64 C.states, .int .i64 C.start, .int .i64 C.fin, .slice a n c, .slice b m d] 27)).alloc (.cells #[.int .i64 D.base, .int .i64 D.states, .int .i64 D.start, .int .i64 D.fin, .slice a2 n2 c2, .slice b2 m d2] 27)).alloc (.cells #[.int .i64 0, .int .i64 0, .int .i64 0, .int .i64 0, .slice none 0 0, .slice none 0 0] 27) := ⟨_, rfl⟩
  have hxb : Ext w wb := by rw [hwb]; exact (by repeat (first | (with_reducible exact Ext.refl _) | (with_reducible refine Ext.drewN ?_ _) | (with_reducible refine Ext.drew ?_) | (with_reducible refine Ext.alloc ?_ _) | ((with_reducible refine Ext.setCell ?_ ?_ _); rotate_left; focus (first | (simp; done) | (simp; omega) | omega)) | assumption | (with_reducible refine Ext.trans ?_ (by assumption))))
  have HAC := Lib.hid (show ChAt wb w.heap.size C a n c b m d by rw [hwb]; exact ((HIC.out.box 27).ext ((Ext.refl _).alloc _)).ext ((Ext.refl _).alloc _))
  have HAD := Lib.hid (show ChAt wb (w.heap.size + 1) D a2 n2 c2 b2 m d2 by
    have h1 := (HID.out.ext ((Ext.refl w).alloc (.cells #[.int .i64 C.base, .int .i64 C.states, .int .i64 C.start, .int .i64 C.fin, .slice a n c, .slice b m d] 27))).box 27
    rw [show (w.alloc (.cells #[.int .i64 C.base, .int .i64 C.states, .int .i64 C.start, .int .i64 C.fin, .slice a n c, .slice b m d] 27)).heap.size = w.heap.size + 1 by simp] at h1
    rw [hwb]; exact h1.ext ((Ext.refl _).alloc _))
  have HZ := Lib.hid (show SAt wb (w.heap.size + 2) 27 #[.int .i64 0, .int .i64 0, .int .i64 0, .int .i64 0, .slice none 0 0, .slice none 0 0] by rw [hwb]; exact SAt.new' _ _ _ (by simp))
  have hq12 : w.heap.size + 1 + 1 = w.heap.size + 2 := rfl
  try rw [hq12]
  rw [← hwb]
  obtain ⟨q1, hq1⟩ : ∃ q, q = w.heap.size := ⟨_, rfl⟩
  rw [← hq1] at HAC HAD HZ ⊢
  have hq1l : w.heap.size ≤ q1 := by omega
  clear hwb hq1 hq12
  obtain ⟨k0, k1, k2, k3, k4, k5, _, _⟩ := HAC.out
  obtain ⟨j0, j1, j2, j3, j4, j5, _, _⟩ := HAD.out
  rw [← HB.out] at j0
  have HVC := Lib.hid (fun W (h : Ext wb W) => spec_l02Is C a n c b m d q1 W (HAC.out.ext h) HIC.out.hn HIC.out.hn' HIC.out.sm)
  have HVD := Lib.hid (fun W (h : Ext wb W) => spec_l02Is D a2 n2 c2 b2 m d2 (q1 + 1) W (HAD.out.ext h) HID.out.hn HID.out.hn' HID.out.sm)
  rw [HVc.out] at HVC
  rw [HVd.out] at HVD
  have hxbb : Ext wb wb := Ext.refl _
  go_wp2_with (first | ((with_reducible refine (HVC.out _ (by repeat (first | (with_reducible exact Ext.refl _) | (with_reducible assumption) | (with_reducible refine Ext.drewN ?_ _) | (with_reducible refine Ext.drew ?_) | (with_reducible refine Ext.alloc ?_ _) | ((with_reducible refine Ext.setCell ?_ ?_ _); rotate_left; focus (first | (simp; done) | (simp; omega) | omega)) | (with_reducible refine Ext.trans ?_ (by with_reducible assumption))))).mono ?_); rintro e w1 ⟨rfl, hy1⟩; have hx1 : Ext wb w1 := Ext.trans (by repeat (first | (with_reducible exact Ext.refl _) | (with_reducible assumption) | (with_reducible refine Ext.drewN ?_ _) | (with_reducible refine Ext.drew ?_) | (with_reducible refine Ext.alloc ?_ _) | ((with_reducible refine Ext.setCell ?_ ?_ _); rotate_left; focus (first | (simp; done) | (simp; omega) | omega)) | (with_reducible refine Ext.trans ?_ (by with_reducible assumption)))) hy1; clear hy1) | ((with_reducible refine (HVD.out _ (by repeat (first | (with_reducible exact Ext.refl _) | (with_reducible assumption) | (with_reducible refine Ext.drewN ?_ _) | (with_reducible refine Ext.drew ?_) | (with_reducible refine Ext.alloc ?_ _) | ((with_reducible refine Ext.setCell ?_ ?_ _); rotate_left; focus (first | (simp; done) | (simp; omega) | omega)) | (with_reducible refine Ext.trans ?_ (by with_reducible assumption))))).mono ?_); rintro e w3 ⟨rfl, hy3⟩; have hx3 : Ext wb w3 := Ext.trans (by repeat (first | (with_reducible exact Ext.refl _) | (with_reducible assumption) | (with_reducible refine Ext.drewN ?_ _) | (with_reducible refine Ext.drew ?_) | (with_reducible refine Ext.alloc ?_ _) | ((with_reducible refine Ext.setCell ?_ ?_ _); rotate_left; focus (first | (simp; done) | (simp; omega) | omega)) | (with_reducible refine Ext.trans ?_ (by with_reducible assumption)))) hy3; clear hy3))
  have hd36 : decide (36 < C.states * D.states) = false := decide_eq_false (by omega)
  try simp only [hd36]
  obtain ⟨q2, hq2⟩ : ∃ q, q = w3.heap.size + 2 := ⟨_, rfl⟩
  obtain ⟨SN, hSN⟩ := Int.eq_ofNat_of_zero_le (show 0 ≤ C.states * D.states by omega)
  obtain ⟨S1, hS1⟩ := Int.eq_ofNat_of_zero_le (show 0 ≤ C.states by omega)
  obtain ⟨S2, hS2⟩ := Int.eq_ofNat_of_zero_le (show 0 ≤ D.states by omega)
  have hS12 : S1 * S2 = SN := by rw [hS1, hS2] at hSN; exact_mod_cast hSN
  obtain ⟨st, hste⟩ : ∃ x, x = C.start * D.states + D.start := ⟨_, rfl⟩
  obtain ⟨fi, hfie⟩ : ∃ x, x = C.fin * D.states + D.fin := ⟨_, rfl⟩
  obtain ⟨bN, hbN⟩ := Int.eq_ofNat_of_zero_le (show 0 ≤ C.base by omega)
  obtain ⟨w4, hw4⟩ : ∃ W, W = ((w3.alloc (.cells #[] 43)).alloc (.cells #[] 2)).alloc (.cells #[.int .i64 C.base, .int .i64 (C.states * D.states), .int .i64 (C.start * D.states + D.start), .int .i64 (C.fin * D.states + D.fin), .slice (some ⟨w3.heap.size, 0, none⟩) 0 0, .slice (some ⟨w3.heap.size + 1, 0, none⟩) 0 0] 27) := ⟨_, rfl⟩
  have hx34 : Ext w3 w4 := by rw [hw4]; exact (by repeat (first | (with_reducible exact Ext.refl _) | (with_reducible refine Ext.drewN ?_ _) | (with_reducible refine Ext.drew ?_) | (with_reducible refine Ext.alloc ?_ _) | ((with_reducible refine Ext.setCell ?_ ?_ _); rotate_left; focus (first | (simp; done) | (simp; omega) | omega)) | assumption | (with_reducible refine Ext.trans ?_ (by assumption))))
  obtain ⟨z3, hz3⟩ : ∃ z, z = w3.heap.size := ⟨_, rfl⟩
  have HJ4 := Lib.hid (show JI w3 q2 bN SN st fi (.slice (some ⟨z3, 0, none⟩) 0 0) (.slice (some ⟨z3 + 1, 0, none⟩) 0 0) (some ⟨z3, 0, none⟩) 0 0 [] [] (some ⟨z3 + 1, 0, none⟩) 0 0 [] w4 from by
    refine ⟨by rw [hw4, hste, hfie, ← hSN, ← hbN, hq2, hz3]; exact SAt.new' _ _ _ (by simp), ?_, fun j hj => by omega, ?_, hx34, by omega⟩
    · rw [hw4, hz3]; exact ((Own.lit0' w3 43 (Nat.le_refl _) rfl).alloc' _).alloc' _
    · rw [hw4, hz3]; exact (Own.lit0' _ 2 (by omega) (by simp)).alloc' _)
  have hq22 : w3.heap.size + 1 + 1 = q2 := by omega
  rw [← hw4, hq22, ← hz3]
  have HST := Lib.hid hste
  have HFI := Lib.hid hfie
  have HSN := Lib.hid hSN
  have HBN := Lib.hid hbN
  have HS1 := Lib.hid hS1
  have HS2 := Lib.hid hS2
  have HS12 := Lib.hid hS12
  have hx4 : Ext wb w4 := hx3.trans hx34
  have hSN36 : 1 ≤ SN ∧ SN ≤ 36 := by omega
  have hSb : 1 ≤ S1 ∧ S1 ≤ 36 ∧ 1 ≤ S2 ∧ S2 ≤ 36 := by omega
  have hbN36 : 2 ≤ bN ∧ bN ≤ 36 := by omega
  have hq2l : q2 < w4.heap.size := HJ4.out.s.lt
  have HNC := Lib.hid (fun (k s e : Nat) (hk : k < m) (hs : (s : Int) < C.states * D.states) (he : (e : Int) < C.base) => HF.out.bd (p := (k : Int)) (x := (s : Int)) (d := (e : Int)) (by omega) (by rw [HPC.out]; omega) (by omega) hs (by omega) he)
  rw [hS1] at k1
  rw [hS2] at j1
  rw [hbN] at k0 j0
  clear hste hfie hSN hbN hw4 hq2 hq22 hS1 hS2 hS12 hd36 hz3
  clear hst hfi hst0 hfi0 h36 hpos hs1 hs2 hs3 hs4 hb2 hb36
  go_loopw [7] (fun ki wr => ∃ (k : Nat) (ad : Option Addr) (cc : Nat) (vs : List Value) (pd : Option Addr) (pc : Nat), k ≤ m ∧ ki = .int .i64 k ∧ Hid (JI w3 q2 bN SN st fi (.slice ad k cc) (.slice pd k pc) ad k cc vs ((List.range k).map (joinTab C D)) pd k pc ((List.range k).map fun (j : Nat) => (j : Int)) wr)) (fun ki _ => m - (intOf ki).toNat)
  case atStart => exact ⟨0, _, 0, [], _, 0, Nat.zero_le _, rfl, HJ4.out⟩
  case round =>
    obtain ⟨k, ad, cc, vs, pd, pc, hk, rfl, HJ⟩ := hrel
    have hbr : Ext wb wr := hx3.trans HJ.out.h
    by_cases hlt : k < m
    · obtain ⟨wo, hwo⟩ : ∃ wo, wo = wr := ⟨_, rfl⟩
      subst hwo
      have hxoo : Ext wo wo := Ext.refl _
      go_wp2_with fail
      go_loopw [8, 9] (fun tb xi wr => ∃ (x r : Nat) (ar : Option Addr) (cr : Nat), x ≤ S1 ∧ r = x * S2 ∧ xi = .int .i64 x ∧ tb = .slice ar r cr ∧ Hid (OwnMat wr wo.heap.size 25 2 ar r cr ((List.range r).map (joinRow C D k))) ∧ Ext wo wr) (fun _ xi _ => S1 - (intOf xi).toNat)
      case atStart => exact ⟨0, 0, _, _, Nat.zero_le _, by simp, rfl, rfl, OwnMat.lit0 wo _ _, (by repeat (first | (with_reducible exact Ext.refl _) | (with_reducible assumption) | (with_reducible refine Ext.drewN ?_ _) | (with_reducible refine Ext.drew ?_) | (with_reducible refine Ext.alloc ?_ _) | ((with_reducible refine Ext.setCell ?_ ?_ _); rotate_left; focus (first | (simp; done) | (simp; omega) | omega)) | (with_reducible refine Ext.trans ?_ (by with_reducible assumption))))⟩
      case round =>
        obtain ⟨x, r, ar, cr, hxs, hr, rfl, rfl, HM, hx2⟩ := hrel
        have hxr2 : Ext wo wr := hx2
        have hbr2 : Ext wb wr := hbr.trans hx2
        have HR := Lib.hid hr
        clear hr
        by_cases hlx : x < S1
        · obtain ⟨wi, hwi⟩ : ∃ wi, wi = wr := ⟨_, rfl⟩
          subst hwi
          have hxii : Ext wi wi := Ext.refl _
          go_wp2_with fail
          go_loopw [8, 10] (fun tb yi wr => ∃ (y : Nat) (ar : Option Addr) (cr : Nat), y ≤ S2 ∧ yi = .int .i64 y ∧ tb = .slice ar (r + y) cr ∧ Hid (OwnMat wr wo.heap.size 25 2 ar (r + y) cr ((List.range (r + y)).map (joinRow C D k))) ∧ Ext wo wr) (fun _ yi _ => S2 - (intOf yi).toNat)
          case atStart => exact ⟨0, _, _, Nat.zero_le _, rfl, rfl, HM.out, hxr2⟩
          case round =>
            obtain ⟨y, ar, cr, hys, rfl, rfl, HM, hx3'⟩ := hrel
            have hxr3 : Ext wo wr := hx3'
            have hbr3 : Ext wb wr := hbr.trans hx3'
            by_cases hly : y < S2
            · obtain ⟨wu, hwu⟩ : ∃ wi, wi = wr := ⟨_, rfl⟩
              subst hwu
              have hxuu : Ext wu wu := Ext.refl _
              have hrS : r + y < SN := by have h1 := HR.out; have h2 := HS12.out; have h3 : (x + 1) * S2 ≤ S1 * S2 := Nat.mul_le_mul_right _ hlx; rw [Nat.succ_mul] at h3; omega
              have hsS : ((r + y : Nat) : Int) < C.states * D.states := by have := HSN.out; omega
              have htd := two_div (a := (x : Int)) (b := (y : Int)) (S := (S2 : Int)) (by omega) (by omega)
              have hsp : ((r + y : Nat) : Int) / D.states = x ∧ ((r + y : Nat) : Int) % D.states = y := by
                rw [HS2.out, show ((r + y : Nat) : Int) = (x : Int) * (S2 : Int) + y by rw [HR.out]; push_cast; rfl]; exact htd
              obtain ⟨sp1, sp2⟩ := hsp
              clear htd
              go_wp2_with fail
              go_loopw [11, 12] (fun rw ei wr => ∃ (e : Nat) (ae : Option Addr) (ce : Nat), e ≤ bN ∧ ei = .int .i64 e ∧ rw = .slice ae e ce ∧ Hid (Own wr wu.heap.size 2 ae e ce (I ((joinRow C D k (r + y)).take e))) ∧ Ext wu wr) (fun _ ei _ => bN - (intOf ei).toNat)
              case atStart => exact ⟨0, _, _, Nat.zero_le _, rfl, rfl, Own.lit0 wu _, (by repeat (first | (with_reducible exact Ext.refl _) | (with_reducible assumption) | (with_reducible refine Ext.drewN ?_ _) | (with_reducible refine Ext.drew ?_) | (with_reducible refine Ext.alloc ?_ _) | ((with_reducible refine Ext.setCell ?_ ?_ _); rotate_left; focus (first | (simp; done) | (simp; omega) | omega)) | (with_reducible refine Ext.trans ?_ (by with_reducible assumption))))⟩
              case round =>
                obtain ⟨e, ae, ce, he, rfl, rfl, HRo, hx5'⟩ := hrel
                have hxr5 : Ext wu wr := hx5'
                have hbr5 : Ext wb wr := hbr3.trans hx5'
                by_cases hle : e < bN
                · have heB : (e : Int) < C.base := by have := HBN.out; omega
                  obtain ⟨g0, g1, g2, g3⟩ := HNC.out k (r + y) e hlt hsS heB
                  rw [sp1] at g0 g1
                  rw [sp2] at g2 g3
                  have HN1 := Lib.hid (fun W (h : Ext wb W) => spec_next C q1 a n c b m d (k : Int) (x : Int) (e : Int) W (HAC.out.ext h) HF.out.c (by omega) (by rw [HPC.out]; omega) (by omega) (by have := HS1.out; omega) (by omega) heB)
                  have HN2 := Lib.hid (fun W (h : Ext wb W) => spec_next D (q1 + 1) a2 n2 c2 b2 m d2 (k : Int) (y : Int) (e : Int) W (HAD.out.ext h) HF.out.d (by omega) (by rw [← HF.out.l, HPC.out]; omega) (by omega) (by have := HS2.out; omega) (by omega) (by rw [← HB.out]; exact heB))
                  have HRow := Lib.hid (joinRow_at (C := C) (D := D) (k := k) (s := r + y) (e := e) heB)
                  rw [sp1, sp2] at HRow
                  have HLn := Lib.hid (show e < (joinRow C D k (r + y)).length by simp only [joinRow, List.length_map, List.length_range]; have := HBN.out; omega)
                  have hmul := two_bd g0 g1 g2 g3
                  have hm0 : 0 ≤ nextS C (k : Int) (x : Int) (e : Int) * D.states := Int.mul_nonneg g0 (by omega)
                  have hm36 : C.states * D.states ≤ 36 := by have := HSN.out; omega
                  generalize nextS C (k : Int) (x : Int) (e : Int) = y1 at *
                  generalize nextS D (k : Int) (y : Int) (e : Int) = y2 at *
                  rw [HS2.out] at HRow hmul hm0 hm36 g3
                  go_wp2_with fail
                  have hrr3 : Ext wr wr := Ext.refl _
                  (refine wp_region_from wu (by repeat (first | (with_reducible exact Ext.refl _) | (with_reducible refine Ext.drewN ?_ _) | (with_reducible refine Ext.drew ?_) | (with_reducible refine Ext.alloc ?_ _) | ((with_reducible refine Ext.setCell ?_ ?_ _); rotate_left; focus (first | (simp; done) | (simp; omega) | omega)) | assumption | (with_reducible refine Ext.trans ?_ (by assumption)))) (by kernel_rfl) (by kernel_rfl) (by kernel_rfl) ?_; (repeat (first | (refine mix_q rfl ?_; go_big_quiet_step (fail); refine wpQuiet_nil ?_; show wpMix _ _ _ _ _ _ _) | (refine mix_s rfl ?_; go_wp2_with (first | (go_at_call 93; (with_reducible refine (HN1.out _ (Ext.trans hbr5 (by repeat (first | (with_reducible exact Ext.refl _) | (with_reducible assumption) | (with_reducible refine Ext.drewN ?_ _) | (with_reducible refine Ext.drew ?_) | (with_reducible refine Ext.alloc ?_ _) | ((with_reducible refine Ext.setCell ?_ ?_ _); rotate_left; focus (first | (simp; done) | (simp; omega) | omega)) | (with_reducible refine Ext.trans ?_ (by with_reducible assumption)))))).mono ?_); rintro e w6 ⟨rfl, hy6⟩; have hx6 : Ext wr w6 := Ext.trans (by repeat (first | (with_reducible exact Ext.refl _) | (with_reducible assumption) | (with_reducible refine Ext.drewN ?_ _) | (with_reducible refine Ext.drew ?_) | (with_reducible refine Ext.alloc ?_ _) | ((with_reducible refine Ext.setCell ?_ ?_ _); rotate_left; focus (first | (simp; done) | (simp; omega) | omega)) | (with_reducible refine Ext.trans ?_ (by with_reducible assumption)))) hy6; clear hy6; have hxi6 : Ext wu w6 := hxr5.trans hx6) | (go_at_call 93; (with_reducible refine (HN2.out _ (Ext.trans hbr5 (by repeat (first | (with_reducible exact Ext.refl _) | (with_reducible assumption) | (with_reducible refine Ext.drewN ?_ _) | (with_reducible refine Ext.drew ?_) | (with_reducible refine Ext.alloc ?_ _) | ((with_reducible refine Ext.setCell ?_ ?_ _); rotate_left; focus (first | (simp; done) | (simp; omega) | omega)) | (with_reducible refine Ext.trans ?_ (by with_reducible assumption)))))).mono ?_); rintro e w7 ⟨rfl, hy7⟩; have hx7 : Ext wr w7 := Ext.trans (by repeat (first | (with_reducible exact Ext.refl _) | (with_reducible assumption) | (with_reducible refine Ext.drewN ?_ _) | (with_reducible refine Ext.drew ?_) | (with_reducible refine Ext.alloc ?_ _) | ((with_reducible refine Ext.setCell ?_ ?_ _); rotate_left; focus (first | (simp; done) | (simp; omega) | omega)) | (with_reducible refine Ext.trans ?_ (by with_reducible assumption)))) hy7; clear hy7; have hxi7 : Ext wu w7 := hxr5.trans hx7) | (at_builtin; refine law_append1 w7 rfl _ _ 25 rfl 2 (.int .i64 0) 8 und_int64s info_int64 rfl wu.heap.size ae e ce _ _ rfl rfl (by simp [Act.eval, go_sem]) (HRo.out.ext hx7) hxi7.le (by omega) (by omega) ?_; intro ae' ce' w8 ho8 hb8 hg8; have hxi8 : Ext wu w8 := Ext.below hxi7 hb8; clear hb8 hg8)); first | refine ⟨up_of (by repeat (first | (with_reducible exact Ext.refl _) | (with_reducible refine Ext.drewN ?_ _) | (with_reducible refine Ext.drew ?_) | (with_reducible refine Ext.alloc ?_ _) | ((with_reducible refine Ext.setCell ?_ ?_ _); rotate_left; focus (first | (simp; done) | (simp; omega) | omega)) | assumption | (with_reducible refine Ext.trans ?_ (by assumption)))), ?_⟩ | refine ⟨rfl, rfl, up_of (by repeat (first | (with_reducible exact Ext.refl _) | (with_reducible refine Ext.drewN ?_ _) | (with_reducible refine Ext.drew ?_) | (with_reducible refine Ext.alloc ?_ _) | ((with_reducible refine Ext.setCell ?_ ?_ _); rotate_left; focus (first | (simp; done) | (simp; omega) | omega)) | assumption | (with_reducible refine Ext.trans ?_ (by assumption)))), ?_⟩))); refine mix_nil ?_)
                  go_wp2_with fail
                  exact ⟨⟨e + 1, ae', ce', hle, by go_num, rfl, by rw [Hid, take_gi HLn.out, I_append, HRow.out]; exact ho8, hxi8⟩, by simp [intOf]; omega⟩
                · obtain rfl : e = bN := by omega
                  have heB : ¬ ((e : Int) < C.base) := by have := HBN.out; omega
                  have HRl := Lib.hid (show (joinRow C D k (r + y)).length = e by simp only [joinRow, List.length_map, List.length_range]; have := HBN.out; omega)
                  have HRf := Lib.hid (show Own wr wo.heap.size 2 ae e ce (I (joinRow C D k (r + y))) from by
                    have h1 := HRo.out
                    rw [take_full (by rw [HRl.out]; exact Nat.le_refl _)] at h1
                    exact h1.mono hxr3.le)
                  have HM3 := Lib.hid (HM.out.ext hxr5)
                  have hxo3 : Ext wo wr := hxr3.trans hxr5
                  obtain ⟨vr, hvr, hpr⟩ := HM3.out.rows
                  have HVr := Lib.hid hvr
                  have HPr := Lib.hid hpr
                  clear hvr hpr
                  go_wp2_with (at_builtin; refine law_append1 _ rfl _ _ 43 rfl 25 (.slice none 0 0) 24 und_rows info_row1 rfl wo.heap.size ar (r + y) cr vr _ rfl rfl rfl HVr.out hxo3.le (by omega) (by omega) ?_; intro ar' cr' w9 ho9 hb9 hg9; have hxi9 : Ext wo w9 := Ext.below hxo3 hb9)
                  exact ⟨⟨y + 1, ar', cr', by omega, by go_num, rfl, by rw [Hid, show r + (y + 1) = (r + y) + 1 by omega, List.range_succ, List.map_append]; exact OwnMat.push HM3.out.len HPr.out HVr.out HRf.out ho9 hg9 (by decide), hxi9⟩, by simp [intOf]; omega⟩
            · obtain rfl : y = S2 := by omega
              go_wp2_with fail
              exact ⟨⟨x + 1, r + y, ar, cr, by omega, by rw [HR.out, Nat.succ_mul], by go_num, rfl, HM.out, hxr3⟩, by simp [intOf]; omega⟩
        · obtain rfl : x = S1 := by omega
          have hrN : r = SN := by rw [HR.out, HS12.out]
          subst hrN
          have HTb := Lib.hid (show OwnMat wr wo.heap.size 25 2 ar r cr (joinTab C D k) from by
            have h1 := HM.out
            rw [show (List.range r).map (joinRow C D k) = joinTab C D k by rw [joinTab, HSN.out, Int.toNat_natCast]] at h1
            exact h1)
          have HJr := Lib.hid (HJ.out.ext hxr2)
          have HAd := Lib.hid (own_up HJ.out.o)
          have HPd := Lib.hid (own_up HJ.out.p)
          have hqwo : q2 < wo.heap.size := HJ.out.s.lt
          have h3wo : w3.heap.size ≤ wo.heap.size := HJ.out.h.le
          have hwor : wo.heap.size ≤ wr.heap.size := hxr2.le
          have hle1 : w3.heap.size ≤ wr.heap.size := HJr.out.h.le
          have c4 := HJr.out.s.cell 4 (by simp)
          have fr4 := fun j => HJr.out.s.frozen j
          have lt4 := HJr.out.s.lt
          try simp only [List.getElem_toArray, List.getElem_cons_succ, List.getElem_cons_zero] at c4
          go_upto_region 21 with (at_builtin; refine law_append1_at _ rfl _ _ 24 rfl 43 (.slice none 0 0) 24 und_cubeJ info_cubeJ rfl w3.heap.size ad k cc vs _ rfl rfl rfl HJr.out.o hle1 (by omega) (by omega) ?_; intro ad6 cc6 w6 ho6 hb6 hg6 hk6; have HJ6 := Lib.hid (HJr.out.app (B0 := wo.heap.size) (by simp) HTb.out hqwo HAd.out HPd.out hb6 hg6 ho6 hk6); have r4 := HJ6.out.s.cell 4 (by simp); have fr6 := fun j => HJ6.out.s.frozen j; have lt6 := HJ6.out.s.lt; (try simp only [List.getElem_toArray, List.getElem_cons_succ, List.getElem_cons_zero] at r4); clear hb6 hg6 ho6 hk6)
          have HJ7 := Lib.hid (HJ6.out.set 4 (.slice ad6 (k + 1) cc6) rfl)
          have hle7 := HJ7.out.h.le
          have c5 := HJ7.out.s.cell 5 (by simp)
          have fr7 := fun j => HJ7.out.s.frozen j
          have lt7 := HJ7.out.s.lt
          try simp only [List.getElem_toArray, List.getElem_cons_succ, List.getElem_cons_zero] at c5
          go_wp2_with (at_builtin; refine law_append1_at _ rfl _ _ 25 rfl 2 (.int .i64 0) 8 und_int64s info_int64 rfl w3.heap.size pd k pc (I ((List.range k).map fun (j : Nat) => (j : Int))) _ rfl rfl (by simp [Act.eval, go_sem]) HJ7.out.p hle7 (by omega) (by omega) ?_; intro pd8 pc8 w8 ho8 hb8 hg8 hk8; have HJ8 := Lib.hid (HJ7.out.put hb8 hg8 ho8 hk8); have r8 := HJ8.out.s.cell 5 (by simp); have fr8 := fun j => HJ8.out.s.frozen j; have lt8 := HJ8.out.s.lt; (try simp only [List.getElem_toArray, List.getElem_cons_succ, List.getElem_cons_zero] at r8); clear hb8 hg8 ho8 hk8)
          exact ⟨⟨k + 1, ad6, cc6, _, pd8, pc8, hlt, by go_num, by rw [Hid, List.range_succ, List.map_append, List.map_append]; exact HJ8.out.set 5 (.slice pd8 (k + 1) pc8) rfl⟩, by simp [intOf]; omega⟩
    · obtain rfl : k = m := by omega
      have hjt : (joinCh C D).tabs = (List.range k).map (joinTab C D) := by simp only [joinCh]; rw [HPC.out]
      have hjp : (joinCh C D).places = (List.range k).map (fun (j : Nat) => (j : Int)) := by simp only [joinCh]; rw [HPC.out]
      have HCh := Lib.hid (show ChIn wr (joinCh C D) ad k cc pd k pc from ⟨by rw [hjt]; exact HJ.out.cube (by simp), by rw [hjp]; exact HJ.out.p.ints, by omega, by omega, HF.out.small⟩)
      have HS := Lib.hid (show SAt wr q2 27 #[.int .i64 (joinCh C D).base, .int .i64 (joinCh C D).states, .int .i64 (joinCh C D).start, .int .i64 (joinCh C D).fin, .slice ad k cc, .slice pd k pc] from by
        have h1 := HJ.out.s
        rw [← HBN.out, ← HSN.out, HST.out, HFI.out] at h1
        exact h1)
      have HZr := Lib.hid (HZ.out.ext hbr)
      obtain ⟨JB, hJB⟩ : ∃ x, x = (joinCh C D).base := ⟨_, rfl⟩
      obtain ⟨JS, hJS⟩ : ∃ x, x = (joinCh C D).states := ⟨_, rfl⟩
      obtain ⟨Js, hJs⟩ : ∃ x, x = (joinCh C D).start := ⟨_, rfl⟩
      obtain ⟨Je, hJe⟩ : ∃ x, x = (joinCh C D).fin := ⟨_, rfl⟩
      rw [← hJB, ← hJS, ← hJs, ← hJe] at HS
      have HR := Lib.hid (show ∀ W, (∀ V, KeepB w.heap.size W.heap.size W V → ChIn V (joinCh C D) ad k cc pd k pc) → Ext w W → RetJoinK C D w (.returned (.tuple #[.agg #[.int .i64 JB, .int .i64 JS, .int .i64 Js, .int .i64 Je, .slice ad k cc, .slice pd k pc], .bool true])) W from fun W h1 h2 => ⟨ad, k, cc, pd, k, pc, by rw [hJB, hJS, hJs, hJe], h1, h2⟩)
      clear hJB hJS hJs hJe hjt hjp
      have e0 := HS.out.cell 0 (by simp)
      have e1 := HS.out.cell 1 (by simp)
      have e2 := HS.out.cell 2 (by simp)
      have e3 := HS.out.cell 3 (by simp)
      have e4 := HS.out.cell 4 (by simp)
      have e5 := HS.out.cell 5 (by simp)
      have z0 := HZr.out.cell 0 (by simp)
      have z1 := HZr.out.cell 1 (by simp)
      have z2 := HZr.out.cell 2 (by simp)
      have z3' := HZr.out.cell 3 (by simp)
      have z4 := HZr.out.cell 4 (by simp)
      have z5 := HZr.out.cell 5 (by simp)
      have frz := fun j => HZr.out.frozen j
      have ltz := HZr.out.lt
      try simp only [List.getElem_toArray, List.getElem_cons_succ, List.getElem_cons_zero] at e0 e1 e2 e3 e4 e5 z0 z1 z2 z3' z4 z5
      have hxrr : Ext wr wr := Ext.refl _
      go_wp2_with fail
      refine bodyPost_ret (v := .tuple #[.agg #[.int .i64 JB, .int .i64 JS, .int .i64 Js, .int .i64 Je, .slice ad k cc, .slice pd k pc], .bool true]) ?_ rfl ?_
      · simp [results, Try.results95, go_sem, z0, z1, z2, z3', z4, z5]
      · have hq3 : q1 + 2 < w3.heap.size := Nat.lt_of_lt_of_le HZ.out.lt hx3.le
        have hkc : ∀ W, Chg 0 w3.heap.size wr W → KeepB w3.heap.size wr.heap.size wr W := fun W hc => KeepB.chg hc (Nat.le_refl _) (.inl (Nat.le_refl _))
        have hjt : (joinCh C D).tabs = (List.range k).map (joinTab C D) := by simp only [joinCh]; rw [HPC.out]
        have hjp : (joinCh C D).places = (List.range k).map (fun (j : Nat) => (j : Int)) := by simp only [joinCh]; rw [HPC.out]
        have hxwr : Ext w wr := hxb.trans hbr
        have hww3 : w.heap.size ≤ w3.heap.size := by have := hxb.le; have := hx3.le; omega
        have hfin : ∀ W, Chg 0 w3.heap.size wr W → wr.heap.size ≤ W.heap.size → Ext w W → RetJoinK C D w (.returned (.tuple #[.agg #[.int .i64 JB, .int .i64 JS, .int .i64 Js, .int .i64 Je, .slice ad k cc, .slice pd k pc], .bool true])) W := fun W hc hl hx =>
          HR.out W (fun V hV => by
            have hk2 := (hkc W hc).trans (hV.mono hww3 hl)
            refine ChIn.mk ?_ ?_ (by omega) (by omega) HF.out.small
            · rw [hjt]; exact (HJ.out.fin (by simp) hk2).1
            · rw [hjp]; exact (HJ.out.fin (by simp) hk2).2) hx
        refine hfin _ ?_ ?_ ?_
        · exact (by repeat (first | (with_reducible exact Chg.refl _ _ _) | (with_reducible assumption) | ((with_reducible refine Chg.trans ?_ (Chg.setP _ _ _ ?_ ?_)); rotate_left; (focus (first | (simp; done) | (simp; omega) | omega)); (focus (first | (simp; done) | (simp; omega) | omega))) | (with_reducible refine Chg.trans ?_ (Chg.ext (Ext.alloc (Ext.refl _) _) _ _)) | (with_reducible refine Chg.trans ?_ (Chg.ext (Ext.drew (Ext.refl _)) _ _)) | (with_reducible refine Chg.trans ?_ (Chg.ext (Ext.drewN (Ext.refl _) _) _ _))))
        · simp [World.setCell]
        · exact (by repeat (first | (with_reducible exact Ext.refl _) | (with_reducible assumption) | (with_reducible refine Ext.drewN ?_ _) | (with_reducible refine Ext.drew ?_) | (with_reducible refine Ext.alloc ?_ _) | ((with_reducible refine Ext.setCell ?_ ?_ _); rotate_left; focus (first | (simp; done) | (simp; omega) | omega)) | (with_reducible refine Ext.trans ?_ (by with_reducible assumption))))
end Go.Proofs.Ytaiieodllhoelaa
