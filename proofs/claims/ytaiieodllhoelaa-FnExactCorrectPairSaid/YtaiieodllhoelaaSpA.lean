/- Walks: the chain of a weighting, in the reference. -/
import Derived.Test.YtaiieodllhoelaaWtE
import Derived.Test.YtaiieodllhoelaaMix2
namespace Go.Proofs.Ytaiieodllhoelaa
set_option maxRecDepth 100000
open Go.RowKit

/-- what a weight adds for each digit -/
def adL (base : Nat) (m x : Int) : List Int := (List.range base).map fun (d : Nat) => x * (d : Int) % m
theorem adL_len (base : Nat) (m x : Int) : (adL base m x).length = base := by simp [adL]
theorem adL_step {base k : Nat} {m x : Int} (h : k < base) : (adL base m x).take (k + 1) = (adL base m x).take k ++ [x * (k : Int) % m] := by
  rw [List.take_succ_eq_append_getElem (by rw [adL_len]; exact h)]
  simp [adL]
theorem gi_ltW {ps : List Int} {y : Int} {i : Nat} (hi : i < ps.length) : gi (ps ++ [y]) i = gi ps i := by
  unfold gi; rw [List.getD_eq_getElem?_getD, List.getElem?_append_left hi, List.getD_eq_getElem?_getD]
theorem gi_lastW {ps : List Int} {y : Int} {z : Nat} (h : ps.length = z) : gi (ps ++ [y]) z = y := by
  subst h
  unfold gi; rw [List.getD_eq_getElem?_getD, List.getElem?_append_right (Nat.le_refl _)]; simp
theorem addF_nodup (ls : List (List Int)) : ∀ k, k ≤ ls.length → (addF ls k).1.Nodup
  | 0, _ => by simp [addF]
  | k + 1, h => by
    have ih := addF_nodup ls k (by omega)
    rw [addF_step (by omega), addStep]
    split
    · exact ih
    · rename_i hm
      rw [List.nodup_append]
      exact ⟨ih, by simp, fun x hx y hy => by simp only [List.mem_singleton] at hy; subst hy; exact fun he => hm (he ▸ hx)⟩
theorem gl_inj {l : List (List Int)} (hn : l.Nodup) {i j : Nat} (hi : i < l.length) (hj : j < l.length) (h : gl l i = gl l j) : i = j := by
  rw [gl_get hi, gl_get hj] at h
  rcases Nat.lt_trichotomy i j with hlt | rfl | hlt
  · exact absurd h (List.pairwise_iff_getElem.1 hn i j hi hj hlt)
  · rfl
  · exact absurd h.symm (List.pairwise_iff_getElem.1 hn j i hj hi hlt)
theorem addF_map {g : List Int → List Int} (ks : List (List Int)) (hg : ∀ x ∈ ks, ∀ y ∈ ks, g x = g y → x = y) : ∀ k, k ≤ ks.length → addF (ks.map g) k = ((addF ks k).1.map g, (addF ks k).2)
  | 0, _ => by simp [addF]
  | k + 1, h => by
    have ih := addF_map ks hg k (by omega)
    have hk : k < ks.length := by omega
    have hk2 : k < (ks.map g).length := by rw [List.length_map]; exact hk
    have hsub := (addF_inv ks k (by omega)).2.2.2.1
    have hgk : gl (ks.map g) k = g (gl ks k) := by rw [gl_get hk2, gl_get hk, List.getElem_map]
    have hmk : gl ks k ∈ ks := gl_mem hk
    rw [addF_step hk2, addF_step hk, ih, hgk, addStep, addStep]
    by_cases hm : gl ks k ∈ (addF ks k).1
    · have hm2 : g (gl ks k) ∈ (addF ks k).1.map g := List.mem_map.2 ⟨_, hm, rfl⟩
      rw [if_pos hm, if_pos hm2]
      have hidx : ∀ l : List (List Int), (∀ x ∈ l, x ∈ ks) → (l.map g).idxOf (g (gl ks k)) = l.idxOf (gl ks k) := fun l => by
        induction l with
        | nil => intro _; rfl
        | cons a l ih2 =>
          intro hl
          rw [List.map_cons, List.idxOf_cons, List.idxOf_cons, ih2 fun x hx => hl x (List.mem_cons_of_mem _ hx)]
          by_cases ha : a = gl ks k
          · subst ha; simp
          · have h2 : ¬ g a = g (gl ks k) := fun he => ha (hg a (hl a (List.mem_cons_self ..)) _ hmk he)
            rw [show (a == gl ks k) = false by simpa using ha, show (g a == g (gl ks k)) = false by simpa using h2]
      rw [hidx _ hsub]
    · have hm2 : g (gl ks k) ∉ (addF ks k).1.map g := fun h2 => by
        obtain ⟨x, hx, he⟩ := List.mem_map.1 h2
        exact hm (hg x (hsub x hx) _ hmk he ▸ hx)
      rw [if_neg hm, if_neg hm2, List.map_append, List.length_map]
      rfl
set_option maxHeartbeats 1000000 in
theorem spec_l03Adds (bs : Nat) (x m : Int) (w : World) (hb : bs ≤ 36) (h0 : 0 ≤ x) (h1 : x ≤ 36) (hm : 1 ≤ m) : Calls Try.prog 145 #[.int .i64 x, .int .i64 bs, .int .i64 m] w (RetOwn 2 (I (adL bs m x)) w) := by
  go_enter Try.func145, Try.ntmps145
  go_wp2_with fail
  go_loopw [7, 8] (fun v7 v8 wr => ∃ (k : Nat) (ra : Option Addr) (rc : Nat), k ≤ bs ∧ v8 = .int .i64 k ∧ v7 = .slice ra k rc ∧ Hid (Own wr w.heap.size 2 ra k rc (I ((adL bs m x).take k))) ∧ Ext w wr) (fun _ v8 _ => bs - (intOf v8).toNat)
  case atStart => exact ⟨0, _, _, Nat.zero_le _, rfl, rfl, Own.lit0 _ _, (Ext.refl _).alloc _⟩
  case round =>
    obtain ⟨k, ra, rc, hk, rfl, rfl, HR, hx⟩ := hrel
    by_cases hlt : k < bs
    · have HN := Lib.hid (adL_step (m := m) (x := x) hlt)
      have hm1 : 0 ≤ x * (k : Int) := Int.mul_nonneg h0 (by omega)
      have hm2 : x * (k : Int) ≤ 36 * 36 := Int.mul_le_mul h1 (by omega) (by omega) (by omega)
      have htm : (x * (k : Int)).tmod m = x * (k : Int) % m := Int.tmod_eq_emod_of_nonneg hm1
      go_wp2_with (at_builtin; refine law_append1 _ rfl _ _ 25 rfl 2 (.int .i64 0) 8 und_int64s info_int64 rfl w.heap.size ra k rc _ _ rfl rfl rfl HR.out hx.le (by omega) (by omega) ?_; intro ra' rc' w6 ho6 hb6 _; have hxo6 : Ext w w6 := Ext.below hx hb6)
      exact ⟨⟨k + 1, ra', rc', by omega, by go_num, rfl, by rw [Hid, HN.out, I_append]; exact ho6, hxo6⟩, by simp [intOf]; omega⟩
    · obtain rfl : k = bs := by omega
      go_wp2_with fail
      go_ret
      have h := HR.out
      rw [take_full (by rw [adL_len]; exact Nat.le_refl _)] at h
      exact RetOwn.mk h (adL_len _ _ _) hx
/-- a table, of the call's own -/
def RetMatO (ll : List (List Int)) (w : World) (e : Ending) (w' : World) : Prop := ∃ a c, e = .returned (.slice a ll.length c) ∧ OwnMat w' w.heap.size 25 2 a ll.length c ll ∧ Ext w w'
set_option maxHeartbeats 2000000 in
theorem spec_l03Table (M : Nat) (a : Option Addr) (n c : Nat) (l : List Int) (w : World) (hi : Ints w a n c l) (hM : 1 ≤ M) (hM2 : M ≤ 36) (hn : n ≤ 36) (hl : ∀ x ∈ l, 0 ≤ x ∧ x ≤ 1000000) :
    Calls Try.prog 180 #[.slice a n c, .int .i64 M] w (RetMatO (tabA M l) w) := by
  have HLn := Lib.hid hi.len
  have HNn := Lib.hid hl
  obtain ⟨bW, oW, hixW, hcellW⟩ := hi.ix (P := Try.prog) 25 2 und_int64s cell_int64
  clear hi hl
  go_enter Try.func180, Try.ntmps180
  go_wp2_with fail
  go_loopw [5, 6] (fun v5 v6 wr => ∃ (s : Nat) (ta : Option Addr) (tc : Nat), s ≤ M ∧ v6 = .int .i64 s ∧ v5 = .slice ta s tc ∧ Hid (OwnMat wr w.heap.size 25 2 ta s tc ((List.range s).map (rowA M l))) ∧ Ext w wr) (fun _ v6 _ => M - (intOf v6).toNat)
  case atStart => exact ⟨0, _, _, Nat.zero_le _, rfl, rfl, OwnMat.lit0 _ _ _, (Ext.refl _).alloc _⟩
  case round =>
    obtain ⟨s, ta, tc, hs, rfl, rfl, HT, hx⟩ := hrel
    have hxw : Ext w wr := hx
    clear hx
    by_cases hls : s < M
    · obtain ⟨wo, hwo⟩ : ∃ W, W = wr := ⟨_, rfl⟩
      rw [← hwo] at HT hxw ⊢
      clear hwo
      go_wp2_with fail
      go_loopw [7, 8] (fun v7 v8 wr => ∃ (d : Nat) (ra : Option Addr) (rc : Nat), d ≤ n ∧ v8 = .int .i64 d ∧ v7 = .slice ra d rc ∧ Hid (Own wr wo.heap.size 2 ra d rc (I ((rowA M l s).take d))) ∧ Ext wo wr) (fun _ v8 _ => n - (intOf v8).toNat)
      case atStart => exact ⟨0, _, _, Nat.zero_le _, rfl, rfl, Own.lit0 _ _, (Ext.refl _).alloc _⟩
      case round =>
        obtain ⟨d, ra, rc, hd, rfl, rfl, HR, hx⟩ := hrel
        have hxr2 : Ext wo wr := hx
        have hxw2 : Ext w wr := hxw.trans hx
        clear hx
        by_cases hld : d < n
        · have hdl : d < l.length := by rw [HLn.out]; exact hld
          have hnn := HNn.out _ (gi_mem hdl)
          have HN := Lib.hid (rowA_step (m := (M : Int)) (s := s) hdl)
          have htm : ((s : Int) + gi l d).tmod M = ((s : Int) + gi l d) % M := Int.tmod_eq_emod_of_nonneg (by omega)
          clear hdl
          go_wp2_with (at_builtin; refine law_append1 _ rfl _ _ 25 rfl 2 (.int .i64 0) 8 und_int64s info_int64 rfl wo.heap.size ra d rc _ _ rfl rfl rfl HR.out hxr2.le (by omega) (by omega) ?_; intro ra' rc' w6 ho6 hb6 _; have hxo6 : Ext wo w6 := Ext.below hxr2 hb6)
          exact ⟨⟨d + 1, ra', rc', by omega, by go_num, rfl, by rw [Hid, HN.out, I_append]; exact ho6, hxo6⟩, by simp [intOf]; omega⟩
        · obtain rfl : d = n := by omega
          have HT4 := Lib.hid (HT.out.ext hxr2)
          have HO4 := Lib.hid (show Own wr w.heap.size 2 ra d rc (I (rowA M l s)) from by
            have h := HR.out
            rw [take_full (by rw [rowA, List.length_map, HLn.out]; exact Nat.le_refl _)] at h
            exact h.mono hxw.le)
          obtain ⟨tvs, htv, htp⟩ := HT4.out.rows
          have HTV := Lib.hid htv
          have HTP := Lib.hid htp
          clear htv htp HR HT
          go_wp2_with (at_builtin; refine law_append1 _ rfl _ _ 43 rfl 25 (.slice none 0 0) 24 und_rows info_row2 rfl w.heap.size ta s tc _ _ rfl rfl rfl HTV.out hxw2.le (by omega) (by omega) ?_; intro ta' tc' w6 ho6 hb6 hg6; have hx6 : Ext w w6 := Ext.below hxw2 hb6)
          exact ⟨⟨s + 1, ta', tc', by omega, by go_num, rfl, by rw [Hid, List.range_succ, List.map_append]; exact OwnMat.push HT4.out.len HTP.out HTV.out HO4.out ho6 hg6 (by decide), hx6⟩, by simp [intOf]; omega⟩
    · obtain rfl : s = M := by omega
      have HTa := Lib.hid (show OwnMat wr w.heap.size 25 2 ta s tc (tabA s l) from by have h := HT.out; unfold tabA; rwa [Int.toNat_natCast])
      have hll : (tabA s l).length = s := by simp [tabA]
      go_wp2_with fail
      go_ret
      refine ⟨ta, tc, by rw [hll]; rfl, by rw [hll]; exact HTa.out, hxw⟩
/-- half made: block q holds the chain; the lists that are known -/
structure AK (w : World) (q : Nat) (b S st fi : Int) (v4 v5 : Value) (ad : Option Addr) (x cc : Nat) (vs : List Value) (tt : List (List (List Int))) (pd : Option Addr) (y pc : Nat) (pp : List Int) (kd : Option Addr) (z kc : Nat) (kv : List Value) (W : World) : Prop where
  s : SAt W q 27 #[.int .i64 b, .int .i64 S, .int .i64 st, .int .i64 fi, v4, v5]
  o : Own W w.heap.size 43 ad x cc vs
  p : Own W w.heap.size 2 pd y pc (I pp)
  k : Own W w.heap.size 3 kd z kc kv
  i : ∀ j, j < x → ∃ a' n' c' lo hi, gv vs j = .slice a' n' c' ∧ q < lo ∧ hi ≤ W.heap.size ∧ Off ad lo hi ∧ Off pd lo hi ∧ Off kd lo hi ∧ ∀ W', KeepB lo hi W W' → Mat W' a' n' c' (gm tt j)
  h : Ext w W
  q1 : w.heap.size ≤ q
section
variable {w : World} {q : Nat} {b S st fi : Int} {v4 v5 : Value} {ad : Option Addr} {x cc : Nat} {vs : List Value} {tt : List (List (List Int))} {pd : Option Addr} {y pc : Nat} {pp : List Int} {kd : Option Addr} {z kc : Nat} {kv : List Value} {W W' : World}
theorem AK.ext (d : AK w q b S st fi v4 v5 ad x cc vs tt pd y pc pp kd z kc kv W) (hx : Ext W W') : AK w q b S st fi v4 v5 ad x cc vs tt pd y pc pp kd z kc kv W' :=
  ⟨d.s.ext hx, d.o.ext hx, d.p.ext hx, d.k.ext hx, fun j hj => by
    obtain ⟨a', n', c', lo, hi, h1, h2, h3, h4, h5, h6, h7⟩ := d.i j hj
    exact ⟨a', n', c', lo, hi, h1, h2, Nat.le_trans h3 hx.le, h4, h5, h6, fun W'' hk => h7 W'' ((KeepB.ext hx h3).trans hk)⟩, d.h.trans hx, d.q1⟩
theorem AK.set (d : AK w q b S st fi v4 v5 ad x cc vs tt pd y pc pp kd z kc kv W) (j : Nat) (u : Value) {b' S' st' fi' : Int} {v4' v5' : Value} (he : (#[Value.int .i64 b, .int .i64 S, .int .i64 st, .int .i64 fi, v4, v5]).setIfInBounds j u = #[.int .i64 b', .int .i64 S', .int .i64 st', .int .i64 fi', v4', v5']) :
    AK w q b' S' st' fi' v4' v5' ad x cc vs tt pd y pc pp kd z kc kv (W.setCell ⟨q, j, none⟩ u) := by
  have hs := d.s.set j u
  rw [he] at hs
  refine ⟨hs, d.o.setS d.s (by decide) j u, d.p.setS d.s (by decide) j u, d.k.setS d.s (by decide) j u, fun k hk => ?_, d.h.setCell d.q1 u, d.q1⟩
  obtain ⟨a', n', c', lo, hi, h1, h2, h3, h4, h5, h6, h7⟩ := d.i k hk
  exact ⟨a', n', c', lo, hi, h1, h2, by simpa [World.setCell] using h3, h4, h5, h6, fun W'' hK => h7 W'' (KeepB.trans (fun r h8 h9 => Below.heap_setCell W ⟨q, j, none⟩ u r (by simp only; omega)) hK)⟩
/-- a list more that is known -/
theorem AK.know (d : AK w q b S st fi v4 v5 ad x cc vs tt pd y pc pp kd z kc kv W) {kd' : Option Addr} {kc' : Nat} {kv' : List Value}
    (hb : Below w.heap.size W W') (hg : W.grownBy W' (Value.slice kd z kc).ownBlock) (ho : Own W' w.heap.size 3 kd' (z + 1) kc' kv') (hk : ∀ g, kd' = some g → (∃ g', kd = some g' ∧ g'.block = g.block) ∨ W.heap.size ≤ g.block) :
    AK w q b S st fi v4 v5 ad x cc vs tt pd y pc pp kd' (z + 1) kc' kv' W' := by
  refine ⟨d.s.grown hg (row_ne_s (d.k.ne_s d.s (by decide))), d.o.grownT d.k hg (by decide), d.p.grownT d.k hg (by decide), ho, fun j hj => ?_, d.h.below hb, d.q1⟩
  obtain ⟨a', n', c', lo, hi, h1, h2, h3, h4, h5, h6, h7⟩ := d.i j hj
  exact ⟨a', n', c', lo, hi, h1, h2, Nat.le_trans h3 hg.size, h4, h5, h6.app h3 hk, fun W'' hK => h7 W'' ((keepB_grown hg h6 h3).trans hK)⟩
/-- a place more -/
theorem AK.put (d : AK w q b S st fi v4 v5 ad x cc vs tt pd y pc pp kd z kc kv W) {pd' : Option Addr} {pc' : Nat} {u : Int}
    (hb : Below w.heap.size W W') (hg : W.grownBy W' (Value.slice pd y pc).ownBlock) (ho : Own W' w.heap.size 2 pd' (y + 1) pc' (I pp ++ [.int .i64 u])) (hk : ∀ g, pd' = some g → (∃ g', pd = some g' ∧ g'.block = g.block) ∨ W.heap.size ≤ g.block) :
    AK w q b S st fi v4 v5 ad x cc vs tt pd' (y + 1) pc' (pp ++ [u]) kd z kc kv W' := by
  refine ⟨d.s.grown hg (row_ne_s (d.p.ne_s d.s (by decide))), d.o.grownT d.p hg (by decide), by rw [I_append]; exact ho, d.k.grownT d.p hg (by decide), fun j hj => ?_, d.h.below hb, d.q1⟩
  obtain ⟨a', n', c', lo, hi, h1, h2, h3, h4, h5, h6, h7⟩ := d.i j hj
  exact ⟨a', n', c', lo, hi, h1, h2, Nat.le_trans h3 hg.size, h4, h5.app h3 hk, h6, fun W'' hK => h7 W'' ((keepB_grown hg h5 h3).trans hK)⟩
/-- a table more, laid from block B0 on -/
theorem AK.app (d : AK w q b S st fi v4 v5 ad x cc vs tt pd y pc pp kd z kc kv W) {B0 : Nat} {ad' a1 : Option Addr} {cc' n1 c1 : Nat} {t : List (List Int)} (htl : tt.length = x) (hnew : OwnMat W B0 25 2 a1 n1 c1 t) (hq : q < B0) (ha : ∀ g, ad = some g → g.block < B0) (hp : ∀ g, pd = some g → g.block < B0) (hkd : ∀ g, kd = some g → g.block < B0)
    (hb : Below w.heap.size W W') (hg : W.grownBy W' (Value.slice ad x cc).ownBlock) (ho : Own W' w.heap.size 43 ad' (x + 1) cc' (vs ++ [.slice a1 n1 c1])) (hk : ∀ g, ad' = some g → (∃ g', ad = some g' ∧ g'.block = g.block) ∨ W.heap.size ≤ g.block) :
    AK w q b S st fi v4 v5 ad' (x + 1) cc' (vs ++ [.slice a1 n1 c1]) (tt ++ [t]) pd y pc pp kd z kc kv W' := by
  have hvl := d.o.len
  refine ⟨d.s.grown hg (row_ne_s (d.o.ne_s d.s (by decide))), ho, d.p.grownT d.o hg (by decide), d.k.grownT d.o hg (by decide), fun j hj => ?_, d.h.below hb, d.q1⟩
  by_cases h : j < x
  · obtain ⟨a', n', c', lo, hi, h1, h2, h3, h4, h5, h6, h7⟩ := d.i j h
    refine ⟨a', n', c', lo, hi, (gv_lt (by omega)).trans h1, h2, Nat.le_trans h3 hg.size, h4.app h3 hk, h5, h6, fun W'' hK => ?_⟩
    rw [gm_lt (by omega)]
    exact h7 W'' ((keepB_grown hg h4 h3).trans hK)
  · obtain rfl : j = x := by omega
    have hoA : Off ad B0 W.heap.size := fun g hg' => .inl (ha g hg')
    refine ⟨a1, n1, c1, B0, W.heap.size, gv_last hvl, hq, hg.size, hoA.app (Nat.le_refl _) hk, fun g hg' => .inl (hp g hg'), fun g hg' => .inl (hkd g hg'), fun W'' hK => ?_⟩
    rw [gm_last htl]
    exact (hnew.keepB ((keepB_grown hg hoA (Nat.le_refl _)).trans hK)).mat
theorem AK.chIn (d : AK w q b S st fi v4 v5 ad x cc vs tt pd y pc pp kd z kc kv W) (htl : tt.length = x) (hx : x ≤ 20) (hy : y ≤ 20) (hsm : SmallCh ⟨b, S, st, fi, tt, pp⟩) : ChIn W ⟨b, S, st, fi, tt, pp⟩ ad x cc pd y pc :=
  ⟨⟨htl, vs, d.o.sl, fun j hj => by obtain ⟨a', n', c', lo, hi, h1, _, _, _, _, _, h7⟩ := d.i j hj; exact ⟨a', n', c', h1, h7 W (KeepB.refl _ _ _)⟩⟩, d.p.ints, by omega, by omega, hsm⟩
theorem AK.chInK (d : AK w q b S st fi v4 v5 ad x cc vs tt pd y pc pp kd z kc kv W) (htl : tt.length = x) (hx : x ≤ 20) (hy : y ≤ 20) (hsm : SmallCh ⟨b, S, st, fi, tt, pp⟩) (hk : KeepB w.heap.size W.heap.size W W') : ChIn W' ⟨b, S, st, fi, tt, pp⟩ ad x cc pd y pc :=
  ⟨⟨htl, vs, (Own.keepB d.o hk).sl, fun j hj => by obtain ⟨a', n', c', lo, hi, h1, h2, h3, _, _, _, h7⟩ := d.i j hj; exact ⟨a', n', c', h1, h7 W' (hk.mono (by have := d.q1; omega) h3)⟩⟩, (Own.keepB d.p hk).ints, by omega, by omega, hsm⟩
end
theorem AK.setZ {w : World} {q q1 : Nat} {b S st fi : Int} {v4 v5 : Value} {ad : Option Addr} {x cc : Nat} {vs : List Value} {tt : List (List (List Int))} {pd : Option Addr} {y pc : Nat} {pp : List Int} {kd : Option Addr} {z kc : Nat} {kv : List Value} {W : World} {zs : Array Value}
    (d : AK w q b S st fi v4 v5 ad x cc vs tt pd y pc pp kd z kc kv W) (hz : SAt W q1 27 zs) (hq : q1 < q) (hw : w.heap.size ≤ q1) (j : Nat) (u : Value) : AK w q b S st fi v4 v5 ad x cc vs tt pd y pc pp kd z kc kv (W.setCell ⟨q1, j, none⟩ u) := by
  refine ⟨d.s.other u (by simp only; omega), d.o.setS hz (by decide) j u, d.p.setS hz (by decide) j u, d.k.setS hz (by decide) j u, fun k hk => ?_, d.h.setCell hw u, d.q1⟩
  obtain ⟨a', n', c', lo, hi, h1, h2, h3, h4, h5, h6, h7⟩ := d.i k hk
  exact ⟨a', n', c', lo, hi, h1, h2, by simpa [World.setCell] using h3, h4, h5, h6, fun W'' hK => h7 W'' (KeepB.trans (fun r h8 h9 => Below.heap_setCell W ⟨q1, j, none⟩ u r (by simp only; omega)) hK)⟩
def keyCh (base m target : Int) (ks : List (List Int)) (G : List Int → List Int) : Ch := ⟨base, m, 0, target, (addF ks ks.length).1.map (fun x => tabA m (G x)), (addF ks ks.length).2⟩
/-- where the list that is sought stands among those before j -/
def atJ (K : List (List Int)) (x : List Int) (j : Nat) (v : Value) : Prop := (v = .int .i64 (-1) ∧ ∀ i, i < j → gl K i ≠ x) ∨ ∃ i : Nat, i < j ∧ v = .int .i64 i ∧ gl K i = x
theorem atJ.no {K : List (List Int)} {x : List Int} {j : Nat} {v : Value} (h : atJ K x j v) (hne : gl K j ≠ x) : atJ K x (j + 1) v := by
  rcases h with ⟨h1, h2⟩ | ⟨i, h1, h2, h3⟩
  · refine .inl ⟨h1, fun i hi => ?_⟩
    by_cases hij : i < j
    · exact h2 i hij
    · obtain rfl : i = j := by omega
      exact hne
  · exact .inr ⟨i, by omega, h2, h3⟩
set_option maxHeartbeats 1000000 in
theorem spec_sameW (a a' : Option Addr) (n n' c c' : Nat) (l l' : List Int) (w : World) (hv : Ints w a n c l) (hv' : Ints w a' n' c' l') (hn : n ≤ 4611686018427387904) :
    Calls Try.prog 179 #[.slice a n c, .slice a' n' c'] w (Ret (.bool (decide (l = l'))) w) := by
  have HL := Lib.hid hv.len
  have HL' := Lib.hid hv'.len
  by_cases he : n = n'
  · subst he
    obtain ⟨b, off, hix, hcell⟩ := hv.ix (P := Try.prog) 25 2 und_int64s cell_int64
    obtain ⟨b', off', hix', hcell'⟩ := hv'.ix (P := Try.prog) 25 2 und_int64s cell_int64
    have Hhv := Lib.hid hv; clear hv; have Hhv' := Lib.hid hv'; clear hv'
    go_enter Try.func179, Try.ntmps179
    go_wp2
    go_loopw [5] (fun i wr => ∃ k : Nat, k ≤ n ∧ i = .int .i64 k ∧ l.take k = l'.take k ∧ Ext w wr) (fun i _ => n - (intOf i).toNat)
    case atStart => exact ⟨0, Nat.zero_le _, rfl, rfl, Ext.refl _⟩
    case round =>
      obtain ⟨k, hk, rfl, hp, hx⟩ := hrel
      have Hhp := Lib.hid hp; clear hp
      by_cases hlt : k < n
      · have HT := Lib.hid (take_gi (l := l) (k := k) (by rw [HL.out]; exact hlt))
        have HT' := Lib.hid (take_gi (l := l') (k := k) (by rw [HL'.out]; exact hlt))
        go_wp2
        (refine wp_region_up (by kernel_rfl) (by kernel_rfl) (by kernel_rfl) ?_; (repeat (first | (refine mix_q rfl ?_; go_big_quiet_step (fail); refine wpQuiet_nil ?_; show wpMix _ _ _ _ _ _ _) | (refine mix_s rfl ?_; go_wp2_with (fail); first | refine ⟨up_of (by repeat (first | (with_reducible exact Ext.refl _) | (with_reducible refine Ext.drewN ?_ _) | (with_reducible refine Ext.drew ?_) | (with_reducible refine Ext.alloc ?_ _) | ((with_reducible refine Ext.setCell ?_ ?_ _); rotate_left; focus (first | (simp; done) | (simp; omega) | omega)) | assumption | (with_reducible refine Ext.trans ?_ (by assumption)))), ?_⟩ | refine ⟨rfl, rfl, up_of (by repeat (first | (with_reducible exact Ext.refl _) | (with_reducible refine Ext.drewN ?_ _) | (with_reducible refine Ext.drew ?_) | (with_reducible refine Ext.alloc ?_ _) | ((with_reducible refine Ext.setCell ?_ ?_ _); rotate_left; focus (first | (simp; done) | (simp; omega) | omega)) | assumption | (with_reducible refine Ext.trans ?_ (by assumption)))), ?_⟩))); refine mix_nil ?_)
        go_wp2
        · have h1 : (gi l k != gi l' k) = true := by assumption
          go_ret
          refine ⟨rb ?_, (by repeat (first | (with_reducible exact Ext.refl _) | (with_reducible refine Ext.drewN ?_ _) | (with_reducible refine Ext.drew ?_) | (with_reducible refine Ext.alloc ?_ _) | ((with_reducible refine Ext.setCell ?_ ?_ _); rotate_left; focus (first | (simp; done) | (simp; omega) | omega)) | assumption | (with_reducible refine Ext.trans ?_ (by assumption))))⟩
          have hne : ¬ l = l' := fun h => by subst h; simp at h1
          simp [hne]
        · have h1 : (gi l k != gi l' k) = false := by assumption
          have h2 : gi l k = gi l' k := by simpa using h1
          exact ⟨⟨k + 1, by omega, by go_num, by rw [HT.out, HT'.out, Hhp.out, h2], (by repeat (first | (with_reducible exact Ext.refl _) | (with_reducible refine Ext.drewN ?_ _) | (with_reducible refine Ext.drew ?_) | (with_reducible refine Ext.alloc ?_ _) | ((with_reducible refine Ext.setCell ?_ ?_ _); rotate_left; focus (first | (simp; done) | (simp; omega) | omega)) | assumption | (with_reducible refine Ext.trans ?_ (by assumption))))⟩, by simp [intOf]; omega⟩
      · go_wp2
        go_ret
        refine ⟨rb ?_, hx⟩
        have := Hhp.out
        rw [take_full (by rw [HL.out]; omega), take_full (by rw [HL'.out]; omega)] at this
        simp [this]
  · have hne : l ≠ l' := fun h => he (by rw [← HL.out, ← HL'.out, h])
    have HN := Lib.hid hne
    have hb : ((n : Int) != (n' : Int)) = true := by simp; omega
    clear hne hv hv' he
    go_enter Try.func179, Try.ntmps179
    go_wp2
    go_ret
    exact ⟨rb (by simp [HN.out]), Ext.refl _⟩
theorem und_nsW : Try.prog.underlying 169 = some (.slice 3) := by kernel_rfl
theorem cell_nW : Try.prog.cellsOf 3 = 1 := by kernel_rfl
theorem info_nW : (Try.prog.info? 3).map (fun i => (i.zero, i.size, i.bytes)) = some (some (.int .i64 0), 1, 8) := by kernel_rfl
set_option maxHeartbeats 8000000 in
theorem spec_l03Chain (base target : Int) (M : Nat) (ka : Option Addr) (n kc' : Nat) (ks : List (List Int)) (aa : Option Addr) (ac : Nat) (al : List (List Int)) (G : List Int → List Int) (w : World) (hk : Mat w ka n kc' ks) (ha : Mat w aa n ac al)
    (hG : ∀ i, i < n → gl al i = G (gl ks i)) (h20 : n ≤ 20) (hM : 1 ≤ M) (hM2 : M ≤ 36) (hK36 : ∀ l ∈ ks, l.length ≤ 36) (hA36 : ∀ l ∈ al, l.length ≤ 36) (hnn : ∀ l ∈ al, ∀ x ∈ l, 0 ≤ x ∧ x ≤ 1000000) (hsm : SmallCh (keyCh base M target ks G)) :
    Calls Try.prog 146 #[.slice ka n kc', .slice aa n ac, .int .i64 base, .int .i64 M, .int .i64 target] w (RetChO (keyCh base M target ks G) w) := by
  have HV := Lib.hid hk
  have HA := Lib.hid ha
  have HLn := Lib.hid hk.len
  have HLa := Lib.hid ha.len
  have HhG := Lib.hid hG; clear hG; have HhK36 := Lib.hid hK36; clear hK36; have HhA36 := Lib.hid hA36; clear hA36; have Hhnn := Lib.hid hnn; clear hnn; have Hhsm := Lib.hid hsm; clear hsm
  clear hk ha
  go_enter Try.func146, Try.ntmps146
  go_wp2_with fail
  obtain ⟨q1, hq1⟩ : ∃ q1, q1 = w.heap.size := ⟨_, rfl⟩
  obtain ⟨q, hq⟩ : ∃ q, q = w.heap.size + 1 := ⟨_, rfl⟩
  obtain ⟨w3, hw3⟩ : ∃ W, W = ((w.alloc (.cells #[.int .i64 0, .int .i64 0, .int .i64 0, .int .i64 0, .slice none 0 0, .slice none 0 0] 27)).alloc (.cells #[.int .i64 base, .int .i64 (M : Int), .int .i64 0, .int .i64 target, .slice none 0 0, .slice none 0 0] 27)).alloc (.cells #[] 3) := ⟨_, rfl⟩
  have hx3 : Ext w w3 := by rw [hw3]; exact (by repeat (first | (with_reducible exact Ext.refl _) | (with_reducible refine Ext.drewN ?_ _) | (with_reducible refine Ext.drew ?_) | (with_reducible refine Ext.alloc ?_ _) | ((with_reducible refine Ext.setCell ?_ ?_ _); rotate_left; focus (first | (simp; done) | (simp; omega) | omega)) | assumption | (with_reducible refine Ext.trans ?_ (by assumption))))
  have HZ3 := Lib.hid (show SAt w3 q1 27 #[.int .i64 0, .int .i64 0, .int .i64 0, .int .i64 0, .slice none 0 0, .slice none 0 0] from by rw [hw3, hq1]; exact ((SAt.new' w #[.int .i64 0, .int .i64 0, .int .i64 0, .int .i64 0, .slice none 0 0, .slice none 0 0] 27 rfl).alloc _).alloc _)
  have HD3 := Lib.hid (show AK w q base M 0 target (.slice none 0 0) (.slice none 0 0) none 0 0 [] [] none 0 0 [] (some ⟨q + 1, 0, none⟩) 0 0 (I []) w3 from by
    rw [hq]
    refine ⟨by rw [hw3]; exact (SAt.new' _ _ _ (by simp)).alloc _, Own.nil _ _ _, Own.nil _ _ _, by rw [hw3]; exact Own.lit0' _ 3 (by omega) (by simp), fun j hj => by omega, hx3, by omega⟩)
  have hqq : q1 < q := by omega
  have hwq1 : w.heap.size ≤ q1 := by omega
  rw [← hw3, ← hq, ← hq1]
  clear hw3 hq hq1
  go_loopw [12, 13] (fun v12 v13 wr => ∃ (k z : Nat) (fa : Option Addr) (fc : Nat) (fi : List Int) (ad : Option Addr) (cc : Nat) (vs : List Value) (pd : Option Addr) (pc : Nat), k ≤ n ∧ v13 = .int .i64 k ∧ v12 = .slice fa z fc ∧ Hid ((addF ks k).1.length = z) ∧
      Hid (AK w q base M 0 target (.slice ad z cc) (.slice pd k pc) ad z cc vs ((addF ks k).1.map (fun x => tabA M (G x))) pd k pc (addF ks k).2 fa z fc (I fi) wr) ∧ Hid (SAt wr q1 27 #[.int .i64 0, .int .i64 0, .int .i64 0, .int .i64 0, .slice none 0 0, .slice none 0 0]) ∧
      Hid (∀ j, j < z → 0 ≤ gi fi j ∧ gi fi j < n ∧ gl ks (gi fi j).toNat = gl (addF ks k).1 j)) (fun _ v13 _ => n - (intOf v13).toNat)
  case atStart => exact ⟨0, 0, _, 0, [], none, 0, [], none, 0, Nat.zero_le _, rfl, rfl, rfl, HD3.out, HZ3.out, fun j hj => by omega⟩
  case round =>
    clear HD3 HZ3 hx3
    obtain ⟨k, z, fa, fc, fi, ad, cc, vs, pd, pc, hk, rfl, rfl, HL, HD, HZ, HFi⟩ := hrel
    have hinv := addF_inv ks k (by rw [HLn.out]; exact hk)
    have hzk : z ≤ k := by rw [← HL.out]; exact hinv.2.1
    have HNd := Lib.hid (addF_nodup ks k (by rw [HLn.out]; exact hk))
    clear hinv
    by_cases hlt : k < n
    · obtain ⟨b0, o0, a', n', c', ⟨f1, f2⟩, hrow⟩ := HV.out.one (P := Try.prog) 43 25 und_rows cell_row1 (k : Int) (by omega) (by omega)
      rw [Int.toNat_natCast] at hrow
      have hn36 : n' ≤ 36 := by have h1 := HhK36.out _ (gl_mem (show k < ks.length by rw [HLn.out]; exact hlt)); have h2 := hrow.len; omega
      have HRow := Lib.hid hrow
      have hxr : Ext w wr := HD.out.h
      clear hrow
      obtain ⟨wo, hwo⟩ : ∃ W, W = wr := ⟨_, rfl⟩
      subst hwo
      obtain ⟨bF, oF, hixF, hcellF⟩ := (show Ints wo fa z fc fi from HD.out.k.ints).ix (P := Try.prog) 169 3 und_nsW cell_nW
      go_wp2_with fail
      go_loopw [14, 15] (fun v14 v15 wr => ∃ (j : Nat), j ≤ z ∧ v15 = .int .i64 j ∧ Hid (atJ (addF ks k).1 (gl ks k) j v14) ∧ Ext wo wr) (fun _ v15 _ => z - (intOf v15).toNat)
      case atStart => exact ⟨0, Nat.zero_le _, rfl, .inl ⟨rfl, fun i hi => by omega⟩, Ext.refl _⟩
      case round =>
        obtain ⟨j, hj, rfl, HJ, hx2⟩ := hrel
        have hxw2 : Ext w wr := hxr.trans hx2
        by_cases hlj : j < z
        · obtain ⟨g0, g1, g2⟩ := HFi.out j hlj
          obtain ⟨b1, o1, a1, n1, c1, ⟨f3, f4⟩, hrow1⟩ := HV.out.one (P := Try.prog) 43 25 und_rows cell_row1 (gi fi j) g0 g1
          rw [g2] at hrow1
          have hn1 : n1 ≤ 36 := by have h1 := HhK36.out _ (gl_mem (show (gi fi j).toNat < ks.length by rw [HLn.out]; omega)); rw [g2] at h1; have h2 := hrow1.len; omega
          have HS := Lib.hid (fun W (h : Ext w W) => spec_sameW a1 a' n1 n' c1 c' _ _ W (hrow1.ext h) (HRow.out.ext h) (by omega))
          clear hrow1
          have hww : Ext wr wr := Ext.refl _
          by_cases he : gl (addF ks k).1 j = gl ks k
          · rw [decide_eq_true he] at HS
            have HE := Lib.hid he
            clear he
            go_wp2_with fail
            (refine wp_region_from wr (by repeat (first | (with_reducible exact Ext.refl _) | (with_reducible refine Ext.drewN ?_ _) | (with_reducible refine Ext.drew ?_) | (with_reducible refine Ext.alloc ?_ _) | ((with_reducible refine Ext.setCell ?_ ?_ _); rotate_left; focus (first | (simp; done) | (simp; omega) | omega)) | assumption | (with_reducible refine Ext.trans ?_ (by assumption)))) (by kernel_rfl) (by kernel_rfl) (by kernel_rfl) ?_; (repeat (first | (refine mix_q rfl ?_; go_big_quiet_step (fail); refine wpQuiet_nil ?_; show wpMix _ _ _ _ _ _ _) | (refine mix_s rfl ?_; go_wp2_with ((with_reducible refine (HS.out _ (hxw2.trans (by repeat (first | (with_reducible exact Ext.refl _) | (with_reducible assumption) | (with_reducible refine Ext.drewN ?_ _) | (with_reducible refine Ext.drew ?_) | (with_reducible refine Ext.alloc ?_ _) | ((with_reducible refine Ext.setCell ?_ ?_ _); rotate_left; focus (first | (simp; done) | (simp; omega) | omega)) | (with_reducible refine Ext.trans ?_ (by with_reducible assumption)))))).mono ?_); rintro e w6 ⟨rfl, hy6⟩; have hx6 : Ext wr w6 := Ext.trans (by repeat (first | (with_reducible exact Ext.refl _) | (with_reducible assumption) | (with_reducible refine Ext.drewN ?_ _) | (with_reducible refine Ext.drew ?_) | (with_reducible refine Ext.alloc ?_ _) | ((with_reducible refine Ext.setCell ?_ ?_ _); rotate_left; focus (first | (simp; done) | (simp; omega) | omega)) | (with_reducible refine Ext.trans ?_ (by with_reducible assumption)))) hy6; clear hy6); first | refine ⟨up_of (by repeat (first | (with_reducible exact Ext.refl _) | (with_reducible refine Ext.drewN ?_ _) | (with_reducible refine Ext.drew ?_) | (with_reducible refine Ext.alloc ?_ _) | ((with_reducible refine Ext.setCell ?_ ?_ _); rotate_left; focus (first | (simp; done) | (simp; omega) | omega)) | assumption | (with_reducible refine Ext.trans ?_ (by assumption)))), ?_⟩ | refine ⟨rfl, rfl, up_of (by repeat (first | (with_reducible exact Ext.refl _) | (with_reducible refine Ext.drewN ?_ _) | (with_reducible refine Ext.drew ?_) | (with_reducible refine Ext.alloc ?_ _) | ((with_reducible refine Ext.setCell ?_ ?_ _); rotate_left; focus (first | (simp; done) | (simp; omega) | omega)) | assumption | (with_reducible refine Ext.trans ?_ (by assumption)))), ?_⟩))); refine mix_nil ?_)
            go_wp2_with fail
            exact ⟨⟨j + 1, by omega, by go_num, .inr ⟨j, by omega, rfl, HE.out⟩, hx2.trans (by repeat (first | (with_reducible exact Ext.refl _) | (with_reducible assumption) | (with_reducible refine Ext.drewN ?_ _) | (with_reducible refine Ext.drew ?_) | (with_reducible refine Ext.alloc ?_ _) | ((with_reducible refine Ext.setCell ?_ ?_ _); rotate_left; focus (first | (simp; done) | (simp; omega) | omega)) | (with_reducible refine Ext.trans ?_ (by with_reducible assumption))))⟩, by simp [intOf]; omega⟩
          · rw [decide_eq_false he] at HS
            have HE := Lib.hid he
            clear he
            go_wp2_with fail
            (refine wp_region_from wr (by repeat (first | (with_reducible exact Ext.refl _) | (with_reducible refine Ext.drewN ?_ _) | (with_reducible refine Ext.drew ?_) | (with_reducible refine Ext.alloc ?_ _) | ((with_reducible refine Ext.setCell ?_ ?_ _); rotate_left; focus (first | (simp; done) | (simp; omega) | omega)) | assumption | (with_reducible refine Ext.trans ?_ (by assumption)))) (by kernel_rfl) (by kernel_rfl) (by kernel_rfl) ?_; (repeat (first | (refine mix_q rfl ?_; go_big_quiet_step (fail); refine wpQuiet_nil ?_; show wpMix _ _ _ _ _ _ _) | (refine mix_s rfl ?_; go_wp2_with ((with_reducible refine (HS.out _ (hxw2.trans (by repeat (first | (with_reducible exact Ext.refl _) | (with_reducible assumption) | (with_reducible refine Ext.drewN ?_ _) | (with_reducible refine Ext.drew ?_) | (with_reducible refine Ext.alloc ?_ _) | ((with_reducible refine Ext.setCell ?_ ?_ _); rotate_left; focus (first | (simp; done) | (simp; omega) | omega)) | (with_reducible refine Ext.trans ?_ (by with_reducible assumption)))))).mono ?_); rintro e w6 ⟨rfl, hy6⟩; have hx6 : Ext wr w6 := Ext.trans (by repeat (first | (with_reducible exact Ext.refl _) | (with_reducible assumption) | (with_reducible refine Ext.drewN ?_ _) | (with_reducible refine Ext.drew ?_) | (with_reducible refine Ext.alloc ?_ _) | ((with_reducible refine Ext.setCell ?_ ?_ _); rotate_left; focus (first | (simp; done) | (simp; omega) | omega)) | (with_reducible refine Ext.trans ?_ (by with_reducible assumption)))) hy6; clear hy6); first | refine ⟨up_of (by repeat (first | (with_reducible exact Ext.refl _) | (with_reducible refine Ext.drewN ?_ _) | (with_reducible refine Ext.drew ?_) | (with_reducible refine Ext.alloc ?_ _) | ((with_reducible refine Ext.setCell ?_ ?_ _); rotate_left; focus (first | (simp; done) | (simp; omega) | omega)) | assumption | (with_reducible refine Ext.trans ?_ (by assumption)))), ?_⟩ | refine ⟨rfl, rfl, up_of (by repeat (first | (with_reducible exact Ext.refl _) | (with_reducible refine Ext.drewN ?_ _) | (with_reducible refine Ext.drew ?_) | (with_reducible refine Ext.alloc ?_ _) | ((with_reducible refine Ext.setCell ?_ ?_ _); rotate_left; focus (first | (simp; done) | (simp; omega) | omega)) | assumption | (with_reducible refine Ext.trans ?_ (by assumption)))), ?_⟩))); refine mix_nil ?_)
            go_wp2_with fail
            refine ⟨⟨j + 1, by omega, by go_num, ?_, hx2.trans (by repeat (first | (with_reducible exact Ext.refl _) | (with_reducible assumption) | (with_reducible refine Ext.drewN ?_ _) | (with_reducible refine Ext.drew ?_) | (with_reducible refine Ext.alloc ?_ _) | ((with_reducible refine Ext.setCell ?_ ?_ _); rotate_left; focus (first | (simp; done) | (simp; omega) | omega)) | (with_reducible refine Ext.trans ?_ (by with_reducible assumption))))⟩, by simp [intOf]; omega⟩
            exact HJ.out.no HE.out
        · have hjz : z = j := by omega
          subst hjz
          obtain ⟨w1, hw1⟩ : ∃ W, W = wr := ⟨_, rfl⟩
          rw [← hw1] at hx2 ⊢
          clear hw1 hxw2
          have HD1 := Lib.hid (HD.out.ext hx2)
          have HZ1 := Lib.hid (HZ.out.ext hx2)
          have hle1 : w.heap.size ≤ w1.heap.size := HD1.out.h.le
          clear HD HZ hixF hcellF
          rcases HJ.out with ⟨rfl, hno⟩ | ⟨i, hi, rfl, hy⟩
          rotate_left
          · have HE := Lib.hid (addF_yes (ls := ks) (k := k) (j := i) (by rw [HLn.out]; exact hlt) (by rw [HL.out]; exact hi) hy (fun i' hi' he => by have := gl_inj HNd.out (i := i') (j := i) (by rw [HL.out]; omega) (by rw [HL.out]; exact hi) (he.trans hy.symm); omega))
            have c5 := HD1.out.s.cell 5 (by simp)
            have fr1 := fun j => HD1.out.s.frozen j
            have hlt1 := HD1.out.s.lt
            try simp only [List.getElem_toArray, List.getElem_cons_succ, List.getElem_cons_zero] at c5
            clear hy f1 f2
            go_wp2_with (at_builtin; refine law_append1_at _ rfl _ _ 25 rfl 2 (.int .i64 0) 8 und_int64s info_int64 rfl w.heap.size pd k pc _ _ rfl rfl rfl HD1.out.p hle1 (by omega) (by omega) ?_; intro pd' pc' w5 ho5 hb5 hg5 hk5; have HD5 := Lib.hid (HD1.out.put hb5 hg5 ho5 hk5); have HZ5 := Lib.hid (HZ1.out.grown hg5 (row_ne_s (HD1.out.p.ne_s HZ1.out (by decide)))); have c55 := HD5.out.s.cell 5 (by simp); have fr5 := fun j => HD5.out.s.frozen j; have hlt5 := HD5.out.s.lt; clear ho5 hb5 hg5 hk5; (try simp only [List.getElem_toArray, List.getElem_cons_succ, List.getElem_cons_zero] at c55))
            refine ⟨⟨k + 1, z, fa, fc, fi, ad, cc, vs, pd', pc', by omega, by go_num, rfl, by rw [Hid, HE.out]; exact HL.out, ?_, HZ5.out.other _ (by simp only; omega), ?_⟩, by simp [intOf]; omega⟩
            · rw [Hid, HE.out]; exact HD5.out.set 5 (.slice pd' (k + 1) pc') rfl
            · rw [Hid, HE.out]; exact HFi.out
          · have HE := Lib.hid (addF_no (ls := ks) (k := k) (by rw [HLn.out]; exact hlt) (fun i hi => hno i (by rw [← HL.out]; exact hi)))
            obtain ⟨bA, oA, aA, nA, cA, ⟨f5, f6⟩, hrowA⟩ := HA.out.one (P := Try.prog) 43 25 und_rows cell_row1 (k : Int) (by omega) (by omega)
            rw [Int.toNat_natCast] at hrowA
            have hmA : gl al k ∈ al := gl_mem (by rw [HLa.out]; exact hlt)
            have hnA : nA ≤ 36 := by have h1 := HhA36.out _ hmA; have h2 := hrowA.len; omega
            have HTa := Lib.hid (fun W (h : Ext w W) => spec_l03Table M aA nA cA (gl al k) W (hrowA.ext h) hM hM2 hnA (Hhnn.out _ hmA))
            rw [HhG.out k hlt] at HTa
            have HTl := Lib.hid (show (tabA (M : Int) (G (gl ks k))).length = M by simp [tabA])
            clear hno f1 f2 hrowA hmA HRow
            go_upto_region 15 with (at_builtin; refine law_append1_at _ rfl _ _ 169 rfl 3 (.int .i64 0) 8 und_nsW info_nW rfl w.heap.size fa z fc (I fi) (.int .i64 (k : Int)) rfl rfl rfl HD1.out.k hle1 (by omega) (by omega) ?_; intro fa' fc' w5 ho5 hb5 hg5 hk5; have HD5 := Lib.hid (HD1.out.know hb5 hg5 ho5 hk5); have HZ5 := Lib.hid (HZ1.out.grown hg5 (row_ne_s (HD1.out.k.ne_s HZ1.out (by decide)))); have hle5 : w1.heap.size ≤ w5.heap.size := hb5.size; clear ho5 hb5 hg5 hk5)
            have hxw5 : Ext w w5 := HD5.out.h
            have hq5 : q < w5.heap.size := HD5.out.s.lt
            have hml : ((addF ks k).1.map (fun x => tabA (M : Int) (G x))).length = z := by rw [List.length_map]; exact HL.out
            have HBl := Lib.hid (show (∀ g, ad = some g → g.block < w5.heap.size) ∧ (∀ g, pd = some g → g.block < w5.heap.size) ∧ (∀ g, fa' = some g → g.block < w5.heap.size) from ⟨own_blk HD5.out.o, own_blk HD5.out.p, own_blk HD5.out.k⟩)
            obtain ⟨C0, hC0⟩ : ∃ C : World → Prop, C = fun w' => Ext w w' ∧ SAt w' q 27 #[.int .i64 base, .int .i64 M, .int .i64 0, .int .i64 target, .slice ad z cc, .slice pd k pc] := ⟨_, rfl⟩
            have hin : C0 w5.drew := by rw [hC0]; exact ⟨hxw5.drew, HD5.out.s.drew⟩
            have hpk : ∀ z', Ext w (World.pk C0 w5.drew z') ∧ SAt (World.pk C0 w5.drew z') q 27 #[.int .i64 base, .int .i64 M, .int .i64 0, .int .i64 target, .slice ad z cc, .slice pd k pc] := fun z' => by have := pk_in hin z'; rw [hC0] at this; rw [hC0]; exact this
            have k4 : ∀ z', (World.pk C0 w5.drew z').cell? ⟨q, 4, none⟩ = some (.slice ad z cc) := fun z' => (hpk z').2.cell 4 (by simp)
            have k6 : ∀ z', (World.pk C0 w5.drew z').cell? ⟨bA, oA, none⟩ = some (.slice aA nA cA) := fun z' => f6 _ (hpk z').1
            have HTb := Lib.hid (HTa.out w5.drew hxw5.drew)
            clear f6
            have Hhpk := Lib.hid hpk; clear hpk; have Hhin := Lib.hid hin; clear hin; have HhC0 := Lib.hid hC0; clear hC0
            refine wp_region_pk C0 11 Hhin.out rfl (by kernel_rfl) (by kernel_rfl) (by kernel_rfl) (by kernel_rfl) ?_
            simp only [List.take_succ_cons, List.take_zero, List.drop_succ_cons, List.drop_zero]
            (repeat (first | (refine mix_q rfl ?_; go_big_quiet_step (fail); refine wpQuiet_nil ?_; show wpMix _ _ _ _ _ _ _) | (refine mix_s rfl ?_; go_wp2_with (first
              | (go_at_call 180; (with_reducible refine HTb.out.mono ?_); rintro e w6 ⟨ta, tc, rfl, hm6, hy6⟩; rw [HTl.out] at hm6 ⊢; have HM6 := Lib.hid hm6; have HD6 := Lib.hid (HD5.out.ext (Ext.trans ((Ext.refl w5).drew) hy6)); have HZ6 := Lib.hid (HZ5.out.ext (Ext.trans ((Ext.refl w5).drew) hy6)); have hle6 := HD6.out.h.le; clear hm6 hy6)
              | (at_builtin; refine law_append1_at w6 rfl _ _ 24 rfl 43 (.slice none 0 0) 24 und_cub2 info_tab2 rfl w.heap.size ad z cc _ _ rfl rfl (by simp [Act.eval, go_sem]) HD6.out.o hle6 (by omega) (by omega) ?_; intro ad' cc' w7 ho7 hb7 hg7 hk7; have HD7 := Lib.hid (HD6.out.app hml HM6.out hq5 HBl.out.1 HBl.out.2.1 HBl.out.2.2 hb7 hg7 ho7 hk7); have HZ7 := Lib.hid (HZ6.out.grown hg7 (row_ne_s (HD6.out.o.ne_s HZ6.out (by decide)))); clear hb7 hg7 ho7 hk7)); first | refine ⟨pk_of (by rw [HhC0.out]; exact ⟨HD7.out.h, HD7.out.s⟩), ?_⟩ | refine ⟨rfl, rfl, pk_of (by rw [HhC0.out]; exact ⟨HD7.out.h, HD7.out.s⟩), ?_⟩ | refine ⟨pk_of (by rw [HhC0.out]; exact ⟨HD6.out.h, HD6.out.s⟩), ?_⟩ | refine ⟨rfl, rfl, pk_of (by rw [HhC0.out]; exact ⟨HD6.out.h, HD6.out.s⟩), ?_⟩ | refine ⟨pk_of (by rw [HhC0.out]; exact ⟨HD6.out.h.alloc _, HD6.out.s.alloc _⟩), ?_⟩ | refine ⟨rfl, rfl, pk_of (by rw [HhC0.out]; exact ⟨HD6.out.h.alloc _, HD6.out.s.alloc _⟩), ?_⟩)))
            refine mix_nil ?_
            have c4 := HD7.out.s.cell 4 (by simp)
            have fr7 := HD7.out.s.frozen 4
            have hlt7 := HD7.out.s.lt
            try simp only [List.getElem_toArray, List.getElem_cons_succ, List.getElem_cons_zero] at c4
            have HD8 := Lib.hid (HD7.out.set 4 (.slice ad' (z + 1) cc') rfl)
            have HZ8 := Lib.hid (HZ7.out.other (p := ⟨q, 4, none⟩) (.slice ad' (z + 1) cc') (by simp only; omega))
            have hle8 := HD8.out.h.le
            have c58 := HD8.out.s.cell 5 (by simp)
            have fr8 := fun j => HD8.out.s.frozen j
            have hlt8 := HD8.out.s.lt
            try simp only [List.getElem_toArray, List.getElem_cons_succ, List.getElem_cons_zero] at c58
            go_wp2_with (at_builtin; refine law_append1_at _ rfl _ _ 25 rfl 2 (.int .i64 0) 8 und_int64s info_int64 rfl w.heap.size pd k pc _ _ rfl rfl (by simp [Act.eval, go_sem]) HD8.out.p hle8 (by omega) (by omega) ?_; intro pd' pc' w9 ho9 hb9 hg9 hk9; have HD9 := Lib.hid (HD8.out.put hb9 hg9 ho9 hk9); have HZ9 := Lib.hid (HZ8.out.grown hg9 (row_ne_s (HD8.out.p.ne_s HZ8.out (by decide)))); have c59 := HD9.out.s.cell 5 (by simp); have fr9 := fun j => HD9.out.s.frozen j; have hlt9 := HD9.out.s.lt; clear ho9 hb9 hg9 hk9; (try simp only [List.getElem_toArray, List.getElem_cons_succ, List.getElem_cons_zero] at c59))
            refine ⟨⟨k + 1, z + 1, fa', fc', fi ++ [(k : Int)], ad', cc', vs ++ [.slice ta M tc], pd', pc', by omega, by go_num, rfl, by rw [Hid, HE.out, List.length_append, HL.out, List.length_singleton], ?_, HZ9.out.other _ (by simp only; omega), ?_⟩, by simp [intOf]; omega⟩
            · rw [Hid, HE.out, HL.out, List.map_append, I_append]; exact HD9.out.set 5 (.slice pd' (k + 1) pc') rfl
            · rw [Hid, HE.out]
              have hfl : fi.length = z := by have := HD1.out.k.len; rwa [I_len] at this
              intro j hj
              by_cases hjz : j < z
              · have := HFi.out j hjz
                rw [gi_ltW (by omega), gl_lt (by rw [HL.out]; exact hjz)]
                exact this
              · obtain rfl : j = z := by omega
                rw [gi_lastW hfl, gl_last HL.out, Int.toNat_natCast]
                exact ⟨by omega, by omega, rfl⟩
    · obtain rfl : k = n := by omega
      have c0 := HD.out.s.cell 0 (by simp)
      have c1 := HD.out.s.cell 1 (by simp)
      have c2 := HD.out.s.cell 2 (by simp)
      have c3 := HD.out.s.cell 3 (by simp)
      have c4 := HD.out.s.cell 4 (by simp)
      have c5 := HD.out.s.cell 5 (by simp)
      have z0 := HZ.out.cell 0 (by simp)
      have z1 := HZ.out.cell 1 (by simp)
      have z2 := HZ.out.cell 2 (by simp)
      have z3 := HZ.out.cell 3 (by simp)
      have z4 := HZ.out.cell 4 (by simp)
      have z5 := HZ.out.cell 5 (by simp)
      have fr := fun j => HZ.out.frozen j
      have hltz := HZ.out.lt
      try simp only [List.getElem_toArray, List.getElem_cons_succ, List.getElem_cons_zero] at c0 c1 c2 c3 c4 c5 z0 z1 z2 z3 z4 z5
      clear hlt
      go_wp2
      refine bodyPost_ret (v := .agg #[.int .i64 base, .int .i64 (M : Int), .int .i64 0, .int .i64 target, .slice ad z cc, .slice pd k pc]) ?_ rfl ?_
      · simp [results, Try.results146, go_sem, z0, z1, z2, z3, z4, z5]
      · have d := HD.out
        have hz := HZ.out
        have d5 := (((((d.setZ hz hqq hwq1 0 (.int .i64 base)).setZ (hz.set 0 (.int .i64 base)) hqq hwq1 1 (.int .i64 (M : Int))).setZ ((hz.set 0 (.int .i64 base)).set 1 (.int .i64 (M : Int))) hqq hwq1 2 (.int .i64 0)).setZ (((hz.set 0 (.int .i64 base)).set 1 (.int .i64 (M : Int))).set 2 (.int .i64 0)) hqq hwq1 3 (.int .i64 target)).setZ ((((hz.set 0 (.int .i64 base)).set 1 (.int .i64 (M : Int))).set 2 (.int .i64 0)).set 3 (.int .i64 target)) hqq hwq1 4 (.slice ad z cc)).setZ (((((hz.set 0 (.int .i64 base)).set 1 (.int .i64 (M : Int))).set 2 (.int .i64 0)).set 3 (.int .i64 target)).set 4 (.slice ad z cc)) hqq hwq1 5 (.slice pd k pc)
        have hD : keyCh base (M : Int) target ks G = ⟨base, M, 0, target, (addF ks k).1.map (fun x => tabA M (G x)), (addF ks k).2⟩ := by rw [keyCh, HLn.out]
        have hs := Hhsm.out
        rw [hD] at hs ⊢
        exact ⟨ad, z, cc, pd, k, pc, rfl, fun V hV => d5.chInK (by rw [List.length_map]; exact HL.out) (by omega) (by omega) hs hV, d5.h⟩
end Go.Proofs.Ytaiieodllhoelaa
