/- Walks: the reference's copy of a registry. -/
import Derived.Test.YtdekplfjnkbidaaClS
import Derived.Test.YtdekplfjnkbidaaRgL
namespace Go.Proofs.Ytdekplfjnkbidaa
set_option maxRecDepth 100000
open Go.RowKit

theorem OwnCube.grownT {w w' : World} {B B' : Nat} {E3 E2 E1 E0 : TypeId} {a a' : Option Addr} {n c n' c' : Nat} {ll : List (List (List Int))} {vs' : List Value} (h : OwnCube w B E2 E1 E0 a n c ll) (h' : Own w B' E3 a' n' c' vs') (hg : w.grownBy w' (Value.slice a' n' c').ownBlock) (h2 : E2 ≠ E3) (h1 : E1 ≠ E3) (h0 : E0 ≠ E3) : OwnCube w' B E2 E1 E0 a n c ll :=
  ⟨h.len, let ⟨vs, g1, g2⟩ := h.rows; ⟨vs, g1.grownT h' hg h2, fun k hk => let ⟨a1, n1, c1, g3, g4⟩ := g2 k hk; ⟨a1, n1, c1, g3, g4.grownT h' hg h1 h0⟩⟩⟩
theorem oneS (l : List ByteArray) : ∀ u ∈ St l, u.oneCell' = true := fun u hu => by
  obtain ⟨x, _, rfl⟩ := List.mem_map.1 hu; rfl
/-- append(s, src...) as one operation of a drawn region -/
theorem step_appends {P : Program} (w : World) {o : Oper} {a : Act} {K : Act → World → Prop} {Q : Exit → Act → World → Prop}
    (s x : Operand) (t : TypeId) (hop : o.op = Op.call { callee := Callee.builtin Builtin.append, args := #[s, x], argTypes := #[t, t] })
    (e : TypeId) (z : Value) (bytes : Nat) (h1 : P.underlying t = some (.slice e)) (h2 : (P.info? e).map (fun i => (i.zero, i.size, i.bytes)) = some (some z, 1, bytes)) (hz : z.cells.size = 1)
    (B : Nat) (ad : Option Addr) (n c : Nat) (vs : List Value) (src : Option Addr) (m c' : Nat) (us : List Value) (hu : ∀ u ∈ us, u.oneCell' = true) (hs : a.eval s = .slice ad n c) (hx : a.eval x = .slice src m c')
    (hown : Own w B e ad n c vs) (hsl : Sl w src m c' us) (hB : B ≤ w.heap.size) (hn : n + m < 1099511627776) (hb : bytes ≤ 64)
    (hK : ∀ ad' cc' w', Own w' B e ad' (n + m) cc' (vs ++ us) → Below B w w' → w.grownBy w' (Value.slice ad n c).ownBlock → K (a.put o.dst (.slice ad' (n + m) cc')) w') :
    Oper.wp P o a w K Q := by
  obtain ⟨i, hi, hz0, hz1, rfl⟩ := info_parts h2
  cases src with
  | none =>
    have h0 : m = 0 := by
      rcases Nat.eq_zero_or_pos m with h | h
      · exact h
      · obtain ⟨b, off, ha, _⟩ := hsl.cells h; cases ha
    subst h0
    have hul : us = [] := List.eq_nil_of_length_eq_zero hsl.len
    subst hul
    have hr := run_append_none0 (P := P) (w := w) B t o.type e i h1 hi ad n c c' vs hown
    have h3 := hK ad c w (by rw [List.append_nil]; exact hown) (Below.refl _ _) ⟨rfl, rfl, rfl, Nat.le_refl _, fun _ _ _ => rfl⟩
    unfold Oper.wp execOp
    simp only [hop, resolve, invoke, builtin, Sem.run_bind, Sem.run_pure, Result.andThen_ok, List.map_toArray, List.map_cons, List.map_nil, hs, hx, hr]
    exact h3
  | some ad0 =>
    refine wp_append_own (P := P) w s x t hop B e i z 1 i.bytes h1 hi hz0 hz1 rfl hz (by omega) (.slice ad n c) n vs hs hown ad0 m c' us hx (by rw [hsl.len, Nat.mul_one])
      (fun j u hj => ?_) hu (by unfold maxLen; omega) (by have := Nat.mul_le_mul (show n + m ≤ 1099511627776 by omega) hb; omega) hB ?_
    · have hj' : j < m := by rw [← hsl.len]; exact (List.getElem?_eq_some_iff.1 hj).1
      obtain ⟨b, off, ha, hc⟩ := hsl.cells (by omega)
      simp only [Option.some.injEq] at ha
      subst ha
      rw [Addr.add_lit, hc j hj', List.getD_eq_getElem?_getD, hj]; rfl
    · intro v' w' h3 h4 _
      have hv : ∃ ad' c', v' = .slice ad' (n + m) c' := by
        rcases h3.2 with ⟨h, h'⟩ | ⟨g, cap, cur, hv, _⟩
        · exact ⟨none, 0, by rw [h, h']⟩
        · exact ⟨_, _, hv⟩
      obtain ⟨ad', c', rfl⟩ := hv
      exact hK ad' c' w' h3 (Below.grown (Below.refl B w) h4 hB (fun k hk => (World.ownsRow.lt hown k hk).1)) h4
/-- a registry of the call's own -/
def RetRgS (D : Rg) (n m im rm : Nat) (w : World) (e : Ending) (w' : World) : Prop :=
  ∃ a c b d ia ic ra rc, e = .returned (.agg #[.int .i64 D.ch.base, .int .i64 D.ch.states, .int .i64 D.ch.start, .int .i64 D.ch.fin, .slice a n c, .slice b m d, .int .i64 D.apart, .slice ia im ic, .slice ra rm rc]) ∧ OwnCube w' w.heap.size 101 23 2 a n c D.ch.tabs ∧ Own w' w.heap.size 2 b m d (I D.ch.places) ∧ Own w' w.heap.size 9 ia im ic (St D.issued) ∧ Own w' w.heap.size 2 ra rm rc (I D.revoked) ∧ Ext w w'
set_option maxHeartbeats 4000000 in
theorem spec_ownReg (D : Rg) (q : Nat) (a : Option Addr) (n c : Nat) (b : Option Addr) (m d : Nat) (ia : Option Addr) (im ic : Nat) (ra : Option Addr) (rm rc : Nat) (w : World) (hv : RgAt w q D a n c b m d ia im ic ra rm rc) (hin : RgIn w D a n c b m d ia im ic ra rm rc) : Calls Try.prog 83 #[.pointer (some ⟨q, 0, none⟩)] w (RetRgS D n m im rm w) := by
  have HC := Lib.hid (fun W h => spec_ownChain D.ch q a n c b m d W (ChAt.ext hv.ch h) hin.ch.hn' hin.ch.hn hin.ch.sm)
  have HR := Lib.hid (fun W h => spec_own ra rm rc D.revoked W (Ints.ext hv.rs h) (by have := hin.hr; omega))
  have HI := Lib.hid hv.is
  have HL := Lib.hid hv.is.len
  have HLr := Lib.hid hv.rs.len
  have him := hin.hi
  obtain ⟨wz, hwz⟩ : ∃ wz, wz = w.alloc (.cells #[.int .i64 0, .int .i64 0, .int .i64 0, .int .i64 0, .slice none 0 0, .slice none 0 0, .int .i64 0, .slice none 0 0, .slice none 0 0] 33) := ⟨_, rfl⟩
  have hxz : Ext w wz := by rw [hwz]; exact (by repeat (first | (with_reducible exact Ext.refl _) | (with_reducible assumption) | (with_reducible refine Ext.drewN ?_ _) | (with_reducible refine Ext.drew ?_) | (with_reducible refine Ext.alloc ?_ _) | ((with_reducible refine Ext.setCell ?_ ?_ _); rotate_left; focus (first | (simp; done) | (simp; omega) | omega)) | (with_reducible refine Ext.trans ?_ (by with_reducible assumption))))
  have hzs : wz.heap.size = w.heap.size + 1 := by rw [hwz]; simp
  have hzl : w.heap.size < wz.heap.size := by omega
  have zc0 : ∀ w', Ext wz w' → w'.cell? ⟨w.heap.size, 0, none⟩ = some (.int .i64 0) := fun w' hx => hx.cell (by rw [hwz]; go_simp)
  have zc1 : ∀ w', Ext wz w' → w'.cell? ⟨w.heap.size, 1, none⟩ = some (.int .i64 0) := fun w' hx => hx.cell (by rw [hwz]; go_simp)
  have zc2 : ∀ w', Ext wz w' → w'.cell? ⟨w.heap.size, 2, none⟩ = some (.int .i64 0) := fun w' hx => hx.cell (by rw [hwz]; go_simp)
  have zc3 : ∀ w', Ext wz w' → w'.cell? ⟨w.heap.size, 3, none⟩ = some (.int .i64 0) := fun w' hx => hx.cell (by rw [hwz]; go_simp)
  have zc4 : ∀ w', Ext wz w' → w'.cell? ⟨w.heap.size, 4, none⟩ = some (.slice none 0 0) := fun w' hx => hx.cell (by rw [hwz]; go_simp)
  have zc5 : ∀ w', Ext wz w' → w'.cell? ⟨w.heap.size, 5, none⟩ = some (.slice none 0 0) := fun w' hx => hx.cell (by rw [hwz]; go_simp)
  have zc6 : ∀ w', Ext wz w' → w'.cell? ⟨w.heap.size, 6, none⟩ = some (.int .i64 0) := fun w' hx => hx.cell (by rw [hwz]; go_simp)
  have zc7 : ∀ w', Ext wz w' → w'.cell? ⟨w.heap.size, 7, none⟩ = some (.slice none 0 0) := fun w' hx => hx.cell (by rw [hwz]; go_simp)
  have zc8 : ∀ w', Ext wz w' → w'.cell? ⟨w.heap.size, 8, none⟩ = some (.slice none 0 0) := fun w' hx => hx.cell (by rw [hwz]; go_simp)
  have zf : ∀ i w', Ext wz w' → w'.frozen? ⟨w.heap.size, i, none⟩ = false := fun i w' hx => (Below.frozen (p := ⟨w.heap.size, i, none⟩) hx hzl).trans (by rw [hwz]; exact SAt.frozen (SAt.new' w _ _ rfl) i)
  have zs : ∀ w', Ext wz w' → w.heap.size + 1 ≤ w'.heap.size := fun w' hx => by have := hx.le; omega
  have zs2 : ∀ w', Ext wz w' → w.heap.size < w'.heap.size := fun w' hx => by have := hx.le; omega
  obtain ⟨_, k6, k7, k8, _, _⟩ := hv
  have HZ := Lib.hid zs
  clear hin
  go_enter Try.func83, Try.ntmps83
  go_wp2
  rw [← hwz]
  clear hwz
  go_region_held3 (fun w' => Ext w w') ((exact (by repeat (first | (with_reducible exact Ext.refl _) | (with_reducible assumption) | (with_reducible refine Ext.drewN ?_ _) | (with_reducible refine Ext.drew ?_) | (with_reducible refine Ext.alloc ?_ _) | ((with_reducible refine Ext.setCell ?_ ?_ _); rotate_left; focus (first | (simp; done) | (simp; omega) | omega)) | (with_reducible refine Ext.trans ?_ (by with_reducible assumption)))))) ((first
    | (go_at_call 66; refine (HC.out _ (by repeat (first | (with_reducible exact Ext.refl _) | (with_reducible assumption) | (with_reducible refine Ext.drewN ?_ _) | (with_reducible refine Ext.drew ?_) | (with_reducible refine Ext.alloc ?_ _) | ((with_reducible refine Ext.setCell ?_ ?_ _); rotate_left; focus (first | (simp; done) | (simp; omega) | omega)) | (with_reducible refine Ext.trans ?_ (by with_reducible assumption))))).mono ?_; rintro e w1 ⟨a1, c1, b1, d1, rfl, hoc1', hop1', hx1⟩; have hz1 : Ext wz w1 := Ext.trans (by repeat (first | (with_reducible exact Ext.refl _) | (with_reducible assumption) | (with_reducible refine Ext.drewN ?_ _) | (with_reducible refine Ext.drew ?_) | (with_reducible refine Ext.alloc ?_ _) | ((with_reducible refine Ext.setCell ?_ ?_ _); rotate_left; focus (first | (simp; done) | (simp; omega) | omega)) | (with_reducible refine Ext.trans ?_ (by with_reducible assumption)))) hx1; have hoc1 := hoc1'.mono (zs _ (by repeat (first | (with_reducible exact Ext.refl _) | (with_reducible assumption) | (with_reducible refine Ext.drewN ?_ _) | (with_reducible refine Ext.drew ?_) | (with_reducible refine Ext.alloc ?_ _) | ((with_reducible refine Ext.setCell ?_ ?_ _); rotate_left; focus (first | (simp; done) | (simp; omega) | omega)) | (with_reducible refine Ext.trans ?_ (by with_reducible assumption))))); have hop1 := hop1'.mono (zs _ (by repeat (first | (with_reducible exact Ext.refl _) | (with_reducible assumption) | (with_reducible refine Ext.drewN ?_ _) | (with_reducible refine Ext.drew ?_) | (with_reducible refine Ext.alloc ?_ _) | ((with_reducible refine Ext.setCell ?_ ?_ _); rotate_left; focus (first | (simp; done) | (simp; omega) | omega)) | (with_reducible refine Ext.trans ?_ (by with_reducible assumption))))); clear hoc1' hop1')
    | (go_at_call 106; refine (HR.out _ (by repeat (first | (with_reducible exact Ext.refl _) | (with_reducible assumption) | (with_reducible refine Ext.drewN ?_ _) | (with_reducible refine Ext.drew ?_) | (with_reducible refine Ext.alloc ?_ _) | ((with_reducible refine Ext.setCell ?_ ?_ _); rotate_left; focus (first | (simp; done) | (simp; omega) | omega)) | (with_reducible refine Ext.trans ?_ (by with_reducible assumption))))).mono ?_; rintro e w3 ⟨a3, c3, rfl, ho3', hx3⟩; rw [I_len, HLr.out] at ho3' ⊢; have ho3 := ho3'.mono (zs _ (by repeat (first | (with_reducible exact Ext.refl _) | (with_reducible assumption) | (with_reducible refine Ext.drewN ?_ _) | (with_reducible refine Ext.drew ?_) | (with_reducible refine Ext.alloc ?_ _) | ((with_reducible refine Ext.setCell ?_ ?_ _); rotate_left; focus (first | (simp; done) | (simp; omega) | omega)) | (with_reducible refine Ext.trans ?_ (by with_reducible assumption))))); clear ho3'; have hoc3 := hoc2.ext hx3; have hop3 := hop2.ext hx3; have ho23 := ho2.ext hx3; have hz3 : Ext wz w3 := Ext.trans (by repeat (first | (with_reducible exact Ext.refl _) | (with_reducible assumption) | (with_reducible refine Ext.drewN ?_ _) | (with_reducible refine Ext.drew ?_) | (with_reducible refine Ext.alloc ?_ _) | ((with_reducible refine Ext.setCell ?_ ?_ _); rotate_left; focus (first | (simp; done) | (simp; omega) | omega)) | (with_reducible refine Ext.trans ?_ (by with_reducible assumption)))) hx3; have hsz3 := zs _ hz3; have hsz32 := zs2 _ hz3; have hfr3 := fun i => zf i w3 hz3; have y0 := zc0 w3 hz3; have y1 := zc1 w3 hz3; have y2 := zc2 w3 hz3; have y3 := zc3 w3 hz3; have y4 := zc4 w3 hz3; have y5 := zc5 w3 hz3; have y6 := zc6 w3 hz3; have y7 := zc7 w3 hz3; have y8 := zc8 w3 hz3)
    | (refine step_appends _ _ _ 26 rfl 9 (.string .empty) 16 und_strs info_str rfl (w.heap.size + 1) _ 0 0 [] ia im ic (St D.issued) (oneS _) rfl rfl (by repeat (first | ((with_reducible refine Own.lit0' _ _ ?_ ?_) <;> (first | (simp; done) | (simp; omega) | omega | exact zs _ (by repeat (first | (with_reducible exact Ext.refl _) | (with_reducible assumption) | (with_reducible refine Ext.drewN ?_ _) | (with_reducible refine Ext.drew ?_) | (with_reducible refine Ext.alloc ?_ _) | ((with_reducible refine Ext.setCell ?_ ?_ _); rotate_left; focus (first | (simp; done) | (simp; omega) | omega)) | (with_reducible refine Ext.trans ?_ (by with_reducible assumption)))))) | (with_reducible refine Own.drew ?_) | (with_reducible refine Own.alloc' ?_ _) | (with_reducible refine Own.ext ?_ hx1))) (Strs.ext HI.out (by repeat (first | (with_reducible exact Ext.refl _) | (with_reducible assumption) | (with_reducible refine Ext.drewN ?_ _) | (with_reducible refine Ext.drew ?_) | (with_reducible refine Ext.alloc ?_ _) | ((with_reducible refine Ext.setCell ?_ ?_ _); rotate_left; focus (first | (simp; done) | (simp; omega) | omega)) | (with_reducible refine Ext.trans ?_ (by with_reducible assumption))))) (zs _ (by repeat (first | (with_reducible exact Ext.refl _) | (with_reducible assumption) | (with_reducible refine Ext.drewN ?_ _) | (with_reducible refine Ext.drew ?_) | (with_reducible refine Ext.alloc ?_ _) | ((with_reducible refine Ext.setCell ?_ ?_ _); rotate_left; focus (first | (simp; done) | (simp; omega) | omega)) | (with_reducible refine Ext.trans ?_ (by with_reducible assumption))))) (by omega) (by omega) ?_; intro ad2 cc2 w2 ho2' hb2 hg2; have hoc2 := OwnCube.grownT (B' := w.heap.size + 1) (E3 := 9) (vs' := []) (hoc1.ext (show Ext w1 _ from (by repeat (first | (with_reducible exact Ext.refl _) | (with_reducible assumption) | (with_reducible refine Ext.drewN ?_ _) | (with_reducible refine Ext.drew ?_) | (with_reducible refine Ext.alloc ?_ _) | ((with_reducible refine Ext.setCell ?_ ?_ _); rotate_left; focus (first | (simp; done) | (simp; omega) | omega)) | (with_reducible refine Ext.trans ?_ (by with_reducible assumption)))))) (by repeat (first | ((with_reducible refine Own.lit0' _ _ ?_ ?_) <;> (first | (simp; done) | (simp; omega) | omega | exact zs _ (by repeat (first | (with_reducible exact Ext.refl _) | (with_reducible assumption) | (with_reducible refine Ext.drewN ?_ _) | (with_reducible refine Ext.drew ?_) | (with_reducible refine Ext.alloc ?_ _) | ((with_reducible refine Ext.setCell ?_ ?_ _); rotate_left; focus (first | (simp; done) | (simp; omega) | omega)) | (with_reducible refine Ext.trans ?_ (by with_reducible assumption)))))) | (with_reducible refine Own.drew ?_) | (with_reducible refine Own.alloc' ?_ _) | (with_reducible refine Own.ext ?_ hx1))) hg2 (by decide) (by decide) (by decide); have hop2 := Own.grownT (B' := w.heap.size + 1) (E' := 9) (vs' := []) (hop1.ext (show Ext w1 _ from (by repeat (first | (with_reducible exact Ext.refl _) | (with_reducible assumption) | (with_reducible refine Ext.drewN ?_ _) | (with_reducible refine Ext.drew ?_) | (with_reducible refine Ext.alloc ?_ _) | ((with_reducible refine Ext.setCell ?_ ?_ _); rotate_left; focus (first | (simp; done) | (simp; omega) | omega)) | (with_reducible refine Ext.trans ?_ (by with_reducible assumption)))))) (by repeat (first | ((with_reducible refine Own.lit0' _ _ ?_ ?_) <;> (first | (simp; done) | (simp; omega) | omega | exact zs _ (by repeat (first | (with_reducible exact Ext.refl _) | (with_reducible assumption) | (with_reducible refine Ext.drewN ?_ _) | (with_reducible refine Ext.drew ?_) | (with_reducible refine Ext.alloc ?_ _) | ((with_reducible refine Ext.setCell ?_ ?_ _); rotate_left; focus (first | (simp; done) | (simp; omega) | omega)) | (with_reducible refine Ext.trans ?_ (by with_reducible assumption)))))) | (with_reducible refine Own.drew ?_) | (with_reducible refine Own.alloc' ?_ _) | (with_reducible refine Own.ext ?_ hx1))) hg2 (by decide); have hxa2 : Ext wz w2 := Ext.below (show Ext wz _ from (by repeat (first | (with_reducible exact Ext.refl _) | (with_reducible assumption) | (with_reducible refine Ext.drewN ?_ _) | (with_reducible refine Ext.drew ?_) | (with_reducible refine Ext.alloc ?_ _) | ((with_reducible refine Ext.setCell ?_ ?_ _); rotate_left; focus (first | (simp; done) | (simp; omega) | omega)) | (with_reducible refine Ext.trans ?_ (by with_reducible assumption))))) (Below.mono hb2 (by omega)); have ho2 : Own w2 (w.heap.size + 1) 9 ad2 im cc2 (St D.issued) := by rw [List.nil_append, Nat.zero_add] at ho2'; exact ho2')))
  all_goals
    go_wp2
    refine bodyPost_ret (v := .agg #[.int .i64 D.ch.base, .int .i64 D.ch.states, .int .i64 D.ch.start, .int .i64 D.ch.fin, .slice a1 n c1, .slice b1 m d1, .int .i64 D.apart, .slice ad2 im cc2, .slice a3 rm c3]) ?_ rfl ?_
    · simp [results, Try.results83, go_sem, y0, y1, y2, y3, y4, y5, y6, y7, y8]
    · have hxw3 : Ext w w3 := hxz.trans hz3
      refine ⟨a1, c1, b1, d1, ad2, cc2, a3, c3, rfl, ?_, ?_, ?_, ?_, (by repeat (first | (with_reducible exact Ext.refl _) | (with_reducible assumption) | (with_reducible refine Ext.drewN ?_ _) | (with_reducible refine Ext.drew ?_) | (with_reducible refine Ext.alloc ?_ _) | ((with_reducible refine Ext.setCell ?_ ?_ _); rotate_left; focus (first | (simp; done) | (simp; omega) | omega)) | (with_reducible refine Ext.trans ?_ (by with_reducible assumption))))⟩
      · refine OwnCube.mono (B := w.heap.size + 1) ?_ (by omega)
        repeat (first | (with_reducible exact hoc3) | ((with_reducible refine OwnCube.setBelow ?_ ?_ _); rotate_left; focus (first | (simp; done) | (simp; omega) | omega)))
      · exact Own.mono (B := w.heap.size + 1) (by repeat (first | (with_reducible exact hop3) | ((with_reducible refine Own.setBelow ?_ ?_ _); rotate_left; focus (first | (simp; done) | (simp; omega) | omega)))) (by omega)
      · exact Own.mono (B := w.heap.size + 1) (by repeat (first | (with_reducible exact ho23) | ((with_reducible refine Own.setBelow ?_ ?_ _); rotate_left; focus (first | (simp; done) | (simp; omega) | omega)))) (by omega)
      · exact Own.mono (B := w.heap.size + 1) (by repeat (first | (with_reducible exact ho3) | ((with_reducible refine Own.setBelow ?_ ?_ _); rotate_left; focus (first | (simp; done) | (simp; omega) | omega)))) (by omega)
end Go.Proofs.Ytdekplfjnkbidaa
