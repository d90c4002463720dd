/- Walks: the symbols behind an undetected error: the pairs of states behind it, in the program. -/
import Derived.Test.YtccoopnoakhedaaFaL
import Derived.Test.YtccoopnoakhedaaFs1
import Derived.Test.YtccoopnoakhedaaK
namespace Go.Proofs.Ytccoopnoakhedaa
set_option maxRecDepth 100000
open Go.RowKit

/-- what the closure reads -/
structure NEnv (D : Ch) (q S pl r n' s : Nat) (a : Option Addr) (n c : Nat) (a' : Option Addr) (c' : Nat) (p1 p2 p3 p4 p5 : Nat) (fa : Option Addr) (fc : Nat) (f : List Int) (ba : Option Addr) (bc : Nat) (B0 : World) : Prop where
  ch : ChAt B0 q D a n c a' n' c'
  v1 : VarAt B0 p1 76 (.pointer (some ⟨q, 0, none⟩))
  v2 : VarAt B0 p2 3 (.int .i64 pl)
  v3 : VarAt B0 p3 2 (.int .i64 s)
  v4 : VarAt B0 p4 25 (.slice fa r fc)
  v5 : VarAt B0 p5 85 (.slice ba (n' + 1) bc)
  f : Ints B0 fa r fc f
  bo : BotL D n' S (pl + r) B0 ba bc
  st : D.states = (S : Int)
theorem pair_set {W0 w7 : World} {g : Nat} {T : TypeId} {c0 c1 : Value} (h : SAt W0 g T #[c0, c1]) (hx : Ext W0 w7) (x y : Value) : SAt ((w7.setCell ⟨g, 0, none⟩ x).setCell ⟨g, 1, none⟩ y) g T #[x, y] := by
  have h1 := ((h.ext hx).set 0 x).set 1 y
  exact h1
set_option maxHeartbeats 8000000 in
theorem fin1 {D : Ch} {q S pl r n' s : Nat} {a : Option Addr} {n c : Nat} {a' : Option Addr} {c' : Nat} {p1 p2 p3 p4 p5 : Nat} {fa : Option Addr} {fc : Nat} {f : List Int} {ba : Option Addr} {bc : Nat} {B0 : World}
    (henv : NEnv D q S pl r n' s a n c a' c' p1 p2 p3 p4 p5 fa fc f ba bc B0) (hok : OkCh D) (hpl : pl + r ≤ n') (hs : s < S) (hfd : DigC D f) (p6 b : Nat) (L : List (Int × Int)) (W : World) (hx : Ext B0 W) (v6 : VarAt W p6 99 (.map (some b))) (hm : PMap W b L) (_hb0 : B0.heap.size ≤ b) (hL : L.length < 1000)
    (ta : Option Addr) (tc : Nat) (t : List Int) (ht : Ints W ta r tc t) (htd : DigC D t) :
    Calls Try.prog 68 (#[.slice ta r tc] ++ #[.pointer (some ⟨p1, 0, none⟩), .pointer (some ⟨p2, 0, none⟩), .pointer (some ⟨p3, 0, none⟩), .pointer (some ⟨p4, 0, none⟩), .pointer (some ⟨p5, 0, none⟩), .pointer (some ⟨p6, 0, none⟩)]) W
      (fun e w' => e = .returned (.tuple #[]) ∧ PMap w' b (if posU D n' pl r s f t = true then (runS D pl s f, runS D pl s t) :: L else L) ∧ Two b b W w') := by
  have HEnv := Lib.hid henv
  have HOK := Lib.hid hok
  have hn' := henv.ch.ps.len
  have HSt := Lib.hid henv.st
  have hlen20 := hok.p20
  have hs36 : S ≤ 36 := by have := henv.st; have := hok.s36; omega
  have hfl := henv.f.len
  have htl := ht.len
  have hr1 := runS_bd hok f (pl : Int) (s : Int) hfd (by omega) (by rw [hfl, hn']; omega) (by omega) (by have := henv.st; omega)
  have hr2 := runS_bd hok t (pl : Int) (s : Int) htd (by omega) (by rw [htl, hn']; omega) (by omega) (by have := henv.st; omega)
  obtain ⟨ya, hya⟩ := Int.eq_ofNat_of_zero_le hr1.1
  obtain ⟨yb, hyb⟩ := Int.eq_ofNat_of_zero_le hr2.1
  have hyaS : ya < S := by have := henv.st; omega
  have hybS : yb < S := by have := henv.st; omega
  have HL1 := Lib.hid (fun w' (h : Ext W w') => impl_leads D q a n c a' n' c' (pl : Int) (s : Int) fa r fc f w' ((henv.ch.ext hx).ext h) hok (by omega) (by omega) (by have := henv.st; omega) (henv.f.ext (hx.trans h)) hfd (by omega))
  have HL2 := Lib.hid (fun w' (h : Ext W w') => impl_leads D q a n c a' n' c' (pl : Int) (s : Int) ta r tc t w' ((henv.ch.ext hx).ext h) hok (by omega) (by omega) (by have := henv.st; omega) (ht.ext h) htd (by omega))
  rw [hya] at HL1
  rw [hyb] at HL2
  have HP := Lib.hid (show posU D n' pl r s f t = decide (0 < bothS D n' (n' - (pl + r)) (ya : Int) (yb : Int)) by unfold posU; rw [hya, hyb])
  rw [hya, hyb]
  obtain ⟨b1, o1, ga, gc, b2, o2, a2, c2, b3, o3, ⟨f1, f2⟩, ⟨f3, f4⟩, ⟨f5, f6⟩⟩ := (henv.bo.ext hx).at (j := pl + r) (Nat.le_refl _) hpl hyaS hybS
  push_cast at f1
  generalize bothS D n' (n' - (pl + r)) (ya : Int) (yb : Int) = vv at *
  generalize posU D n' pl r s f t = uu at *
  have cb1 : ∀ w', Ext W w' → w'.cell? ⟨p1, 0, none⟩ = some (.pointer (some ⟨q, 0, none⟩)) := fun w' h => (HEnv.out.v1.ext (hx.trans h)).cell
  have cb2 : ∀ w', Ext W w' → w'.cell? ⟨p2, 0, none⟩ = some (.int .i64 pl) := fun w' h => (HEnv.out.v2.ext (hx.trans h)).cell
  have cb3 : ∀ w', Ext W w' → w'.cell? ⟨p3, 0, none⟩ = some (.int .i64 s) := fun w' h => (HEnv.out.v3.ext (hx.trans h)).cell
  have cb4 : ∀ w', Ext W w' → w'.cell? ⟨p4, 0, none⟩ = some (.slice fa r fc) := fun w' h => (HEnv.out.v4.ext (hx.trans h)).cell
  have cb5 : ∀ w', Ext W w' → w'.cell? ⟨p5, 0, none⟩ = some (.slice ba (n' + 1) bc) := fun w' h => (HEnv.out.v5.ext (hx.trans h)).cell
  have HV6 := Lib.hid v6
  have HM := Lib.hid hm
  clear henv hok ht hfd htd hr1 hr2 hya hyb hfl htl v6 hm
  go_enter Try.func68, Try.ntmps68
  go_wp2_with fail
  have hxW : Ext W W := Ext.refl _
  go_cut [8] from 9 to 19 (fun s8 wx => ∃ g, s8 = .pointer (some ⟨g, 0, none⟩) ∧ W.heap.size ≤ g ∧ SAt wx g 101 #[.int .i64 ya, .int .i64 yb] ∧ Ext W wx)
  case first =>
    go_region_held3 (fun w' => Ext W w') ((exact (by repeat (first | (with_reducible exact Ext.refl _) | (with_reducible assumption) | (with_reducible refine Ext.drewN ?_ _) | (with_reducible refine Ext.drew ?_) | (with_reducible refine Ext.alloc ?_ _) | ((with_reducible refine Ext.setCell ?_ ?_ _); rotate_left; focus (first | (simp; done) | (simp; omega) | omega)) | (with_reducible refine Ext.trans ?_ (by with_reducible assumption)))))) ((first | ((with_reducible refine (HL1.out _ (by repeat (first | (with_reducible exact Ext.refl _) | (with_reducible assumption) | (with_reducible refine Ext.drewN ?_ _) | (with_reducible refine Ext.drew ?_) | (with_reducible refine Ext.alloc ?_ _) | ((with_reducible refine Ext.setCell ?_ ?_ _); rotate_left; focus (first | (simp; done) | (simp; omega) | omega)) | (with_reducible refine Ext.trans ?_ (by with_reducible assumption))))).mono ?_); rintro e w6 ⟨rfl, hy6⟩; have hx6 : Ext W w6 := Ext.trans (by repeat (first | (with_reducible exact Ext.refl _) | (with_reducible assumption) | (with_reducible refine Ext.drewN ?_ _) | (with_reducible refine Ext.drew ?_) | (with_reducible refine Ext.alloc ?_ _) | ((with_reducible refine Ext.setCell ?_ ?_ _); rotate_left; focus (first | (simp; done) | (simp; omega) | omega)) | (with_reducible refine Ext.trans ?_ (by with_reducible assumption)))) hy6; obtain ⟨hc6, hf6⟩ := bcell hy6; have hsz6 := hy6.le; (try simp at hsz6); (try (have hlt61 : W.heap.size < w6.heap.size := by omega))) | ((with_reducible refine (HL2.out _ (by repeat (first | (with_reducible exact Ext.refl _) | (with_reducible assumption) | (with_reducible refine Ext.drewN ?_ _) | (with_reducible refine Ext.drew ?_) | (with_reducible refine Ext.alloc ?_ _) | ((with_reducible refine Ext.setCell ?_ ?_ _); rotate_left; focus (first | (simp; done) | (simp; omega) | omega)) | (with_reducible refine Ext.trans ?_ (by with_reducible assumption))))).mono ?_); rintro e w7 ⟨rfl, hy7⟩; have hx7 : Ext W w7 := Ext.trans (by repeat (first | (with_reducible exact Ext.refl _) | (with_reducible assumption) | (with_reducible refine Ext.drewN ?_ _) | (with_reducible refine Ext.drew ?_) | (with_reducible refine Ext.alloc ?_ _) | ((with_reducible refine Ext.setCell ?_ ?_ _); rotate_left; focus (first | (simp; done) | (simp; omega) | omega)) | (with_reducible refine Ext.trans ?_ (by with_reducible assumption)))) hy7; obtain ⟨hc7, hf7⟩ := bcell hy7; have hsz7 := hy7.le; (try simp at hsz7); (try (have hlt71 : W.heap.size < w7.heap.size := by omega)); (try (have hlt72 : w6.heap.size < w7.heap.size := by omega)))))
    all_goals (go_wp2_with fail; go_meet)
    · exact ⟨_, rfl, by omega, SAt.new' _ _ _ rfl, by assumption⟩
    · exact ⟨_, rfl, by omega, pair_set (SAt.new' _ _ _ rfl) hy7 _ _, by assumption⟩
    · exact ⟨_, rfl, by omega, pair_set (SAt.drew (SAt.new' W _ _ rfl)) (hy6.trans hy7) _ _, by assumption⟩
  case rest =>
    obtain ⟨g, rfl, hgW, hsat, hxc⟩ := hcut
    have HSa := Lib.hid hsat
    have d0 : ∀ w', Ext wc w' → w'.cell? ⟨g, 0, none⟩ = some (.int .i64 ya) := fun w' h => (HSa.out.ext h).cell 0 (by simp)
    have d1 : ∀ w', Ext wc w' → w'.cell? ⟨g, 1, none⟩ = some (.int .i64 yb) := fun w' h => (HSa.out.ext h).cell 1 (by simp)
    have e2 : ∀ w', Ext wc w' → w'.cell? ⟨p2, 0, none⟩ = some (.int .i64 pl) := fun w' h => cb2 w' (hxc.trans h)
    have e4 : ∀ w', Ext wc w' → w'.cell? ⟨p4, 0, none⟩ = some (.slice fa r fc) := fun w' h => cb4 w' (hxc.trans h)
    have e5 : ∀ w', Ext wc w' → w'.cell? ⟨p5, 0, none⟩ = some (.slice ba (n' + 1) bc) := fun w' h => cb5 w' (hxc.trans h)
    have f2' : ∀ w', Ext wc w' → w'.cell? ⟨b1, o1, none⟩ = some (.slice ga S gc) := fun w' h => f2 w' (hxc.trans h)
    have f4' : ∀ w', Ext wc w' → w'.cell? ⟨b2, o2, none⟩ = some (.slice a2 S c2) := fun w' h => f4 w' (hxc.trans h)
    have f6' : ∀ w', Ext wc w' → w'.cell? ⟨b3, o3, none⟩ = some (.int .i64 vv) := fun w' h => f6 w' (hxc.trans h)
    clear cb1 cb2 cb3 cb4 cb5 f2 f4 f6 hsat
    go_wp2_with fail
    (refine wp_region_from wc (by repeat (first | (with_reducible exact Ext.refl _) | (with_reducible refine Ext.drewN ?_ _) | (with_reducible refine Ext.drew ?_) | (with_reducible refine Ext.alloc ?_ _) | ((with_reducible refine Ext.setCell ?_ ?_ _); rotate_left; focus (first | (simp; done) | (simp; omega) | omega)) | assumption | (with_reducible refine Ext.trans ?_ (by assumption)))) (by kernel_rfl) (by kernel_rfl) (by kernel_rfl) ?_; (repeat (first | (refine mix_q rfl ?_; go_big_quiet_step (fail); refine wpQuiet_nil ?_; show wpMix _ _ _ _ _ _ _) | (refine mix_s rfl ?_; go_wp2_with (fail); first | refine ⟨up_of (by repeat (first | (with_reducible exact Ext.refl _) | (with_reducible refine Ext.drewN ?_ _) | (with_reducible refine Ext.drew ?_) | (with_reducible refine Ext.alloc ?_ _) | ((with_reducible refine Ext.setCell ?_ ?_ _); rotate_left; focus (first | (simp; done) | (simp; omega) | omega)) | assumption | (with_reducible refine Ext.trans ?_ (by assumption)))), ?_⟩ | refine ⟨rfl, rfl, up_of (by repeat (first | (with_reducible exact Ext.refl _) | (with_reducible refine Ext.drewN ?_ _) | (with_reducible refine Ext.drew ?_) | (with_reducible refine Ext.alloc ?_ _) | ((with_reducible refine Ext.setCell ?_ ?_ _); rotate_left; focus (first | (simp; done) | (simp; omega) | omega)) | assumption | (with_reducible refine Ext.trans ?_ (by assumption)))), ?_⟩))); refine mix_nil ?_)
    have HVc := Lib.hid (HV6.out.ext hxc)
    have HMc := Lib.hid (HM.out.ext hxc)
    have hdr : Ext wc wc.drew := (Ext.refl _).drew
    by_cases hpos : 0 < vv
    · have hposd : decide (0 < vv) = true := decide_eq_true hpos
      obtain rfl : uu = true := HP.out.trans hposd
      obtain ⟨w8, hrun, hm8, hg8⟩ := (HMc.out.ext hdr).put (by omega) (wf2_of (x := ya) (y := yb) (by omega) (by omega))
      have hrun' : (Instr.mapUpdate 99 (.map (some b)) (.agg #[.int .i64 ya, .int .i64 yb]) (.bool true)).run Try.prog wc.drew = .ok () w8 := hrun
      have HM8 := Lib.hid hm8
      have HG8 := Lib.hid hg8
      have c6 := (HVc.out.ext hdr).cell
      have c0 := d0 _ hdr
      have c1 := d1 _ hdr
      clear hrun hm8 hg8 d0 d1 e2 e4 e5 f2' f4' f6'
      go_wp2_with fail
      exact bodyPost_end (v := .tuple #[]) (by simp [results, Try.results68, go_sem]) rfl ⟨rfl, HM8.out, (Two.of_ext (hxc.trans hdr)).trans (Two.of_grown HG8.out)⟩
    · have hposd : decide (0 < vv) = false := decide_eq_false hpos
      obtain rfl : uu = false := HP.out.trans hposd
      go_wp2_with fail
      exact bodyPost_end (v := .tuple #[]) (by simp [results, Try.results68, go_sem]) rfl ⟨rfl, HMc.out.ext hdr, Two.of_ext (hxc.trans hdr)⟩
end Go.Proofs.Ytccoopnoakhedaa

/- Walks: the symbols behind an undetected error, in the program. -/
namespace Go.Proofs.Ytccoopnoakhedaa
set_option maxRecDepth 100000
open Go.RowKit

def RetFin (D : Ch) (n' pl r k bs s : Nat) (pre f : List Int) (w0 : World) (e : Ending) (w' : World) : Prop :=
  ∃ ra rc, e = .returned (.slice ra n' rc) ∧ Own w' w0.heap.size 2 ra n' rc (I (pre ++ f ++ finS D n' pl r k bs s f (n' - (pl + r)))) ∧ Ext w0 w'
/-- the state while the symbols are found -/
structure FnS (D : Ch) (q S n' : Nat) (p1 p5 p6 : Nat) (ba : Option Addr) (bc : Nat) (w0 : World) (ra : Option Addr) (m rc : Nat) (l : List Int) (pc : Nat) (L : List (Int × Int)) (W : World) : Prop where
  ex : Ext w0 W
  v1 : VarAt W p1 76 (.pointer (some ⟨q, 0, none⟩))
  v5 : VarAt W p5 85 (.slice ba (n' + 1) bc)
  v6 : VarAt W p6 99 (.map (some pc))
  o : Own W w0.heap.size 2 ra m rc (I l)
  m : PMap W pc L
  b : ∀ p ∈ L, (0 ≤ p.1 ∧ p.1 < (S : Int)) ∧ 0 ≤ p.2 ∧ p.2 < (S : Int)
  ll : L.length ≤ 40
theorem FnS.ext {D : Ch} {q S n' p1 p5 p6 : Nat} {ba : Option Addr} {bc : Nat} {w0 : World} {ra : Option Addr} {m rc : Nat} {l : List Int} {pc : Nat} {L : List (Int × Int)} {W W' : World} (h : FnS D q S n' p1 p5 p6 ba bc w0 ra m rc l pc L W) (hx : Ext W W') : FnS D q S n' p1 p5 p6 ba bc w0 ra m rc l pc L W' :=
  ⟨h.ex.trans hx, h.v1.ext hx, h.v5.ext hx, h.v6.ext hx, h.o.ext hx, h.m.ext hx, h.b, h.ll⟩
/-- a symbol more, other pairs -/
theorem FnS.more {D : Ch} {q S n' p1 p5 p6 : Nat} {ba : Option Addr} {bc : Nat} {w0 : World} {ra ra' : Option Addr} {m rc rc' : Nat} {l : List Int} {pc mb : Nat} {L A : List (Int × Int)} {W W9 : World} {u : Int} (h : FnS D q S n' p1 p5 p6 ba bc w0 ra m rc l pc L W) (h6 : w0.heap.size ≤ p6)
    (hb : Below w0.heap.size W W9) (hg : W.grownBy W9 (Value.slice ra m rc).ownBlock) (ho : Own W9 w0.heap.size 2 ra' (m + 1) rc' (I l ++ [.int .i64 u])) (hA : PMap W mb A) (hbA : ∀ p ∈ A, (0 ≤ p.1 ∧ p.1 < (S : Int)) ∧ 0 ≤ p.2 ∧ p.2 < (S : Int)) (hlA : A.length ≤ 40) :
    FnS D q S n' p1 p5 p6 ba bc w0 ra' (m + 1) rc' (l ++ [u]) mb A (W9.setCell ⟨p6, 0, none⟩ (.map (some mb))) := by
  have v1 := h.v1.grown hg (row_ne_s (h.o.ne_var h.v1 (by decide)))
  have v5 := h.v5.grown hg (row_ne_s (h.o.ne_var h.v5 (by decide)))
  have v6 := h.v6.grown hg (row_ne_s (h.o.ne_var h.v6 (by decide)))
  have hm : PMap W9 mb A := hA.grown hg (row_ne_s (hA.ne_row h.o))
  refine ⟨(h.ex.below hb).setCell h6 _, v1.other _ (v1.ne v6 (by decide)), v5.other _ (v5.ne v6 (by decide)), v6.set _, ?_, hm.two (Two.set1 p6 p6 W9 _) (hm.ne_var v6).symm (hm.ne_var v6).symm, hbA, hlA⟩
  rw [I_append]
  exact ho.other _ (fun g hg' => ho.ne_var v6 (by decide) g hg')
theorem grown_ext {w w' : World} (h : Ext w w') : w.grownBy w' none := ⟨Below.os h, Below.tape h, Below.output h, h.le, fun k hk _ => Below.block h k hk⟩
/-- the state while the pairs are gone through -/
structure RgS (wq : World) (pc mb it n : Nat) (Dm : DataW Value) (st : Int × Int → Int × Int) (pos : Int × Int → Prop) (L : List (Int × Int)) (left : Lit → Bool) (cnt : Nat) (A : List (Int × Int)) (wr : World) : Prop where
  rg : wr.ranges Try.prog 101 heldR pc it n Dm left cnt
  m : PMap wr mb A
  al : A.length + cnt ≤ 40
  ex : Ext wq wr
  sub : ∀ p ∈ A, ∃ q ∈ L, p = st q ∧ pos p
  sup : ∀ q ∈ L, left (pkL q.1 q.2) = false → pos (st q) → st q ∈ A
theorem RgS.ext {wq : World} {pc mb it n : Nat} {Dm : DataW Value} {st : Int × Int → Int × Int} {pos : Int × Int → Prop} {L : List (Int × Int)} {left : Lit → Bool} {cnt : Nat} {A : List (Int × Int)} {wr wr' : World} (h : RgS wq pc mb it n Dm st pos L left cnt A wr) (hx : Ext wr wr') : RgS wq pc mb it n Dm st pos L left cnt A wr' :=
  ⟨World.ranges.kept h.rg (grown_ext hx) (by simp) (by simp), h.m.ext hx, h.al, h.ex.trans hx, h.sub, h.sup⟩
theorem RgS.step {wq : World} {pc mb it n : Nat} {Dm : DataW Value} {st : Int × Int → Int × Int} {pos : Int × Int → Prop} {L : List (Int × Int)} {left : Lit → Bool} {cnt cnt' : Nat} {A A' : List (Int × Int)} {wr w' : World} (h : RgS wq pc mb it n Dm st pos L left cnt A wr)
    {q0 : Int × Int} (hmem : q0 ∈ L) (hL : ∀ q ∈ L, wf2 q.1 q.2) (hrg : w'.ranges Try.prog 101 heldR pc it n Dm (fun z => left z && !z.sameKey (pkL q0.1 q0.2)) cnt') (hlt : cnt' < cnt) (hm : PMap w' mb A') (hx : Ext wq w')
    (hA : (pos (st q0) ∧ A' = st q0 :: A) ∨ (¬ pos (st q0) ∧ A' = A)) : RgS wq pc mb it n Dm st pos L (fun z => left z && !z.sameKey (pkL q0.1 q0.2)) cnt' A' w' := by
  refine ⟨hrg, hm, ?_, hx, fun p hp => ?_, fun q hq hl hp => ?_⟩
  · have := h.al
    rcases hA with ⟨_, rfl⟩ | ⟨_, rfl⟩
    · rw [List.length_cons]; omega
    · omega
  · rcases hA with ⟨h1, rfl⟩ | ⟨_, rfl⟩
    · rcases List.mem_cons.1 hp with rfl | hp
      · exact ⟨q0, hmem, rfl, h1⟩
      · exact h.sub p hp
    · exact h.sub p hp
  · by_cases he : q = q0
    · subst he
      rcases hA with ⟨_, rfl⟩ | ⟨h1, rfl⟩
      · exact List.mem_cons_self
      · exact absurd hp h1
    · have hne : (pkL q.1 q.2).sameKey (pkL q0.1 q0.2) = false := Maps.sameKey_ne fun e => he (by
        obtain ⟨e1, e2⟩ := pkL_inj (hL q hq) (hL q0 hmem) e
        exact Prod.ext e1 e2)
      simp only [hne, Bool.not_false, Bool.and_true] at hl
      have h2 := h.sup q hq hl hp
      rcases hA with ⟨_, rfl⟩ | ⟨_, rfl⟩
      · exact List.mem_cons_of_mem _ h2
      · exact h2
theorem LJ_bd {D : Ch} {n' pl r k bs s S : Nat} {f : List Int} (hok : OkCh D) (hS : D.states = (S : Int)) (hs : s < S) (hn : D.places.length = n') (hpl : pl + r ≤ n') (hf : f.length = r) (hfd : DigC D f) (hk : ∀ t ∈ chgL k bs f, t.length = r ∧ DigC D t) {j : Nat} : ∀ p ∈ LJ D n' pl r k bs s f j, (0 ≤ p.1 ∧ p.1 < (S : Int)) ∧ 0 ≤ p.2 ∧ p.2 < (S : Int) := by
  intro p hp
  unfold LJ at hp
  obtain ⟨t, ht, rfl⟩ := List.mem_map.1 hp
  rw [List.mem_reverse, List.mem_filter] at ht
  obtain ⟨h1, h2⟩ := hk t (List.mem_of_mem_take ht.1)
  rw [← hS]
  exact ⟨runS_bd hok f (pl : Int) (s : Int) hfd (by omega) (by rw [hf, hn]; omega) (by omega) (by omega), runS_bd hok t (pl : Int) (s : Int) h2 (by omega) (by rw [h1, hn]; omega) (by omega) (by omega)⟩
set_option maxHeartbeats 8000000 in
theorem impl_finish {D : Ch} {q S pl r n' bs : Nat} {a : Option Addr} {n c : Nat} {a' : Option Addr} {c' : Nat} (k : Nat) (w0 w : World) (hx : Ext w0 w) (hv : ChAt w0 q D a n c a' n' c') (hok : OkCh D) (hS : D.states = (S : Int)) (hbs : D.base = (bs : Int)) (hk : k ≤ 5) (hr : r = lenK k) (h5 : k ≤ 4 ∨ 10 ≤ bs) (hpl : pl + r ≤ n')
    {ba : Option Addr} {bc : Nat} (hbo : BotL D n' S (pl + r) w0 ba bc) (s : Nat) (hs : s < S) (pre f : List Int) (hpre : pre.length = pl) (hf : f.length = r) (hfd : DigC D f) (oa : Option Addr) (oc : Nat) (ho : Own w w0.heap.size 2 oa (pl + r) oc (I (pre ++ f))) (hany : anyV D n' pl r k bs s f [] = true) :
    Calls Try.prog 57 #[.pointer (some ⟨q, 0, none⟩), .int .i64 k, .slice oa (pl + r) oc, .int .i64 s, .int .i64 pl, .slice ba (n' + 1) bc] w (RetFin D n' pl r k bs s pre f w0) := by
  have HV := Lib.hid hv
  have HOK := Lib.hid hok
  have HS := Lib.hid hS
  have HBs := Lib.hid hbs
  have HP := Lib.hid hv.ps.len
  have HR := Lib.hid hr
  have p20 := hok.p20
  rw [HP.out] at p20
  have hS36 : S ≤ 36 := by have := hok.s36; omega
  have hbs36 : bs ≤ 36 := by have := hok.b36; omega
  have hr3 : 1 ≤ r ∧ r ≤ 3 := by rw [hr]; unfold lenK; split <;> (try split) <;> omega
  have HBo := Lib.hid hbo
  have HO := Lib.hid ho
  have HAny := Lib.hid hany
  have HFd := Lib.hid hfd
  have HFl := Lib.hid hf
  have HPl := Lib.hid hpre
  have HX := Lib.hid hx
  obtain ⟨sa, hsl, hsi⟩ := Ints.suf (P := Try.prog) (l := pre ++ f) ho.sl 25 2 und_int64s cell_int64 (by kernel_rfl) pl (by omega)
  rw [show pl + r - pl = r by omega] at hsl hsi
  rw [show (pre ++ f).drop pl = f by rw [← hpre]; simp] at hsi
  have HSi := Lib.hid hsi
  have HSl := Lib.hid hsl
  have HCl := Lib.hid (fun w' (h : Ext w w') => clone_ints sa r (oc - pl) f w' (HSi.out.ext h) (by omega))
  have k0 := hv.c0
  have k5 := hv.c5
  simp only [hbs] at k0
  clear hv hok hS hbs hr hbo ho hany hfd hf hpre hx hsl hsi
  go_enter Try.func57, Try.ntmps57
  go_upto_region 1 with fail
  obtain ⟨p1, hp1⟩ : ∃ p, p = w.heap.size := ⟨_, rfl⟩
  obtain ⟨p3, hp3⟩ : ∃ p, p = w.heap.size + 1 := ⟨_, rfl⟩
  obtain ⟨p2, hp2⟩ : ∃ p, p = w.heap.size + 1 + 1 := ⟨_, rfl⟩
  obtain ⟨p5, hp5⟩ : ∃ p, p = w.heap.size + 1 + 1 + 1 := ⟨_, rfl⟩
  obtain ⟨wb, hwb⟩ : ∃ W, W = (((w.alloc (.cells #[.pointer (some ⟨q, 0, none⟩)] 76)).alloc (.cells #[.int .i64 s] 2)).alloc (.cells #[.int .i64 pl] 3)).alloc (.cells #[.slice ba (n' + 1) bc] 85) := ⟨_, rfl⟩
  have hxb : Ext w wb := by rw [hwb]; exact (by repeat (first | (with_reducible exact Ext.refl _) | (with_reducible refine Ext.drewN ?_ _) | (with_reducible refine Ext.drew ?_) | (with_reducible refine Ext.alloc ?_ _) | ((with_reducible refine Ext.setCell ?_ ?_ _); rotate_left; focus (first | (simp; done) | (simp; omega) | omega)) | assumption | (with_reducible refine Ext.trans ?_ (by assumption))))
  have HV1 := Lib.hid (show VarAt wb p1 76 (.pointer (some ⟨q, 0, none⟩)) from by rw [hwb, hp1]; exact (((VarAt.new w _ _).ext ((Ext.refl _).alloc _)).ext ((Ext.refl _).alloc _)).ext ((Ext.refl _).alloc _))
  have HV3 := Lib.hid (show VarAt wb p3 2 (.int .i64 s) from by rw [hwb]; exact ((VarAt.newN (by simp [hp3])).ext ((Ext.refl _).alloc _)).ext ((Ext.refl _).alloc _))
  have HV2 := Lib.hid (show VarAt wb p2 3 (.int .i64 pl) from by rw [hwb]; exact (VarAt.newN (by simp [hp2])).ext ((Ext.refl _).alloc _))
  have HV5 := Lib.hid (show VarAt wb p5 85 (.slice ba (n' + 1) bc) from by rw [hwb]; exact VarAt.newN (by simp [hp5]))
  rw [← hp5, ← hp2, ← hp3, ← hp1, ← hwb]
  clear hwb hp1 hp2 hp3 hp5
  have c2 := HV2.out.cell
  have hsl : ∀ w' (K : IntKind), (Instr.sliceAt 25 (.slice oa (pl + r) oc) (some (.int K (pl : Int))) none none).run Try.prog w' = .ok (.slice sa r (oc - pl)) w' := HSl.out
  go_upto_region 2 with (go_at_call 56; (with_reducible refine (HCl.out _ hxb).mono ?_); rintro e w1 ⟨fa, fc, rfl, ho1, hx1, -⟩; rw [I_len, HFl.out] at ho1 ⊢)
  obtain ⟨p4, hp4⟩ : ∃ p, p = w1.heap.size := ⟨_, rfl⟩
  obtain ⟨w2, hw2⟩ : ∃ W, W = w1.alloc (.cells #[.slice fa r fc] 25) := ⟨_, rfl⟩
  have hx12 : Ext w1 w2 := by rw [hw2]; exact (Ext.refl _).alloc _
  have HV4 := Lib.hid (show VarAt w2 p4 25 (.slice fa r fc) from by rw [hw2]; exact VarAt.newN hp4)
  rw [← hp4, ← hw2]
  clear hw2 hp4 c2 hsl
  have hxb2 : Ext wb w2 := hx1.trans hx12
  have hxw2 : Ext w w2 := hxb.trans hxb2
  have hx02 : Ext w0 w2 := HX.out.trans hxw2
  have HEnv := Lib.hid (show NEnv D q S pl r n' s a n c a' c' p1 p2 p3 p4 p5 fa fc f ba bc w2 from ⟨HV.out.ext hx02, HV1.out.ext hxb2, HV2.out.ext hxb2, HV3.out.ext hxb2, HV4.out, HV5.out.ext hxb2, ho1.ints.ext hx12, HBo.out.ext hx02, HS.out⟩)
  have HO2 := Lib.hid (HO.out.ext hxw2)
  clear ho1 hx1 hx12
  have hmm := @run_makeMap Try.prog
  go_upto_region 3 with fail
  obtain ⟨pb, hpb⟩ : ∃ b, b = w2.heap.size := ⟨_, rfl⟩
  obtain ⟨p6, hp6⟩ : ∃ b, b = w2.heap.size + 1 := ⟨_, rfl⟩
  obtain ⟨w3, hw3⟩ : ∃ W, W = (w2.alloc (.map #[] 0)).alloc (.cells #[.map (some pb)] 99) := ⟨_, rfl⟩
  have hx3 : Ext w2 w3 := by rw [hw3]; exact (by repeat (first | (with_reducible exact Ext.refl _) | (with_reducible refine Ext.drewN ?_ _) | (with_reducible refine Ext.drew ?_) | (with_reducible refine Ext.alloc ?_ _) | ((with_reducible refine Ext.setCell ?_ ?_ _); rotate_left; focus (first | (simp; done) | (simp; omega) | omega)) | assumption | (with_reducible refine Ext.trans ?_ (by assumption))))
  have HM3 := Lib.hid (show PMap w3 pb [] from by rw [hw3, hpb]; exact (PMap.made w2).ext ((Ext.refl _).alloc _))
  have HV6 := Lib.hid (show VarAt w3 p6 99 (.map (some pb)) from by rw [hw3]; exact VarAt.newN (by simp [hp6]))
  have hpb2 : w2.heap.size ≤ pb := by omega
  have hp6b : p6 ≠ pb := by omega
  have hp60 : w0.heap.size ≤ p6 := by have := hx02.le; omega
  rw [← hp6, ← hpb, ← hw3]
  clear hw3 hpb hp6
  have HChg := Lib.hid (fun w' (h : Ext w3 w') => changes_all k hk bs 68 #[.pointer (some ⟨p1, 0, none⟩), .pointer (some ⟨p2, 0, none⟩), .pointer (some ⟨p3, 0, none⟩), .pointer (some ⟨p4, 0, none⟩), .pointer (some ⟨p5, 0, none⟩), .pointer (some ⟨p6, 0, none⟩)] fa r fc f
    (fun j W' => PMap W' pb (LJ D n' pl r k bs s f j) ∧ Two pb pb w3 W') w' (by omega) HR.out
    (fun j W' hi => HEnv.out.f.ext ((hx3.two hi.2 hpb2 hpb2)))
    (fun j W' W'' hi hxx => ⟨hi.1.ext hxx, hi.2.ext hxx⟩)
    (fun _ _ => rfl)
    (fun j W' ta tn tc hj hi hti hta hhi => by
      have hm := gl_mem hj
      have hrr := HR.out
      have hl := chgL_len (show f.length = lenK k by rw [← HR.out]; exact HFl.out) hm
      have htl := hti.len
      have htn : tn = r := by omega
      subst htn
      have hle := h.le
      have hll := LJ_le (D := D) (n' := n') (pl := pl) (r := tn) (k := k) (bs := bs) (s := s) (f := f) (j := j)
      refine (fin1 HEnv.out HOK.out hpl hs HFd.out p6 pb (LJ D n' pl tn k bs s f j) W' (hx3.two hi.2 hpb2 hpb2) (HV6.out.two hi.2 hp6b hp6b) hi.1 hpb2 (by omega) ta tc (gl (chgL k bs f) j) hti
        (fun d hd => by have h2 := chg_dig (fun x hx => by have := HFd.out x hx; have := HBs.out; omega) (show f.length = lenK k by rw [← HR.out]; exact HFl.out) h5 hm d hd; have := HBs.out; omega)).mono fun e w'' ⟨h1, h2, h3⟩ => ⟨h1, ⟨?_, hi.2.trans h3⟩, h3.keepB (by have := hi.1.lt; have := HM3.out.lt; omega) (by have := HM3.out.lt; omega) hhi⟩
      rw [LJ_step hj]
      exact h2)
    ⟨by exact HM3.out.ext h, Two.of_ext h⟩)
  have e1 : ∀ w', Ext w3 w' → w'.cell? ⟨p1, 0, none⟩ = some (.pointer (some ⟨q, 0, none⟩)) := fun w' h => ((HV1.out.ext (hxb2.trans hx3)).ext h).cell
  have e4 : ∀ w', Ext w3 w' → w'.cell? ⟨p4, 0, none⟩ = some (.slice fa r fc) := fun w' h => ((HV4.out.ext hx3).ext h).cell
  have e0 : ∀ w', Ext w3 w' → w'.cell? ⟨q, 0, none⟩ = some (.int .i64 bs) := fun w' h => k0 w' (hx02.trans (hx3.trans h))
  go_wp2_with fail
  (refine wp_region_upl 7 w3 (by repeat (first | (with_reducible exact Ext.refl _) | (with_reducible refine Ext.drewN ?_ _) | (with_reducible refine Ext.drew ?_) | (with_reducible refine Ext.alloc ?_ _) | ((with_reducible refine Ext.setCell ?_ ?_ _); rotate_left; focus (first | (simp; done) | (simp; omega) | omega)) | assumption | (with_reducible refine Ext.trans ?_ (by assumption)))) rfl (by kernel_rfl) (by kernel_rfl) (seqB_of (by kernel_rfl)) (lastB_of (by kernel_rfl)) ?_; simp only [List.take_succ_cons, List.take_zero, List.drop_succ_cons, List.drop_zero]; (repeat (first | (refine mix_q rfl ?_; go_big_quiet_step (fail); refine wpQuiet_nil ?_; show wpMix _ _ _ _ _ _ _) | (refine mix_s rfl ?_; go_wp2_with (fail); first | refine ⟨up_of (by repeat (first | (with_reducible exact Ext.refl _) | (with_reducible refine Ext.drewN ?_ _) | (with_reducible refine Ext.drew ?_) | (with_reducible refine Ext.alloc ?_ _) | ((with_reducible refine Ext.setCell ?_ ?_ _); rotate_left; focus (first | (simp; done) | (simp; omega) | omega)) | assumption | (with_reducible refine Ext.trans ?_ (by assumption)))), ?_⟩ | refine ⟨rfl, rfl, up_of (by repeat (first | (with_reducible exact Ext.refl _) | (with_reducible refine Ext.drewN ?_ _) | (with_reducible refine Ext.drew ?_) | (with_reducible refine Ext.alloc ?_ _) | ((with_reducible refine Ext.setCell ?_ ?_ _); rotate_left; focus (first | (simp; done) | (simp; omega) | omega)) | assumption | (with_reducible refine Ext.trans ?_ (by assumption)))), ?_⟩))); refine mix_nil ?_)
  go_wp2_with ((with_reducible refine (HChg.out _ (by repeat (first | (with_reducible exact Ext.refl _) | (with_reducible assumption) | (with_reducible refine Ext.drewN ?_ _) | (with_reducible refine Ext.drew ?_) | (with_reducible refine Ext.alloc ?_ _) | ((with_reducible refine Ext.setCell ?_ ?_ _); rotate_left; focus (first | (simp; done) | (simp; omega) | omega)) | (with_reducible refine Ext.trans ?_ (by with_reducible assumption))))).mono ?_); rintro e w4 ⟨rfl, hm4, ht4⟩)
  have HCk := Lib.hid (show ∀ t ∈ chgL k bs f, t.length = r ∧ DigC D t from fun t ht => ⟨by rw [HR.out]; exact chgL_len (show f.length = lenK k by rw [← HR.out]; exact HFl.out) ht, fun d hd => by have h2 := chg_dig (fun x hx => by have := HFd.out x hx; have := HBs.out; omega) (show f.length = lenK k by rw [← HR.out]; exact HFl.out) h5 ht d hd; have := HBs.out; omega⟩)
  have hx24 : Ext w2 w4 := hx3.two ht4 hpb2 hpb2
  have hx04 : Ext w0 w4 := hx02.trans hx24
  have HF4 := Lib.hid (show FnS D q S n' p1 p5 p6 ba bc w0 oa (pl + r) oc (pre ++ f ++ finS D n' pl r k bs s f 0) pb (LJ D n' pl r k bs s f (chgL k bs f).length) w4 from
    ⟨hx04, (HV1.out.ext hxb2).ext hx24, (HV5.out.ext hxb2).ext hx24, HV6.out.two ht4 hp6b hp6b, by rw [finS, List.append_nil]; exact HO2.out.ext hx24, hm4, LJ_bd HOK.out HS.out hs HP.out hpl HFl.out HFd.out HCk.out, by have := LJ_le (D := D) (n' := n') (pl := pl) (r := r) (k := k) (bs := bs) (s := s) (f := f) (j := (chgL k bs f).length); omega⟩)
  clear e1 e4 e0 hm4 ht4 hx24 hx04
  have q5 : ∀ w', Ext w0 w' → w'.cell? ⟨q, 5, none⟩ = some (.slice a' n' c') := k5
  clear k5
  go_loopw [2, 15] (fun u2 u15 wr => ∃ (K i : Nat) (ra : Option Addr) (rc pc : Nat) (L : List (Int × Int)), u15 = .int .i64 K ∧ u2 = .slice ra K rc ∧ K ≤ n' ∧ Hid (K = pl + r + i) ∧ Hid (FnS D q S n' p1 p5 p6 ba bc w0 ra K rc (pre ++ f ++ finS D n' pl r k bs s f i) pc L wr) ∧ Hid (LOk D n' pl r k bs s f (finS D n' pl r k bs s f i) L)) (fun _ u15 _ => n' - (intOf u15).toNat)
  case atStart => exact ⟨pl + r, 0, oa, oc, pb, _, by go_num, rfl, hpl, rfl, HF4.out, LJ_ok⟩
  case round =>
    clear HF4
    obtain ⟨K, i, ra, rc, pc, L, rfl, rfl, hK, HKi, HF, HLk⟩ := hrel
    have c1 := HF.out.v1.cell
    have c5 := q5 wr HF.out.ex
    have c0 := k0 wr HF.out.ex
    by_cases hlt : K < n'
    · have hif := HKi.out
      have hany := finS_any HBs.out HFl.out (fun t ht => (HCk.out t ht).1) HAny.out i (by omega)
      have hnx := anyV_next HBs.out HFl.out (fun t ht => (HCk.out t ht).1) (by rw [finS_len]; omega) hany
      obtain ⟨dd, hdd⟩ : ∃ dd, dd = fstI (fun d => anyV D n' pl r k bs s f (finS D n' pl r k bs s f i ++ [(d : Int)])) bs := ⟨_, rfl⟩
      obtain ⟨g1, g2⟩ := fstI_lt hnx
      rw [← hdd] at g1 g2
      have HLo := Lib.hid (show ∀ d, d < dd → anyV D n' pl r k bs s f (finS D n' pl r k bs s f i ++ [(d : Int)]) = false from fun d hd => fstI_not (P := fun d => anyV D n' pl r k bs s f (finS D n' pl r k bs s f i ++ [(d : Int)])) (by rw [← hdd]; exact hd))
      have HHi := Lib.hid g2
      have HDd := Lib.hid (show finS D n' pl r k bs s f (i + 1) = finS D n' pl r k bs s f i ++ [(dd : Int)] from by rw [finS, ← hdd])
      clear hif hany hnx hdd g2
      go_wp2_with fail
      clear c1 c5 c0
      go_loopw [2, 48] (fun u2 u48 wq => ∃ d : Nat, u2 = .slice ra K rc ∧ d ≤ dd ∧ u48 = .int .i64 d ∧ Ext wr wq) (fun _ u48 _ => dd - (intOf u48).toNat)
      case atStart => exact ⟨0, rfl, Nat.zero_le _, rfl, Ext.refl _⟩
      case round =>
        rename World => wq
        obtain ⟨d, rfl, hd, rfl, hxq⟩ := hrel
        have HFq := Lib.hid (HF.out.ext hxq)
        have hdb : d < bs := by omega
        obtain ⟨Dm, hown, hIs, hat, hkey⟩ := HFq.out.m
        have c6 := HFq.out.v6.cell
        have lt6 := HFq.out.v6.lt
        go_wp2_with (first
          | (at_range; go_loud (refine wpList_range_own _ rfl _ 99 rfl 101 4 keyedP und_mapP _ pc L.length Dm rfl (hown.alloc _) ?_); intro w6 hrg0 hg0 hs0)
          | go_in)
        go_frame
        have hr1 : (wq.alloc (.map #[] 0)).heap.size = wq.heap.size + 1 := by simp
        rw [hr1] at hrg0 hs0 ⊢
        have hx06 : Ext wq w6 := Below.grown ((Ext.refl wq).alloc _) hg0 (by rw [hr1]; omega) (fun k hk => by cases hk)
        have hm6 : PMap w6 wq.heap.size [] := (PMap.made wq).same (hg0.block _ (by rw [hr1]; omega) (by simp))
        have HR0 := Lib.hid (show RgS wq pc wq.heap.size (wq.heap.size + 1) L.length Dm (fun p => (nextS D (K : Int) p.1 (d : Int), nextS D (K : Int) p.2 (d : Int))) (fun p => 0 < bothS D n' (n' - (K + 1)) p.1 p.2) L (Maps.has Dm) (Maps.size Dm) [] w6 from
          ⟨hrg0, hm6, by have := hown.size_le; have := HFq.out.ll; simp; omega, hx06, (fun p hp => by simp at hp), (fun p hp hl => by
            have hb := HFq.out.b p hp
            have h2 := hat p.1 p.2 ⟨wfF (by omega) (by omega), wfF (by omega) (by omega)⟩
            rw [decide_eq_true (by exact hp)] at h2
            rw [h2] at hl; cases hl)⟩)
        obtain ⟨mb, hmb⟩ : ∃ b, b = wq.heap.size := ⟨_, rfl⟩
        have hpcl := HFq.out.m.lt
        have hmbq : wq.heap.size ≤ mb := by omega
        have hpm : pc ≠ mb := by omega
        rw [← hmb] at HR0 ⊢
        clear hg0 hs0 hr1 hrg0 hm6 hx06 hown c6 hmb
        go_loopw [54] (fun _ wr => ∃ (left : Lit → Bool) (cnt : Nat) (A : List (Int × Int)), Hid (RgS wq pc mb (mb + 1) L.length Dm (fun p => (nextS D (K : Int) p.1 (d : Int), nextS D (K : Int) p.2 (d : Int))) (fun p => 0 < bothS D n' (n' - (K + 1)) p.1 p.2) L left cnt A wr)) (fun _ wr => wr.rangeLeft pc (mb + 1))
        case atStart => exact ⟨_, _, _, HR0.out⟩
        case round =>
          clear HR0
          obtain ⟨left, cnt, A, HR⟩ := hrel
          go_wp2_with (first
            | (at_next; go_loud (refine wpList_next_ranges _ rfl _ rfl 101 keyedP heldR id id (fun key kl hk => ⟨key, rfl⟩) (fun v y hv => ⟨v, rfl⟩) pc (mb + 1) L.length _ _ _ rfl HR.out.rg ?_ ?_))
            | go_in)
          · intro hc0 hl0
            have hKf : pl + r + (finS D n' pl r k bs s f i).length = K := by rw [finS_len]; exact HKi.out.symm
            have HLA := Lib.hid (HLk.out.step (A := A) (d := d) HBs.out hdb HFl.out (fun t ht => (HCk.out t ht).1) (by rw [hKf]; exact hlt) (fun p => by
              rw [hKf]
              constructor
              · intro hp
                obtain ⟨q, hq, h1, h2⟩ := HR.out.sub p hp
                exact ⟨q, hq, h1, h2⟩
              · rintro ⟨q, hq, rfl, h2⟩
                exact HR.out.sup q hq (hl0 _) h2))
            have HBd := Lib.hid (show ∀ p ∈ A, (0 ≤ p.1 ∧ p.1 < (S : Int)) ∧ 0 ≤ p.2 ∧ p.2 < (S : Int) from fun p hp => by
              obtain ⟨q, hq, rfl, _⟩ := HR.out.sub p hp
              have hb := HFq.out.b q hq
              rw [← HS.out] at hb ⊢
              exact ⟨HOK.out.next (by omega) (by rw [HP.out]; omega) hb.1.1 hb.1.2 (by omega) (by have := HBs.out; omega), HOK.out.next (by omega) (by rw [HP.out]; omega) hb.2.1 hb.2.2 (by omega) (by have := HBs.out; omega)⟩)
            obtain ⟨Dn, hownA, hsz⟩ := HR.out.m.len (fun q hq => by have := HBd.out q hq; exact ⟨wfF (by omega) (by omega), wfF (by omega) (by omega)⟩)
            have hxqr := HR.out.ex
            have hany := HLA.out.any
            rw [← hsz] at hany
            clear hc0 hl0 hsz hKf
            by_cases hlast : d < dd
            · rw [HLo.out d hlast] at hany
              have hs0 : ¬ 0 < Maps.size Dn := fun h => by have := hany.2 h; cases this
              have hs1 : Maps.size Dn = 0 := by omega
              clear hany
              go_wp2_with (first | (at_len; go_loud (refine wpList_len_own _ rfl _ 99 rfl 101 4 und_mapP _ mb _ Dn rfl hownA ?_)) | go_in)
              exact ⟨⟨d + 1, rfl, by omega, by go_num, hxq.trans hxqr⟩, by simp [intOf]; omega⟩
            · obtain rfl : dd = d := by omega
              have hs0 : 0 < Maps.size Dn := hany.1 HHi.out
              have HFr := Lib.hid (HFq.out.ext hxqr)
              have HHown := Lib.hid hownA
              have hKw := HFr.out.ex.le
              clear hany
              go_wp2_with (first | (at_len; go_loud (refine wpList_len_own _ rfl _ 99 rfl 101 4 und_mapP _ mb _ Dn rfl HHown.out ?_)) | (at_builtin; go_loud (refine law_append1 wr rfl _ _ 25 rfl 2 (.int .i64 0) 8 und_int64s info_int64 rfl w0.heap.size ra K rc _ _ rfl rfl (by simp [Act.eval, go_sem]) HFr.out.o hKw (by omega) (by omega) ?_); intro ra' rc' w9 ho9 hb9 hg9; have HFn := Lib.hid (HFr.out.more hp60 hb9 hg9 ho9 HR.out.m HBd.out (by have := HR.out.al; omega)); have V9 := HFr.out.v6.grown hg9 (row_ne_s (HFr.out.o.ne_var HFr.out.v6 (by decide))); have c69 := V9.cell; have f69 := V9.frozen; have l69 := V9.lt; clear ho9 hb9 hg9 V9) | go_in)
              have HFn2 := Lib.hid (show FnS D q S n' p1 p5 p6 ba bc w0 ra' (K + 1) rc' (pre ++ f ++ finS D n' pl r k bs s f (i + 1)) mb A _ from by
                rw [HDd.out, ← List.append_assoc]; exact HFn.out)
              have HLA2 := Lib.hid (show LOk D n' pl r k bs s f (finS D n' pl r k bs s f (i + 1)) A from by rw [HDd.out]; exact HLA.out)
              exact ⟨⟨K + 1, i + 1, ra', rc', mb, A, by go_num, rfl, by omega, by have := HKi.out; show _ = _; omega, HFn2.out, HLA2.out⟩, by simp [intOf]; omega⟩
          · intro x v kl yd yp w7 cnt7 hkk hlk hv hat7 hrg7 hlt7 hg7 hs7 hen
            obtain ⟨xa, xb, rfl, hwf, rfl⟩ := keyOfP_inv hkk
            have hmem : (xa, xb) ∈ L := by
              have h1 := Maps.has_true_of_atKey hat7
              rw [hat xa xb hwf] at h1
              exact of_decide_eq_true h1
            obtain ⟨hb1, hb2⟩ := HFq.out.b _ hmem
            obtain ⟨ya, rfl⟩ := Int.eq_ofNat_of_zero_le hb1.1
            obtain ⟨yb, rfl⟩ := Int.eq_ofNat_of_zero_le hb2.1
            have hen' : (Instr.entry (.pointer (some ⟨mb + 1, 0, none⟩))).run Try.prog w7 = .ok (.tuple #[.agg #[.int .i64 ya, .int .i64 yb], v]) w7 := hen
            have hyaS : ya < S := by omega
            have hybS : yb < S := by omega
            have hxq7 : Ext wq w7 := by
              have hxx := HR.out.ex
              exact Below.grown hxx hg7 hxx.le (fun j hj => by cases hj; omega)
            have HRg7 := Lib.hid hrg7
            have HPm7 := Lib.hid (HR.out.m.same (hg7.block _ HR.out.m.lt (by simp)))
            have HLt := Lib.hid hlt7
            have HMem := Lib.hid hmem
            have hnxa := HOK.out.next (p := (K : Int)) (x := (ya : Int)) (d := (d : Int)) (by omega) (by rw [HP.out]; omega) (by omega) (by have := HS.out; omega) (by omega) (by have := HBs.out; omega)
            have hnxb := HOK.out.next (p := (K : Int)) (x := (yb : Int)) (d := (d : Int)) (by omega) (by rw [HP.out]; omega) (by omega) (by have := HS.out; omega) (by omega) (by have := HBs.out; omega)
            obtain ⟨za, hza⟩ := Int.eq_ofNat_of_zero_le hnxa.1
            obtain ⟨zb, hzb⟩ := Int.eq_ofNat_of_zero_le hnxb.1
            have hzaS : za < S := by have := HS.out; omega
            have hzbS : zb < S := by have := HS.out; omega
            clear hkk hlk hv hat7 hrg7 hlt7 hg7 hs7 hnxa hnxb hen hwf
            go_upto_region 14 with fail
            obtain ⟨g8, hg8⟩ : ∃ g, g = w7.heap.size := ⟨_, rfl⟩
            obtain ⟨w8, hw8⟩ : ∃ W, W = w7.alloc (.cells #[.int .i64 ya, .int .i64 yb] 101) := ⟨_, rfl⟩
            have hx78 : Ext w7 w8 := by rw [hw8]; exact (Ext.refl _).alloc _
            have HSa8 := Lib.hid (show SAt w8 g8 101 #[.int .i64 ya, .int .i64 yb] from by rw [hw8]; exact SAt.new' _ _ _ hg8)
            rw [← hg8, ← hw8]
            clear hw8 hg8
            have hxq8 : Ext wq w8 := hxq7.trans hx78
            have hx08 : Ext w0 w8 := HFq.out.ex.trans hxq8
            have HN1 := Lib.hid (fun w' (h : Ext w8 w') => impl_next D q a n c a' n' c' (K : Int) (ya : Int) (d : Int) w' (HV.out.ext (hx08.trans h)) HOK.out (by omega) (by rw [HP.out]; omega) (by omega) (by have := HS.out; omega) (by omega) (by have := HBs.out; omega))
            have HN2 := Lib.hid (fun w' (h : Ext w8 w') => impl_next D q a n c a' n' c' (K : Int) (yb : Int) (d : Int) w' (HV.out.ext (hx08.trans h)) HOK.out (by omega) (by rw [HP.out]; omega) (by omega) (by have := HS.out; omega) (by omega) (by have := HBs.out; omega))
            rw [hza] at HN1
            rw [hzb] at HN2
            have d0 : ∀ w', Ext w8 w' → w'.cell? ⟨g8, 0, none⟩ = some (.int .i64 ya) := fun w' h => (HSa8.out.ext h).cell 0 (by simp)
            have d1 : ∀ w', Ext w8 w' → w'.cell? ⟨g8, 1, none⟩ = some (.int .i64 yb) := fun w' h => (HSa8.out.ext h).cell 1 (by simp)
            have d6 : ∀ w', Ext w8 w' → w'.cell? ⟨p1, 0, none⟩ = some (.pointer (some ⟨q, 0, none⟩)) := fun w' h => (HFq.out.v1.ext (hxq8.trans h)).cell
            have hxW : Ext w8 w8 := Ext.refl _
            go_cut [19] from 58 to 70 (fun s19 wx => ∃ g, s19 = .pointer (some ⟨g, 0, none⟩) ∧ SAt wx g 101 #[.int .i64 za, .int .i64 zb] ∧ Ext w8 wx)
            case first =>
              go_region_held3 (fun w' => Ext w8 w') ((exact (by repeat (first | (with_reducible exact Ext.refl _) | (with_reducible assumption) | (with_reducible refine Ext.drewN ?_ _) | (with_reducible refine Ext.drew ?_) | (with_reducible refine Ext.alloc ?_ _) | ((with_reducible refine Ext.setCell ?_ ?_ _); rotate_left; focus (first | (simp; done) | (simp; omega) | omega)) | (with_reducible refine Ext.trans ?_ (by with_reducible assumption)))))) ((first | ((with_reducible refine (HN1.out _ (by repeat (first | (with_reducible exact Ext.refl _) | (with_reducible assumption) | (with_reducible refine Ext.drewN ?_ _) | (with_reducible refine Ext.drew ?_) | (with_reducible refine Ext.alloc ?_ _) | ((with_reducible refine Ext.setCell ?_ ?_ _); rotate_left; focus (first | (simp; done) | (simp; omega) | omega)) | (with_reducible refine Ext.trans ?_ (by with_reducible assumption))))).mono ?_); rintro e w9 ⟨rfl, hy9⟩; have hx9 : Ext w8 w9 := Ext.trans (by repeat (first | (with_reducible exact Ext.refl _) | (with_reducible assumption) | (with_reducible refine Ext.drewN ?_ _) | (with_reducible refine Ext.drew ?_) | (with_reducible refine Ext.alloc ?_ _) | ((with_reducible refine Ext.setCell ?_ ?_ _); rotate_left; focus (first | (simp; done) | (simp; omega) | omega)) | (with_reducible refine Ext.trans ?_ (by with_reducible assumption)))) hy9; obtain ⟨hc9, hf9⟩ := bcell hy9; have hsz9 := hy9.le; (try simp at hsz9); (try (have hlt91 : w8.heap.size < w9.heap.size := by omega))) | ((with_reducible refine (HN2.out _ (by repeat (first | (with_reducible exact Ext.refl _) | (with_reducible assumption) | (with_reducible refine Ext.drewN ?_ _) | (with_reducible refine Ext.drew ?_) | (with_reducible refine Ext.alloc ?_ _) | ((with_reducible refine Ext.setCell ?_ ?_ _); rotate_left; focus (first | (simp; done) | (simp; omega) | omega)) | (with_reducible refine Ext.trans ?_ (by with_reducible assumption))))).mono ?_); rintro e wz ⟨rfl, hyz⟩; have hxz : Ext w8 wz := Ext.trans (by repeat (first | (with_reducible exact Ext.refl _) | (with_reducible assumption) | (with_reducible refine Ext.drewN ?_ _) | (with_reducible refine Ext.drew ?_) | (with_reducible refine Ext.alloc ?_ _) | ((with_reducible refine Ext.setCell ?_ ?_ _); rotate_left; focus (first | (simp; done) | (simp; omega) | omega)) | (with_reducible refine Ext.trans ?_ (by with_reducible assumption)))) hyz; obtain ⟨hcz, hfz⟩ := bcell hyz; have hszz := hyz.le; (try simp at hszz); (try (have hltz1 : w8.heap.size < wz.heap.size := by omega)); (try (have hltz2 : w9.heap.size < wz.heap.size := by omega)))))
              all_goals (go_wp2_with fail; go_meet)
              · exact ⟨_, rfl, SAt.new' _ _ _ rfl, by assumption⟩
              · exact ⟨_, rfl, pair_set (SAt.new' _ _ _ rfl) hyz _ _, by assumption⟩
              · exact ⟨_, rfl, pair_set (SAt.drew (SAt.new' w8 _ _ rfl)) (hy9.trans hyz) _ _, by assumption⟩
            case rest =>
              obtain ⟨g9, rfl, hsat, hxc⟩ := hcut
              have HSa := Lib.hid hsat
              have hxqc : Ext wq wc := hxq8.trans hxc
              have hx0c : Ext w0 wc := hx08.trans hxc
              obtain ⟨b1, o1, ga, gc, b2, o2, a2, c2, b3, o3, ⟨f1, f2⟩, ⟨f3, f4⟩, ⟨f5, f6⟩⟩ := (HBo.out.ext hx0c).at (j := K + 1) (x := za) (y := zb) (by have := HKi.out; omega) (by omega) hzaS hzbS
              push_cast at f1
              have HVv := Lib.hid (show bothS D n' (n' - (K + 1)) (za : Int) (zb : Int) = bothS D n' (n' - (K + 1)) (nextS D (K : Int) (ya : Int) (d : Int)) (nextS D (K : Int) (yb : Int) (d : Int)) from by rw [hza, hzb])
              generalize bothS D n' (n' - (K + 1)) (za : Int) (zb : Int) = vv at *
              have t0 : ∀ w', Ext wc w' → w'.cell? ⟨g9, 0, none⟩ = some (.int .i64 za) := fun w' h => (HSa.out.ext h).cell 0 (by simp)
              have t1 : ∀ w', Ext wc w' → w'.cell? ⟨g9, 1, none⟩ = some (.int .i64 zb) := fun w' h => (HSa.out.ext h).cell 1 (by simp)
              have t5 : ∀ w', Ext wc w' → w'.cell? ⟨p5, 0, none⟩ = some (.slice ba (n' + 1) bc) := fun w' h => (HFq.out.v5.ext (hxqc.trans h)).cell
              have HZa := Lib.hid hza
              have HZb := Lib.hid hzb
              have HX7c := Lib.hid (hx78.trans hxc)
              clear d0 d1 d6 hsat hza hzb hx78 hx08 hxq8 hxW
              go_wp2_with fail
              (refine wp_region_from wc (by repeat (first | (with_reducible exact Ext.refl _) | (with_reducible refine Ext.drewN ?_ _) | (with_reducible refine Ext.drew ?_) | (with_reducible refine Ext.alloc ?_ _) | ((with_reducible refine Ext.setCell ?_ ?_ _); rotate_left; focus (first | (simp; done) | (simp; omega) | omega)) | assumption | (with_reducible refine Ext.trans ?_ (by assumption)))) (by kernel_rfl) (by kernel_rfl) (by kernel_rfl) ?_; (repeat (first | (refine mix_q rfl ?_; go_big_quiet_step (fail); refine wpQuiet_nil ?_; show wpMix _ _ _ _ _ _ _) | (refine mix_s rfl ?_; go_wp2_with (fail); first | refine ⟨up_of (by repeat (first | (with_reducible exact Ext.refl _) | (with_reducible refine Ext.drewN ?_ _) | (with_reducible refine Ext.drew ?_) | (with_reducible refine Ext.alloc ?_ _) | ((with_reducible refine Ext.setCell ?_ ?_ _); rotate_left; focus (first | (simp; done) | (simp; omega) | omega)) | assumption | (with_reducible refine Ext.trans ?_ (by assumption)))), ?_⟩ | refine ⟨rfl, rfl, up_of (by repeat (first | (with_reducible exact Ext.refl _) | (with_reducible refine Ext.drewN ?_ _) | (with_reducible refine Ext.drew ?_) | (with_reducible refine Ext.alloc ?_ _) | ((with_reducible refine Ext.setCell ?_ ?_ _); rotate_left; focus (first | (simp; done) | (simp; omega) | omega)) | assumption | (with_reducible refine Ext.trans ?_ (by assumption)))), ?_⟩))); refine mix_nil ?_)
              have hdr : Ext wc wc.drew := (Ext.refl _).drew
              have HWf := Lib.hid (show ∀ q ∈ L, wf2 q.1 q.2 from fun q hq => by have := HFq.out.b q hq; exact ⟨wfF (by omega) (by omega), wfF (by omega) (by omega)⟩)
              by_cases hpos : 0 < vv
              · have hposd : decide (0 < vv) = true := decide_eq_true hpos
                obtain ⟨w10, hrun, hm10, hg10⟩ := ((HPm7.out.ext (HX7c.out.trans hdr))).put (by have := HR.out.al; have := HLt.out; omega) (wf2_of (x := za) (y := zb) (by omega) (by omega))
                have hrun' : (Instr.mapUpdate 99 (.map (some mb)) (.agg #[.int .i64 za, .int .i64 zb]) (.bool true)).run Try.prog wc.drew = .ok () w10 := hrun
                have HM10 := Lib.hid hm10
                have HG10 := Lib.hid hg10
                have c0 := t0 _ hdr
                have c1 := t1 _ hdr
                clear hrun hm10 hg10 t0 t1 t5 f1 f2 f3 f4 f5 f6
                go_wp2_with fail
                have hrg10 := World.ranges.kept (World.ranges.kept HRg7.out (grown_ext (HX7c.out.trans hdr)) (by simp) (by simp)) HG10.out (by simp; omega) (by simp)
                have hx10 : Ext wq w10 := Below.grown (hxqc.trans hdr) HG10.out (by have := (hxqc.trans hdr).le; omega) (fun j hj => by cases hj; omega)
                exact ⟨⟨_, _, _, HR.out.step (q0 := ((ya : Int), (yb : Int))) HMem.out HWf.out hrg10 HLt.out (by rw [← HZa.out, ← HZb.out] at HM10; exact HM10.out) hx10 (.inl ⟨by rw [← HVv.out]; exact hpos, rfl⟩)⟩, by rw [hrg10.left_eq, HR.out.rg.left_eq]; exact HLt.out⟩
              · have hposd : decide (0 < vv) = false := decide_eq_false hpos
                go_wp2_with fail
                have hrg10 := World.ranges.kept HRg7.out (grown_ext (HX7c.out.trans hdr)) (by simp) (by simp)
                exact ⟨⟨_, _, _, HR.out.step (q0 := ((ya : Int), (yb : Int))) HMem.out HWf.out hrg10 HLt.out (HPm7.out.ext (HX7c.out.trans hdr)) (hxqc.trans hdr) (.inr ⟨by rw [← HVv.out]; exact hpos, rfl⟩)⟩, by rw [hrg10.left_eq, HR.out.rg.left_eq]; exact HLt.out⟩
    · have hKn : K = n' := by omega
      have hif := HKi.out
      have hin : n' - (pl + r) = i := by omega
      have HFe := Lib.hid HF.out
      rw [hKn] at HFe
      clear hif
      go_wp2_with fail
      rw [hKn]
      go_ret
      exact ⟨ra, rc, rfl, by rw [hin]; exact HFe.out.o, HFe.out.ex⟩
end Go.Proofs.Ytccoopnoakhedaa
