/- Walks: the least word with an undetected error at a place, in the program. -/
import Derived.Test.YtccoopnoakhedaaFin
namespace Go.Proofs.Ytccoopnoakhedaa
set_option maxRecDepth 100000
open Go.RowKit

theorem info_grid1 : (Try.prog.info? 54).map (fun i => (i.zero, i.size, i.bytes)) = some (some (.slice none 0 0), 1, 24) := by kernel_rfl
theorem info_boolF : (Try.prog.info? 4).map (fun i => (i.zero, i.size, i.bytes)) = some (some (.bool false), 1, 1) := by kernel_rfl
theorem info_brow1 : (Try.prog.info? 88).map (fun i => (i.zero, i.size, i.bytes)) = some (some (.slice none 0 0), 1, 24) := by kernel_rfl
/-- the grids so far -/
structure BotO (D : Ch) (n' S P : Nat) (wb : World) (p1 kk : Nat) (ba : Option Addr) (bc : Nat) (vs : List Value) (W : World) : Prop where
  o : Own W wb.heap.size 54 ba kk bc vs
  v : VarAt W p1 85 (.slice ba kk bc)
  i : ∀ j, P ≤ j → j < kk → ∃ ga gc lo hi, gv vs j = .slice ga S gc ∧ p1 < lo ∧ hi ≤ W.heap.size ∧ Off ba lo hi ∧ ∀ W', KeepB lo hi W W' → Mat W' ga S gc (boT D n' j S)
  h : Ext wb W
  q1 : wb.heap.size ≤ p1
section
variable {D : Ch} {n' S P : Nat} {wb : World} {p1 kk : Nat} {ba : Option Addr} {bc : Nat} {vs : List Value} {W W6 W7 : World}
theorem BotO.ext (d : BotO D n' S P wb p1 kk ba bc vs W) (hx : Ext W W6) : BotO D n' S P wb p1 kk ba bc vs W6 :=
  ⟨d.o.ext hx, d.v.ext hx, fun j h1 h2 => by
    obtain ⟨ga, gc, lo, hi, g1, g2, g3, g4, g5⟩ := d.i j h1 h2
    exact ⟨ga, gc, lo, hi, g1, g2, Nat.le_trans g3 hx.le, g4, fun W' hk => g5 W' ((KeepB.ext hx g3).trans hk)⟩, d.h.trans hx, d.q1⟩
theorem BotO.put (d : BotO D n' S P wb p1 kk ba bc vs W) {ba' : Option Addr} {bc' : Nat} {u : Value} (hb : Below wb.heap.size W W7) (hg : W.grownBy W7 (Value.slice ba kk bc).ownBlock) (ho : Own W7 wb.heap.size 54 ba' (kk + 1) bc' (vs ++ [u]))
    (hk : ∀ g, ba' = some g → (∃ g', ba = some g' ∧ g'.block = g.block) ∨ W.heap.size ≤ g.block)
    (hnew : P ≤ kk → ∃ ga gc lo hi, u = .slice ga S gc ∧ p1 < lo ∧ hi ≤ W.heap.size ∧ Off ba lo hi ∧ ∀ W', KeepB lo hi W W' → Mat W' ga S gc (boT D n' kk S)) :
    BotO D n' S P wb p1 (kk + 1) ba' bc' (vs ++ [u]) (W7.setCell ⟨p1, 0, none⟩ (.slice ba' (kk + 1) bc')) := by
  have hvl := d.o.len
  have hne : ∀ g, ba = some g → g.block ≠ p1 := d.o.ne_var d.v (by decide)
  have hv7 : VarAt W7 p1 85 (.slice ba kk bc) := d.v.grown hg (row_ne_s hne)
  have hex : ∀ j, P ≤ j → j < kk + 1 → ∃ ga gc lo hi, gv (vs ++ [u]) j = .slice ga S gc ∧ p1 < lo ∧ hi ≤ W.heap.size ∧ Off ba lo hi ∧ ∀ W', KeepB lo hi W W' → Mat W' ga S gc (boT D n' j S) := fun j h1 h2 => by
    by_cases h : j < kk
    · obtain ⟨ga, gc, lo, hi, g1, g2, g3, g4, g5⟩ := d.i j h1 h
      exact ⟨ga, gc, lo, hi, (gv_lt (by omega)).trans g1, g2, g3, g4, g5⟩
    · obtain rfl : j = kk := by omega
      obtain ⟨ga, gc, lo, hi, g1, g2, g3, g4, g5⟩ := hnew h1
      exact ⟨ga, gc, lo, hi, (gv_last hvl).trans g1, g2, g3, g4, g5⟩
  refine ⟨ho.other _ (fun g hg' => ho.ne_var hv7 (by decide) g hg'), hv7.set _, fun j h1 h2 => ?_, (d.h.below hb).setCell d.q1 _, d.q1⟩
  obtain ⟨ga, gc, lo, hi, g1, g2, g3, g4, g5⟩ := hex j h1 h2
  refine ⟨ga, gc, lo, hi, g1, g2, ?_, g4.app g3 hk, fun W' hK => g5 W' ?_⟩
  · have := hg.size; simpa [World.setCell] using Nat.le_trans g3 this
  · exact (keepB_grown hg g4 g3).trans (KeepB.trans (fun x h3 h4 => Below.heap_setCell W7 ⟨p1, 0, none⟩ _ x (by simp only; omega)) hK)
theorem BotO.app (d : BotO D n' S P wb p1 kk ba bc vs W) {B : Nat} {ga : Option Addr} {gc : Nat} {F : Nat → Nat → Int} {G C : Nat → Nat} {ba' : Option Addr} {bc' : Nat} (hG : Grid W B 25 2 ga S gc S F G C) (hF : ∀ s, s < S → ∀ t, t < S → F s t = bothS D n' (n' - kk) (s : Int) (t : Int)) (hp : p1 < B) (hba : ∀ g, ba = some g → g.block < B)
    (hb : Below wb.heap.size W W7) (hg : W.grownBy W7 (Value.slice ba kk bc).ownBlock) (ho : Own W7 wb.heap.size 54 ba' (kk + 1) bc' (vs ++ [.slice ga S gc]))
    (hk : ∀ g, ba' = some g → (∃ g', ba = some g' ∧ g'.block = g.block) ∨ W.heap.size ≤ g.block) :
    BotO D n' S P wb p1 (kk + 1) ba' bc' (vs ++ [.slice ga S gc]) (W7.setCell ⟨p1, 0, none⟩ (.slice ba' (kk + 1) bc')) :=
  d.put hb hg ho hk (fun _ => ⟨ga, gc, B, W.heap.size, rfl, hp, Nat.le_refl _, fun g hg' => .inl (hba g hg'), fun _ hK => grid_boT (B := B) (G := G) (C := C) ⟨Own.keepB hG.outer hK, fun k hk => Own.keepB (hG.row k hk) hK, hG.inj⟩ hF⟩)
theorem BotO.botL (d : BotO D n' S P wb p1 (n' + 1) ba bc vs W) : BotL D n' S P W ba bc :=
  ⟨⟨vs, d.o.sl, fun j h1 h2 => by
    obtain ⟨ga, gc, lo, hi, g1, g2, g3, g4, g5⟩ := d.i j h1 (by omega)
    exact ⟨ga, gc, g1, g5 W (KeepB.refl _ _ _)⟩⟩⟩
end
def RetFA (D : Ch) (n' pl r k bs : Nat) (w : World) (e : Ending) (w' : World) : Prop :=
  (canB D n' pl r k bs pl D.start = false ∧ e = .returned (.slice none 0 0) ∧ Ext w w') ∨
    (canB D n' pl r k bs pl D.start = true ∧ ∃ a c, e = .returned (.slice a n' c) ∧ Own w' w.heap.size 2 a n' c (I (leastU D n' pl r k bs)) ∧ Ext w w')
set_option maxHeartbeats 8000000 in
theorem impl_firstAt {D : Ch} {q S pl r n' bs : Nat} {a : Option Addr} {n c : Nat} {a' : Option Addr} {c' : Nat} (k : Nat) (w : World) (hv : ChAt w q D a n c a' n' c') (hok : OkCh D) (hS : D.states = (S : Int)) (hbs : D.base = (bs : Int)) (hk : k ≤ 5) (hr : r = lenK k) (h5 : k ≤ 4 ∨ 10 ≤ bs) (hpl : pl + r ≤ n') :
    Calls Try.prog 29 #[.pointer (some ⟨q, 0, none⟩), .int .i64 k, .int .i64 pl] w (RetFA D n' pl r k bs w) := by
  have HV := Lib.hid hv
  have HOK := Lib.hid hok
  have HS := Lib.hid hS
  have HBs := Lib.hid hbs
  have HP := Lib.hid hv.ps.len
  have HR := Lib.hid hr
  have p20 := hok.p20
  rw [HP.out] at p20
  have hS36 : S ≤ 36 := by have := hok.s36; omega
  have hbs36 : bs ≤ 36 := by have := hok.b36; omega
  have hr3 : 1 ≤ r ∧ r ≤ 3 := by rw [hr]; unfold lenK; split <;> (try split) <;> omega
  have HErr := Lib.hid (fun w' => show Calls Try.prog 41 #[.int .i64 k] w' (Same (.int .i64 r) w') by rw [hr]; exact impl_errLen k hk w')
  have k0 := hv.c0
  have k1 := hv.c1
  have k2 := hv.c2
  have k5 := hv.c5
  simp only [hbs] at k0
  simp only [hS] at k1
  clear hv hok hS hbs hr
  go_enter Try.func29, Try.ntmps29
  go_upto_region 3 with (go_at_call 41; refine (HErr.out _).mono ?_; rintro e w' ⟨rfl, rfl⟩)
  obtain ⟨p4, hp4⟩ : ∃ p, p = w.heap.size := ⟨_, rfl⟩
  obtain ⟨p0, hp0⟩ : ∃ p, p = w.heap.size + 1 := ⟨_, rfl⟩
  obtain ⟨p2, hp2⟩ : ∃ p, p = w.heap.size + 1 + 1 := ⟨_, rfl⟩
  obtain ⟨p3, hp3⟩ : ∃ p, p = w.heap.size + 1 + 1 + 1 := ⟨_, rfl⟩
  obtain ⟨p1, hp1⟩ : ∃ p, p = w.heap.size + 1 + 1 + 1 + 1 + 1 := ⟨_, rfl⟩
  obtain ⟨g1, hg1⟩ : ∃ p, p = w.heap.size + 1 + 1 + 1 + 1 := ⟨_, rfl⟩
  obtain ⟨wb, hwb⟩ : ∃ W, W = (((w.alloc (.cells #[.pointer (some ⟨q, 0, none⟩)] 76)).alloc (.cells #[.int .i64 k] 2)).alloc (.cells #[.int .i64 pl] 3)).alloc (.cells #[.int .i64 r] 3) := ⟨_, rfl⟩
  have hxb : Ext w wb := by rw [hwb]; exact (by repeat (first | (with_reducible exact Ext.refl _) | (with_reducible refine Ext.drewN ?_ _) | (with_reducible refine Ext.drew ?_) | (with_reducible refine Ext.alloc ?_ _) | ((with_reducible refine Ext.setCell ?_ ?_ _); rotate_left; focus (first | (simp; done) | (simp; omega) | omega)) | assumption | (with_reducible refine Ext.trans ?_ (by assumption))))
  have hsz : wb.heap.size = w.heap.size + 1 + 1 + 1 + 1 := by rw [hwb]; simp
  have HV4 := Lib.hid (show VarAt wb p4 76 (.pointer (some ⟨q, 0, none⟩)) from by rw [hwb, hp4]; exact (((VarAt.new w _ _).ext ((Ext.refl _).alloc _)).ext ((Ext.refl _).alloc _)).ext ((Ext.refl _).alloc _))
  have HV0 := Lib.hid (show VarAt wb p0 2 (.int .i64 k) from by rw [hwb]; exact ((VarAt.newN (by simp [hp0])).ext ((Ext.refl _).alloc _)).ext ((Ext.refl _).alloc _))
  have HV2 := Lib.hid (show VarAt wb p2 3 (.int .i64 pl) from by rw [hwb]; exact (VarAt.newN (by simp [hp2])).ext ((Ext.refl _).alloc _))
  have HV3 := Lib.hid (show VarAt wb p3 3 (.int .i64 r) from by rw [hwb]; exact VarAt.newN (by simp [hp3]))
  have HB0 := Lib.hid (show BotO D n' S (pl + r) wb p1 0 (some ⟨g1, 0, none⟩) 0 [] ((wb.alloc (.cells #[] 54)).alloc (.cells #[.slice (some ⟨g1, 0, none⟩) 0 0] 85)) from
    ⟨(Own.lit0' wb _ (by omega) (by omega)).alloc' _, VarAt.newN (by simp [hp1, hsz]), fun j _ h => by omega, (by repeat (first | (with_reducible exact Ext.refl _) | (with_reducible refine Ext.drewN ?_ _) | (with_reducible refine Ext.drew ?_) | (with_reducible refine Ext.alloc ?_ _) | ((with_reducible refine Ext.setCell ?_ ?_ _); rotate_left; focus (first | (simp; done) | (simp; omega) | omega)) | assumption | (with_reducible refine Ext.trans ?_ (by assumption)))), by omega⟩)
  rw [← hwb, ← hp1, ← hg1, ← hp3, ← hp2, ← hp0, ← hp4]
  generalize ((wb.alloc (.cells #[] 54)).alloc (.cells #[.slice (some ⟨g1, 0, none⟩) 0 0] 85)) = wc at *
  clear hwb hg1 hp0 hp1 hp2 hp3 hp4 hsz
  have cb4 : ∀ w', Ext wb w' → w'.cell? ⟨p4, 0, none⟩ = some (.pointer (some ⟨q, 0, none⟩)) := fun w' h => (HV4.out.ext h).cell
  have cb2 : ∀ w', Ext wb w' → w'.cell? ⟨p2, 0, none⟩ = some (.int .i64 pl) := fun w' h => (HV2.out.ext h).cell
  have cb3 : ∀ w', Ext wb w' → w'.cell? ⟨p3, 0, none⟩ = some (.int .i64 r) := fun w' h => (HV3.out.ext h).cell
  have cb0 : ∀ w', Ext wb w' → w'.cell? ⟨p0, 0, none⟩ = some (.int .i64 k) := fun w' h => (HV0.out.ext h).cell
  have kb0 : ∀ w', Ext wb w' → w'.cell? ⟨q, 0, none⟩ = some (.int .i64 bs) := fun w' h => k0 w' (hxb.trans h)
  have kb1 : ∀ w', Ext wb w' → w'.cell? ⟨q, 1, none⟩ = some (.int .i64 S) := fun w' h => k1 w' (hxb.trans h)
  have kb2 : ∀ w', Ext wb w' → w'.cell? ⟨q, 2, none⟩ = some (.int .i64 D.start) := fun w' h => k2 w' (hxb.trans h)
  have kb5 : ∀ w', Ext wb w' → w'.cell? ⟨q, 5, none⟩ = some (.slice a' n' c') := fun w' h => k5 w' (hxb.trans h)
  clear k0 k1 k2 k5
  have hxc := HB0.out.h
  go_wp2_with fail
  go_loopw [30] (fun u30 wr => ∃ (kk : Nat) (ba : Option Addr) (bc : Nat) (vs : List Value), kk ≤ n' + 1 ∧ u30 = .int .i64 kk ∧ Hid (BotO D n' S (pl + r) wb p1 kk ba bc vs wr)) (fun u30 _ => n' + 1 - (intOf u30).toNat)
  case atStart => exact ⟨0, _, _, _, Nat.zero_le _, rfl, HB0.out⟩
  case round =>
    clear HB0 hxc
    obtain ⟨kk, ba, bc, vs, hkk, rfl, HB⟩ := hrel
    have hxr := HB.out.h
    by_cases hlt : kk < n' + 1
    · have c1 := HB.out.v.cell
      have fr1 := HB.out.v.frozen
      have lt1 := HB.out.v.lt
      by_cases hP : kk < pl + r
      · go_wp2_with (at_builtin; refine law_append1_at wr rfl _ _ 85 rfl 54 (.slice none 0 0) 24 und_grids info_grid1 rfl wb.heap.size ba kk bc _ _ rfl rfl (by simp [Act.eval, go_sem]) HB.out.o hxr.le (by omega) (by omega) ?_; intro ba' bc' w7 ho7 hb7 hg7 hk7; have HB7 := Lib.hid (HB.out.put hb7 hg7 ho7 hk7 (fun h => by omega)); have c17 := (HB.out.v.grown hg7 (row_ne_s (HB.out.o.ne_var HB.out.v (by decide)))).cell; have fr17 := (HB.out.v.grown hg7 (row_ne_s (HB.out.o.ne_var HB.out.v (by decide)))).frozen; clear ho7 hb7 hg7 hk7)
        exact ⟨⟨kk + 1, ba', bc', _, by omega, by go_num, HB7.out⟩, by simp [intOf]; omega⟩
      · go_wp2_with fail
        have HBo := Lib.hid (fun w' (h : Ext wb w') => impl_both D q a n c a' n' c' kk w' (HV.out.ext (hxb.trans h)) HOK.out (by omega))
        have HSt := Lib.hid (show D.states.toNat = S by have := HS.out; omega)
        have hlen := HP.out
        obtain ⟨C0, hC0⟩ : ∃ C : World → Prop, C = fun w' => Ext wb w' ∧ VarAt w' p1 85 (.slice ba kk bc) := ⟨_, rfl⟩
        have hin : C0 wr.drew := by rw [hC0]; exact ⟨hxr.drew, HB.out.v.ext ((Ext.refl _).drew)⟩
        have hpk : ∀ z', Ext wb (World.pk C0 wr.drew z') ∧ VarAt (World.pk C0 wr.drew z') p1 85 (.slice ba kk bc) := fun z' => by have := pk_in hin z'; rw [hC0] at this; rw [hC0]; exact this
        have kp1 : ∀ z', (World.pk C0 wr.drew z').cell? ⟨p1, 0, none⟩ = some (.slice ba kk bc) := fun z' => (hpk z').2.cell
        have kp4 : ∀ z', (World.pk C0 wr.drew z').cell? ⟨p4, 0, none⟩ = some (.pointer (some ⟨q, 0, none⟩)) := fun z' => cb4 _ (hpk z').1
        have hBr := HB.out.ext ((Ext.refl wr).drew)
        have HBr := Lib.hid hBr
        clear hBr
        have Hhpk := Lib.hid hpk; clear hpk; have Hhin := Lib.hid hin; clear hin; have HhC0 := Lib.hid hC0; clear hC0
        refine wp_region_pk C0 6 Hhin.out rfl (by kernel_rfl) (by kernel_rfl) (by kernel_rfl) (by kernel_rfl) ?_
        simp only [List.take_succ_cons, List.take_zero, List.drop_succ_cons, List.drop_zero]
        (repeat (first | (refine mix_q rfl ?_; go_big_quiet_step (fail); refine wpQuiet_nil ?_; show wpMix _ _ _ _ _ _ _) | (refine mix_s rfl ?_; go_wp2_with (first
          | (go_at_call 43; (with_reducible refine (HBo.out _ HBr.out.h).mono ?_); rintro e1 w6 ⟨ga, gc, F, G, C, rfl, hg6, hf6, hy6⟩; rw [HSt.out] at hg6 hf6 ⊢; rw [HP.out] at hf6; have HG6 := Lib.hid hg6; have HF6 := Lib.hid hf6; have HB6 := Lib.hid (HBr.out.ext hy6); clear hg6 hf6)
          | (at_builtin; refine law_append1_at w6 rfl _ _ 85 rfl 54 (.slice none 0 0) 24 und_grids info_grid1 rfl wb.heap.size ba kk bc _ _ rfl rfl (by simp [Act.eval, go_sem]) HB6.out.o HB6.out.h.le (by omega) (by omega) ?_; intro ba' bc' w7 ho7 hb7 hg7 hk7; have HV7 := Lib.hid (HB6.out.v.grown hg7 (row_ne_s (HB6.out.o.ne_var HB6.out.v (by decide)))); have HX7 := Lib.hid (HB6.out.h.below hb7); have HO7 := Lib.hid ho7; have HW7 := Lib.hid hb7; have HGr7 := Lib.hid hg7; have HK7 := Lib.hid hk7; clear ho7 hb7 hg7 hk7)); first | refine ⟨pk_of (by rw [HhC0.out]; exact ⟨HX7.out, HV7.out⟩), ?_⟩ | refine ⟨rfl, rfl, pk_of (by rw [HhC0.out]; exact ⟨HX7.out, HV7.out⟩), ?_⟩ | refine ⟨pk_of (by rw [HhC0.out]; exact ⟨HB6.out.h, HB6.out.v⟩), ?_⟩ | refine ⟨rfl, rfl, pk_of (by rw [HhC0.out]; exact ⟨HB6.out.h, HB6.out.v⟩), ?_⟩ | refine ⟨pk_of (by rw [HhC0.out]; exact ⟨HB6.out.h.alloc _, HB6.out.v.ext ((Ext.refl _).alloc _)⟩), ?_⟩ | refine ⟨rfl, rfl, pk_of (by rw [HhC0.out]; exact ⟨HB6.out.h.alloc _, HB6.out.v.ext ((Ext.refl _).alloc _)⟩), ?_⟩ | refine ⟨pk_of Hhin.out, ?_⟩ | refine ⟨rfl, rfl, pk_of Hhin.out, ?_⟩)))
        refine mix_nil ?_
        have HB7 := Lib.hid (HB6.out.app HG6.out HF6.out (show p1 < wr.heap.size from lt1) (fun g hg => own_blk HB.out.o g hg) HW7.out HGr7.out HO7.out HK7.out)
        have c17 := HV7.out.cell
        have fr17 := HV7.out.frozen
        have lt17 := HV7.out.lt
        clear kp1 kp4 hy6
        go_wp2_with fail
        exact ⟨⟨kk + 1, ba', bc', _, by omega, by go_num, HB7.out⟩, by simp [intOf]; omega⟩
    · obtain rfl : kk = n' + 1 := by omega
      have HBL := Lib.hid HB.out.botL
      have HV1 := Lib.hid HB.out.v
      have HX := Lib.hid hxr
      clear hlt hkk
      rename World => wd
      have hmm := @run_makeMap Try.prog
      have cd2 : ∀ w', Ext wd w' → w'.cell? ⟨p2, 0, none⟩ = some (.int .i64 pl) := fun w' h => cb2 w' (HX.out.trans h)
      have cd4 : ∀ w', Ext wd w' → w'.cell? ⟨p4, 0, none⟩ = some (.pointer (some ⟨q, 0, none⟩)) := fun w' h => cb4 w' (HX.out.trans h)
      have kd1 : ∀ w', Ext wd w' → w'.cell? ⟨q, 1, none⟩ = some (.int .i64 S) := fun w' h => kb1 w' (HX.out.trans h)
      have HEnv := Lib.hid (show FEnv D q S pl r n' a n c a' c' p1 p2 p3 p4 ba bc wd from ⟨HV.out.ext (hxb.trans HX.out), HV1.out, HV2.out.ext HX.out, HV3.out.ext HX.out, HV4.out.ext HX.out, HBL.out, HS.out⟩)
      go_upto_region 11 with fail
      obtain ⟨fb, hfb⟩ : ∃ b, b = wd.heap.size := ⟨_, rfl⟩
      obtain ⟨p8, hp8⟩ : ∃ b, b = wd.heap.size + 1 := ⟨_, rfl⟩
      obtain ⟨we, hwe⟩ : ∃ W, W = (wd.alloc (.map #[] 0)).alloc (.cells #[.map (some fb)] 86) := ⟨_, rfl⟩
      have hxe : Ext wd we := by rw [hwe]; exact (by repeat (first | (with_reducible exact Ext.refl _) | (with_reducible refine Ext.drewN ?_ _) | (with_reducible refine Ext.drew ?_) | (with_reducible refine Ext.alloc ?_ _) | ((with_reducible refine Ext.setCell ?_ ?_ _); rotate_left; focus (first | (simp; done) | (simp; omega) | omega)) | assumption | (with_reducible refine Ext.trans ?_ (by assumption))))
      have HFM := Lib.hid (show FMap we fb 0 fun _ => .slice none 0 0 from by rw [hwe, hfb]; exact (FMap.made wd).ext ((Ext.refl _).alloc _))
      have HV8 := Lib.hid (show VarAt we p8 86 (.map (some fb)) from by rw [hwe]; exact VarAt.newN (by simp [hp8]))
      have hfbd : wd.heap.size ≤ fb := by omega
      rw [← hp8, ← hfb, ← hwe]
      clear hwe hp8 hfb
      have c2 := cd2 we hxe
      have c4 := cd4 we hxe
      have e1 := kd1 we hxe
      go_wp2_with (at_make; refine law_make _ rfl _ _ 87 rfl 88 (.slice none 0 0) 24 und_brows info_brow1 rfl _ _ (pl + 1) rfl rfl (by omega) (by unfold maxLen; omega) ?_; intro wf hownf hxf hszf)
      obtain ⟨gc0, hgc0⟩ : ∃ b, b = we.heap.size := ⟨_, rfl⟩
      obtain ⟨p7, hp7⟩ : ∃ b, b = we.heap.size + 1 := ⟨_, rfl⟩
      obtain ⟨wg, hwg⟩ : ∃ W, W = wf.alloc (.cells #[.slice (some ⟨gc0, 0, none⟩) (pl + 1) (pl + 1)] 87) := ⟨_, rfl⟩
      have hxfg : Ext wf wg := by rw [hwg]; exact (Ext.refl _).alloc _
      have hxeg : Ext we wg := hxf.trans hxfg
      have HV7 := Lib.hid (show VarAt wg p7 87 (.slice (some ⟨gc0, 0, none⟩) (pl + 1) (pl + 1)) from by rw [hwg]; exact VarAt.newN (by omega))
      have HOG := Lib.hid (show Own wg wd.heap.size 88 (some ⟨gc0, 0, none⟩) (pl + 1) (pl + 1) (List.replicate (pl + 1) (.slice none 0 0)) from by rw [hgc0]; exact (hownf.ext hxfg).mono hxe.le)
      have HFM2 := Lib.hid (HFM.out.ext hxeg)
      have HV82 := Lib.hid (HV8.out.ext hxeg)
      have hxdg : Ext wd wg := hxe.trans hxeg
      rw [← hp7, ← hgc0, ← hwg]
      clear hwg hp7 hgc0 hownf hxf hszf hxfg hxeg HFM HV8 c2 c4 e1 hxe
      have hxdg' := hxdg
      have c7 := HV7.out.cell
      go_wp2_with fail
      go_loopw [54] (fun u54 wr => ∃ (kk : Nat) (vs : List Value) (G : Nat → Nat), kk ≤ pl + 1 ∧ u54 = .int .i64 kk ∧ Hid (BGTo wr wd.heap.size 88 4 (some ⟨gc0, 0, none⟩) (pl + 1) (pl + 1) S kk vs G) ∧ Hid (VarAt wr p7 87 (.slice (some ⟨gc0, 0, none⟩) (pl + 1) (pl + 1))) ∧ Hid (VarAt wr p8 86 (.map (some fb))) ∧ Hid (FMap wr fb 0 fun _ => .slice none 0 0) ∧ Ext wd wr) (fun u54 _ => pl + 1 - (intOf u54).toNat)
      case atStart => exact ⟨0, _, fun _ => 0, Nat.zero_le _, rfl, ⟨HOG.out, (fun j hj => by omega), (fun j hj => by omega), (fun j j' hj => by omega)⟩, HV7.out, HV82.out, HFM2.out, hxdg⟩
      case round =>
        clear HV7 HV82 HFM2 HOG hxdg hxdg' c7
        obtain ⟨kk, vs2, G, hkk, rfl, HGt, HV7, HV8, HFM, hxr⟩ := hrel
        by_cases hlt : kk < pl + 1
        · have r7 : ∀ w', Ext wr w' → w'.cell? ⟨p7, 0, none⟩ = some (.slice (some ⟨gc0, 0, none⟩) (pl + 1) (pl + 1)) := fun w' h => (HV7.out.ext h).cell
          have r4 : ∀ w', Ext wr w' → w'.cell? ⟨p4, 0, none⟩ = some (.pointer (some ⟨q, 0, none⟩)) := fun w' h => cd4 w' (hxr.trans h)
          have r1 : ∀ w', Ext wr w' → w'.cell? ⟨q, 1, none⟩ = some (.int .i64 S) := fun w' h => kd1 w' (hxr.trans h)
          have hia5 := ((HGt.out.outer).at (P := Try.prog) 87 und_brows cell_brow1 kk hlt .i64).1
          go_wp2_with fail
          (refine wp_region_upl 8 wr (by repeat (first | (with_reducible exact Ext.refl _) | (with_reducible refine Ext.drewN ?_ _) | (with_reducible refine Ext.drew ?_) | (with_reducible refine Ext.alloc ?_ _) | ((with_reducible refine Ext.setCell ?_ ?_ _); rotate_left; focus (first | (simp; done) | (simp; omega) | omega)) | assumption | (with_reducible refine Ext.trans ?_ (by assumption)))) rfl (by kernel_rfl) (by kernel_rfl) (seqB_of (by kernel_rfl)) (lastB_of (by kernel_rfl)) ?_; simp only [List.take_succ_cons, List.take_zero, List.drop_succ_cons, List.drop_zero]; (repeat (first | (refine mix_q rfl ?_; go_big_quiet_step (fail); refine wpQuiet_nil ?_; show wpMix _ _ _ _ _ _ _) | (refine mix_s rfl ?_; go_wp2_with ((at_make; refine law_make _ rfl _ _ 88 rfl 4 (.bool false) 1 und_bools info_boolF rfl _ _ S rfl rfl (by omega) (by unfold maxLen; omega) ?_; intro w5 hown5 hy5 hsz5; have hx5 : Ext wr w5 := Ext.trans (by repeat (first | (with_reducible exact Ext.refl _) | (with_reducible assumption) | (with_reducible refine Ext.drewN ?_ _) | (with_reducible refine Ext.drew ?_) | (with_reducible refine Ext.alloc ?_ _) | ((with_reducible refine Ext.setCell ?_ ?_ _); rotate_left; focus (first | (simp; done) | (simp; omega) | omega)) | (with_reducible refine Ext.trans ?_ (by with_reducible assumption)))) hy5; have HO5 := Lib.hid (show Own w5 wr.heap.size 4 (some ⟨wr.heap.size, 0, none⟩) S S (List.replicate S (.bool false)) from hown5); clear hown5 hy5 hsz5)); first | refine ⟨up_of (by repeat (first | (with_reducible exact Ext.refl _) | (with_reducible refine Ext.drewN ?_ _) | (with_reducible refine Ext.drew ?_) | (with_reducible refine Ext.alloc ?_ _) | ((with_reducible refine Ext.setCell ?_ ?_ _); rotate_left; focus (first | (simp; done) | (simp; omega) | omega)) | assumption | (with_reducible refine Ext.trans ?_ (by assumption)))), ?_⟩ | refine ⟨rfl, rfl, up_of (by repeat (first | (with_reducible exact Ext.refl _) | (with_reducible refine Ext.drewN ?_ _) | (with_reducible refine Ext.drew ?_) | (with_reducible refine Ext.alloc ?_ _) | ((with_reducible refine Ext.setCell ?_ ?_ _); rotate_left; focus (first | (simp; done) | (simp; omega) | omega)) | assumption | (with_reducible refine Ext.trans ?_ (by assumption)))), ?_⟩))); refine mix_nil ?_)
          obtain ⟨-, hce5, hfr5⟩ := (HGt.out.outer.ext hx5).at (P := Try.prog) 87 und_brows cell_brow1 kk hlt .i64
          have hgc := HGt.out.outer.lt
          have hxd5 : Ext wd (w5.setCell ⟨gc0, kk, none⟩ (.slice (some ⟨wr.heap.size, 0, none⟩) S S)) := Ext.setCell (hxr.trans hx5) hgc.1 _
          have hT5 : Two gc0 gc0 w5 (w5.setCell ⟨gc0, kk, none⟩ (.slice (some ⟨wr.heap.size, 0, none⟩) S S)) := Two.setO gc0 gc0 kk w5 _
          have n7 : p7 ≠ gc0 := fun h => HGt.out.outer.ne_var HV7.out (by decide) _ rfl h.symm
          have n8 : p8 ≠ gc0 := fun h => HGt.out.outer.ne_var HV8.out (by decide) _ rfl h.symm
          have nf : fb ≠ gc0 := fun h => HFM.out.ne_row HGt.out.outer _ rfl h.symm
          have HGt5 := Lib.hid ((BGTo.step HGt.out hx5 HO5.out hlt hxr.le (by decide)))
          have HE5 := Lib.hid (show VarAt _ p7 _ _ ∧ VarAt _ p8 _ _ ∧ FMap _ fb _ _ from ⟨(HV7.out.ext hx5).two hT5 n7 n7, (HV8.out.ext hx5).two hT5 n8 n8, (HFM.out.ext hx5).two hT5 nf nf⟩)
          clear r7 r4 r1 hia5 hT5 n7 n8 nf hx5
          go_wp2_with fail
          exact ⟨⟨kk + 1, _, _, by omega, by go_num, HGt5.out, HE5.out.1, HE5.out.2.1, HE5.out.2.2, hxd5⟩, by simp [intOf]; omega⟩
        · have hke : kk = pl + 1 := by omega
          rw [hke] at HGt
          clear hke
          have HF0 := Lib.hid (show FLp D n' S pl r k bs wd p7 p8 fb gc0 G (fun _ => S) 0 (canP D n' pl r k bs 0) (fun _ => .slice none 0 0) wr from
            ⟨by
              have h := HGt.out.done
              rwa [show canP D n' pl r k bs 0 = fun _ _ => false from by funext j x; simp [canP]], HV7.out, HV8.out, HFM.out, fun x h => by omega, hxr, hfbd⟩)
          clear hkk HGt HV7 HV8 HFM
          rename World => wh
          have r4 := cd4 wh hxr
          have r1 := kd1 wh hxr
          go_wp2_with fail
          clear r4 r1 hlt
          go_loopw [70] (fun u70 wr => ∃ (s : Nat) (M : Int → Value), s ≤ S ∧ u70 = .int .i64 s ∧ Hid (FLp D n' S pl r k bs wd p7 p8 fb gc0 G (fun _ => S) s (canP D n' pl r k bs s) M wr)) (fun u70 _ => S - (intOf u70).toNat)
          case atStart => exact ⟨0, _, Nat.zero_le _, rfl, HF0.out⟩
          case round =>
            clear HF0 hxr
            obtain ⟨s, M, hs, rfl, HF⟩ := hrel
            have hxr := HF.out.ex
            by_cases hlt : s < S
            · go_upto_region 20 with fail
              obtain ⟨p5, hp5⟩ : ∃ b, b = wr.heap.size := ⟨_, rfl⟩
              obtain ⟨ws, hws⟩ : ∃ W, W = wr.alloc (.cells #[.int .i64 s] 2) := ⟨_, rfl⟩
              have hxs : Ext wr ws := by rw [hws]; exact (Ext.refl _).alloc _
              have HV5 := Lib.hid (show VarAt ws p5 2 (.int .i64 s) from by rw [hws]; exact VarAt.newN hp5)
              rw [← hp5, ← hws]
              clear hws hp5
              have hxds := hxr.trans hxs
              have HT := Lib.hid (fun w' (h : Ext ws w') => first_tup HEnv.out HOK.out hpl k hk HR.out p0 (HV0.out.ext HX.out) bs HBs.out h5 s hlt p5 p7 p8 fb gc0 G (fun _ => S) M w' (HF.out.ext (hxs.trans h)) (HV5.out.ext h))
              have r4 : ∀ w', Ext ws w' → w'.cell? ⟨p4, 0, none⟩ = some (.pointer (some ⟨q, 0, none⟩)) := fun w' h => cd4 w' (hxds.trans h)
              have r3 : ∀ w', Ext ws w' → w'.cell? ⟨p3, 0, none⟩ = some (.int .i64 r) := fun w' h => cb3 w' (HX.out.trans (hxds.trans h))
              have r0 : ∀ w', Ext ws w' → w'.cell? ⟨q, 0, none⟩ = some (.int .i64 bs) := fun w' h => kb0 w' (HX.out.trans (hxds.trans h))
              go_wp2_with fail
              (refine wp_region_upl 6 ws (by repeat (first | (with_reducible exact Ext.refl _) | (with_reducible refine Ext.drewN ?_ _) | (with_reducible refine Ext.drew ?_) | (with_reducible refine Ext.alloc ?_ _) | ((with_reducible refine Ext.setCell ?_ ?_ _); rotate_left; focus (first | (simp; done) | (simp; omega) | omega)) | assumption | (with_reducible refine Ext.trans ?_ (by assumption)))) rfl (by kernel_rfl) (by kernel_rfl) (seqB_of (by kernel_rfl)) (lastB_of (by kernel_rfl)) ?_; simp only [List.take_succ_cons, List.take_zero, List.drop_succ_cons, List.drop_zero]; (repeat (first | (refine mix_q rfl ?_; go_big_quiet_step (fail); refine wpQuiet_nil ?_; show wpMix _ _ _ _ _ _ _) | (refine mix_s rfl ?_; go_wp2_with (fail); first | refine ⟨up_of (by repeat (first | (with_reducible exact Ext.refl _) | (with_reducible refine Ext.drewN ?_ _) | (with_reducible refine Ext.drew ?_) | (with_reducible refine Ext.alloc ?_ _) | ((with_reducible refine Ext.setCell ?_ ?_ _); rotate_left; focus (first | (simp; done) | (simp; omega) | omega)) | assumption | (with_reducible refine Ext.trans ?_ (by assumption)))), ?_⟩ | refine ⟨rfl, rfl, up_of (by repeat (first | (with_reducible exact Ext.refl _) | (with_reducible refine Ext.drewN ?_ _) | (with_reducible refine Ext.drew ?_) | (with_reducible refine Ext.alloc ?_ _) | ((with_reducible refine Ext.setCell ?_ ?_ _); rotate_left; focus (first | (simp; done) | (simp; omega) | omega)) | assumption | (with_reducible refine Ext.trans ?_ (by assumption)))), ?_⟩))); refine mix_nil ?_)
              go_wp2_with ((with_reducible refine (HT.out _ (by repeat (first | (with_reducible exact Ext.refl _) | (with_reducible assumption) | (with_reducible refine Ext.drewN ?_ _) | (with_reducible refine Ext.drew ?_) | (with_reducible refine Ext.alloc ?_ _) | ((with_reducible refine Ext.setCell ?_ ?_ _); rotate_left; focus (first | (simp; done) | (simp; omega) | omega)) | (with_reducible refine Ext.trans ?_ (by with_reducible assumption))))).mono ?_); rintro e w6 ⟨rfl, M6, hf6⟩)
              exact ⟨⟨s + 1, M6, by omega, by go_num, hf6⟩, by simp [intOf]; omega⟩
            · obtain rfl : S = s := by omega
              clear hlt hs
              rename World => wi
              have r2 := cd2 wi hxr
              go_wp2_with fail
              clear r2
              have HBk0 := Lib.hid (BkTo.start (D := D) (n' := n') (pl := pl) (r := r) (k := k) (bs := bs) (S := S))
              go_loopw [14] (fun u14 wr => ∃ (m : Nat) (Cn : Nat → Nat → Bool) (z : Int), m ≤ pl ∧ u14 = .int .i64 z ∧ z + 1 + m = (pl : Int) ∧ Hid (BkTo D n' pl r k bs S m 0 0 Cn) ∧ Hid (FLp D n' S pl r k bs wd p7 p8 fb gc0 G (fun _ => S) S Cn M wr)) (fun u14 _ => (intOf u14 + 1).toNat)
              case atStart => exact ⟨0, _, _, Nat.zero_le _, rfl, by omega, HBk0.out, HF.out⟩
              case round =>
                clear HF HBk0 hxr
                obtain ⟨m, Cn, z, hm, rfl, hz, HBk, HF⟩ := hrel
                have hxr := HF.out.ex
                by_cases hlt : m < pl
                · obtain ⟨j, rfl⟩ := Int.eq_ofNat_of_zero_le (show 0 ≤ z by omega)
                  have hj : j + 1 + m = pl := by omega
                  have hj0 : (0 : Int) ≤ (j : Int) := by omega
                  have r4 := cd4 wr hxr
                  have r1 := kd1 wr hxr
                  clear hz
                  go_wp2_with fail
                  clear r4 r1
                  go_loopw [91] (fun u91 wr => ∃ (s : Nat) (Cn : Nat → Nat → Bool), s ≤ S ∧ u91 = .int .i64 s ∧ Hid (BkTo D n' pl r k bs S m s 0 Cn) ∧ Hid (FLp D n' S pl r k bs wd p7 p8 fb gc0 G (fun _ => S) S Cn M wr)) (fun u91 _ => S - (intOf u91).toNat)
                  case atStart => exact ⟨0, _, Nat.zero_le _, rfl, HBk.out, HF.out⟩
                  case round =>
                    clear HBk HF hxr
                    obtain ⟨s, Cn, hs, rfl, HBk, HF⟩ := hrel
                    have hxr := HF.out.ex
                    by_cases hlts : s < S
                    · have r4 := cd4 wr hxr
                      have r0 := kb0 wr (HX.out.trans hxr)
                      go_wp2_with fail
                      clear r4 r0
                      go_loopw [98] (fun u98 wr => ∃ (d : Nat) (Cn : Nat → Nat → Bool), d ≤ bs ∧ u98 = .int .i64 d ∧ Hid (BkTo D n' pl r k bs S m s d Cn) ∧ Hid (FLp D n' S pl r k bs wd p7 p8 fb gc0 G (fun _ => S) S Cn M wr)) (fun u98 _ => bs - (intOf u98).toNat)
                      case atStart => exact ⟨0, _, Nat.zero_le _, rfl, HBk.out, HF.out⟩
                      case round =>
                        clear HBk HF hxr
                        obtain ⟨d, Cn, hd, rfl, HBk, HF⟩ := hrel
                        have hxr := HF.out.ex
                        by_cases hltd : d < bs
                        · have hnx := HOK.out.next (p := (j : Int)) (x := (s : Int)) (d := (d : Int)) (by omega) (by rw [HP.out]; omega) (by omega) (by have := HS.out; omega) (by omega) (by have := HBs.out; omega)
                          obtain ⟨y, hy⟩ := Int.eq_ofNat_of_zero_le hnx.1
                          have hyS : y < S := by have := HS.out; omega
                          have HN := Lib.hid (fun w' (h : Ext wr w') => impl_next D q a n c a' n' c' (j : Int) (s : Int) (d : Int) w' (HV.out.ext (hxb.trans (HX.out.trans (hxr.trans h)))) HOK.out (by omega) (by rw [HP.out]; omega) (by omega) (by have := HS.out; omega) (by omega) (by have := HBs.out; omega))
                          have HStp := Lib.hid (HBk.out.step hj hlts hy hyS)
                          have HPut := Lib.hid (fun W' (h : Ext wr W') v => (HF.out.ext h).put (i := j) (x := s) (by omega) hlts v)
                          rw [hy] at HN
                          obtain ⟨b1, o1, f1, f2, f3, f4, f5⟩ := HF.out.g.one (P := Try.prog) 87 88 und_brows cell_brow1 und_bools cell_bool1 (i := j) (x := s) (by omega) hlts
                          obtain ⟨b2, o2, g1, g2, g3, g4, g5⟩ := HF.out.g.one (P := Try.prog) 87 88 und_brows cell_brow1 und_bools cell_bool1 (i := j + 1) (x := y) (by omega) hyS
                          push_cast at g1
                          have r4 : ∀ w', Ext wr w' → w'.cell? ⟨p4, 0, none⟩ = some (.pointer (some ⟨q, 0, none⟩)) := fun w' h => cd4 w' (hxr.trans h)
                          have r7 : ∀ w', Ext wr w' → w'.cell? ⟨p7, 0, none⟩ = some (.slice (some ⟨gc0, 0, none⟩) (pl + 1) (pl + 1)) := fun w' h => (HF.out.v7.ext h).cell
                          cases hc0 : Cn j s
                          · rw [hc0] at f4
                            rw [hc0, Bool.false_or] at HStp
                            clear hnx
                            go_wp2_with fail
                            (refine wp_region_upl 27 wr (by repeat (first | (with_reducible exact Ext.refl _) | (with_reducible refine Ext.drewN ?_ _) | (with_reducible refine Ext.drew ?_) | (with_reducible refine Ext.alloc ?_ _) | ((with_reducible refine Ext.setCell ?_ ?_ _); rotate_left; focus (first | (simp; done) | (simp; omega) | omega)) | assumption | (with_reducible refine Ext.trans ?_ (by assumption)))) rfl (by kernel_rfl) (by kernel_rfl) (seqB_of (by kernel_rfl)) (lastB_of (by kernel_rfl)) ?_; simp only [List.take_succ_cons, List.take_zero, List.drop_succ_cons, List.drop_zero]; (repeat (first | (refine mix_q rfl ?_; go_big_quiet_step (fail); refine wpQuiet_nil ?_; show wpMix _ _ _ _ _ _ _) | (refine mix_s rfl ?_; go_wp2_with (((with_reducible refine (HN.out _ (by repeat (first | (with_reducible exact Ext.refl _) | (with_reducible assumption) | (with_reducible refine Ext.drewN ?_ _) | (with_reducible refine Ext.drew ?_) | (with_reducible refine Ext.alloc ?_ _) | ((with_reducible refine Ext.setCell ?_ ?_ _); rotate_left; focus (first | (simp; done) | (simp; omega) | omega)) | (with_reducible refine Ext.trans ?_ (by with_reducible assumption))))).mono ?_); rintro e w6 ⟨rfl, hy6⟩; have hx6 : Ext wr w6 := Ext.trans (by repeat (first | (with_reducible exact Ext.refl _) | (with_reducible assumption) | (with_reducible refine Ext.drewN ?_ _) | (with_reducible refine Ext.drew ?_) | (with_reducible refine Ext.alloc ?_ _) | ((with_reducible refine Ext.setCell ?_ ?_ _); rotate_left; focus (first | (simp; done) | (simp; omega) | omega)) | (with_reducible refine Ext.trans ?_ (by with_reducible assumption)))) hy6; clear hy6)); first | refine ⟨up_of (by repeat (first | (with_reducible exact Ext.refl _) | (with_reducible refine Ext.drewN ?_ _) | (with_reducible refine Ext.drew ?_) | (with_reducible refine Ext.alloc ?_ _) | ((with_reducible refine Ext.setCell ?_ ?_ _); rotate_left; focus (first | (simp; done) | (simp; omega) | omega)) | assumption | (with_reducible refine Ext.trans ?_ (by assumption)))), ?_⟩ | refine ⟨rfl, rfl, up_of (by repeat (first | (with_reducible exact Ext.refl _) | (with_reducible refine Ext.drewN ?_ _) | (with_reducible refine Ext.drew ?_) | (with_reducible refine Ext.alloc ?_ _) | ((with_reducible refine Ext.setCell ?_ ?_ _); rotate_left; focus (first | (simp; done) | (simp; omega) | omega)) | assumption | (with_reducible refine Ext.trans ?_ (by assumption)))), ?_⟩))); refine mix_nil ?_)
                            clear g1 g2 g3 g4 g5 r4 r7 f1 f2 f3
                            go_wp2_with fail
                            exact ⟨⟨d + 1, _, by omega, by go_num, HStp.out, HPut.out _ (by repeat (first | (with_reducible exact Ext.refl _) | (with_reducible refine Ext.drewN ?_ _) | (with_reducible refine Ext.drew ?_) | (with_reducible refine Ext.alloc ?_ _) | ((with_reducible refine Ext.setCell ?_ ?_ _); rotate_left; focus (first | (simp; done) | (simp; omega) | omega)) | assumption | (with_reducible refine Ext.trans ?_ (by assumption)))) _⟩, by simp [intOf]; omega⟩
                          · rw [hc0] at f4
                            rw [hc0, Bool.true_or] at HStp
                            clear g1 g2 g3 g4 g5 hy hnx
                            go_wp2_with fail
                            (refine wp_region_upl 27 wr (by repeat (first | (with_reducible exact Ext.refl _) | (with_reducible refine Ext.drewN ?_ _) | (with_reducible refine Ext.drew ?_) | (with_reducible refine Ext.alloc ?_ _) | ((with_reducible refine Ext.setCell ?_ ?_ _); rotate_left; focus (first | (simp; done) | (simp; omega) | omega)) | assumption | (with_reducible refine Ext.trans ?_ (by assumption)))) rfl (by kernel_rfl) (by kernel_rfl) (seqB_of (by kernel_rfl)) (lastB_of (by kernel_rfl)) ?_; simp only [List.take_succ_cons, List.take_zero, List.drop_succ_cons, List.drop_zero]; (repeat (first | (refine mix_q rfl ?_; go_big_quiet_step (fail); refine wpQuiet_nil ?_; show wpMix _ _ _ _ _ _ _) | (refine mix_s rfl ?_; go_wp2_with (fail); first | refine ⟨up_of (by repeat (first | (with_reducible exact Ext.refl _) | (with_reducible refine Ext.drewN ?_ _) | (with_reducible refine Ext.drew ?_) | (with_reducible refine Ext.alloc ?_ _) | ((with_reducible refine Ext.setCell ?_ ?_ _); rotate_left; focus (first | (simp; done) | (simp; omega) | omega)) | assumption | (with_reducible refine Ext.trans ?_ (by assumption)))), ?_⟩ | refine ⟨rfl, rfl, up_of (by repeat (first | (with_reducible exact Ext.refl _) | (with_reducible refine Ext.drewN ?_ _) | (with_reducible refine Ext.drew ?_) | (with_reducible refine Ext.alloc ?_ _) | ((with_reducible refine Ext.setCell ?_ ?_ _); rotate_left; focus (first | (simp; done) | (simp; omega) | omega)) | assumption | (with_reducible refine Ext.trans ?_ (by assumption)))), ?_⟩))); refine mix_nil ?_)
                            clear r4 r7 f1 f2 f3
                            go_wp2_with fail
                            exact ⟨⟨d + 1, _, by omega, by go_num, HStp.out, (HPut.out wr (Ext.refl _) true).ext ((Ext.refl _).drew)⟩, by simp [intOf]; omega⟩
                        · obtain rfl : bs = d := by omega
                          have HNx := Lib.hid HBk.out.next
                          go_wp2_with fail
                          exact ⟨⟨s + 1, Cn, by omega, by go_num, HNx.out, HF.out⟩, by simp [intOf]; omega⟩
                    · obtain rfl : S = s := by omega
                      have HDn := Lib.hid HBk.out.done
                      go_wp2_with fail
                      exact ⟨⟨m + 1, Cn, (j : Int) - 1, by omega, rfl, by omega, HDn.out, HF.out⟩, by simp [intOf]⟩
                · obtain rfl : pl = m := by omega
                  have hz0 : ¬ (0 : Int) ≤ z := by omega
                  have HFb := Lib.hid (HF.out.congr (Cn' := fun j x => canB D n' pl r k bs (pl - j) (x : Int)) HBk.out.all)
                  obtain ⟨st, hst⟩ := Int.eq_ofNat_of_zero_le HOK.out.st0
                  have hstS : st < S := by have := HOK.out.st1; have := HS.out; omega
                  have HSt := Lib.hid hst
                  simp only [hst] at kb2
                  clear hst HF HBk hlt hm hz
                  rename World => wj
                  go_wp2_with fail
                  clear hz0
                  obtain ⟨b1, o1, f1, f2, f3, f4, f5⟩ := HFb.out.g.one (P := Try.prog) 87 88 und_brows cell_brow1 und_bools cell_bool1 (i := 0) (x := st) (by omega) hstS
                  simp only [Nat.sub_zero] at f4
                  rw [← HSt.out] at f4
                  have r4 : ∀ w', Ext wj w' → w'.cell? ⟨p4, 0, none⟩ = some (.pointer (some ⟨q, 0, none⟩)) := fun w' h => cd4 w' (hxr.trans h)
                  have r7 : ∀ w', Ext wj w' → w'.cell? ⟨p7, 0, none⟩ = some (.slice (some ⟨gc0, 0, none⟩) (pl + 1) (pl + 1)) := fun w' h => (HFb.out.v7.ext h).cell
                  have r2 : ∀ w', Ext wj w' → w'.cell? ⟨q, 2, none⟩ = some (.int .i64 st) := fun w' h => kb2 w' (HX.out.trans (hxr.trans h))
                  push_cast at f1
                  cases hcan : canB D n' pl r k bs pl D.start
                  · rw [hcan] at f4
                    (refine wp_region_from wj (by repeat (first | (with_reducible exact Ext.refl _) | (with_reducible refine Ext.drewN ?_ _) | (with_reducible refine Ext.drew ?_) | (with_reducible refine Ext.alloc ?_ _) | ((with_reducible refine Ext.setCell ?_ ?_ _); rotate_left; focus (first | (simp; done) | (simp; omega) | omega)) | assumption | (with_reducible refine Ext.trans ?_ (by assumption)))) (by kernel_rfl) (by kernel_rfl) (by kernel_rfl) ?_; (repeat (first | (refine mix_q rfl ?_; go_big_quiet_step (fail); refine wpQuiet_nil ?_; show wpMix _ _ _ _ _ _ _) | (refine mix_s rfl ?_; go_wp2_with (fail); first | refine ⟨up_of (by repeat (first | (with_reducible exact Ext.refl _) | (with_reducible refine Ext.drewN ?_ _) | (with_reducible refine Ext.drew ?_) | (with_reducible refine Ext.alloc ?_ _) | ((with_reducible refine Ext.setCell ?_ ?_ _); rotate_left; focus (first | (simp; done) | (simp; omega) | omega)) | assumption | (with_reducible refine Ext.trans ?_ (by assumption)))), ?_⟩ | refine ⟨rfl, rfl, up_of (by repeat (first | (with_reducible exact Ext.refl _) | (with_reducible refine Ext.drewN ?_ _) | (with_reducible refine Ext.drew ?_) | (with_reducible refine Ext.alloc ?_ _) | ((with_reducible refine Ext.setCell ?_ ?_ _); rotate_left; focus (first | (simp; done) | (simp; omega) | omega)) | assumption | (with_reducible refine Ext.trans ?_ (by assumption)))), ?_⟩))); refine mix_nil ?_)
                    go_wp2_with fail
                    go_ret
                    exact .inl ⟨hcan, rfl, (hxb.trans (HX.out.trans hxr)).trans (by repeat (first | (with_reducible exact Ext.refl _) | (with_reducible refine Ext.drewN ?_ _) | (with_reducible refine Ext.drew ?_) | (with_reducible refine Ext.alloc ?_ _) | ((with_reducible refine Ext.setCell ?_ ?_ _); rotate_left; focus (first | (simp; done) | (simp; omega) | omega)) | assumption | (with_reducible refine Ext.trans ?_ (by assumption))))⟩
                  · rw [hcan] at f4
                    (refine wp_region_from wj (by repeat (first | (with_reducible exact Ext.refl _) | (with_reducible refine Ext.drewN ?_ _) | (with_reducible refine Ext.drew ?_) | (with_reducible refine Ext.alloc ?_ _) | ((with_reducible refine Ext.setCell ?_ ?_ _); rotate_left; focus (first | (simp; done) | (simp; omega) | omega)) | assumption | (with_reducible refine Ext.trans ?_ (by assumption)))) (by kernel_rfl) (by kernel_rfl) (by kernel_rfl) ?_; (repeat (first | (refine mix_q rfl ?_; go_big_quiet_step (fail); refine wpQuiet_nil ?_; show wpMix _ _ _ _ _ _ _) | (refine mix_s rfl ?_; go_wp2_with (fail); first | refine ⟨up_of (by repeat (first | (with_reducible exact Ext.refl _) | (with_reducible refine Ext.drewN ?_ _) | (with_reducible refine Ext.drew ?_) | (with_reducible refine Ext.alloc ?_ _) | ((with_reducible refine Ext.setCell ?_ ?_ _); rotate_left; focus (first | (simp; done) | (simp; omega) | omega)) | assumption | (with_reducible refine Ext.trans ?_ (by assumption)))), ?_⟩ | refine ⟨rfl, rfl, up_of (by repeat (first | (with_reducible exact Ext.refl _) | (with_reducible refine Ext.drewN ?_ _) | (with_reducible refine Ext.drew ?_) | (with_reducible refine Ext.alloc ?_ _) | ((with_reducible refine Ext.setCell ?_ ?_ _); rotate_left; focus (first | (simp; done) | (simp; omega) | omega)) | assumption | (with_reducible refine Ext.trans ?_ (by assumption)))), ?_⟩))); refine mix_nil ?_)
                    go_wp2_with fail
                    clear f1 f2 f3 f4 f5 r7
                    (refine wp_region_from wj (by repeat (first | (with_reducible exact Ext.refl _) | (with_reducible refine Ext.drewN ?_ _) | (with_reducible refine Ext.drew ?_) | (with_reducible refine Ext.alloc ?_ _) | ((with_reducible refine Ext.setCell ?_ ?_ _); rotate_left; focus (first | (simp; done) | (simp; omega) | omega)) | assumption | (with_reducible refine Ext.trans ?_ (by assumption)))) (by kernel_rfl) (by kernel_rfl) (by kernel_rfl) ?_; (repeat (first | (refine mix_q rfl ?_; go_big_quiet_step (fail); refine wpQuiet_nil ?_; show wpMix _ _ _ _ _ _ _) | (refine mix_s rfl ?_; go_wp2_with (fail); first | refine ⟨up_of (by repeat (first | (with_reducible exact Ext.refl _) | (with_reducible refine Ext.drewN ?_ _) | (with_reducible refine Ext.drew ?_) | (with_reducible refine Ext.alloc ?_ _) | ((with_reducible refine Ext.setCell ?_ ?_ _); rotate_left; focus (first | (simp; done) | (simp; omega) | omega)) | assumption | (with_reducible refine Ext.trans ?_ (by assumption)))), ?_⟩ | refine ⟨rfl, rfl, up_of (by repeat (first | (with_reducible exact Ext.refl _) | (with_reducible refine Ext.drewN ?_ _) | (with_reducible refine Ext.drew ?_) | (with_reducible refine Ext.alloc ?_ _) | ((with_reducible refine Ext.setCell ?_ ?_ _); rotate_left; focus (first | (simp; done) | (simp; omega) | omega)) | assumption | (with_reducible refine Ext.trans ?_ (by assumption)))), ?_⟩))); refine mix_nil ?_)
                    go_wp2_with fail
                    have hxj0 : Ext wj (wj.alloc (.cells #[] 2)).drew.drew := (by repeat (first | (with_reducible exact Ext.refl _) | (with_reducible refine Ext.drewN ?_ _) | (with_reducible refine Ext.drew ?_) | (with_reducible refine Ext.alloc ?_ _) | ((with_reducible refine Ext.setCell ?_ ?_ _); rotate_left; focus (first | (simp; done) | (simp; omega) | omega)) | assumption | (with_reducible refine Ext.trans ?_ (by assumption))))
                    go_loopw [17, 18, 146] (fun u17 u18 u146 wr => ∃ (i y : Nat) (ra : Option Addr) (rc : Nat), i ≤ pl ∧ u146 = .int .i64 i ∧ u18 = .int .i64 y ∧ u17 = .slice ra i rc ∧ Hid ((y : Int) = runS D 0 D.start (preS D n' pl r k bs i)) ∧ Hid (Own wr wj.heap.size 2 ra i rc (I (preS D n' pl r k bs i))) ∧ Ext wj wr) (fun _ _ u146 _ => pl - (intOf u146).toNat)
                    case atStart => exact ⟨0, st, _, _, Nat.zero_le _, rfl, rfl, rfl, (by rw [Hid, preS, runS]; exact HSt.out.symm), (Own.lit0 wj _).ext ((Ext.refl _).drew.drew), hxj0⟩
                    case round =>
                      clear hxj0 r4 r2
                      obtain ⟨i, y, ra, rc, hi, rfl, rfl, rfl, HY, HO, hxw⟩ := hrel
                      have hxdw := hxr.trans hxw
                      have hcp := canB_pre hcan i hi
                      rw [← HY.out] at hcp
                      have hyb := runS_bd HOK.out (preS D n' pl r k bs i) 0 D.start (fun d hd => by have := preS_bd hcan i hi d hd; have := HBs.out; omega) (Int.le_refl _) (by rw [preS_len, HP.out]; omega) HOK.out.st0 HOK.out.st1
                      rw [← HY.out] at hyb
                      have hyS : y < S := by have := HS.out; omega
                      by_cases hlt : i < pl
                      · obtain ⟨m, hm⟩ : ∃ m, pl - i = m + 1 := ⟨pl - (i + 1), by omega⟩
                        have hm2 : pl - (i + 1) = m := by omega
                        have hm3 : pl - (m + 1) = i := by omega
                        rw [hm, canB, hm3] at hcp
                        obtain ⟨dd, hdd⟩ : ∃ dd, dd = fstI (fun d => canB D n' pl r k bs m (nextS D (i : Int) (y : Int) (d : Int))) bs := ⟨_, rfl⟩
                        obtain ⟨f1, f2⟩ := fstI_lt hcp
                        rw [← hdd] at f1 f2
                        have HLo := Lib.hid (show ∀ d, d < dd → canB D n' pl r k bs m (nextS D (i : Int) (y : Int) (d : Int)) = false from fun d hd => fstI_not (P := fun d => canB D n' pl r k bs m (nextS D (i : Int) (y : Int) (d : Int))) (by rw [← hdd]; exact hd))
                        have HDd := Lib.hid (show preS D n' pl r k bs (i + 1) = preS D n' pl r k bs i ++ [(dd : Int)] from by rw [preS, hm2, ← HY.out, ← hdd])
                        have HNx := Lib.hid (fun d (hd : d < bs) => HOK.out.next (p := (i : Int)) (x := (y : Int)) (d := (d : Int)) (by omega) (by rw [HP.out]; omega) (by omega) (by omega) (by omega) (by have := HBs.out; omega))
                        have HM := Lib.hid hm2
                        have HF2 := Lib.hid f2
                        have hyb0 := hyb.1
                        clear hcp hdd hm hm2 hm3 f2
                        go_wp2_with fail
                        go_loopw [20] (fun u20 wr' => ∃ d : Nat, d ≤ dd ∧ u20 = .int .i64 d ∧ Ext wr wr') (fun u20 _ => dd - (intOf u20).toNat)
                        case atStart => exact ⟨0, Nat.zero_le _, rfl, Ext.refl _⟩
                        case round =>
                          rename World => wq
                          obtain ⟨d, hd, rfl, hxq⟩ := hrel
                          have hxjq : Ext wj wq := hxw.trans hxq
                          have hdb : d < bs := by omega
                          have hnx := HNx.out d hdb
                          obtain ⟨zz, hzz⟩ := Int.eq_ofNat_of_zero_le hnx.1
                          have hzS : zz < S := by have := HS.out; omega
                          have HN := Lib.hid (fun w' (h : Ext wj w') => impl_next D q a n c a' n' c' (i : Int) (y : Int) (d : Int) w' (HV.out.ext (hxb.trans (HX.out.trans (hxr.trans h)))) HOK.out (by omega) (by rw [HP.out]; omega) (by omega) (by have := HS.out; omega) (by omega) (by have := HBs.out; omega))
                          rw [hzz] at HN
                          obtain ⟨b2, o2, g1, g2, g3, g4, g5⟩ := HFb.out.g.one (P := Try.prog) 87 88 und_brows cell_brow1 und_bools cell_bool1 (i := i + 1) (x := zz) (by omega) hzS
                          push_cast at g1
                          rw [HM.out] at g4
                          have r4 : ∀ w', Ext wj w' → w'.cell? ⟨p4, 0, none⟩ = some (.pointer (some ⟨q, 0, none⟩)) := fun w' h => cd4 w' (hxr.trans h)
                          have r7 : ∀ w', Ext wj w' → w'.cell? ⟨p7, 0, none⟩ = some (.slice (some ⟨gc0, 0, none⟩) (pl + 1) (pl + 1)) := fun w' h => (HFb.out.v7.ext h).cell
                          by_cases hlast : d < dd
                          · have hcv := HLo.out d hlast
                            rw [hzz] at hcv
                            rw [hcv] at g4
                            clear hcv hzz hnx
                            go_wp2_with fail
                            (refine wp_region_from wj (by repeat (first | (with_reducible exact Ext.refl _) | (with_reducible refine Ext.drewN ?_ _) | (with_reducible refine Ext.drew ?_) | (with_reducible refine Ext.alloc ?_ _) | ((with_reducible refine Ext.setCell ?_ ?_ _); rotate_left; focus (first | (simp; done) | (simp; omega) | omega)) | assumption | (with_reducible refine Ext.trans ?_ (by assumption)))) (by kernel_rfl) (by kernel_rfl) (by kernel_rfl) ?_; (repeat (first | (refine mix_q rfl ?_; go_big_quiet_step (fail); refine wpQuiet_nil ?_; show wpMix _ _ _ _ _ _ _) | (refine mix_s rfl ?_; go_wp2_with (((with_reducible refine (HN.out _ (by repeat (first | (with_reducible exact Ext.refl _) | (with_reducible assumption) | (with_reducible refine Ext.drewN ?_ _) | (with_reducible refine Ext.drew ?_) | (with_reducible refine Ext.alloc ?_ _) | ((with_reducible refine Ext.setCell ?_ ?_ _); rotate_left; focus (first | (simp; done) | (simp; omega) | omega)) | (with_reducible refine Ext.trans ?_ (by with_reducible assumption))))).mono ?_); rintro e w6 ⟨rfl, hy6⟩; have hx6 : Ext wj w6 := Ext.trans (by repeat (first | (with_reducible exact Ext.refl _) | (with_reducible assumption) | (with_reducible refine Ext.drewN ?_ _) | (with_reducible refine Ext.drew ?_) | (with_reducible refine Ext.alloc ?_ _) | ((with_reducible refine Ext.setCell ?_ ?_ _); rotate_left; focus (first | (simp; done) | (simp; omega) | omega)) | (with_reducible refine Ext.trans ?_ (by with_reducible assumption)))) hy6; have hx6q : Ext wq w6 := Ext.trans (by repeat (first | (with_reducible exact Ext.refl _) | (with_reducible assumption) | (with_reducible refine Ext.drewN ?_ _) | (with_reducible refine Ext.drew ?_) | (with_reducible refine Ext.alloc ?_ _) | ((with_reducible refine Ext.setCell ?_ ?_ _); rotate_left; focus (first | (simp; done) | (simp; omega) | omega)) | (with_reducible refine Ext.trans ?_ (by with_reducible assumption)))) hy6; clear hy6)); first | refine ⟨up_of (by repeat (first | (with_reducible exact Ext.refl _) | (with_reducible refine Ext.drewN ?_ _) | (with_reducible refine Ext.drew ?_) | (with_reducible refine Ext.alloc ?_ _) | ((with_reducible refine Ext.setCell ?_ ?_ _); rotate_left; focus (first | (simp; done) | (simp; omega) | omega)) | assumption | (with_reducible refine Ext.trans ?_ (by assumption)))), ?_⟩ | refine ⟨rfl, rfl, up_of (by repeat (first | (with_reducible exact Ext.refl _) | (with_reducible refine Ext.drewN ?_ _) | (with_reducible refine Ext.drew ?_) | (with_reducible refine Ext.alloc ?_ _) | ((with_reducible refine Ext.setCell ?_ ?_ _); rotate_left; focus (first | (simp; done) | (simp; omega) | omega)) | assumption | (with_reducible refine Ext.trans ?_ (by assumption)))), ?_⟩))); refine mix_nil ?_)
                            go_wp2_with fail
                            exact ⟨⟨d + 1, by omega, by go_num, hxq.trans hx6q⟩, by simp [intOf]; omega⟩
                          · obtain rfl : dd = d := by omega
                            have hcv := HF2.out
                            rw [hzz] at hcv
                            rw [hcv] at g4
                            have HZ := Lib.hid hzz
                            clear hcv hzz hnx
                            go_wp2_with fail
                            (refine wp_region_from wj (by repeat (first | (with_reducible exact Ext.refl _) | (with_reducible refine Ext.drewN ?_ _) | (with_reducible refine Ext.drew ?_) | (with_reducible refine Ext.alloc ?_ _) | ((with_reducible refine Ext.setCell ?_ ?_ _); rotate_left; focus (first | (simp; done) | (simp; omega) | omega)) | assumption | (with_reducible refine Ext.trans ?_ (by assumption)))) (by kernel_rfl) (by kernel_rfl) (by kernel_rfl) ?_; (repeat (first | (refine mix_q rfl ?_; go_big_quiet_step (fail); refine wpQuiet_nil ?_; show wpMix _ _ _ _ _ _ _) | (refine mix_s rfl ?_; go_wp2_with (((with_reducible refine (HN.out _ (by repeat (first | (with_reducible exact Ext.refl _) | (with_reducible assumption) | (with_reducible refine Ext.drewN ?_ _) | (with_reducible refine Ext.drew ?_) | (with_reducible refine Ext.alloc ?_ _) | ((with_reducible refine Ext.setCell ?_ ?_ _); rotate_left; focus (first | (simp; done) | (simp; omega) | omega)) | (with_reducible refine Ext.trans ?_ (by with_reducible assumption))))).mono ?_); rintro e w6 ⟨rfl, hy6⟩; have hx6 : Ext wj w6 := Ext.trans (by repeat (first | (with_reducible exact Ext.refl _) | (with_reducible assumption) | (with_reducible refine Ext.drewN ?_ _) | (with_reducible refine Ext.drew ?_) | (with_reducible refine Ext.alloc ?_ _) | ((with_reducible refine Ext.setCell ?_ ?_ _); rotate_left; focus (first | (simp; done) | (simp; omega) | omega)) | (with_reducible refine Ext.trans ?_ (by with_reducible assumption)))) hy6; have hx6q : Ext wq w6 := Ext.trans (by repeat (first | (with_reducible exact Ext.refl _) | (with_reducible assumption) | (with_reducible refine Ext.drewN ?_ _) | (with_reducible refine Ext.drew ?_) | (with_reducible refine Ext.alloc ?_ _) | ((with_reducible refine Ext.setCell ?_ ?_ _); rotate_left; focus (first | (simp; done) | (simp; omega) | omega)) | (with_reducible refine Ext.trans ?_ (by with_reducible assumption)))) hy6; clear hy6)); first | refine ⟨up_of (by repeat (first | (with_reducible exact Ext.refl _) | (with_reducible refine Ext.drewN ?_ _) | (with_reducible refine Ext.drew ?_) | (with_reducible refine Ext.alloc ?_ _) | ((with_reducible refine Ext.setCell ?_ ?_ _); rotate_left; focus (first | (simp; done) | (simp; omega) | omega)) | assumption | (with_reducible refine Ext.trans ?_ (by assumption)))), ?_⟩ | refine ⟨rfl, rfl, up_of (by repeat (first | (with_reducible exact Ext.refl _) | (with_reducible refine Ext.drewN ?_ _) | (with_reducible refine Ext.drew ?_) | (with_reducible refine Ext.alloc ?_ _) | ((with_reducible refine Ext.setCell ?_ ?_ _); rotate_left; focus (first | (simp; done) | (simp; omega) | omega)) | assumption | (with_reducible refine Ext.trans ?_ (by assumption)))), ?_⟩))); refine mix_nil ?_)
                            go_wp2_with fail
                            have HO6 := Lib.hid (HO.out.ext (hxq.trans hx6q))
                            (refine wp_region_from wj (by repeat (first | (with_reducible exact Ext.refl _) | (with_reducible refine Ext.drewN ?_ _) | (with_reducible refine Ext.drew ?_) | (with_reducible refine Ext.alloc ?_ _) | ((with_reducible refine Ext.setCell ?_ ?_ _); rotate_left; focus (first | (simp; done) | (simp; omega) | omega)) | assumption | (with_reducible refine Ext.trans ?_ (by assumption)))) (by kernel_rfl) (by kernel_rfl) (by kernel_rfl) ?_; (repeat (first | (refine mix_q rfl ?_; go_big_quiet_step (fail); refine wpQuiet_nil ?_; show wpMix _ _ _ _ _ _ _) | (refine mix_s rfl ?_; go_wp2_with (first | (at_builtin; refine law_append1 w6.drew rfl _ _ 25 rfl 2 (.int .i64 0) 8 und_int64s info_int64 rfl wj.heap.size ra i rc _ _ rfl rfl (by simp [Act.eval, go_sem]) HO6.out.drew (hx6.drew).le (by omega) (by omega) ?_; intro ra' rc' w7 ho7 hb7 _; have hx7 : Ext wj w7 := Ext.below hx6.drew hb7; have HO7 := Lib.hid ho7; clear hb7 ho7) | ((with_reducible refine (HN.out _ (by repeat (first | (with_reducible exact Ext.refl _) | (with_reducible assumption) | (with_reducible refine Ext.drewN ?_ _) | (with_reducible refine Ext.drew ?_) | (with_reducible refine Ext.alloc ?_ _) | ((with_reducible refine Ext.setCell ?_ ?_ _); rotate_left; focus (first | (simp; done) | (simp; omega) | omega)) | (with_reducible refine Ext.trans ?_ (by with_reducible assumption))))).mono ?_); rintro e w8 ⟨rfl, hy8⟩; have hx8 : Ext wj w8 := Ext.trans (by repeat (first | (with_reducible exact Ext.refl _) | (with_reducible assumption) | (with_reducible refine Ext.drewN ?_ _) | (with_reducible refine Ext.drew ?_) | (with_reducible refine Ext.alloc ?_ _) | ((with_reducible refine Ext.setCell ?_ ?_ _); rotate_left; focus (first | (simp; done) | (simp; omega) | omega)) | (with_reducible refine Ext.trans ?_ (by with_reducible assumption)))) hy8; have hx78 : Ext w7 w8 := hy8; clear hy8)); first | refine ⟨up_of (by repeat (first | (with_reducible exact Ext.refl _) | (with_reducible refine Ext.drewN ?_ _) | (with_reducible refine Ext.drew ?_) | (with_reducible refine Ext.alloc ?_ _) | ((with_reducible refine Ext.setCell ?_ ?_ _); rotate_left; focus (first | (simp; done) | (simp; omega) | omega)) | assumption | (with_reducible refine Ext.trans ?_ (by assumption)))), ?_⟩ | refine ⟨rfl, rfl, up_of (by repeat (first | (with_reducible exact Ext.refl _) | (with_reducible refine Ext.drewN ?_ _) | (with_reducible refine Ext.drew ?_) | (with_reducible refine Ext.alloc ?_ _) | ((with_reducible refine Ext.setCell ?_ ?_ _); rotate_left; focus (first | (simp; done) | (simp; omega) | omega)) | assumption | (with_reducible refine Ext.trans ?_ (by assumption)))), ?_⟩))); refine mix_nil ?_)
                            have HO8 := Lib.hid (show Own w8 wj.heap.size 2 ra' (i + 1) rc' (I (preS D n' pl r k bs (i + 1))) from by rw [HDd.out, I_append]; exact HO7.out.ext hx78)
                            have HY8 := Lib.hid (show (zz : Int) = runS D 0 D.start (preS D n' pl r k bs (i + 1)) from by
                              rw [HDd.out, runS_app, preS_len, runS, runS, ← HY.out, Int.zero_add]; exact HZ.out.symm)
                            go_wp2_with fail
                            exact ⟨⟨i + 1, zz, ra', rc', by omega, by go_num, rfl, rfl, HY8.out, HO8.out, hx8⟩, by simp [intOf]; omega⟩
                      · have hie : i = pl := by omega
                        rw [hie] at hcp HY HO
                        rw [show pl - pl = 0 by omega] at hcp
                        have hYn : (runS D 0 D.start (preS D n' pl r k bs pl)).toNat = y := by rw [← HY.out]; omega
                        obtain ⟨fa, fc, hM, hoF⟩ := HFb.out.rows y hyS hcp
                        obtain ⟨fg, rfl, hfg0⟩ := own_some1 hoF (by omega)
                        have HLook := Lib.hid (fun w' (h : Ext wj w') => (HFb.out.m.ext h).look (y := (y : Int)) (by omega) (by omega))
                        rw [hM] at HLook
                        have hlook : ∀ w', Ext wj w' → (Instr.lookup 86 (.map (some fb)) (.int .i64 (y : Int)) false).run Try.prog w' = .ok (.slice (some ⟨fg, 0, none⟩) r fc) w' := HLook.out
                        have hcan0 : hasU D n' pl r y k bs (firL D n' pl r k bs y) = true := by
                          unfold canB at hcp
                          rw [Int.toNat_natCast] at hcp
                          exact (fstI_lt hcp).2
                        have hflt : fstI (fun t => hasU D n' pl r y k bs (tupAt bs r t)) (bs ^ r) < bs ^ r := by
                          unfold canB at hcp
                          rw [Int.toNat_natCast] at hcp
                          exact (fstI_lt hcp).1
                        have HFd := Lib.hid (show DigC D (firL D n' pl r k bs y) from fun d hd => by have := tupAt_bd (m := bs) (by have := HOK.out.b2; have := HBs.out; omega) hflt d hd; have := HBs.out; omega)
                        have HFl := Lib.hid (show (firL D n' pl r k bs y).length = r from tupAt_len bs r _)
                        have HAny := Lib.hid (show anyV D n' pl r k bs y (firL D n' pl r k bs y) [] = true from by rw [anyV_nil]; exact hcan0)
                        have HLU := Lib.hid (show leastU D n' pl r k bs = preS D n' pl r k bs pl ++ firL D n' pl r k bs y ++ finS D n' pl r k bs y (firL D n' pl r k bs y) (n' - (pl + r)) from by unfold leastU firL; rw [hYn])
                        have HOF := Lib.hid hoF
                        have hxjj : Ext w wj := hxb.trans (HX.out.trans hxr)
                        have HFin := Lib.hid (fun oa oc w' (h : Ext wj w') ho => impl_finish k wj w' h (HV.out.ext hxjj) HOK.out HS.out HBs.out hk HR.out h5 hpl (HEnv.out.bo.ext hxr) y hyS (preS D n' pl r k bs pl) (firL D n' pl r k bs y) (preS_len D n' pl r k bs pl) HFl.out HFd.out oa oc ho HAny.out)
                        have r4 : ∀ w', Ext wj w' → w'.cell? ⟨p4, 0, none⟩ = some (.pointer (some ⟨q, 0, none⟩)) := fun w' h => cd4 w' (hxr.trans h)
                        have r0 : ∀ w', Ext wj w' → w'.cell? ⟨p0, 0, none⟩ = some (.int .i64 k) := fun w' h => cb0 w' (HX.out.trans (hxr.trans h))
                        have r2 : ∀ w', Ext wj w' → w'.cell? ⟨p2, 0, none⟩ = some (.int .i64 pl) := fun w' h => cd2 w' (hxr.trans h)
                        have r1 : ∀ w', Ext wj w' → w'.cell? ⟨p1, 0, none⟩ = some (.slice ba (n' + 1) bc) := fun w' h => (HV1.out.ext (hxr.trans h)).cell
                        have r8 : ∀ w', Ext wj w' → w'.cell? ⟨p8, 0, none⟩ = some (.map (some fb)) := fun w' h => (HFb.out.v8.ext h).cell
                        clear hcan0 hflt hM hoF hcp hYn hyb HLook
                        go_wp2_with fail
                        rw [hie]
                        clear hie
                        have HOF2 := Lib.hid (HOF.out.ext hxw)
                        (refine wp_region_from wj (by repeat (first | (with_reducible exact Ext.refl _) | (with_reducible refine Ext.drewN ?_ _) | (with_reducible refine Ext.drew ?_) | (with_reducible refine Ext.alloc ?_ _) | ((with_reducible refine Ext.setCell ?_ ?_ _); rotate_left; focus (first | (simp; done) | (simp; omega) | omega)) | assumption | (with_reducible refine Ext.trans ?_ (by assumption)))) (by kernel_rfl) (by kernel_rfl) (by kernel_rfl) ?_; (repeat (first | (refine mix_q rfl ?_; go_big_quiet_step (fail); refine wpQuiet_nil ?_; show wpMix _ _ _ _ _ _ _) | (refine mix_s rfl ?_; go_wp2_with (first | (at_builtin; refine law_appends wr.drew rfl _ _ 25 rfl 2 (.int .i64 0) 8 und_int64s info_int64 rfl wj.heap.size ra pl rc _ ⟨fg, 0, none⟩ r fc _ (oneI _) rfl rfl HO.out.drew HOF2.out.drew.sl (hxw.drew).le (by omega) (by omega) ?_; intro oa oc w7 ho7 hb7 _ _; have hx7 : Ext wj w7 := Ext.below hxw.drew hb7; have HO7 := Lib.hid (show Own w7 wj.heap.size 2 oa (pl + r) oc (I (preS D n' pl r k bs pl ++ firL D n' pl r k bs y)) from by rw [I_append]; exact ho7); clear hb7 ho7) | ((with_reducible refine (HFin.out _ _ _ hx7 HO7.out).mono ?_); rintro e w8 ⟨oa8, oc8, rfl, ho8, hx8⟩; have HO8 := Lib.hid ho8; clear ho8)); first | refine ⟨up_of (by repeat (first | (with_reducible exact Ext.refl _) | (with_reducible refine Ext.drewN ?_ _) | (with_reducible refine Ext.drew ?_) | (with_reducible refine Ext.alloc ?_ _) | ((with_reducible refine Ext.setCell ?_ ?_ _); rotate_left; focus (first | (simp; done) | (simp; omega) | omega)) | assumption | (with_reducible refine Ext.trans ?_ (by assumption)))), ?_⟩ | refine ⟨rfl, rfl, up_of (by repeat (first | (with_reducible exact Ext.refl _) | (with_reducible refine Ext.drewN ?_ _) | (with_reducible refine Ext.drew ?_) | (with_reducible refine Ext.alloc ?_ _) | ((with_reducible refine Ext.setCell ?_ ?_ _); rotate_left; focus (first | (simp; done) | (simp; omega) | omega)) | assumption | (with_reducible refine Ext.trans ?_ (by assumption)))), ?_⟩))); refine mix_nil ?_)
                        go_wp2_with fail
                        go_ret
                        exact .inr ⟨hcan, oa8, oc8, rfl, by rw [HLU.out]; exact HO8.out.mono hxjj.le, hxjj.trans hx8⟩
end Go.Proofs.Ytccoopnoakhedaa
