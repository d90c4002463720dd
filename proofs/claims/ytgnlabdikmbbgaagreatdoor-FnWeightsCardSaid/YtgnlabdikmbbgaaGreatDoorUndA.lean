/- Walks: undetected single errors at a place, and of a chain, in the program. -/
import Derived.Test.YtgnlabdikmbbgaaGreatDoorUnd
import Derived.Deep.RegionHeld3
import Derived.Deep.CutRange
namespace Go.Proofs.YtgnlabdikmbbgaaGreatDoor
set_option maxRecDepth 100000
open Go.RowKit

/-- no errors are undetected; so many in all -/
def RetBad (w : World) (e : Ending) (w' : World) : Prop := ∃ v : Int, e = .returned (.tuple #[.int .i64 0, .int .i64 v]) ∧ Ext w w'
def CutU (D : Ch) (S pl n' : Nat) (wb : World) (s9 s10 : Value) (wx : World) : Prop :=
  ∃ (g9 g10 : Nat) (ba : Option Addr) (bc : Nat) (ga : Option Addr) (gc : Nat) (F : Nat → Nat → Int) (G C : Nat → Nat), s9 = .pointer (some ⟨g9, 0, none⟩) ∧ s10 = .pointer (some ⟨g10, 0, none⟩) ∧ VarAt wx g9 24 (.slice ba S bc) ∧ VarAt wx g10 161 (.slice ga S gc) ∧
    Ints wx ba S bc (begL D S pl) ∧ Grid wx wb.heap.size 24 2 ga S gc S F G C ∧ (∀ s, s < S → ∀ t, t < S → F s t = bothS D n' (n' - (pl + 1)) s t) ∧ Ext wb wx
theorem KeepB.setB {lo hi : Nat} {w w' : World} (h : KeepB lo hi w w') (p : Addr) (u : Value) (hp : p.block < lo ∨ hi ≤ p.block) : KeepB lo hi w (w'.setCell p u) := fun x h1 h2 =>
  (Below.heap_setCell _ _ _ _ (by omega)).trans (h x h1 h2)
theorem KeepB.allB {lo hi : Nat} {w w' : World} (h : KeepB lo hi w w') (o : Obj) (hp : hi ≤ w'.heap.size) : KeepB lo hi w (w'.alloc o) := fun x h1 h2 =>
  (Below.block ((Ext.refl w').alloc o) x (by omega)).trans (h x h1 h2)
theorem VarAt.newN {w : World} {q : Nat} {T : TypeId} {v : Value} (hq : q = w.heap.size) : VarAt (w.alloc (.cells #[v] T)) q T v := hq ▸ VarAt.new w T v
theorem cutU_of {D : Ch} {S pl n' : Nat} {wb w6 w7 wx : World} {g9 g10 : Nat} {ba : Option Addr} {bc : Nat} {ga : Option Addr} {gc : Nat} {F : Nat → Nat → Int} {G C : Nat → Nat} {B6 B7 : Nat} (hO : Own w6 B6 2 ba S bc (I (begL D S pl))) (h67 : Ext w6 w7)
    (hG : Grid w7 B7 24 2 ga S gc S F G C) (hF : ∀ s, s < S → ∀ t, t < S → F s t = bothS D n' (n' - (pl + 1)) s t) (_h6 : wb.heap.size ≤ B6) (h7 : wb.heap.size ≤ B7) (k6 : KeepB B6 w6.heap.size w7 wx) (k7 : KeepB B7 w7.heap.size w7 wx)
    (v9 : VarAt wx g9 24 (.slice ba S bc)) (v10 : VarAt wx g10 161 (.slice ga S gc)) (hE : Ext wb wx) : CutU D S pl n' wb (.pointer (some ⟨g9, 0, none⟩)) (.pointer (some ⟨g10, 0, none⟩)) wx :=
  ⟨g9, g10, ba, bc, ga, gc, F, G, C, rfl, rfl, v9, v10, (Own.keepB hO ((KeepB.ext h67 (Nat.le_refl _)).trans k6)).ints, Grid.mono ⟨Own.keepB hG.outer k7, fun k hk => Own.keepB (hG.row k hk) k7, hG.inj⟩ h7, hF, hE⟩
theorem touch_extU {w w' : World} (h : Touch w.heap.size w w') : Ext w w' := ⟨h.os, h.tape, h.output, h.size, fun k hk => h.block k hk (by omega)⟩
def CutV (w0 : World) (s11 s12 : Value) (wx : World) : Prop :=
  ∃ (q7 q5 : Nat), s11 = .pointer (some ⟨q7, 0, none⟩) ∧ s12 = .pointer (some ⟨q5, 0, none⟩) ∧ w0.heap.size ≤ q7 ∧ w0.heap.size ≤ q5 ∧ q5 ≠ q7 ∧ VarAt wx q7 2 (.int .i64 0) ∧ VarAt wx q5 2 (.int .i64 0) ∧ Ext w0 wx
set_option maxHeartbeats 8000000 in
theorem impl_undetAt {D : Ch} {q S pl : Nat} {a : Option Addr} {n c : Nat} {a' : Option Addr} {n' c' : Nat} (w : World) (hv : ChAt w q D a n c a' n' c') (hok : OkCh D) (hS : D.states = (S : Int)) (hpl : pl + 1 ≤ n')
    (hz : ∀ x y : Int, 0 ≤ x → x < D.base → 0 ≤ y → y < D.base → x ≠ y → ∀ s : Nat, s < S → gi (begL D S pl) s ≠ 0 → bothS D n' (n' - (pl + 1)) (runS D pl s [x]) (runS D pl s [y]) = 0) :
    Calls Tryz.prog 93 #[.pointer (some ⟨q, 0, none⟩), .int .i64 0, .int .i64 pl] w (RetBad w) := by
  have HV := Lib.hid hv
  have HOK := Lib.hid hok
  have HZ := Lib.hid hz
  have HS := Lib.hid hS
  have HP := Lib.hid hv.ps.len
  have hb36 := hok.b36
  have hb2 := hok.b2
  have p20 := hok.p20
  rw [HP.out] at p20
  obtain ⟨bs, hbs⟩ := Int.eq_ofNat_of_zero_le (show 0 ≤ D.base by omega)
  have HBs := Lib.hid hbs
  have k0 := hv.c0
  simp only [hbs] at k0
  have HSt := Lib.hid (show D.states.toNat = S by omega)
  have hqw : q < w.heap.size := World.block_lt_of_cell? w ⟨q, 0, none⟩ (hv.c0 w (Ext.refl _))
  have hbs36 : 2 ≤ bs ∧ bs ≤ 36 := by omega
  clear hv hok hz hS hbs
  go_enter Tryz.func93, Tryz.ntmps93
  go_wp2_with (go_at_call 122; refine (impl_errLen0 _).mono ?_; rintro e w' ⟨rfl, rfl⟩)
  obtain ⟨p2, hp2⟩ : ∃ p, p = w.heap.size := ⟨_, rfl⟩
  obtain ⟨p4, hp4⟩ : ∃ p, p = w.heap.size + 1 := ⟨_, rfl⟩
  obtain ⟨p3, hp3⟩ : ∃ p, p = w.heap.size + 1 + 1 := ⟨_, rfl⟩
  obtain ⟨wb, hwb⟩ : ∃ W, W = ((w.alloc (.cells #[.pointer (some ⟨q, 0, none⟩)] 123)).alloc (.cells #[.int .i64 0] 2)).alloc (.cells #[.int .i64 pl] 3) := ⟨_, rfl⟩
  have hxb : Ext w wb := by rw [hwb]; exact (by repeat (first | (with_reducible exact Ext.refl _) | (with_reducible refine Ext.drewN ?_ _) | (with_reducible refine Ext.drew ?_) | (with_reducible refine Ext.alloc ?_ _) | ((with_reducible refine Ext.setCell ?_ ?_ _); rotate_left; focus (first | (simp; done) | (simp; omega) | omega)) | assumption | (with_reducible refine Ext.trans ?_ (by assumption))))
  have HV2 := Lib.hid (show VarAt wb p2 123 (.pointer (some ⟨q, 0, none⟩)) from by rw [hwb, hp2]; exact ((VarAt.new w _ _).ext ((Ext.refl _).alloc _)).ext ((Ext.refl _).alloc _))
  have HV4 := Lib.hid (show VarAt wb p4 2 (.int .i64 0) from by
    rw [hwb, hp4]
    have h := VarAt.new (w.alloc (.cells #[.pointer (some ⟨q, 0, none⟩)] 123)) 2 (.int .i64 0)
    rw [show (w.alloc (.cells #[.pointer (some ⟨q, 0, none⟩)] 123)).heap.size = w.heap.size + 1 by simp] at h
    exact h.ext ((Ext.refl _).alloc _))
  have HV3 := Lib.hid (show VarAt wb p3 3 (.int .i64 pl) from by
    rw [hwb, hp3]
    have h := VarAt.new ((w.alloc (.cells #[.pointer (some ⟨q, 0, none⟩)] 123)).alloc (.cells #[.int .i64 0] 2)) 3 (.int .i64 pl)
    rw [show ((w.alloc (.cells #[.pointer (some ⟨q, 0, none⟩)] 123)).alloc (.cells #[.int .i64 0] 2)).heap.size = w.heap.size + 1 + 1 by simp] at h
    exact h)
  rw [← hwb, ← hp3, ← hp4, ← hp2]
  clear hwb hp2 hp3 hp4
  have cb2 : ∀ w', Ext wb w' → w'.cell? ⟨p2, 0, none⟩ = some (.pointer (some ⟨q, 0, none⟩)) := fun w' h => (HV2.out.ext h).cell
  have cb3 : ∀ w', Ext wb w' → w'.cell? ⟨p3, 0, none⟩ = some (.int .i64 pl) := fun w' h => (HV3.out.ext h).cell
  have HBe := Lib.hid (fun w' (h : Ext wb w') => impl_begins D q a n c a' n' c' pl w' (HV.out.ext (hxb.trans h)) HOK.out (by omega))
  have HBo := Lib.hid (fun w' (h : Ext wb w') => show Calls Tryz.prog 124 #[.pointer (some ⟨q, 0, none⟩), .int .i64 ((pl : Int) + 1)] w' (RetBoth D (n' - (pl + 1)) w') from impl_both D q a n c a' n' c' (pl + 1) w' (HV.out.ext (hxb.trans h)) HOK.out (by omega))
  rw [HSt.out] at HBe
  have hpl21 : pl ≤ 20 := by omega
  go_upto_region 2 with fail
  go_cut [9, 10] from 13 to 32 (fun s9 s10 wx => CutU D S pl n' wb s9 s10 wx)
  case first =>
    have hwp : IntKind.i64.wrap ((pl : Int) + 1) = (pl : Int) + 1 := by unfold IntKind.wrap; simp [IntKind.bits, IntKind.signed]; omega
    go_region_held3 (fun w' => Ext wb w') ((exact (by repeat (first | (with_reducible exact Ext.refl _) | (with_reducible assumption) | (with_reducible refine Ext.drewN ?_ _) | (with_reducible refine Ext.drew ?_) | (with_reducible refine Ext.alloc ?_ _) | ((with_reducible refine Ext.setCell ?_ ?_ _); rotate_left; focus (first | (simp; done) | (simp; omega) | omega)) | (with_reducible refine Ext.trans ?_ (by with_reducible assumption)))))) ((first | (go_at_call 123; (with_reducible refine (HBe.out _ (by repeat (first | (with_reducible exact Ext.refl _) | (with_reducible assumption) | (with_reducible refine Ext.drewN ?_ _) | (with_reducible refine Ext.drew ?_) | (with_reducible refine Ext.alloc ?_ _) | ((with_reducible refine Ext.setCell ?_ ?_ _); rotate_left; focus (first | (simp; done) | (simp; omega) | omega)) | (with_reducible refine Ext.trans ?_ (by with_reducible assumption))))).mono ?_); rintro e w6 ⟨ba, bc, rfl, ho6, hy6⟩; rw [I_len, begL_len] at ho6 ⊢; have hx6 : Ext wb w6 := Ext.trans (by repeat (first | (with_reducible exact Ext.refl _) | (with_reducible assumption) | (with_reducible refine Ext.drewN ?_ _) | (with_reducible refine Ext.drew ?_) | (with_reducible refine Ext.alloc ?_ _) | ((with_reducible refine Ext.setCell ?_ ?_ _); rotate_left; focus (first | (simp; done) | (simp; omega) | omega)) | (with_reducible refine Ext.trans ?_ (by with_reducible assumption)))) hy6; have HO6 := Lib.hid ho6; obtain ⟨hc6, hf6⟩ := bcell hy6; have hsz6 := hy6.le; (try simp at hsz6); (try (have hlt61 : wb.heap.size < w6.heap.size := by omega)); (try (have hlt62 : wb.heap.size + 1 < w6.heap.size := by omega)); clear ho6) | (go_at_call 124; (with_reducible refine (HBo.out _ (by repeat (first | (with_reducible exact Ext.refl _) | (with_reducible assumption) | (with_reducible refine Ext.drewN ?_ _) | (with_reducible refine Ext.drew ?_) | (with_reducible refine Ext.alloc ?_ _) | ((with_reducible refine Ext.setCell ?_ ?_ _); rotate_left; focus (first | (simp; done) | (simp; omega) | omega)) | (with_reducible refine Ext.trans ?_ (by with_reducible assumption))))).mono ?_); rintro e w7 ⟨ga, gc, F, G, C, rfl, hg7, hf7, hy7⟩; have hx7 : Ext wb w7 := Ext.trans (by repeat (first | (with_reducible exact Ext.refl _) | (with_reducible assumption) | (with_reducible refine Ext.drewN ?_ _) | (with_reducible refine Ext.drew ?_) | (with_reducible refine Ext.alloc ?_ _) | ((with_reducible refine Ext.setCell ?_ ?_ _); rotate_left; focus (first | (simp; done) | (simp; omega) | omega)) | (with_reducible refine Ext.trans ?_ (by with_reducible assumption)))) hy7; rw [HSt.out] at hg7 hf7 ⊢; rw [HP.out] at hf7; have HG7 := Lib.hid hg7; have HF7 := Lib.hid hf7; obtain ⟨hc7, hf7'⟩ := bcell hy7; have hsz7 := hy7.le; (try simp at hsz7); (try (have hlt71 : wb.heap.size < w7.heap.size := by omega)); (try (have hlt72 : wb.heap.size + 1 < w7.heap.size := by omega)); (try (have hlt73 : w6.heap.size < w7.heap.size := by omega)); (try (have hlt74 : w6.heap.size + 1 < w7.heap.size := by omega)); clear hg7 hf7)))
    all_goals (go_wp2_with fail; go_meet)
    all_goals (with_reducible refine cutU_of HO6.out (Ext.trans ?_ hy7) HG7.out HF7.out ?_ ?_ ?_ ?_ ?_ ?_ ?_)
    any_goals assumption
    any_goals (first | with_reducible exact Nat.le_refl _ | omega | (simp <;> omega))
    all_goals repeat' (first | with_reducible exact Ext.refl _ | with_reducible refine Ext.alloc ?_ _ | with_reducible refine Ext.drew ?_ | with_reducible exact KeepB.refl _ _ _ | (with_reducible refine KeepB.setB ?_ _ _ ?_; rotate_left; (focus (simp <;> omega))) | (with_reducible refine KeepB.allB ?_ _ ?_; rotate_left; (focus (first | with_reducible exact Nat.le_refl _ | omega | (simp <;> omega)))) | (with_reducible refine VarAt.newN ?_; first | with_reducible rfl | (simp; done)) | with_reducible refine VarAt.set (v := .slice none 0 0) ?_ _ | (with_reducible refine VarAt.other ?_ _ ?_; rotate_left; (focus (simp <;> omega))) | with_reducible refine VarAt.ext ?_ hy7 | with_reducible refine VarAt.ext ?_ hy6 | with_reducible refine VarAt.ext ?_ ((Ext.refl _).alloc _) | with_reducible refine VarAt.ext ?_ (Ext.drew (Ext.refl _)))
  case rest =>
    rename World => wo
    obtain ⟨g9, g10, ba, bc, ga, gc, F, G, C, rfl, rfl, v9, v10, hbi, hgr, hF, hxc⟩ := hcut
    have HV9 := Lib.hid v9
    have HV10 := Lib.hid v10
    have HBi := Lib.hid hbi
    have HGr := Lib.hid hgr
    have HF := Lib.hid hF
    clear v9 v10 hbi hgr hF
    go_upto_region 3 with fail
    go_cut [11, 12] from 13 to 32 (fun s11 s12 wx => CutV wo s11 s12 wx)
    case first =>
      go_wp2_with fail
      all_goals go_meet
      refine ⟨_, _, rfl, rfl, Nat.le_refl _, Nat.le_succ _, by omega, (VarAt.new wo _ _).ext ((Ext.refl _).alloc _), VarAt.newN (by simp), (by repeat (first | (with_reducible exact Ext.refl _) | (with_reducible refine Ext.drewN ?_ _) | (with_reducible refine Ext.drew ?_) | (with_reducible refine Ext.alloc ?_ _) | ((with_reducible refine Ext.setCell ?_ ?_ _); rotate_left; focus (first | (simp; done) | (simp; omega) | omega)) | assumption | (with_reducible refine Ext.trans ?_ (by assumption))))⟩
    case rest =>
      obtain ⟨q7, q5, rfl, rfl, h7, h5, h57, v7, v5, hxd⟩ := hcut
      rename World => wd
      have hq7 := v7.lt
      have hq5 := v5.lt
      have HEnv : Hid (Env D q S pl 0 a n c a' n' c' g9 p2 p3 g10 ba bc ga gc F G C wb.heap.size wo) := Lib.hid ⟨HV.out.ext (hxb.trans hxc), HV9.out, HV2.out.ext hxc, HV3.out.ext hxc, HV10.out, HBi.out, HGr.out, HS.out⟩
      have HZ2 := Lib.hid (show ∀ x y : Int, 0 ≤ x → x < bs → 0 ≤ y → y < bs → x ≠ y → ∀ s : Nat, s < S → gi (begL D S pl) s ≠ 0 → F (runS D pl s [x]).toNat (runS D pl s [y]).toNat = 0 from fun x y x0 x1 y0 y1 hxy s hs hg => by
        have hb := HBs.out
        have hS := HS.out
        have hp := HP.out
        have r1 := runS_bd HOK.out [x] pl s (by intro z hz; simp only [List.mem_singleton] at hz; subst hz; omega) (by omega) (by simp only [List.length_singleton]; omega) (by omega) (by omega)
        have r2 := runS_bd HOK.out [y] pl s (by intro z hz; simp only [List.mem_singleton] at hz; subst hz; omega) (by omega) (by simp only [List.length_singleton]; omega) (by omega) (by omega)
        rw [HF.out _ (by omega) _ (by omega), Int.toNat_of_nonneg r1.1, Int.toNat_of_nonneg r2.1]
        exact HZ.out x y x0 (by omega) y0 (by omega) hxy s hs hg)
      have hpl1 : pl + 1 ≤ D.places.length := by rw [HP.out]; exact hpl
      have HT := Lib.hid (impl_tuples bs 1 126 #[.pointer (some ⟨p4, 0, none⟩), .pointer (some ⟨p2, 0, none⟩), .pointer (some ⟨g9, 0, none⟩), .pointer (some ⟨p3, 0, none⟩), .pointer (some ⟨q5, 0, none⟩), .pointer (some ⟨g10, 0, none⟩), .pointer (some ⟨q7, 0, none⟩)]
        (fun _ W => Ext wo W ∧ (∃ v : Int, VarAt W q5 2 (.int .i64 v)) ∧ VarAt W q7 2 (.int .i64 0)) (fun _ => False) wd (by omega) (by omega) (by omega) (fun _ _ => rfl)
        (fun W ht => ⟨hxd.trans (touch_extU ht), ⟨0, v5.ext (touch_extU ht)⟩, v7.ext (touch_extU ht)⟩)
        (fun t W W' h ht => ⟨⟨ht.os.trans h.1.os, ht.tape.trans h.1.tape, ht.output.trans h.1.output, Nat.le_trans h.1.size ht.size, fun k hk => (ht.block k (Nat.lt_of_lt_of_le hk h.1.size) (by omega)).trans (h.1.block k hk)⟩,
          h.2.1.elim fun v hv => ⟨v, (ht.block _ hv.lt (by omega)).trans hv⟩, (ht.block _ h.2.2.lt (by omega)).trans h.2.2⟩)
        (fun t W ht h ho => by
          have htt : tupAt bs 1 t = [(t : Int)] := by simp [tupAt]
          have ht2 : t < bs := by simpa using ht
          have hlt := ho.lt.2
          rw [htt] at ho
          refine (undet1 HEnv.out HOK.out p4 (HV4.out.ext hxc) q5 q7 wd.heap.size bs HBs.out t (by omega) (by omega) W h.1 h.2.1 h.2.2 ho.ints (by omega) (by omega) h5 h7 h57 hpl1 HZ2.out).mono ?_
          rintro e W' ⟨rfl, k5, k7, hk⟩
          exact .inl ⟨rfl, ⟨Ext.two h.1 hk h5 h7, k5, k7⟩, hk.block _ hlt (by omega) (by omega)⟩))
      rw [show ((1 : Nat) : Int) = 1 from rfl] at HT
      have HX := Lib.hid (hxb.trans hxc)
      have kp : wd.cell? ⟨p2, 0, none⟩ = some (.pointer (some ⟨q, 0, none⟩)) := cb2 _ (hxc.trans hxd)
      have kq : wd.cell? ⟨q, 0, none⟩ = some (.int .i64 bs) := k0 _ ((hxb.trans hxc).trans hxd)
      clear v5 v7 cb2 cb3 k0 hxb hxc hxd
      go_wp2_with (refine HT.out.mono ?_; rintro e w8 ⟨rfl, ⟨hx8, ⟨v, hv8⟩, hw8⟩ | hf⟩)
      have e5 := hv8.cell
      have e7 := hw8.cell
      go_quiet (fail)
      go_wp2_with fail
      refine bodyPost_ret (v := .tuple #[.int .i64 0, .int .i64 v]) (by simp [results, Tryz.results93, go_sem]) rfl ⟨v, rfl, (HX.out.trans hx8).drewN _⟩
end Go.Proofs.YtgnlabdikmbbgaaGreatDoor
