/- Walks: joined chains, in the program: what is the call's own. -/
import Derived.Test.YtaiieodllhoelaaChP
namespace Go.Proofs.Ytaiieodllhoelaa
set_option maxRecDepth 100000
open Go.RowKit

theorem gm_getJ {l : List (List (List Int))} {k : Nat} (h : k < l.length) : gm l k = l[k] := by simp [gm, h]
theorem joinTab_gl {C D : Ch} {k s : Nat} (h : (s : Int) < C.states * D.states) : gl (joinTab C D k) s = joinRow C D k s := by
  have : s < (C.states * D.states).toNat := by omega
  simp [gl, joinTab, this]
theorem JR.appX {w : World} {q : Nat} {b S st fi : Int} {v4 v5 : Value} {ad : Option Addr} {x cc : Nat} {vs : List Value} {tt : List (List (List Int))} {pd : Option Addr} {y pc : Nat} {pp : List Int} {hi : Nat} {W0 W W' : World} (d : JR w q b S st fi v4 v5 ad x cc vs tt pd y pc pp hi W0) {B0 : Nat} {ad' a1 : Option Addr} {cc' n1 c1 : Nat} (hx : Ext W0 W)
    (hnew : MatR W0 B0 W0.heap.size 25 2 a1 n1 c1 (gm tt x)) (hB : hi ≤ B0) (hBW : B0 ≤ W0.heap.size)
    (hb : Below w.heap.size W W') (hg : W.grownBy W' (Value.slice ad x cc).ownBlock) (ho : Own W' w.heap.size 43 ad' (x + 1) cc' (vs ++ [.slice a1 n1 c1])) (hk : ∀ g, ad' = some g → (∃ g', ad = some g' ∧ g'.block = g.block) ∨ W.heap.size ≤ g.block) :
    JR w q b S st fi v4 v5 ad' (x + 1) cc' (vs ++ [.slice a1 n1 c1]) tt pd y pc pp W'.heap.size W' :=
  (d.ext hx).app ((hnew.ext hx).mono (Nat.le_refl _) hx.le) hB (Nat.le_trans hBW hx.le) hb hg ho hk
/-- the joined chain, of the call's own, and yes -/
def RetJoinP (C D : Ch) (w : World) (e : Ending) (w' : World) : Prop :=
  ∃ a x c b y d, e = .returned (.tuple #[.agg #[.int .i64 (joinCh C D).base, .int .i64 (joinCh C D).states, .int .i64 (joinCh C D).start, .int .i64 (joinCh C D).fin, .slice a x c, .slice b y d], .bool true]) ∧ x ≤ 1048576 ∧ y ≤ 1048576 ∧ ChP w' w.heap.size w'.heap.size (joinCh C D) a x c b y d ∧ Ext w w'
set_option maxHeartbeats 8000000 in
theorem impl_JoinR (C D : Ch) (a : Option Addr) (n c : Nat) (b : Option Addr) (m d : Nat) (a2 : Option Addr) (n2 c2 : Nat) (b2 : Option Addr) (d2 : Nat) (w : World) (hC : ChIn w C a n c b m d) (hD : ChIn w D a2 n2 c2 b2 m d2) (hf : Fit C D) (hvc : validCh C = true) (hvd : validCh D = true) :
    Calls Try.prog 27 #[.agg #[.int .i64 C.base, .int .i64 C.states, .int .i64 C.start, .int .i64 C.fin, .slice a n c, .slice b m d], .agg #[.int .i64 D.base, .int .i64 D.states, .int .i64 D.start, .int .i64 D.fin, .slice a2 n2 c2, .slice b2 m d2]] w (RetJoinP C D w) := by
  have HF := Lib.hid hf
  have HPC := Lib.hid hC.ps.len
  have HVC := Lib.hid (fun W (h : Ext w W) => impl_ValidChain C a n c b m d W (Cube.ext hC.ts h) (hC.ps.ext h) hC.hn hC.hn' hC.sm)
  have HVD := Lib.hid (fun W (h : Ext w W) => impl_ValidChain D a2 n2 c2 b2 m d2 W (Cube.ext hD.ts h) (hD.ps.ext h) hD.hn hD.hn' hD.sm)
  rw [hvc] at HVC
  rw [hvd] at HVD
  have HIC := Lib.hid hC
  have HID := Lib.hid hD
  have hs1 := hf.c.s1
  have hs2 := hf.d.s1
  have hs3 := hf.c.s36
  have hs4 := hf.d.s36
  have hb2 := hf.c.b2
  have hb36 := hf.c.b36
  have hst := two_bd hf.c.st0 hf.c.st1 hf.d.st0 hf.d.st1
  have hfi := two_bd hf.c.en0 hf.c.en1 hf.d.en0 hf.d.en1
  have hm1 := hf.c.p1
  have hm20 := hf.c.p20
  have h36 := hf.s
  have hst0 : 0 ≤ C.start * D.states ∧ C.start * D.states ≤ 36 := by have h1 := hf.d.st0; have h2 := hf.d.st1; have h3 : 0 ≤ C.start * D.states := Int.mul_nonneg hf.c.st0 (by omega); omega
  have hfi0 : 0 ≤ C.fin * D.states ∧ C.fin * D.states ≤ 36 := by have h1 := hf.d.en0; have h2 := hf.d.en1; have h3 : 0 ≤ C.fin * D.states := Int.mul_nonneg hf.c.en0 (by omega); omega
  have hpos : 1 ≤ C.states * D.states := by have := Int.mul_pos (show 0 < C.states by omega) (show 0 < D.states by omega); omega
  rw [HPC.out] at hm1 hm20
  have HB := Lib.hid hf.b
  clear hC hD hf hvc hvd
  go_enter Try.func27, Try.ntmps27
  go_wp2_with fail
  obtain ⟨wb, hwb⟩ : ∃ wb, wb = ((w.alloc (.cells #[.int .i64 C.base, .int .i64 C.states, .int .i64 C.start, .int .i64 C.fin, .slice a n c, .slice b m d] 27)).alloc (.cells #[.int .i64 D.base, .int .i64 D.states, .int .i64 D.start, .int .i64 D.fin, .slice a2 n2 c2, .slice b2 m d2] 27)).alloc (.cells #[.int .i64 0, .int .i64 0, .int .i64 0, .int .i64 0, .slice none 0 0, .slice none 0 0] 27) := ⟨_, rfl⟩
  have hxb : Ext w wb := by rw [hwb]; exact (by repeat (first | (with_reducible exact Ext.refl _) | (with_reducible refine Ext.drewN ?_ _) | (with_reducible refine Ext.drew ?_) | (with_reducible refine Ext.alloc ?_ _) | ((with_reducible refine Ext.setCell ?_ ?_ _); rotate_left; focus (first | (simp; done) | (simp; omega) | omega)) | assumption | (with_reducible refine Ext.trans ?_ (by assumption))))
  have HAC := Lib.hid (show ChAt wb w.heap.size C a n c b m d by rw [hwb]; exact ((HIC.out.box 27).ext ((Ext.refl _).alloc _)).ext ((Ext.refl _).alloc _))
  have HAD := Lib.hid (show ChAt wb (w.heap.size + 1) D a2 n2 c2 b2 m d2 by
    have h1 := (HID.out.ext ((Ext.refl w).alloc (.cells #[.int .i64 C.base, .int .i64 C.states, .int .i64 C.start, .int .i64 C.fin, .slice a n c, .slice b m d] 27))).box 27
    rw [show (w.alloc (.cells #[.int .i64 C.base, .int .i64 C.states, .int .i64 C.start, .int .i64 C.fin, .slice a n c, .slice b m d] 27)).heap.size = w.heap.size + 1 by simp] at h1
    rw [hwb]; exact h1.ext ((Ext.refl _).alloc _))
  have HZ := Lib.hid (show SAt wb (w.heap.size + 2) 27 #[.int .i64 0, .int .i64 0, .int .i64 0, .int .i64 0, .slice none 0 0, .slice none 0 0] by rw [hwb]; exact SAt.new' _ _ _ (by simp))
  have hq12 : w.heap.size + 1 + 1 = w.heap.size + 2 := rfl
  try rw [hq12]
  rw [← hwb]
  obtain ⟨q1, hq1⟩ : ∃ q, q = w.heap.size := ⟨_, rfl⟩
  rw [← hq1] at HAC HAD HZ ⊢
  have hq1l : w.heap.size ≤ q1 := by omega
  clear hwb hq1 hq12
  obtain ⟨k0, k1, k2, k3, k4, k5, _, _⟩ := HAC.out
  obtain ⟨j0, j1, j2, j3, j4, j5, _, _⟩ := HAD.out
  rw [← HB.out] at j0 HVD
  have hxbb : Ext wb wb := Ext.refl _
  go_wp2_with (first | ((with_reducible refine (HVC.out _ (hxb.trans (by repeat (first | (with_reducible exact Ext.refl _) | (with_reducible assumption) | (with_reducible refine Ext.drewN ?_ _) | (with_reducible refine Ext.drew ?_) | (with_reducible refine Ext.alloc ?_ _) | ((with_reducible refine Ext.setCell ?_ ?_ _); rotate_left; focus (first | (simp; done) | (simp; omega) | omega)) | (with_reducible refine Ext.trans ?_ (by with_reducible assumption)))))).mono ?_); rintro e w1 ⟨rfl, hy1⟩; have hx1 : Ext wb w1 := Ext.trans (by repeat (first | (with_reducible exact Ext.refl _) | (with_reducible assumption) | (with_reducible refine Ext.drewN ?_ _) | (with_reducible refine Ext.drew ?_) | (with_reducible refine Ext.alloc ?_ _) | ((with_reducible refine Ext.setCell ?_ ?_ _); rotate_left; focus (first | (simp; done) | (simp; omega) | omega)) | (with_reducible refine Ext.trans ?_ (by with_reducible assumption)))) hy1; clear hy1) | ((with_reducible refine (HVD.out _ (hxb.trans (by repeat (first | (with_reducible exact Ext.refl _) | (with_reducible assumption) | (with_reducible refine Ext.drewN ?_ _) | (with_reducible refine Ext.drew ?_) | (with_reducible refine Ext.alloc ?_ _) | ((with_reducible refine Ext.setCell ?_ ?_ _); rotate_left; focus (first | (simp; done) | (simp; omega) | omega)) | (with_reducible refine Ext.trans ?_ (by with_reducible assumption)))))).mono ?_); rintro e w3 ⟨rfl, hy3⟩; have hx3 : Ext wb w3 := Ext.trans (by repeat (first | (with_reducible exact Ext.refl _) | (with_reducible assumption) | (with_reducible refine Ext.drewN ?_ _) | (with_reducible refine Ext.drew ?_) | (with_reducible refine Ext.alloc ?_ _) | ((with_reducible refine Ext.setCell ?_ ?_ _); rotate_left; focus (first | (simp; done) | (simp; omega) | omega)) | (with_reducible refine Ext.trans ?_ (by with_reducible assumption)))) hy3; clear hy3))
  obtain ⟨q2, hq2⟩ : ∃ q, q = w3.heap.size := ⟨_, rfl⟩
  obtain ⟨SN, hSN⟩ := Int.eq_ofNat_of_zero_le (show 0 ≤ C.states * D.states by omega)
  obtain ⟨st, hste⟩ : ∃ x, x = C.start * D.states + D.start := ⟨_, rfl⟩
  obtain ⟨fi, hfie⟩ : ∃ x, x = C.fin * D.states + D.fin := ⟨_, rfl⟩
  obtain ⟨bN, hbN⟩ := Int.eq_ofNat_of_zero_le (show 0 ≤ C.base by omega)
  obtain ⟨w4, hw4⟩ : ∃ W, W = w3.alloc (.cells #[.int .i64 C.base, .int .i64 (C.states * D.states), .int .i64 (C.start * D.states + D.start), .int .i64 (C.fin * D.states + D.fin), .slice none 0 0, .slice none 0 0] 27) := ⟨_, rfl⟩
  have hx34 : Ext w3 w4 := by rw [hw4]; exact (by repeat (first | (with_reducible exact Ext.refl _) | (with_reducible refine Ext.drewN ?_ _) | (with_reducible refine Ext.drew ?_) | (with_reducible refine Ext.alloc ?_ _) | ((with_reducible refine Ext.setCell ?_ ?_ _); rotate_left; focus (first | (simp; done) | (simp; omega) | omega)) | assumption | (with_reducible refine Ext.trans ?_ (by assumption))))
  obtain ⟨TT, hTT⟩ : ∃ TT, TT = (joinCh C D).tabs := ⟨_, rfl⟩
  have HTT := Lib.hid hTT
  have HTg := Lib.hid (fun (k : Nat) (hk : k < m) => show gm TT k = joinTab C D k by rw [hTT, gm_getJ (by simp only [joinCh, List.length_map, List.length_range]; rw [HPC.out]; exact hk)]; simp [joinCh])
  clear hTT
  have HJ4 := Lib.hid (show JR w3 q2 bN SN st fi (.slice none 0 0) (.slice none 0 0) none 0 0 [] TT none 0 0 [] w4.heap.size w4 from
    ⟨by rw [hw4, hste, hfie, ← hSN, ← hbN, hq2]; exact SAt.new' _ _ _ rfl, ⟨fun _ => 0, fun _ => 0, Row.zero _ (Own.nil _ _ _) (Nat.le_refl _), fun k hk => by omega, fun g hg => by cases hg⟩, Own.nil _ _ _, fun g hg => (by cases hg), Nat.le_refl _, hx34, by rw [hq2]; exact Nat.le_refl _, by rw [hq2, hw4]; simp⟩)
  rw [← hq2, ← hw4]
  have HST := Lib.hid hste
  have HFI := Lib.hid hfie
  have HSN := Lib.hid hSN
  have HBN := Lib.hid hbN
  have hx4 : Ext wb w4 := hx3.trans hx34
  have hSN36 : 1 ≤ SN ∧ SN ≤ 36 := by omega
  have hbN36 : 2 ≤ bN ∧ bN ≤ 36 := by omega
  have hq2l : q2 < w4.heap.size := by rw [hq2, hw4]; simp
  have hpos2 : 1 ≤ D.states := hs2
  have HNC := Lib.hid (fun (k s e : Nat) (hk : k < m) (hs : (s : Int) < C.states * D.states) (he : (e : Int) < C.base) => HF.out.bd (p := (k : Int)) (x := (s : Int)) (d := (e : Int)) (by omega) (by rw [HPC.out]; omega) (by omega) hs (by omega) he)
  clear hste hfie hSN hbN hw4 hq2
  clear hst hfi hst0 hfi0 h36 hpos
  go_loopw [72] (fun ki wr => ∃ (k : Nat) (ad : Option Addr) (cc : Nat) (vs : List Value) (pd : Option Addr) (pc hi : Nat), k ≤ m ∧ ki = .int .i64 k ∧ Hid (JR w3 q2 bN SN st fi (.slice ad k cc) (.slice pd k pc) ad k cc vs TT pd k pc ((List.range k).map fun (j : Nat) => (j : Int)) hi wr)) (fun ki _ => m - (intOf ki).toNat)
  case atStart => exact ⟨0, none, 0, [], none, 0, _, Nat.zero_le _, rfl, HJ4.out⟩
  case round =>
    obtain ⟨k, ad, cc, vs, pd, pc, hi, hk, rfl, HJ⟩ := hrel
    have hbr : Ext wb wr := hx3.trans HJ.out.h
    by_cases hlt : k < m
    · have c1 : ∀ w', Ext wr w' → w'.cell? ⟨q2, 1, none⟩ = some (.int .i64 SN) := fun w' h => (HJ.out.s.ext h).cell 1 (by simp)
      obtain ⟨wo, hwo⟩ : ∃ wo, wo = wr := ⟨_, rfl⟩
      subst hwo
      have hxoo : Ext wo wo := Ext.refl _
      go_wp2
      go_loopw [8, 78] (fun tb si wr => ∃ (s : Nat) (ar : Option Addr) (cr : Nat) (rvs : List Value) (ss te : Nat → Nat), s ≤ SN ∧ si = .int .i64 s ∧ tb = .slice ar s cr ∧ Hid (Row wr wo.heap.size wr.heap.size 25 ar s cr rvs s ss te (RI 2 (joinTab C D k))) ∧ Ext wo wr) (fun _ si _ => SN - (intOf si).toNat)
      case atStart => exact ⟨0, _, _, [], fun _ => 0, fun _ => 0, Nat.zero_le _, rfl, rfl, Row.zero _ (Own.lit0 wo _) (Nat.le_refl _), (by repeat (first | (with_reducible exact Ext.refl _) | (with_reducible assumption) | (with_reducible refine Ext.drewN ?_ _) | (with_reducible refine Ext.drew ?_) | (with_reducible refine Ext.alloc ?_ _) | ((with_reducible refine Ext.setCell ?_ ?_ _); rotate_left; focus (first | (simp; done) | (simp; omega) | omega)) | (with_reducible refine Ext.trans ?_ (by with_reducible assumption))))⟩
      case round =>
        obtain ⟨s, ar, cr, rvs, ss, te, hs, rfl, rfl, HM, hx2⟩ := hrel
        have hxr2 : Ext wo wr := hx2
        have hbr2 : Ext wb wr := hbr.trans hx2
        by_cases hls : s < SN
        · obtain ⟨wi, hwi⟩ : ∃ wi, wi = wr := ⟨_, rfl⟩
          subst hwi
          have hxii : Ext wi wi := Ext.refl _
          have hsS : (s : Int) < C.states * D.states := by have := HSN.out; omega
          have hsp := split_bd (x := (s : Int)) (S := D.states) (T := C.states) hpos2 (by omega) hsS
          obtain ⟨u0, u1, u2, u3⟩ := hsp
          go_wp2
          go_loopw [10, 84] (fun rw ei wr => ∃ (e : Nat) (ae : Option Addr) (ce : Nat), e ≤ bN ∧ ei = .int .i64 e ∧ rw = .slice ae e ce ∧ Hid (Own wr wi.heap.size 2 ae e ce (I ((joinRow C D k s).take e))) ∧ Ext wi wr) (fun _ ei _ => bN - (intOf ei).toNat)
          case atStart => exact ⟨0, _, _, Nat.zero_le _, rfl, rfl, Own.lit0 wi _, (by repeat (first | (with_reducible exact Ext.refl _) | (with_reducible assumption) | (with_reducible refine Ext.drewN ?_ _) | (with_reducible refine Ext.drew ?_) | (with_reducible refine Ext.alloc ?_ _) | ((with_reducible refine Ext.setCell ?_ ?_ _); rotate_left; focus (first | (simp; done) | (simp; omega) | omega)) | (with_reducible refine Ext.trans ?_ (by with_reducible assumption))))⟩
          case round =>
            obtain ⟨e, ae, ce, he, rfl, rfl, HR, hx3'⟩ := hrel
            have hxr3 : Ext wi wr := hx3'
            have hbr3 : Ext wb wr := hbr2.trans hx3'
            by_cases hle : e < bN
            · have heB : (e : Int) < C.base := by have := HBN.out; omega
              obtain ⟨g0, g1, g2, g3⟩ := HNC.out k s e hlt hsS heB
              have HN1 := Lib.hid (fun W (h : Ext wb W) => impl_next C q1 a n c b m d (k : Int) ((s : Int) / D.states) (e : Int) W (HAC.out.ext h) HF.out.c (by omega) (by rw [HPC.out]; omega) u0 u1 (by omega) heB)
              have HN2 := Lib.hid (fun W (h : Ext wb W) => impl_next D (q1 + 1) a2 n2 c2 b2 m d2 (k : Int) ((s : Int) % D.states) (e : Int) W (HAD.out.ext h) HF.out.d (by omega) (by rw [← HF.out.l, HPC.out]; omega) u2 u3 (by omega) (by rw [← HB.out]; exact heB))
              have HRow := Lib.hid (joinRow_at (C := C) (D := D) (k := k) (s := s) (e := e) heB)
              have HLn := Lib.hid (show e < (joinRow C D k s).length by simp only [joinRow, List.length_map, List.length_range]; have := HBN.out; omega)
              have hmul := two_bd g0 g1 g2 g3
              have hm0 : 0 ≤ nextS C (k : Int) ((s : Int) / D.states) (e : Int) * D.states := Int.mul_nonneg g0 (by omega)
              have hm36 : C.states * D.states ≤ 36 := by have := HSN.out; omega
              generalize nextS C (k : Int) ((s : Int) / D.states) (e : Int) = y1 at *
              generalize nextS D (k : Int) ((s : Int) % D.states) (e : Int) = y2 at *
              go_wp2
              have hrr3 : Ext wr wr := Ext.refl _
              (refine wp_region_from wi (by repeat (first | (with_reducible exact Ext.refl _) | (with_reducible refine Ext.drewN ?_ _) | (with_reducible refine Ext.drew ?_) | (with_reducible refine Ext.alloc ?_ _) | ((with_reducible refine Ext.setCell ?_ ?_ _); rotate_left; focus (first | (simp; done) | (simp; omega) | omega)) | assumption | (with_reducible refine Ext.trans ?_ (by assumption)))) (by kernel_rfl) (by kernel_rfl) (by kernel_rfl) ?_; (repeat (first | (refine mix_q rfl ?_; go_big_quiet_step (fail); refine wpQuiet_nil ?_; show wpMix _ _ _ _ _ _ _) | (refine mix_s rfl ?_; go_wp2_with (first | (go_at_call 77; (with_reducible refine (HN1.out _ (Ext.trans hbr3 (by repeat (first | (with_reducible exact Ext.refl _) | (with_reducible assumption) | (with_reducible refine Ext.drewN ?_ _) | (with_reducible refine Ext.drew ?_) | (with_reducible refine Ext.alloc ?_ _) | ((with_reducible refine Ext.setCell ?_ ?_ _); rotate_left; focus (first | (simp; done) | (simp; omega) | omega)) | (with_reducible refine Ext.trans ?_ (by with_reducible assumption)))))).mono ?_); rintro e w6 ⟨rfl, hy6⟩; have hx6 : Ext wr w6 := Ext.trans (by repeat (first | (with_reducible exact Ext.refl _) | (with_reducible assumption) | (with_reducible refine Ext.drewN ?_ _) | (with_reducible refine Ext.drew ?_) | (with_reducible refine Ext.alloc ?_ _) | ((with_reducible refine Ext.setCell ?_ ?_ _); rotate_left; focus (first | (simp; done) | (simp; omega) | omega)) | (with_reducible refine Ext.trans ?_ (by with_reducible assumption)))) hy6; clear hy6; have hxi6 : Ext wi w6 := hxr3.trans hx6) | (go_at_call 77; (with_reducible refine (HN2.out _ (Ext.trans hbr3 (by repeat (first | (with_reducible exact Ext.refl _) | (with_reducible assumption) | (with_reducible refine Ext.drewN ?_ _) | (with_reducible refine Ext.drew ?_) | (with_reducible refine Ext.alloc ?_ _) | ((with_reducible refine Ext.setCell ?_ ?_ _); rotate_left; focus (first | (simp; done) | (simp; omega) | omega)) | (with_reducible refine Ext.trans ?_ (by with_reducible assumption)))))).mono ?_); rintro e w7 ⟨rfl, hy7⟩; have hx7 : Ext wr w7 := Ext.trans (by repeat (first | (with_reducible exact Ext.refl _) | (with_reducible assumption) | (with_reducible refine Ext.drewN ?_ _) | (with_reducible refine Ext.drew ?_) | (with_reducible refine Ext.alloc ?_ _) | ((with_reducible refine Ext.setCell ?_ ?_ _); rotate_left; focus (first | (simp; done) | (simp; omega) | omega)) | (with_reducible refine Ext.trans ?_ (by with_reducible assumption)))) hy7; clear hy7; have hxi7 : Ext wi w7 := hxr3.trans hx7) | (at_builtin; refine law_append1 w7 rfl _ _ 25 rfl 2 (.int .i64 0) 8 und_int64s info_int64 rfl wi.heap.size ae e ce _ _ rfl rfl (by simp [Act.eval, go_sem]) (HR.out.ext hx7) hxi7.le (by omega) (by omega) ?_; intro ae' ce' w8 ho8 hb8 hg8; have hxi8 : Ext wi w8 := Ext.below hxi7 hb8; clear hb8 hg8)); first | refine ⟨up_of (by repeat (first | (with_reducible exact Ext.refl _) | (with_reducible refine Ext.drewN ?_ _) | (with_reducible refine Ext.drew ?_) | (with_reducible refine Ext.alloc ?_ _) | ((with_reducible refine Ext.setCell ?_ ?_ _); rotate_left; focus (first | (simp; done) | (simp; omega) | omega)) | assumption | (with_reducible refine Ext.trans ?_ (by assumption)))), ?_⟩ | refine ⟨rfl, rfl, up_of (by repeat (first | (with_reducible exact Ext.refl _) | (with_reducible refine Ext.drewN ?_ _) | (with_reducible refine Ext.drew ?_) | (with_reducible refine Ext.alloc ?_ _) | ((with_reducible refine Ext.setCell ?_ ?_ _); rotate_left; focus (first | (simp; done) | (simp; omega) | omega)) | assumption | (with_reducible refine Ext.trans ?_ (by assumption)))), ?_⟩))); refine mix_nil ?_)
              go_wp2
              exact ⟨⟨e + 1, ae', ce', hle, by go_num, rfl, by rw [Hid, take_gi HLn.out, I_append, HRow.out]; exact ho8, hxi8⟩, by simp [intOf]; omega⟩
            · obtain rfl : e = bN := by omega
              have heB : ¬ ((e : Int) < C.base) := by have := HBN.out; omega
              have HRl := Lib.hid (show (joinRow C D k s).length = e by simp only [joinRow, List.length_map, List.length_range]; have := HBN.out; omega)
              have HRf := Lib.hid (show RI 2 (joinTab C D k) s (.slice ae e ce) wr wi.heap.size wr.heap.size from by
                have h1 := HR.out
                rw [take_full (by rw [HRl.out]; exact Nat.le_refl _), ← joinTab_gl (C := C) (D := D) (k := k) (s := s) (by have := HSN.out; omega)] at h1
                exact ⟨ae, e, ce, rfl, h1.in⟩)
              have HM3 := Lib.hid (HM.out.ext (RI.keeps _ _) hxr3)
              have hil : wi.heap.size ≤ wr.heap.size := hxr3.le
              have hol : wo.heap.size ≤ wi.heap.size := hxr2.le
              have hxo3 : Ext wo wr := hxr2.trans hxr3
              have HVr := Lib.hid HM3.out.own
              go_wp2_with (at_builtin; refine law_append1_at _ rfl _ _ 43 rfl 25 (.slice none 0 0) 24 und_rows info_row1 rfl wo.heap.size ar s cr rvs _ rfl rfl rfl HVr.out hxo3.le (by omega) (by omega) ?_; intro ar' cr' w9 ho9 hb9 hg9 hk9; have hxo9 : Ext wo w9 := Ext.below hxo3 hb9)
              exact ⟨⟨s + 1, ar', cr', _, _, _, by omega, by go_num, rfl, HM3.out.pushB (RI.keeps _ _) hol (Nat.le_refl _) hil HRf.out ho9 hg9 hk9, hxo9⟩, by simp [intOf]; omega⟩
        · obtain rfl : s = SN := by omega
          have HTb := Lib.hid (show MatR wr wo.heap.size wr.heap.size 25 2 ar s cr (gm TT k) from by
            rw [HTg.out k hlt]
            exact ⟨rvs, ss, te, by simp only [joinTab, List.length_map, List.length_range]; have := HSN.out; omega, HM.out⟩)
          have HhB := Lib.hid HJ.out.hh
          have HJr := Lib.hid (HJ.out.ext hxr2)
          have HAd := Lib.hid (own_up HJ.out.o)
          have HPd := Lib.hid (own_up HJ.out.p)
          have hqwo : q2 < wo.heap.size := HJ.out.s.lt
          have h3wo : w3.heap.size ≤ wo.heap.size := HJ.out.h.le
          have hwor : wo.heap.size ≤ wr.heap.size := hxr2.le
          have hxrr : Ext wr wr := Ext.refl _
          have k4 : ∀ w', Ext wr w' → w'.cell? ⟨q2, 4, none⟩ = some (.slice ad k cc) := fun w' h => (HJr.out.s.ext h).cell 4 (by simp)
          have k5 : ∀ w', Ext wr w' → w'.cell? ⟨q2, 5, none⟩ = some (.slice pd k pc) := fun w' h => (HJr.out.s.ext h).cell 5 (by simp)
          have c4w := HJr.out.s.cell 4 (by simp)
          have c5w := HJr.out.s.cell 5 (by simp)
          have lw0 := HJr.out.s.lt
          have lw1 : q2 < wr.heap.size + 1 := by omega
          have lw2 : q2 < wr.heap.size + 1 + 1 := by omega
          go_wp2
          go_region_law (first | ((refine step_append1j rfl _ _ 24 rfl 43 (.slice none 0 0) 24 und_cubeJ info_cubeJ rfl w3.heap.size ad k cc vs (.slice ar s cr) (wr.heap.size) ?_ ?_ ?_ ?_ rfl ?_ (by omega) (by omega) ?_); (focus (first | (simp [Act.eval]; done) | (simp [Act.eval, Act.put]; done) | (simp [Act.eval, Act.put, go_sem]; done))); (focus (first | (simp [Act.eval]; done) | (simp [Act.eval, go_sem]; done))); (focus (go_simp; done)); (focus (exact (HJr.out.ext (by repeat (first | (with_reducible exact Ext.refl _) | (with_reducible assumption) | (with_reducible refine Ext.drewN ?_ _) | (with_reducible refine Ext.drew ?_) | (with_reducible refine Ext.alloc ?_ _) | ((with_reducible refine Ext.setCell ?_ ?_ _); rotate_left; focus (first | (simp; done) | (simp; omega) | omega)) | (with_reducible refine Ext.trans ?_ (by with_reducible assumption))))).o)); (focus (first | omega | (simp; omega))); intro ad6 cc6 w6 ho6 hb6 hg6 hk6; have HJ6 := Lib.hid (HJr.out.appX (B0 := wo.heap.size) (show Ext wr _ from (by repeat (first | (with_reducible exact Ext.refl _) | (with_reducible assumption) | (with_reducible refine Ext.drewN ?_ _) | (with_reducible refine Ext.drew ?_) | (with_reducible refine Ext.alloc ?_ _) | ((with_reducible refine Ext.setCell ?_ ?_ _); rotate_left; focus (first | (simp; done) | (simp; omega) | omega)) | (with_reducible refine Ext.trans ?_ (by with_reducible assumption))))) HTb.out HhB.out hwor hb6 hg6 ho6 hk6); have hz6 := hg6.size; have HZ6 := Lib.hid (fun b u (h1 : wr.heap.size ≤ b) (h2 : b < _) h3 => cell_grownU (b := b) (u := u) hg6 (row_ne_up HJr.out.o h1) h2 h3); have r5 : ∀ w', Ext w6 w' → w'.cell? ⟨q2, 5, none⟩ = some (.slice pd k pc) := (fun w' h => (HJ6.out.s.ext h).cell 5 (by simp)); simp at hz6; have r0 := HJ6.out.s.cell 5 (by simp); have r4 := HJ6.out.s.cell 4 (by simp); have l6 := HJ6.out.s.lt; have l61 : q2 < w6.heap.size + 1 := Nat.lt_succ_of_lt l6; clear hb6 hg6 ho6 hk6) | ((refine step_append1j rfl _ _ 24 rfl 43 (.slice none 0 0) 24 und_cubeJ info_cubeJ rfl w3.heap.size ad k cc vs (.slice ar s cr) (wr.heap.size + 1) ?_ ?_ ?_ ?_ rfl ?_ (by omega) (by omega) ?_); (focus (first | (simp [Act.eval]; done) | (simp [Act.eval, Act.put]; done) | (simp [Act.eval, Act.put, go_sem]; done))); (focus (first | (simp [Act.eval]; done) | (simp [Act.eval, Act.put]; done) | (simp [Act.eval, Act.put, go_sem]; done))); (focus (go_simp; done)); (focus (exact (HJr.out.ext (by repeat (first | (with_reducible exact Ext.refl _) | (with_reducible assumption) | (with_reducible refine Ext.drewN ?_ _) | (with_reducible refine Ext.drew ?_) | (with_reducible refine Ext.alloc ?_ _) | ((with_reducible refine Ext.setCell ?_ ?_ _); rotate_left; focus (first | (simp; done) | (simp; omega) | omega)) | (with_reducible refine Ext.trans ?_ (by with_reducible assumption))))).o)); (focus (first | omega | (simp; omega))); intro ad6 cc6 w6 ho6 hb6 hg6 hk6; have HJ6 := Lib.hid (HJr.out.appX (B0 := wo.heap.size) (show Ext wr _ from (by repeat (first | (with_reducible exact Ext.refl _) | (with_reducible assumption) | (with_reducible refine Ext.drewN ?_ _) | (with_reducible refine Ext.drew ?_) | (with_reducible refine Ext.alloc ?_ _) | ((with_reducible refine Ext.setCell ?_ ?_ _); rotate_left; focus (first | (simp; done) | (simp; omega) | omega)) | (with_reducible refine Ext.trans ?_ (by with_reducible assumption))))) HTb.out HhB.out hwor hb6 hg6 ho6 hk6); have hz6 := hg6.size; have HZ6 := Lib.hid (fun b u (h1 : wr.heap.size ≤ b) (h2 : b < _) h3 => cell_grownU (b := b) (u := u) hg6 (row_ne_up HJr.out.o h1) h2 h3); have r5 : ∀ w', Ext w6 w' → w'.cell? ⟨q2, 5, none⟩ = some (.slice pd k pc) := (fun w' h => (HJ6.out.s.ext h).cell 5 (by simp)); simp at hz6; have r0 := HJ6.out.s.cell 5 (by simp); have r4 := HJ6.out.s.cell 4 (by simp); have l6 := HJ6.out.s.lt; have l61 : q2 < w6.heap.size + 1 := Nat.lt_succ_of_lt l6; clear hb6 hg6 ho6 hk6) | ((refine step_append1j rfl _ _ 25 rfl 2 (.int .i64 0) 8 und_int64s info_int64 rfl w3.heap.size pd k pc (I ((List.range k).map fun (j : Nat) => (j : Int))) (.int .i64 (k : Int)) (w6.heap.size) ?_ ?_ ?_ ?_ rfl ?_ (by omega) (by omega) ?_); (focus (first | (simp [Act.eval]; done) | (simp [Act.eval, Act.put]; done) | (simp [Act.eval, Act.put, go_sem]; done))); (focus (first | (simp [Act.eval]; done) | (simp [Act.eval, Act.put]; done) | (simp [Act.eval, Act.put, go_sem]; done))); (focus (go_simp; done)); (focus (exact (HJ6.out.ext (by repeat (first | (with_reducible exact Ext.refl _) | (with_reducible assumption) | (with_reducible refine Ext.drewN ?_ _) | (with_reducible refine Ext.drew ?_) | (with_reducible refine Ext.alloc ?_ _) | ((with_reducible refine Ext.setCell ?_ ?_ _); rotate_left; focus (first | (simp; done) | (simp; omega) | omega)) | (with_reducible refine Ext.trans ?_ (by with_reducible assumption))))).p)); (focus (first | omega | (simp; omega))); intro pd8 pc8 w8 ho8 hb8 hg8 hk8; have HB8 := Lib.hid hb8; have HG8 := Lib.hid hg8; have HO8 := Lib.hid ho8; have HK8 := Lib.hid hk8; have hs8 := SAt.grown (HJ6.out.s.ext (by repeat (first | (with_reducible exact Ext.refl _) | (with_reducible assumption) | (with_reducible refine Ext.drewN ?_ _) | (with_reducible refine Ext.drew ?_) | (with_reducible refine Ext.alloc ?_ _) | ((with_reducible refine Ext.setCell ?_ ?_ _); rotate_left; focus (first | (simp; done) | (simp; omega) | omega)) | (with_reducible refine Ext.trans ?_ (by with_reducible assumption))))) hg8 (row_ne_s (HJ6.out.p.ne_s HJ6.out.s (by decide))); have v4 := hs8.cell 4 (by simp); have v5 := hs8.cell 5 (by simp); have vf := (fun j => hs8.frozen j); have vl := hs8.lt; clear hb8 hg8 ho8 hk8 hs8) | ((refine step_append1j rfl _ _ 25 rfl 2 (.int .i64 0) 8 und_int64s info_int64 rfl w3.heap.size pd k pc (I ((List.range k).map fun (j : Nat) => (j : Int))) (.int .i64 (k : Int)) (wr.heap.size) ?_ ?_ ?_ ?_ rfl ?_ (by omega) (by omega) ?_); (focus (first | (simp [Act.eval]; done) | (simp [Act.eval, Act.put]; done) | (simp [Act.eval, Act.put, go_sem]; done))); (focus (first | (simp [Act.eval]; done) | (simp [Act.eval, Act.put]; done) | (simp [Act.eval, Act.put, go_sem]; done))); (focus (exact HZ6.out _ _ (by omega) (by first | (simp; done) | (simp; omega)) (by go_simp))); (focus (exact (HJ6.out.ext (by repeat (first | (with_reducible exact Ext.refl _) | (with_reducible assumption) | (with_reducible refine Ext.drewN ?_ _) | (with_reducible refine Ext.drew ?_) | (with_reducible refine Ext.alloc ?_ _) | ((with_reducible refine Ext.setCell ?_ ?_ _); rotate_left; focus (first | (simp; done) | (simp; omega) | omega)) | (with_reducible refine Ext.trans ?_ (by with_reducible assumption))))).p)); (focus (first | omega | (simp; omega))); intro pd8 pc8 w8 ho8 hb8 hg8 hk8; have HB8 := Lib.hid hb8; have HG8 := Lib.hid hg8; have HO8 := Lib.hid ho8; have HK8 := Lib.hid hk8; have hs8 := SAt.grown (HJ6.out.s.ext (by repeat (first | (with_reducible exact Ext.refl _) | (with_reducible assumption) | (with_reducible refine Ext.drewN ?_ _) | (with_reducible refine Ext.drew ?_) | (with_reducible refine Ext.alloc ?_ _) | ((with_reducible refine Ext.setCell ?_ ?_ _); rotate_left; focus (first | (simp; done) | (simp; omega) | omega)) | (with_reducible refine Ext.trans ?_ (by with_reducible assumption))))) hg8 (row_ne_s (HJ6.out.p.ne_s HJ6.out.s (by decide))); have v4 := hs8.cell 4 (by simp); have v5 := hs8.cell 5 (by simp); have vf := (fun j => hs8.frozen j); have vl := hs8.lt; clear hb8 hg8 ho8 hk8 hs8) | ((refine step_append1j rfl _ _ 25 rfl 2 (.int .i64 0) 8 und_int64s info_int64 rfl w3.heap.size pd k pc (I ((List.range k).map fun (j : Nat) => (j : Int))) (.int .i64 (k : Int)) (wr.heap.size + 1) ?_ ?_ ?_ ?_ rfl ?_ (by omega) (by omega) ?_); (focus (first | (simp [Act.eval]; done) | (simp [Act.eval, Act.put]; done) | (simp [Act.eval, Act.put, go_sem]; done))); (focus (first | (simp [Act.eval]; done) | (simp [Act.eval, Act.put]; done) | (simp [Act.eval, Act.put, go_sem]; done))); (focus (exact HZ6.out _ _ (by omega) (by first | (simp; done) | (simp; omega)) (by go_simp))); (focus (exact (HJ6.out.ext (by repeat (first | (with_reducible exact Ext.refl _) | (with_reducible assumption) | (with_reducible refine Ext.drewN ?_ _) | (with_reducible refine Ext.drew ?_) | (with_reducible refine Ext.alloc ?_ _) | ((with_reducible refine Ext.setCell ?_ ?_ _); rotate_left; focus (first | (simp; done) | (simp; omega) | omega)) | (with_reducible refine Ext.trans ?_ (by with_reducible assumption))))).p)); (focus (first | omega | (simp; omega))); intro pd8 pc8 w8 ho8 hb8 hg8 hk8; have HB8 := Lib.hid hb8; have HG8 := Lib.hid hg8; have HO8 := Lib.hid ho8; have HK8 := Lib.hid hk8; have hs8 := SAt.grown (HJ6.out.s.ext (by repeat (first | (with_reducible exact Ext.refl _) | (with_reducible assumption) | (with_reducible refine Ext.drewN ?_ _) | (with_reducible refine Ext.drew ?_) | (with_reducible refine Ext.alloc ?_ _) | ((with_reducible refine Ext.setCell ?_ ?_ _); rotate_left; focus (first | (simp; done) | (simp; omega) | omega)) | (with_reducible refine Ext.trans ?_ (by with_reducible assumption))))) hg8 (row_ne_s (HJ6.out.p.ne_s HJ6.out.s (by decide))); have v4 := hs8.cell 4 (by simp); have v5 := hs8.cell 5 (by simp); have vf := (fun j => hs8.frozen j); have vl := hs8.lt; clear hb8 hg8 ho8 hk8 hs8))
          all_goals
            go_wp2
            have HJ8 := Lib.hid ((HJ6.out.ext (show Ext w6 _ from (by repeat (first | (with_reducible exact Ext.refl _) | (with_reducible assumption) | (with_reducible refine Ext.drewN ?_ _) | (with_reducible refine Ext.drew ?_) | (with_reducible refine Ext.alloc ?_ _) | ((with_reducible refine Ext.setCell ?_ ?_ _); rotate_left; focus (first | (simp; done) | (simp; omega) | omega)) | (with_reducible refine Ext.trans ?_ (by with_reducible assumption)))))).put HB8.out HG8.out HO8.out HK8.out)
            exact ⟨⟨k + 1, ad6, cc6, _, pd8, pc8, _, hlt, by go_num, by rw [Hid, List.range_succ, List.map_append]; exact (HJ8.out.set 4 (.slice ad6 (k + 1) cc6) rfl).set 5 (.slice pd8 (k + 1) pc8) rfl⟩, by simp [intOf]; omega⟩
    · obtain rfl : k = m := by omega
      have HFv := Lib.hid HF.out.valid
      have hjt : (joinCh C D).tabs = (List.range k).map (joinTab C D) := by simp only [joinCh]; rw [HPC.out]
      have hjp : (joinCh C D).places = (List.range k).map (fun (j : Nat) => (j : Int)) := by simp only [joinCh]; rw [HPC.out]
      have HPw := Lib.hid (show ChP wr w3.heap.size wr.heap.size (joinCh C D) ad k cc pd k pc from by
        have h1 := HJ.out.chP (by rw [HTT.out, hjt]; simp)
        rw [HTT.out, ← hjp, ← HBN.out, ← HSN.out, HST.out, HFI.out] at h1
        exact h1)
      have HCh := Lib.hid (HPw.out.inn (by omega) (by omega) HF.out.small)
      have HVJ := Lib.hid (fun W (h : Ext wr W) => impl_ValidChain (joinCh C D) ad k cc pd k pc W (Cube.ext HCh.out.ts h) (HCh.out.ps.ext h) HCh.out.hn HCh.out.hn' HCh.out.sm)
      rw [HFv.out] at HVJ
      have HS := Lib.hid (show SAt wr q2 27 #[.int .i64 (joinCh C D).base, .int .i64 (joinCh C D).states, .int .i64 (joinCh C D).start, .int .i64 (joinCh C D).fin, .slice ad k cc, .slice pd k pc] from by
        have h1 := HJ.out.s
        rw [← HBN.out, ← HSN.out, HST.out, HFI.out] at h1
        exact h1)
      have HZr := Lib.hid (HZ.out.ext hbr)
      obtain ⟨JB, hJB⟩ : ∃ x, x = (joinCh C D).base := ⟨_, rfl⟩
      obtain ⟨JS, hJS⟩ : ∃ x, x = (joinCh C D).states := ⟨_, rfl⟩
      obtain ⟨Js, hJs⟩ : ∃ x, x = (joinCh C D).start := ⟨_, rfl⟩
      obtain ⟨Je, hJe⟩ : ∃ x, x = (joinCh C D).fin := ⟨_, rfl⟩
      rw [← hJB, ← hJS, ← hJs, ← hJe] at HS HVJ
      have HR := Lib.hid (show ∀ W, ChP W w.heap.size W.heap.size (joinCh C D) ad k cc pd k pc → Ext w W → RetJoinP C D w (.returned (.tuple #[.agg #[.int .i64 JB, .int .i64 JS, .int .i64 Js, .int .i64 Je, .slice ad k cc, .slice pd k pc], .bool true])) W from fun W h1 h2 => ⟨ad, k, cc, pd, k, pc, by rw [hJB, hJS, hJs, hJe], by omega, by omega, h1, h2⟩)
      clear hJB hJS hJs hJe hjt hjp
      have e0 := HS.out.cell 0 (by simp)
      have e1 := HS.out.cell 1 (by simp)
      have e2 := HS.out.cell 2 (by simp)
      have e3 := HS.out.cell 3 (by simp)
      have e4 := HS.out.cell 4 (by simp)
      have e5 := HS.out.cell 5 (by simp)
      try simp only [List.getElem_toArray, List.getElem_cons_succ, List.getElem_cons_zero] at e0 e1 e2 e3 e4 e5
      have hxrr : Ext wr wr := Ext.refl _
      go_wp2_with (go_at_call 18; (with_reducible refine (HVJ.out _ (by repeat (first | (with_reducible exact Ext.refl _) | (with_reducible assumption) | (with_reducible refine Ext.drewN ?_ _) | (with_reducible refine Ext.drew ?_) | (with_reducible refine Ext.alloc ?_ _) | ((with_reducible refine Ext.setCell ?_ ?_ _); rotate_left; focus (first | (simp; done) | (simp; omega) | omega)) | (with_reducible refine Ext.trans ?_ (by with_reducible assumption))))).mono ?_); rintro e w9 ⟨rfl, hy9⟩; have hx9 : Ext wr w9 := Ext.trans (by repeat (first | (with_reducible exact Ext.refl _) | (with_reducible assumption) | (with_reducible refine Ext.drewN ?_ _) | (with_reducible refine Ext.drew ?_) | (with_reducible refine Ext.alloc ?_ _) | ((with_reducible refine Ext.setCell ?_ ?_ _); rotate_left; focus (first | (simp; done) | (simp; omega) | omega)) | (with_reducible refine Ext.trans ?_ (by with_reducible assumption)))) hy9; clear hy9; have HS9 := Lib.hid (HS.out.ext hx9); have HZ9 := Lib.hid (HZr.out.ext hx9); have g0 := HS9.out.cell 0 (by simp); have g1 := HS9.out.cell 1 (by simp); have g2 := HS9.out.cell 2 (by simp); have g3 := HS9.out.cell 3 (by simp); have g4 := HS9.out.cell 4 (by simp); have g5 := HS9.out.cell 5 (by simp); have z0 := HZ9.out.cell 0 (by simp); have z1 := HZ9.out.cell 1 (by simp); have z2 := HZ9.out.cell 2 (by simp); have z3 := HZ9.out.cell 3 (by simp); have z4 := HZ9.out.cell 4 (by simp); have z5 := HZ9.out.cell 5 (by simp); have zf := (fun j => HZ9.out.frozen j); have zl := HZ9.out.lt)
      refine bodyPost_ret (v := .tuple #[.agg #[.int .i64 JB, .int .i64 JS, .int .i64 Js, .int .i64 Je, .slice ad k cc, .slice pd k pc], .bool true]) ?_ rfl ?_
      · simp [results, Try.results27, go_sem, z0, z1, z2, z3, z4, z5]
      · have hq3 : q1 + 2 < w3.heap.size := Nat.lt_of_lt_of_le HZ.out.lt hx3.le
        have hxw9 : Ext w w9 := hxb.trans (hbr.trans hx9)
        refine HR.out _ ?_ (by repeat (first | (with_reducible exact Ext.refl _) | (with_reducible assumption) | (with_reducible refine Ext.drewN ?_ _) | (with_reducible refine Ext.drew ?_) | (with_reducible refine Ext.alloc ?_ _) | ((with_reducible refine Ext.setCell ?_ ?_ _); rotate_left; focus (first | (simp; done) | (simp; omega) | omega)) | (with_reducible refine Ext.trans ?_ (by with_reducible assumption))))
        have hw3 : w.heap.size ≤ w3.heap.size := by have := hxb.le; have := hx3.le; omega
        exact (((HPw.out.ext hx9).mono (Nat.le_refl _) hx9.le).chg (lo' := 0) (hi' := w3.heap.size) (by repeat (first | (with_reducible exact Chg.refl _ _ _) | (with_reducible assumption) | ((with_reducible refine Chg.trans ?_ (Chg.setP _ _ _ ?_ ?_)); rotate_left; (focus (first | (simp; done) | (simp; omega) | omega)); (focus (first | (simp; done) | (simp; omega) | omega))) | (with_reducible refine Chg.trans ?_ (Chg.ext (Ext.alloc (Ext.refl _) _) _ _)) | (with_reducible refine Chg.trans ?_ (Chg.ext (Ext.drew (Ext.refl _)) _ _)) | (with_reducible refine Chg.trans ?_ (Chg.ext (Ext.drewN (Ext.refl _) _) _ _)))) (.inl (Nat.le_refl _))).mono hw3 (by simp [World.setCell])
end Go.Proofs.Ytaiieodllhoelaa
