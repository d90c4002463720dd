/- Walks: joined chains, in the reference. -/
import Derived.Test.YtaiieodllhoelaaJoinI
import Derived.Test.YtaiieodllhoelaaChVS
import Derived.Deep.CutRange
namespace Go.Proofs.Ytaiieodllhoelaa
set_option maxRecDepth 100000
open Go.RowKit

/-- the joined chain, and yes -/
def RetJoinK (C D : Ch) (w : World) (e : Ending) (w' : World) : Prop :=
  ∃ a x c b y d, e = .returned (.tuple #[.agg #[.int .i64 (joinCh C D).base, .int .i64 (joinCh C D).states, .int .i64 (joinCh C D).start, .int .i64 (joinCh C D).fin, .slice a x c, .slice b y d], .bool true]) ∧ (∀ V, KeepB w.heap.size w'.heap.size w' V → ChIn V (joinCh C D) a x c b y d) ∧ Ext w w'
set_option maxHeartbeats 8000000 in
theorem spec_JoinYes (C D : Ch) (a : Option Addr) (n c : Nat) (b : Option Addr) (m d : Nat) (a2 : Option Addr) (n2 c2 : Nat) (b2 : Option Addr) (d2 : Nat) (w : World) (hC : ChIn w C a n c b m d) (hD : ChIn w D a2 n2 c2 b2 m d2) (hf : Fit C D) (hvc : validCh C = true) (hvd : validCh D = true) :
    Calls Try.prog 95 #[.agg #[.int .i64 C.base, .int .i64 C.states, .int .i64 C.start, .int .i64 C.fin, .slice a n c, .slice b m d], .agg #[.int .i64 D.base, .int .i64 D.states, .int .i64 D.start, .int .i64 D.fin, .slice a2 n2 c2, .slice b2 m d2]] w (RetJoinK C D w) := by
  have HF := Lib.hid hf
  have HPC := Lib.hid hC.ps.len
  have HIC := Lib.hid hC
  have HID := Lib.hid hD
  have hs1 := hf.c.s1
  have hs2 := hf.d.s1
  have hs3 := hf.c.s36
  have hs4 := hf.d.s36
  have hb2 := hf.c.b2
  have hb36 := hf.c.b36
  have hst := two_bd hf.c.st0 hf.c.st1 hf.d.st0 hf.d.st1
  have hfi := two_bd hf.c.en0 hf.c.en1 hf.d.en0 hf.d.en1
  have hm1 := hf.c.p1
  have hm20 := hf.c.p20
  have h36 := hf.s
  have hst0 : 0 ≤ C.start * D.states ∧ C.start * D.states ≤ 36 := by have h1 := hf.d.st0; have h2 := hf.d.st1; have h3 : 0 ≤ C.start * D.states := Int.mul_nonneg hf.c.st0 (by omega); omega
  have hfi0 : 0 ≤ C.fin * D.states ∧ C.fin * D.states ≤ 36 := by have h1 := hf.d.en0; have h2 := hf.d.en1; have h3 : 0 ≤ C.fin * D.states := Int.mul_nonneg hf.c.en0 (by omega); omega
  have hpos : 1 ≤ C.states * D.states := by have := Int.mul_pos (show 0 < C.states by omega) (show 0 < D.states by omega); omega
  rw [HPC.out] at hm1 hm20
  have HB := Lib.hid hf.b
  have HVc := Lib.hid hvc
  have HVd := Lib.hid hvd
  clear hC hD hf hvc hvd
  go_enter Try.func95, Try.ntmps95
  go_wp2_with fail
  obtain ⟨wb, hwb⟩ : ∃ wb, wb = ((w.alloc (.cells #[.int .i64 C.base, .int .i64 C.states, .int .i64 C.start, .int .i64 C.fin, .slice a n c, .slice b m d] 27)).alloc (.cells #[.int .i64 D.base, .int .i64 D.states, .int .i64 D.start, .int .i64 D.fin, .slice a2 n2 c2, .slice b2 m d2] 27)).alloc (.cells #[.int .i64 0, .int .i64 0, .int .i64 0, .int .i64 0, .slice none 0 0, .slice none 0 0] 27) := ⟨_, rfl⟩
  have hxb : Ext w wb := by rw [hwb]; exact (by repeat (first | (with_reducible exact Ext.refl _) | (with_reducible refine Ext.drewN ?_ _) | (with_reducible refine Ext.drew ?_) | (with_reducible refine Ext.alloc ?_ _) | ((with_reducible refine Ext.setCell ?_ ?_ _); rotate_left; focus (first | (simp; done) | (simp; omega) | omega)) | assumption | (with_reducible refine Ext.trans ?_ (by assumption))))
  have HAC := Lib.hid (show ChAt wb w.heap.size C a n c b m d by rw [hwb]; exact ((HIC.out.box 27).ext ((Ext.refl _).alloc _)).ext ((Ext.refl _).alloc _))
  have HAD := Lib.hid (show ChAt wb (w.heap.size + 1) D a2 n2 c2 b2 m d2 by
    have h1 := (HID.out.ext ((Ext.refl w).alloc (.cells #[.int .i64 C.base, .int .i64 C.states, .int .i64 C.start, .int .i64 C.fin, .slice a n c, .slice b m d] 27))).box 27
    rw [show (w.alloc (.cells #[.int .i64 C.base, .int .i64 C.states, .int .i64 C.start, .int .i64 C.fin, .slice a n c, .slice b m d] 27)).heap.size = w.heap.size + 1 by simp] at h1
    rw [hwb]; exact h1.ext ((Ext.refl _).alloc _))
  have HZ := Lib.hid (show SAt wb (w.heap.size + 2) 27 #[.int .i64 0, .int .i64 0, .int .i64 0, .int .i64 0, .slice none 0 0, .slice none 0 0] by rw [hwb]; exact SAt.new' _ _ _ (by simp))
  have hq12 : w.heap.size + 1 + 1 = w.heap.size + 2 := rfl
  try rw [hq12]
  rw [← hwb]
  obtain ⟨q1, hq1⟩ : ∃ q, q = w.heap.size := ⟨_, rfl⟩
  rw [← hq1] at HAC HAD HZ ⊢
  have hq1l : w.heap.size ≤ q1 := by omega
  clear hwb hq1 hq12
  obtain ⟨k0, k1, k2, k3, k4, k5, _, _⟩ := HAC.out
  obtain ⟨j0, j1, j2, j3, j4, j5, _, _⟩ := HAD.out
  rw [← HB.out] at j0
  have HVC := Lib.hid (fun W (h : Ext wb W) => spec_l02Is C a n c b m d q1 W (HAC.out.ext h) HIC.out.hn HIC.out.hn' HIC.out.sm)
  have HVD := Lib.hid (fun W (h : Ext wb W) => spec_l02Is D a2 n2 c2 b2 m d2 (q1 + 1) W (HAD.out.ext h) HID.out.hn HID.out.hn' HID.out.sm)
  rw [HVc.out] at HVC
  rw [HVd.out] at HVD
  have hxbb : Ext wb wb := Ext.refl _
  go_wp2_with (first | ((with_reducible refine (HVC.out _ (by repeat (first | (with_reducible exact Ext.refl _) | (with_reducible assumption) | (with_reducible refine Ext.drewN ?_ _) | (with_reducible refine Ext.drew ?_) | (with_reducible refine Ext.alloc ?_ _) | ((with_reducible refine Ext.setCell ?_ ?_ _); rotate_left; focus (first | (simp; done) | (simp; omega) | omega)) | (with_reducible refine Ext.trans ?_ (by with_reducible assumption))))).mono ?_); rintro e w1 ⟨rfl, hy1⟩; have hx1 : Ext wb w1 := Ext.trans (by repeat (first | (with_reducible exact Ext.refl _) | (with_reducible assumption) | (with_reducible refine Ext.drewN ?_ _) | (with_reducible refine Ext.drew ?_) | (with_reducible refine Ext.alloc ?_ _) | ((with_reducible refine Ext.setCell ?_ ?_ _); rotate_left; focus (first | (simp; done) | (simp; omega) | omega)) | (with_reducible refine Ext.trans ?_ (by with_reducible assumption)))) hy1; clear hy1) | ((with_reducible refine (HVD.out _ (by repeat (first | (with_reducible exact Ext.refl _) | (with_reducible assumption) | (with_reducible refine Ext.drewN ?_ _) | (with_reducible refine Ext.drew ?_) | (with_reducible refine Ext.alloc ?_ _) | ((with_reducible refine Ext.setCell ?_ ?_ _); rotate_left; focus (first | (simp; done) | (simp; omega) | omega)) | (with_reducible refine Ext.trans ?_ (by with_reducible assumption))))).mono ?_); rintro e w3 ⟨rfl, hy3⟩; have hx3 : Ext wb w3 := Ext.trans (by repeat (first | (with_reducible exact Ext.refl _) | (with_reducible assumption) | (with_reducible refine Ext.drewN ?_ _) | (with_reducible refine Ext.drew ?_) | (with_reducible refine Ext.alloc ?_ _) | ((with_reducible refine Ext.setCell ?_ ?_ _); rotate_left; focus (first | (simp; done) | (simp; omega) | omega)) | (with_reducible refine Ext.trans ?_ (by with_reducible assumption)))) hy3; clear hy3))
  have hd36 : decide (36 < C.states * D.states) = false := decide_eq_false (by omega)
  try simp only [hd36]
  obtain ⟨q2, hq2⟩ : ∃ q, q = w3.heap.size + 2 := ⟨_, rfl⟩
  obtain ⟨SN, hSN⟩ := Int.eq_ofNat_of_zero_le (show 0 ≤ C.states * D.states by omega)
  obtain ⟨S1, hS1⟩ := Int.eq_ofNat_of_zero_le (show 0 ≤ C.states by omega)
  obtain ⟨S2, hS2⟩ := Int.eq_ofNat_of_zero_le (show 0 ≤ D.states by omega)
  have hS12 : S1 * S2 = SN := by rw [hS1, hS2] at hSN; exact_mod_cast hSN
  obtain ⟨st, hste⟩ : ∃ x, x = C.start * D.states + D.start := ⟨_, rfl⟩
  obtain ⟨fi, hfie⟩ : ∃ x, x = C.fin * D.states + D.fin := ⟨_, rfl⟩
  obtain ⟨bN, hbN⟩ := Int.eq_ofNat_of_zero_le (show 0 ≤ C.base by omega)
  obtain ⟨w4, hw4⟩ : ∃ W, W = ((w3.alloc (.cells #[] 43)).alloc (.cells #[] 2)).alloc (.cells #[.int .i64 C.base, .int .i64 (C.states * D.states), .int .i64 (C.start * D.states + D.start), .int .i64 (C.fin * D.states + D.fin), .slice (some ⟨w3.heap.size, 0, none⟩) 0 0, .slice (some ⟨w3.heap.size + 1, 0, none⟩) 0 0] 27) := ⟨_, rfl⟩
  have hx34 : Ext w3 w4 := by rw [hw4]; exact (by repeat (first | (with_reducible exact Ext.refl _) | (with_reducible refine Ext.drewN ?_ _) | (with_reducible refine Ext.drew ?_) | (with_reducible refine Ext.alloc ?_ _) | ((with_reducible refine Ext.setCell ?_ ?_ _); rotate_left; focus (first | (simp; done) | (simp; omega) | omega)) | assumption | (with_reducible refine Ext.trans ?_ (by assumption))))
  obtain ⟨z3, hz3⟩ : ∃ z, z = w3.heap.size := ⟨_, rfl⟩
  have HJ4 := Lib.hid (show JI w3 q2 bN SN st fi (.slice (some ⟨z3, 0, none⟩) 0 0) (.slice (some ⟨z3 + 1, 0, none⟩) 0 0) (some ⟨z3, 0, none⟩) 0 0 [] [] (some ⟨z3 + 1, 0, none⟩) 0 0 [] w4 from by
    refine ⟨by rw [hw4, hste, hfie, ← hSN, ← hbN, hq2, hz3]; exact SAt.new' _ _ _ (by simp), ?_, fun j hj => by omega, ?_, hx34, by omega⟩
    · rw [hw4, hz3]; exact ((Own.lit0' w3 43 (Nat.le_refl _) rfl).alloc' _).alloc' _
    · rw [hw4, hz3]; exact (Own.lit0' _ 2 (by omega) (by simp)).alloc' _)
  have hq22 : w3.heap.size + 1 + 1 = q2 := by omega
  rw [← hw4, hq22, ← hz3]
  have HST := Lib.hid hste
  have HFI := Lib.hid hfie
  have HSN := Lib.hid hSN
  have HBN := Lib.hid hbN
  have HS1 := Lib.hid hS1
  have HS2 := Lib.hid hS2
  have HS12 := Lib.hid hS12
  have hx4 : Ext wb w4 := hx3.trans hx34
  have hSN36 : 1 ≤ SN ∧ SN ≤ 36 := by omega
  have hSb : 1 ≤ S1 ∧ S1 ≤ 36 ∧ 1 ≤ S2 ∧ S2 ≤ 36 := by omega
  have hbN36 : 2 ≤ bN ∧ bN ≤ 36 := by omega
  have hq2l : q2 < w4.heap.size := HJ4.out.s.lt
  have HNC := Lib.hid (fun (k s e : Nat) (hk : k < m) (hs : (s : Int) < C.states * D.states) (he : (e : Int) < C.base) => HF.out.bd (p := (k : Int)) (x := (s : Int)) (d := (e : Int)) (by omega) (by rw [HPC.out]; omega) (by omega) hs (by omega) he)
  rw [hS1] at k1
  rw [hS2] at j1
  rw [hbN] at k0 j0
  clear hste hfie hSN hbN hw4 hq2 hq22 hS1 hS2 hS12 hd36 hz3
  clear hst hfi hst0 hfi0 h36 hpos hs1 hs2 hs3 hs4 hb2 hb36
  go_loopw [7] (fun ki wr => ∃ (k : Nat) (ad : Option Addr) (cc : Nat) (vs : List Value) (pd : Option Addr) (pc : Nat), k ≤ m ∧ ki = .int .i64 k ∧ Hid (JI w3 q2 bN SN st fi (.slice ad k cc) (.slice pd k pc) ad k cc vs ((List.range k).map (joinTab C D)) pd k pc ((List.range k).map fun (j : Nat) => (j : Int)) wr)) (fun ki _ => m - (intOf ki).toNat)
  case atStart => exact ⟨0, _, 0, [], _, 0, Nat.zero_le _, rfl, HJ4.out⟩
  case round =>
    obtain ⟨k, ad, cc, vs, pd, pc, hk, rfl, HJ⟩ := hrel
    have hbr : Ext wb wr := hx3.trans HJ.out.h
    by_cases hlt : k < m
    · obtain ⟨wo, hwo⟩ : ∃ wo, wo = wr := ⟨_, rfl⟩
      subst hwo
      have hxoo : Ext wo wo := Ext.refl _
      go_wp2_with fail
      go_loopw [8, 9] (fun tb xi wr => ∃ (x r : Nat) (ar : Option Addr) (cr : Nat), x ≤ S1 ∧ r = x * S2 ∧ xi = .int .i64 x ∧ tb = .slice ar r cr ∧ Hid (OwnMat wr wo.heap.size 25 2 ar r cr ((List.range r).map (joinRow C D k))) ∧ Ext wo wr) (fun _ xi _ => S1 - (intOf xi).toNat)
      case atStart => exact ⟨0, 0, _, _, Nat.zero_le _, by simp, rfl, rfl, OwnMat.lit0 wo _ _, (by repeat (first | (with_reducible exact Ext.refl _) | (with_reducible assumption) | (with_reducible refine Ext.drewN ?_ _) | (with_reducible refine Ext.drew ?_) | (with_reducible refine Ext.alloc ?_ _) | ((with_reducible refine Ext.setCell ?_ ?_ _); rotate_left; focus (first | (simp; done) | (simp; omega) | omega)) | (with_reducible refine Ext.trans ?_ (by with_reducible assumption))))⟩
      case round =>
        obtain ⟨x, r, ar, cr, hxs, hr, rfl, rfl, HM, hx2⟩ := hrel
        have hxr2 : Ext wo wr := hx2
        have hbr2 : Ext wb wr := hbr.trans hx2
        have HR := Lib.hid hr
        clear hr
        by_cases hlx : x < S1
        · obtain ⟨wi, hwi⟩ : ∃ wi, wi = wr := ⟨_, rfl⟩
          subst hwi
          have hxii : Ext wi wi := Ext.refl _
          go_wp2_with fail
          go_loopw [8, 10] (fun tb yi wr => ∃ (y : Nat) (ar : Option Addr) (cr : Nat), y ≤ S2 ∧ yi = .int .i64 y ∧ tb = .slice ar (r + y) cr ∧ Hid (OwnMat wr wo.heap.size 25 2 ar (r + y) cr ((List.range (r + y)).map (joinRow C D k))) ∧ Ext wo wr) (fun _ yi _ => S2 - (intOf yi).toNat)
          case atStart => exact ⟨0, _, _, Nat.zero_le _, rfl, rfl, HM.out, hxr2⟩
          case round =>
            obtain ⟨y, ar, cr, hys, rfl, rfl, HM, hx3'⟩ := hrel
            have hxr3 : Ext wo wr := hx3'
            have hbr3 : Ext wb wr := hbr.trans hx3'
            by_cases hly : y < S2
            · obtain ⟨wu, hwu⟩ : ∃ wi, wi = wr := ⟨_, rfl⟩
              subst hwu
              have hxuu : Ext wu wu := Ext.refl _
              have hrS : r + y < SN := by have h1 := HR.out; have h2 := HS12.out; have h3 : (x + 1) * S2 ≤ S1 * S2 := Nat.mul_le_mul_right _ hlx; rw [Nat.succ_mul] at h3; omega
              have hsS : ((r + y : Nat) : Int) < C.states * D.states := by have := HSN.out; omega
              have htd := two_div (a := (x : Int)) (b := (y : Int)) (S := (S2 : Int)) (by omega) (by omega)
              have hsp : ((r + y : Nat) : Int) / D.states = x ∧ ((r + y : Nat) : Int) % D.states = y := by
                rw [HS2.out, show ((r + y : Nat) : Int) = (x : Int) * (S2 : Int) + y by rw [HR.out]; push_cast; rfl]; exact htd
              obtain ⟨sp1, sp2⟩ := hsp
              clear htd
              go_wp2_with fail
              go_loopw [11, 12] (fun rw ei wr => ∃ (e : Nat) (ae : Option Addr) (ce : Nat), e ≤ bN ∧ ei = .int .i64 e ∧ rw = .slice ae e ce ∧ Hid (Own wr wu.heap.size 2 ae e ce (I ((joinRow C D k (r + y)).take e))) ∧ Ext wu wr) (fun _ ei _ => bN - (intOf ei).toNat)
              case atStart => exact ⟨0, _, _, Nat.zero_le _, rfl, rfl, Own.lit0 wu _, (by repeat (first | (with_reducible exact Ext.refl _) | (with_reducible assumption) | (with_reducible refine Ext.drewN ?_ _) | (with_reducible refine Ext.drew ?_) | (with_reducible refine Ext.alloc ?_ _) | ((with_reducible refine Ext.setCell ?_ ?_ _); rotate_left; focus (first | (simp; done) | (simp; omega) | omega)) | (with_reducible refine Ext.trans ?_ (by with_reducible assumption))))⟩
              case round =>
                obtain ⟨e, ae, ce, he, rfl, rfl, HRo, hx5'⟩ := hrel
                have hxr5 : Ext wu wr := hx5'
                have hbr5 : Ext wb wr := hbr3.trans hx5'
                by_cases hle : e < bN
                · have heB : (e : Int) < C.base := by have := HBN.out; omega
                  obtain ⟨g0, g1, g2, g3⟩ := HNC.out k (r + y) e hlt hsS heB
                  rw [sp1] at g0 g1
                  rw [sp2] at g2 g3
                  have HN1 := Lib.hid (fun W (h : Ext wb W) => spec_next C q1 a n c b m d (k : Int) (x : Int) (e : Int) W (HAC.out.ext h) HF.out.c (by omega) (by rw [HPC.out]; omega) (by omega) (by have := HS1.out; omega) (by omega) heB)
                  have HN2 := Lib.hid (fun W (h : Ext wb W) => spec_next D (q1 + 1) a2 n2 c2 b2 m d2 (k : Int) (y : Int) (e : Int) W (HAD.out.ext h) HF.out.d (by omega) (by rw [← HF.out.l, HPC.out]; omega) (by omega) (by have := HS2.out; omega) (by omega) (by rw [← HB.out]; exact heB))
                  have HRow := Lib.hid (joinRow_at (C := C) (D := D) (k := k) (s := r + y) (e := e) heB)
                  rw [sp1, sp2] at HRow
                  have HLn := Lib.hid (show e < (joinRow C D k (r + y)).length by simp only [joinRow, List.length_map, List.length_range]; have := HBN.out; omega)
                  have hmul := two_bd g0 g1 g2 g3
                  have hm0 : 0 ≤ nextS C (k : Int) (x : Int) (e : Int) * D.states := Int.mul_nonneg g0 (by omega)
                  have hm36 : C.states * D.states ≤ 36 := by have := HSN.out; omega
                  generalize nextS C (k : Int) (x : Int) (e : Int) = y1 at *
                  generalize nextS D (k : Int) (y : Int) (e : Int) = y2 at *
                  rw [HS2.out] at HRow hmul hm0 hm36 g3
                  go_wp2_with fail
                  have hrr3 : Ext wr wr := Ext.refl _
                  (refine wp_region_from wu (by repeat (first | (with_reducible exact Ext.refl _) | (with_reducible refine Ext.drewN ?_ _) | (with_reducible refine Ext.drew ?_) | (with_reducible refine Ext.alloc ?_ _) | ((with_reducible refine Ext.setCell ?_ ?_ _); rotate_left; focus (first | (simp; done) | (simp; omega) | omega)) | assumption | (with_reducible refine Ext.trans ?_ (by assumption)))) (by kernel_rfl) (by kernel_rfl) (by kernel_rfl) ?_; (repeat (first | (refine mix_q rfl ?_; go_big_quiet_step (fail); refine wpQuiet_nil ?_; show wpMix _ _ _ _ _ _ _) | (refine mix_s rfl ?_; go_wp2_with (first | (go_at_call 93; (with_reducible refine (HN1.out _ (Ext.trans hbr5 (by repeat (first | (with_reducible exact Ext.refl _) | (with_reducible assumption) | (with_reducible refine Ext.drewN ?_ _) | (with_reducible refine Ext.drew ?_) | (with_reducible refine Ext.alloc ?_ _) | ((with_reducible refine Ext.setCell ?_ ?_ _); rotate_left; focus (first | (simp; done) | (simp; omega) | omega)) | (with_reducible refine Ext.trans ?_ (by with_reducible assumption)))))).mono ?_); rintro e w6 ⟨rfl, hy6⟩; have hx6 : Ext wr w6 := Ext.trans (by repeat (first | (with_reducible exact Ext.refl _) | (with_reducible assumption) | (with_reducible refine Ext.drewN ?_ _) | (with_reducible refine Ext.drew ?_) | (with_reducible refine Ext.alloc ?_ _) | ((with_reducible refine Ext.setCell ?_ ?_ _); rotate_left; focus (first | (simp; done) | (simp; omega) | omega)) | (with_reducible refine Ext.trans ?_ (by with_reducible assumption)))) hy6; clear hy6; have hxi6 : Ext wu w6 := hxr5.trans hx6) | (go_at_call 93; (with_reducible refine (HN2.out _ (Ext.trans hbr5 (by repeat (first | (with_reducible exact Ext.refl _) | (with_reducible assumption) | (with_reducible refine Ext.drewN ?_ _) | (with_reducible refine Ext.drew ?_) | (with_reducible refine Ext.alloc ?_ _) | ((with_reducible refine Ext.setCell ?_ ?_ _); rotate_left; focus (first | (simp; done) | (simp; omega) | omega)) | (with_reducible refine Ext.trans ?_ (by with_reducible assumption)))))).mono ?_); rintro e w7 ⟨rfl, hy7⟩; have hx7 : Ext wr w7 := Ext.trans (by repeat (first | (with_reducible exact Ext.refl _) | (with_reducible assumption) | (with_reducible refine Ext.drewN ?_ _) | (with_reducible refine Ext.drew ?_) | (with_reducible refine Ext.alloc ?_ _) | ((with_reducible refine Ext.setCell ?_ ?_ _); rotate_left; focus (first | (simp; done) | (simp; omega) | omega)) | (with_reducible refine Ext.trans ?_ (by with_reducible assumption)))) hy7; clear hy7; have hxi7 : Ext wu w7 := hxr5.trans hx7) | (at_builtin; refine law_append1 w7 rfl _ _ 25 rfl 2 (.int .i64 0) 8 und_int64s info_int64 rfl wu.heap.size ae e ce _ _ rfl rfl (by simp [Act.eval, go_sem]) (HRo.out.ext hx7) hxi7.le (by omega) (by omega) ?_; intro ae' ce' w8 ho8 hb8 hg8; have hxi8 : Ext wu w8 := Ext.below hxi7 hb8; clear hb8 hg8)); first | refine ⟨up_of (by repeat (first | (with_reducible exact Ext.refl _) | (with_reducible refine Ext.drewN ?_ _) | (with_reducible refine Ext.drew ?_) | (with_reducible refine Ext.alloc ?_ _) | ((with_reducible refine Ext.setCell ?_ ?_ _); rotate_left; focus (first | (simp; done) | (simp; omega) | omega)) | assumption | (with_reducible refine Ext.trans ?_ (by assumption)))), ?_⟩ | refine ⟨rfl, rfl, up_of (by repeat (first | (with_reducible exact Ext.refl _) | (with_reducible refine Ext.drewN ?_ _) | (with_reducible refine Ext.drew ?_) | (with_reducible refine Ext.alloc ?_ _) | ((with_reducible refine Ext.setCell ?_ ?_ _); rotate_left; focus (first | (simp; done) | (simp; omega) | omega)) | assumption | (with_reducible refine Ext.trans ?_ (by assumption)))), ?_⟩))); refine mix_nil ?_)
                  go_wp2_with fail
                  exact ⟨⟨e + 1, ae', ce', hle, by go_num, rfl, by rw [Hid, take_gi HLn.out, I_append, HRow.out]; exact ho8, hxi8⟩, by simp [intOf]; omega⟩
                · obtain rfl : e = bN := by omega
                  have heB : ¬ ((e : Int) < C.base) := by have := HBN.out; omega
                  have HRl := Lib.hid (show (joinRow C D k (r + y)).length = e by simp only [joinRow, List.length_map, List.length_range]; have := HBN.out; omega)
                  have HRf := Lib.hid (show Own wr wo.heap.size 2 ae e ce (I (joinRow C D k (r + y))) from by
                    have h1 := HRo.out
                    rw [take_full (by rw [HRl.out]; exact Nat.le_refl _)] at h1
                    exact h1.mono hxr3.le)
                  have HM3 := Lib.hid (HM.out.ext hxr5)
                  have hxo3 : Ext wo wr := hxr3.trans hxr5
                  obtain ⟨vr, hvr, hpr⟩ := HM3.out.rows
                  have HVr := Lib.hid hvr
                  have HPr := Lib.hid hpr
                  clear hvr hpr
                  go_wp2_with (at_builtin; refine law_append1 _ rfl _ _ 43 rfl 25 (.slice none 0 0) 24 und_rows info_row1 rfl wo.heap.size ar (r + y) cr vr _ rfl rfl rfl HVr.out hxo3.le (by omega) (by omega) ?_; intro ar' cr' w9 ho9 hb9 hg9; have hxi9 : Ext wo w9 := Ext.below hxo3 hb9)
                  exact ⟨⟨y + 1, ar', cr', by omega, by go_num, rfl, by rw [Hid, show r + (y + 1) = (r + y) + 1 by omega, List.range_succ, List.map_append]; exact OwnMat.push HM3.out.len HPr.out HVr.out HRf.out ho9 hg9 (by decide), hxi9⟩, by simp [intOf]; omega⟩
            · obtain rfl : y = S2 := by omega
              go_wp2_with fail
              exact ⟨⟨x + 1, r + y, ar, cr, by omega, by rw [HR.out, Nat.succ_mul], by go_num, rfl, HM.out, hxr3⟩, by simp [intOf]; omega⟩
        · obtain rfl : x = S1 := by omega
          have hrN : r = SN := by rw [HR.out, HS12.out]
          subst hrN
          have HTb := Lib.hid (show OwnMat wr wo.heap.size 25 2 ar r cr (joinTab C D k) from by
            have h1 := HM.out
            rw [show (List.range r).map (joinRow C D k) = joinTab C D k by rw [joinTab, HSN.out, Int.toNat_natCast]] at h1
            exact h1)
          have HJr := Lib.hid (HJ.out.ext hxr2)
          have HAd := Lib.hid (own_up HJ.out.o)
          have HPd := Lib.hid (own_up HJ.out.p)
          have hqwo : q2 < wo.heap.size := HJ.out.s.lt
          have h3wo : w3.heap.size ≤ wo.heap.size := HJ.out.h.le
          have hwor : wo.heap.size ≤ wr.heap.size := hxr2.le
          have hle1 : w3.heap.size ≤ wr.heap.size := HJr.out.h.le
          have c4 := HJr.out.s.cell 4 (by simp)
          have fr4 := fun j => HJr.out.s.frozen j
          have lt4 := HJr.out.s.lt
          try simp only [List.getElem_toArray, List.getElem_cons_succ, List.getElem_cons_zero] at c4
          go_upto_region 21 with (at_builtin; refine law_append1_at _ rfl _ _ 24 rfl 43 (.slice none 0 0) 24 und_cubeJ info_cubeJ rfl w3.heap.size ad k cc vs _ rfl rfl rfl HJr.out.o hle1 (by omega) (by omega) ?_; intro ad6 cc6 w6 ho6 hb6 hg6 hk6; have HJ6 := Lib.hid (HJr.out.app (B0 := wo.heap.size) (by simp) HTb.out hqwo HAd.out HPd.out hb6 hg6 ho6 hk6); have r4 := HJ6.out.s.cell 4 (by simp); have fr6 := fun j => HJ6.out.s.frozen j; have lt6 := HJ6.out.s.lt; (try simp only [List.getElem_toArray, List.getElem_cons_succ, List.getElem_cons_zero] at r4); clear hb6 hg6 ho6 hk6)
          have HJ7 := Lib.hid (HJ6.out.set 4 (.slice ad6 (k + 1) cc6) rfl)
          have hle7 := HJ7.out.h.le
          have c5 := HJ7.out.s.cell 5 (by simp)
          have fr7 := fun j => HJ7.out.s.frozen j
          have lt7 := HJ7.out.s.lt
          try simp only [List.getElem_toArray, List.getElem_cons_succ, List.getElem_cons_zero] at c5
          go_wp2_with (at_builtin; refine law_append1_at _ rfl _ _ 25 rfl 2 (.int .i64 0) 8 und_int64s info_int64 rfl w3.heap.size pd k pc (I ((List.range k).map fun (j : Nat) => (j : Int))) _ rfl rfl (by simp [Act.eval, go_sem]) HJ7.out.p hle7 (by omega) (by omega) ?_; intro pd8 pc8 w8 ho8 hb8 hg8 hk8; have HJ8 := Lib.hid (HJ7.out.put hb8 hg8 ho8 hk8); have r8 := HJ8.out.s.cell 5 (by simp); have fr8 := fun j => HJ8.out.s.frozen j; have lt8 := HJ8.out.s.lt; (try simp only [List.getElem_toArray, List.getElem_cons_succ, List.getElem_cons_zero] at r8); clear hb8 hg8 ho8 hk8)
          exact ⟨⟨k + 1, ad6, cc6, _, pd8, pc8, hlt, by go_num, by rw [Hid, List.range_succ, List.map_append, List.map_append]; exact HJ8.out.set 5 (.slice pd8 (k + 1) pc8) rfl⟩, by simp [intOf]; omega⟩
    · obtain rfl : k = m := by omega
      have hjt : (joinCh C D).tabs = (List.range k).map (joinTab C D) := by simp only [joinCh]; rw [HPC.out]
      have hjp : (joinCh C D).places = (List.range k).map (fun (j : Nat) => (j : Int)) := by simp only [joinCh]; rw [HPC.out]
      have HCh := Lib.hid (show ChIn wr (joinCh C D) ad k cc pd k pc from ⟨by rw [hjt]; exact HJ.out.cube (by simp), by rw [hjp]; exact HJ.out.p.ints, by omega, by omega, HF.out.small⟩)
      have HS := Lib.hid (show SAt wr q2 27 #[.int .i64 (joinCh C D).base, .int .i64 (joinCh C D).states, .int .i64 (joinCh C D).start, .int .i64 (joinCh C D).fin, .slice ad k cc, .slice pd k pc] from by
        have h1 := HJ.out.s
        rw [← HBN.out, ← HSN.out, HST.out, HFI.out] at h1
        exact h1)
      have HZr := Lib.hid (HZ.out.ext hbr)
      obtain ⟨JB, hJB⟩ : ∃ x, x = (joinCh C D).base := ⟨_, rfl⟩
      obtain ⟨JS, hJS⟩ : ∃ x, x = (joinCh C D).states := ⟨_, rfl⟩
      obtain ⟨Js, hJs⟩ : ∃ x, x = (joinCh C D).start := ⟨_, rfl⟩
      obtain ⟨Je, hJe⟩ : ∃ x, x = (joinCh C D).fin := ⟨_, rfl⟩
      rw [← hJB, ← hJS, ← hJs, ← hJe] at HS
      have HR := Lib.hid (show ∀ W, (∀ V, KeepB w.heap.size W.heap.size W V → ChIn V (joinCh C D) ad k cc pd k pc) → Ext w W → RetJoinK C D w (.returned (.tuple #[.agg #[.int .i64 JB, .int .i64 JS, .int .i64 Js, .int .i64 Je, .slice ad k cc, .slice pd k pc], .bool true])) W from fun W h1 h2 => ⟨ad, k, cc, pd, k, pc, by rw [hJB, hJS, hJs, hJe], h1, h2⟩)
      clear hJB hJS hJs hJe hjt hjp
      have e0 := HS.out.cell 0 (by simp)
      have e1 := HS.out.cell 1 (by simp)
      have e2 := HS.out.cell 2 (by simp)
      have e3 := HS.out.cell 3 (by simp)
      have e4 := HS.out.cell 4 (by simp)
      have e5 := HS.out.cell 5 (by simp)
      have z0 := HZr.out.cell 0 (by simp)
      have z1 := HZr.out.cell 1 (by simp)
      have z2 := HZr.out.cell 2 (by simp)
      have z3' := HZr.out.cell 3 (by simp)
      have z4 := HZr.out.cell 4 (by simp)
      have z5 := HZr.out.cell 5 (by simp)
      have frz := fun j => HZr.out.frozen j
      have ltz := HZr.out.lt
      try simp only [List.getElem_toArray, List.getElem_cons_succ, List.getElem_cons_zero] at e0 e1 e2 e3 e4 e5 z0 z1 z2 z3' z4 z5
      have hxrr : Ext wr wr := Ext.refl _
      go_wp2_with fail
      refine bodyPost_ret (v := .tuple #[.agg #[.int .i64 JB, .int .i64 JS, .int .i64 Js, .int .i64 Je, .slice ad k cc, .slice pd k pc], .bool true]) ?_ rfl ?_
      · simp [results, Try.results95, go_sem, z0, z1, z2, z3', z4, z5]
      · have hq3 : q1 + 2 < w3.heap.size := Nat.lt_of_lt_of_le HZ.out.lt hx3.le
        have hkc : ∀ W, Chg 0 w3.heap.size wr W → KeepB w3.heap.size wr.heap.size wr W := fun W hc => KeepB.chg hc (Nat.le_refl _) (.inl (Nat.le_refl _))
        have hjt : (joinCh C D).tabs = (List.range k).map (joinTab C D) := by simp only [joinCh]; rw [HPC.out]
        have hjp : (joinCh C D).places = (List.range k).map (fun (j : Nat) => (j : Int)) := by simp only [joinCh]; rw [HPC.out]
        have hxwr : Ext w wr := hxb.trans hbr
        have hww3 : w.heap.size ≤ w3.heap.size := by have := hxb.le; have := hx3.le; omega
        have hfin : ∀ W, Chg 0 w3.heap.size wr W → wr.heap.size ≤ W.heap.size → Ext w W → RetJoinK C D w (.returned (.tuple #[.agg #[.int .i64 JB, .int .i64 JS, .int .i64 Js, .int .i64 Je, .slice ad k cc, .slice pd k pc], .bool true])) W := fun W hc hl hx =>
          HR.out W (fun V hV => by
            have hk2 := (hkc W hc).trans (hV.mono hww3 hl)
            refine ChIn.mk ?_ ?_ (by omega) (by omega) HF.out.small
            · rw [hjt]; exact (HJ.out.fin (by simp) hk2).1
            · rw [hjp]; exact (HJ.out.fin (by simp) hk2).2) hx
        refine hfin _ ?_ ?_ ?_
        · exact (by repeat (first | (with_reducible exact Chg.refl _ _ _) | (with_reducible assumption) | ((with_reducible refine Chg.trans ?_ (Chg.setP _ _ _ ?_ ?_)); rotate_left; (focus (first | (simp; done) | (simp; omega) | omega)); (focus (first | (simp; done) | (simp; omega) | omega))) | (with_reducible refine Chg.trans ?_ (Chg.ext (Ext.alloc (Ext.refl _) _) _ _)) | (with_reducible refine Chg.trans ?_ (Chg.ext (Ext.drew (Ext.refl _)) _ _)) | (with_reducible refine Chg.trans ?_ (Chg.ext (Ext.drewN (Ext.refl _) _) _ _))))
        · simp [World.setCell]
        · exact (by repeat (first | (with_reducible exact Ext.refl _) | (with_reducible assumption) | (with_reducible refine Ext.drewN ?_ _) | (with_reducible refine Ext.drew ?_) | (with_reducible refine Ext.alloc ?_ _) | ((with_reducible refine Ext.setCell ?_ ?_ _); rotate_left; focus (first | (simp; done) | (simp; omega) | omega)) | (with_reducible refine Ext.trans ?_ (by with_reducible assumption))))
end Go.Proofs.Ytaiieodllhoelaa
