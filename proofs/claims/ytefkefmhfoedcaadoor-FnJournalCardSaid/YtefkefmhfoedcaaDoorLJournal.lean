/- The law on journals: walked. -/
import Derived.Test.YtefkefmhfoedcaaDoorDkM
import Derived.Test.YtefkefmhfoedcaaDoorRc
import Derived.Test.YtefkefmhfoedcaaDoorDoor
import Derived.Test.YtefkefmhfoedcaaDoorMixC
namespace Go.Proofs.YtefkefmhfoedcaaDoor
set_option maxRecDepth 100000
open Go.RowKit

theorem jr_six {ls : List ByteArray} (h : ∀ s ∈ ls, LnOk 600 s) (hl : ls.length ≤ 6) : jrOk ls = true := by
  have hk : ∀ k, k ≤ ls.length → (jrK ls k).size ≤ k * 623 := fun k => by
    induction k with
    | zero => intro _; simp [jrK]
    | succ k ih =>
      intro hk
      have h1 := ih (by omega)
      have h2 := (h (gs ls k) (gs_mem (by omega))).sz
      have h3 := decS_le (ckK ls (k + 1)) (ckK_bd ls _).1 (by have := (ckK_bd ls (k + 1)).2; omega)
      rw [jrK_step]; omega
  exact jrOk_yes (fun j hj => (h _ (gs_mem hj)).nl) (by have := hk ls.length (Nat.le_refl _); omega)
theorem jr_lens {l : List ByteArray} (h : jrOk l = true) : l.length ≤ 1048576 ∧ ∀ s ∈ l, s.size ≤ 1048576 := by
  unfold jrOk at h
  rw [Bool.and_eq_true, decide_eq_true_eq] at h
  have hk : ∀ k, k ≤ l.length → k ≤ (jrK l k).size := fun k => by
    induction k with
    | zero => intro _; exact Nat.zero_le _
    | succ k ih => intro hk; have := ih (by omega); rw [jrK_step]; omega
  refine ⟨by have := hk l.length (Nat.le_refl _); omega, fun s hs => ?_⟩
  obtain ⟨k, hk2, rfl⟩ := List.mem_iff_getElem.1 hs
  have h1 := jrK_mono l (show k + 1 ≤ l.length from hk2)
  rw [jrK_step, gs_get hk2] at h1
  omega
theorem jr_zero {l : List ByteArray} (h : jrOk l = true) : (l.length = 0 → (jrT l).size = 0) ∧ (0 < l.length → 0 < (jrT l).size) ∧ (jrT l).size ≤ 4000 := by
  have hT : jrT l = jrK l l.length := by unfold jrT; rw [h, if_pos rfl]
  rw [hT]
  refine ⟨fun h0 => ?_, fun h0 => ?_, ?_⟩
  · rw [h0]; simp [jrK]
  · have h1 := jrK_mono l (show 1 ≤ l.length from h0)
    rw [jrK_step] at h1; omega
  · unfold jrOk at h; rw [Bool.and_eq_true, decide_eq_true_eq] at h; exact h.2
/-- what the law says of a journal that is cut or bent, without a program -/
structure Jl (ls : List ByteArray) (p : Nat) (k : Nat) : Prop where
  n : rcN ((jrT ls).extract 0 p) = (k : Int)
  kp : k ≤ p
  ok : rcOk ((jrT ls).extract 0 p) = true
  jok : jrOk (rcL ((jrT ls).extract 0 p)) = true
  jt : jrT (rcL ((jrT ls).extract 0 p)) = (jrT ls).extract 0 k
  len : (rcL ((jrT ls).extract 0 p)).length = ((bl (jrT ls)).take p).count 10
  le : (rcL ((jrT ls).extract 0 p)).length ≤ ls.length
  eq : ∀ j, j < (rcL ((jrT ls).extract 0 p)).length → gs (rcL ((jrT ls).extract 0 p)) j = gs ls j
  sz : (jrT ls).size ≤ 4000
theorem jl_cut {ls : List ByteArray} (h : jrOk ls = true) (p : Nat) (hp : p < (jrT ls).size) : ∃ k, Jl ls p k := by
  have hT : jrT ls = jrK ls ls.length := by unfold jrT; rw [h, if_pos rfl]
  have hsz : (jrT ls).size ≤ 4000 := by
    rw [hT]; unfold jrOk at h; rw [Bool.and_eq_true, decide_eq_true_eq] at h; exact h.2
  have hs : ((jrT ls).extract 0 p).size = p := by rw [ByteArray.size_extract]; omega
  have hb : bl ((jrT ls).extract 0 p) = (bl (jrT ls)).take p := by rw [bl_extract]; simp
  obtain ⟨k, h1, h2, h3, h4⟩ := rc_back ((jrT ls).extract 0 p) (by omega)
  obtain ⟨c1, c2, c3, _⟩ := rc_cut ls h ((jrT ls).extract 0 p) ((bl (jrT ls)).drop p) (by rw [hb, ← hT, List.take_append_drop])
  rw [hs] at h2
  refine ⟨k, h1, h2, (rc_small (by omega)).2.2, h3, ?_, by rw [c1, hb], c2, c3, hsz⟩
  rw [h4]
  apply bl_ext
  rw [bl_extract, bl_extract, bl_extract]
  simp [List.take_take, Nat.min_eq_left h2]
theorem jl_bent {T : ByteArray} {p : Nat} (hT : T.size ≤ 4000) (hp : p < T.size) (x : ByteArray) (hx : x.size = 1) :
    ∃ m : Nat, rcN (T.extract 0 p ++ x ++ T.extract (p + 1) T.size) = (m : Int) ∧ rcN (T.extract 0 p) ≤ (m : Int) ∧ m ≤ T.size ∧ rcOk (T.extract 0 p ++ x ++ T.extract (p + 1) T.size) = true ∧
      jrOk (rcL (T.extract 0 p ++ x ++ T.extract (p + 1) T.size)) = true ∧ jrT (rcL (T.extract 0 p ++ x ++ T.extract (p + 1) T.size)) = (T.extract 0 p ++ x ++ T.extract (p + 1) T.size).extract 0 m ∧ (T.extract 0 p ++ x ++ T.extract (p + 1) T.size).size = T.size := by
  have hs : (T.extract 0 p ++ x ++ T.extract (p + 1) T.size).size = T.size := by
    rw [ByteArray.size_append, ByteArray.size_append, ByteArray.size_extract, ByteArray.size_extract, hx]; omega
  obtain ⟨m, h1, h2, h3, h4⟩ := rc_back (T.extract 0 p ++ x ++ T.extract (p + 1) T.size) (by omega)
  refine ⟨m, h1, ?_, by omega, (rc_small (by omega)).2.2, h3, h4, hs⟩
  have h5 := rc_more (T.extract 0 p) (T.extract 0 p ++ x ++ T.extract (p + 1) T.size) (bl x ++ bl (T.extract (p + 1) T.size)) (by rw [bl_app, bl_app, List.append_assoc]) (by omega)
  omega
theorem one_bytesJ (x : Int) (w : World) : (convert 22 9 (.slice (some ⟨w.heap.size, 0, none⟩) 1 1)).run Tryd.prog (w.alloc (.cells #[.int .u8 x] 5)).drew = .ok (.string (strOfNums [x])) (w.alloc (.cells #[.int .u8 x] 5)).drew :=
  run_bytes_text (w.drew.alloc (.cells #[.int .u8 x] 5)) _ (some ⟨w.heap.size, 0, none⟩) 1 1 [x] (own_lit1 w.drew 5 (.int .u8 x))
set_option maxHeartbeats 8000000 in
theorem lawJournal (a : Option Addr) (n c : Nat) (l : List UInt8) (a' : Option Addr) (n' c' : Nat) (l' : List UInt8) (w : World) (hv : Bytes w a n c l) (hn : n ≤ 9223372036854775807) (hv' : Bytes w a' n' c' l') (hn' : n' ≤ 9223372036854775807) (ht : TabW w) :
    Calls Tryd.prog 3 #[.slice a n c, .slice a' n' c'] w (Ret (.bool true) w) := by
  have HLong := Lib.hid (laws_b10Long a a' n c n' c' w hn hn')
  have HB := Lib.hid hv
  have HB' := Lib.hid hv'
  have HT := Lib.hid ht
  clear hv hv' ht
  by_cases hlong : 1048576 < n ∨ 1048576 < n'
  · rw [decide_eq_true hlong] at HLong
    clear hlong
    go_enter Tryd.func3, Tryd.ntmps3
    go_wp2_with (refine HLong.out.mono ?_; rintro e w1 ⟨rfl, rfl⟩)
    go_ret
    exact ⟨rfl, Ext.refl _⟩
  rw [decide_eq_false hlong] at HLong
  have hn48 : n ≤ 1048576 ∧ n' ≤ 1048576 := by omega
  clear hlong
  go_enter Tryd.func3, Tryd.ntmps3
  go_wp2_with (first
    | (go_at_call 4; (with_reducible refine HLong.out.mono ?_); rintro e w1 ⟨rfl, rfl⟩)
    | (go_at_call 6; (with_reducible refine (spec_B10Desk a' n' c' l' w HB'.out (by omega)).mono ?_); rintro e w1 ⟨ts, us, da, dn, dc, db, dd, rfl, hd1, hd3, hx1⟩; have HD1 := Lib.hid hd1; have HX1 := Lib.hid hx1; have hle1 := hx1.le; clear hd1 hx1)
    | (go_at_call 5; (with_reducible refine (spec_B10Lines w.heap.size ts us da dn dc db dd a n c l w1 HD1.out hle1 hd3 (HB.out.ext HX1.out) (by omega)).mono ?_); rintro e w2 ⟨ls, ad, ln, lc, rfl, ho2, hl2, hl6, hok2, hx2⟩; have HO2 := Lib.hid (show Strs w2 ad ln lc ls from ho2.sl); have HL2 := Lib.hid hl2; have HX2 := Lib.hid (HX1.out.trans hx2); have HOk := Lib.hid (jr_six hok2 (by omega)); clear ho2 hx2))
  refine (impl_JournalOf ad ln lc ls w2 HO2.out (by omega) (jr_lens HOk.out).2 (HT.out.ext HX2.out)).mono ?_
  rintro e w3 ⟨rfl, hx3⟩
  have HX3 := Lib.hid (HX2.out.trans hx3)
  have HL3 := Lib.hid (HO2.out.ext hx3)
  rw [HOk.out]
  obtain ⟨T, hT⟩ : ∃ T, T = jrT ls := ⟨_, rfl⟩
  have HJ := Lib.hid (show ∀ p, p < T.size → ∃ k, Jl ls p k from fun p hp => jl_cut HOk.out p (by rw [← hT]; exact hp))
  have hz := jr_zero HOk.out
  rw [← hT, HL2.out] at hz
  obtain ⟨hz0, hz1, hz4⟩ := hz
  rw [← hT]
  have HTe := Lib.hid hT
  clear hT hx3 HLong HB HX1 HX2 HD1 hd3 HO2
  have HA0 := Lib.hid (fun W (h : Ext w W) => laws_b10 a' n' c' l' 0 256 W (HB'.out.ext h) (by omega) (by omega) (by omega))
  have HA1 := Lib.hid (fun W (h : Ext w W) => laws_b10 a' n' c' l' 1 256 W (HB'.out.ext h) (by omega) (by omega) (by omega))
  have HA2 := Lib.hid (fun W (h : Ext w W) => laws_b10 a' n' c' l' 2 256 W (HB'.out.ext h) (by omega) (by omega) (by omega))
  obtain ⟨x00, x01⟩ := b10_bd l' 0 256 (by omega)
  obtain ⟨x10, x11⟩ := b10_bd l' 1 256 (by omega)
  obtain ⟨x20, x21⟩ := b10_bd l' 2 256 (by omega)
  generalize b10 l' 0 256 = x0 at *
  generalize b10 l' 1 256 = x1 at *
  generalize b10 l' 2 256 = x2 at *
  by_cases hn0 : ln = 0
  · subst hn0
    have hTz := hz0 rfl
    go_wp2_with fail
    go_ret
    exact ⟨rfl, HX3.out⟩
  have hTs : 0 < T.size := hz1 (by omega)
  clear hz0 hz1
  go_upto_region 10 with (first
    | (go_at_call 8; first | ((with_reducible refine (HA0.out _ HX3.out).mono ?_); rintro e w4 ⟨rfl, rfl⟩) | ((with_reducible refine (HA1.out _ HX3.out).mono ?_); rintro e w4 ⟨rfl, rfl⟩)))
  obtain ⟨p, hp⟩ := Int.eq_ofNat_of_zero_le (Int.emod_nonneg (x0 * 256 + x1) (show (T.size : Int) ≠ 0 by omega))
  have hpT : p < T.size := by have := Int.emod_lt_of_pos (x0 * 256 + x1) (show (0 : Int) < T.size by omega); omega
  rw [hp]
  clear hp x00 x01 x10 x11 HA0 HA1
  obtain ⟨k, hJl⟩ := HJ.out p hpT
  have j1 : rcN (T.extract 0 p) = (k : Int) := by rw [HTe.out]; exact hJl.n
  have hkp := hJl.kp
  have j2 : rcOk (T.extract 0 p) = true := by rw [HTe.out]; exact hJl.ok
  have j3 : jrOk (rcL (T.extract 0 p)) = true := by rw [HTe.out]; exact hJl.jok
  have j4 : jrT (rcL (T.extract 0 p)) = T.extract 0 k := by rw [HTe.out]; exact hJl.jt
  have j5 : (rcL (T.extract 0 p)).length = ((bl T).take p).count 10 := by rw [HTe.out]; exact hJl.len
  have j6 : (rcL (T.extract 0 p)).length ≤ ln := by rw [HTe.out, ← HL2.out]; exact hJl.le
  have j7 : ∀ j, j < (rcL (T.extract 0 p)).length → gs (rcL (T.extract 0 p)) j = gs ls j := by rw [HTe.out]; exact hJl.eq
  have HBt := Lib.hid (fun x hx => jl_bent hz4 hpT x hx)
  rw [j1] at HBt
  have hsp : (T.extract 0 p).size = p := by rw [ByteArray.size_extract]; omega
  have HRc := Lib.hid (fun W (h : Ext w W) => impl_RecoverJournal (T.extract 0 p) W (by omega) (HT.out.ext h))
  unfold RetRcO at HRc
  rw [j1, j2] at HRc
  generalize rcL (T.extract 0 p) = L at *
  obtain ⟨N, hN⟩ : ∃ N, N = L.length := ⟨_, rfl⟩
  rw [← hN] at j5 j6 j7 HRc
  have HLn := Lib.hid hN.symm
  have HJk := Lib.hid j3
  have HJt := Lib.hid j4
  have HCt := Lib.hid j5
  have HEq := Lib.hid j7
  clear j1 j2 j3 j4 j5 j7 hJl hN HJ HTe
  go_wp2_with (go_at_call 9; (with_reducible refine (HRc.out _ HX3.out).mono ?_); rintro e w5 ⟨a5, c5, rfl, ho5, hx5⟩; have HX5 := Lib.hid (HX3.out.trans hx5); have HO5 := Lib.hid (show Strs w5 a5 N c5 L from ho5.sl); have HL5 := Lib.hid (HL3.out.ext hx5); clear ho5 hx5)
  refine (impl_JournalOf a5 N c5 L w5 HO5.out (by omega) (jr_lens HJk.out).2 (HT.out.ext HX5.out)).mono ?_
  rintro e w6 ⟨rfl, hx6⟩
  rw [HJk.out, HJt.out]
  have HX6 := Lib.hid (HX5.out.trans hx6)
  have HO6 := Lib.hid (HO5.out.ext hx6)
  have HL6 := Lib.hid (HL5.out.ext hx6)
  clear hx6 HX5 HO5 HL5 HX3 HL3
  go_wp2_with fail
  go_loop [14, 15] (fun v14 v15 => ∃ i : Nat, i ≤ p ∧ v15 = .int .i64 i ∧ v14 = .int .i64 (((bl T).take i).count 10 : Nat)) (fun _ v15 => p - (intOf v15).toNat)
  case atStart => exact ⟨0, Nat.zero_le _, rfl, rfl⟩
  case round =>
    obtain ⟨i, hi, rfl, rfl⟩ := hrel
    by_cases hlt : i < p
    · have hiT : i < T.size := by omega
      have hst := count_take T i hiT
      have hcl : ((bl T).take i).count 10 ≤ i := Nat.le_trans List.count_le_length (by rw [List.length_take]; omega)
      by_cases h10 : T[i] = 10
      · rw [if_pos h10] at hst
        have HSt := Lib.hid hst
        have h11 : (T[i].toNat : Int) = 10 := by rw [h10]; rfl
        generalize ((bl T).take i).count 10 = x at *
        clear hst h10
        go_wp2_with fail
        exact ⟨⟨i + 1, by omega, by go_num, by rw [HSt.out]; go_num⟩, by simp [intOf]; omega⟩
      · rw [if_neg h10] at hst
        have HSt := Lib.hid hst
        have h12 : T[i].toNat = 10 → T[i] = 10 := fun h => UInt8.toNat_inj.1 (h.trans rfl)
        have h11 : ¬ (T[i].toNat : Int) = 10 := fun h => h10 (h12 (by omega))
        clear h12
        generalize ((bl T).take i).count 10 = x at *
        clear hst h10
        go_wp2_with fail
        exact ⟨⟨i + 1, by omega, by go_num, by rw [HSt.out]; go_num⟩, by simp [intOf]; omega⟩
    · obtain rfl : p = i := by omega
      rw [← HCt.out]
      have hTk : (T.extract 0 k).size = k := by rw [ByteArray.size_extract]; omega
      clear HCt hlt hi
      go_wp2_with fail
      obtain ⟨lb, lof, hlx, hlcell⟩ := HO6.out.ix (P := Tryd.prog) 24 9 und_strs cell_str
      obtain ⟨mb, mof, hmx, hmcell⟩ := HL6.out.ix (P := Tryd.prog) 24 9 und_strs cell_str
      go_loopw [16] (fun v16 wr => ∃ j : Nat, j ≤ N ∧ v16 = .int .i64 j ∧ Ext w6 wr) (fun v16 _ => N - (intOf v16).toNat)
      case atStart => exact ⟨0, Nat.zero_le _, rfl, Ext.refl _⟩
      case round =>
        obtain ⟨j, hj, rfl, hxr⟩ := hrel
        by_cases hlt : j < N
        · have heq := HEq.out j hlt
          have hjl : j < ln := by omega
          have he2 : ((gs L j).toList == (gs ls j).toList) = true := by rw [heq]; simp
          clear heq
          have hrr : Ext wr wr := Ext.refl _
          go_upto_region 23 with fail
          (refine wp_region_from wr (by repeat (first | (with_reducible exact Ext.refl _) | (with_reducible refine Ext.drewN ?_ _) | (with_reducible refine Ext.drew ?_) | (with_reducible refine Ext.alloc ?_ _) | ((with_reducible refine Ext.setCell ?_ ?_ _); rotate_left; focus (first | (simp; done) | (simp; omega) | omega)) | assumption | (with_reducible refine Ext.trans ?_ (by assumption)))) (by kernel_rfl) (by kernel_rfl) (by kernel_rfl) ?_; (repeat (first | (refine mix_q rfl ?_; go_big_quiet_step (fail); refine wpQuiet_nil ?_; show wpMix _ _ _ _ _ _ _) | (refine mix_s rfl ?_; go_wp2_with (fail); first | refine ⟨up_of (by repeat (first | (with_reducible exact Ext.refl _) | (with_reducible refine Ext.drewN ?_ _) | (with_reducible refine Ext.drew ?_) | (with_reducible refine Ext.alloc ?_ _) | ((with_reducible refine Ext.setCell ?_ ?_ _); rotate_left; focus (first | (simp; done) | (simp; omega) | omega)) | assumption | (with_reducible refine Ext.trans ?_ (by assumption)))), ?_⟩ | refine ⟨rfl, rfl, up_of (by repeat (first | (with_reducible exact Ext.refl _) | (with_reducible refine Ext.drewN ?_ _) | (with_reducible refine Ext.drew ?_) | (with_reducible refine Ext.alloc ?_ _) | ((with_reducible refine Ext.setCell ?_ ?_ _); rotate_left; focus (first | (simp; done) | (simp; omega) | omega)) | assumption | (with_reducible refine Ext.trans ?_ (by assumption)))), ?_⟩))); refine mix_nil ?_)
          go_wp2_with fail
          exact ⟨⟨j + 1, by omega, by go_num, hxr.trans (by repeat (first | (with_reducible exact Ext.refl _) | (with_reducible refine Ext.drewN ?_ _) | (with_reducible refine Ext.drew ?_) | (with_reducible refine Ext.alloc ?_ _) | ((with_reducible refine Ext.setCell ?_ ?_ _); rotate_left; focus (first | (simp; done) | (simp; omega) | omega)) | assumption | (with_reducible refine Ext.trans ?_ (by assumption))))⟩, by simp [intOf]; omega⟩
        · obtain rfl : N = j := by omega
          clear hlx hlcell hmx hmcell hj hlt
          have HXr := Lib.hid (HX6.out.trans hxr)
          have hrr : Ext wr wr := Ext.refl _
          have hcv := fun W => one_bytesJ x2 W
          have hs1 : (strOfNums [x2]).size = 1 := by rw [strOfNums_size]; rfl
          have hs2 : (T.extract (p + 1) T.size).size = T.size - (p + 1) := by rw [ByteArray.size_extract]; omega
          have hw8 : x2 % 256 = x2 := by omega
          have i0 : (0 : Int) ≤ (p : Int) := by omega
          have i1 : (p : Int) ≤ (T.size : Int) := by omega
          have i2 : (0 : Int) ≤ (p : Int) + 1 := by omega
          have i3 : (p : Int) + 1 ≤ (T.size : Int) := by omega
          have i4 : IntKind.i64.wrap ((p : Int) + 1) = (p : Int) + 1 := IntWalk.i64_in _ (by omega)
          have i5 : IntKind.u8.wrap x2 = x2 := by simp [IntKind.wrap, IntKind.bits, IntKind.signed]; omega
          have i6 : ((p : Int) + 1).toNat = p + 1 := by omega
          obtain ⟨m, b1, b2, b3, b4, b5, b6, b7⟩ := HBt.out (strOfNums [x2]) hs1
          obtain ⟨E, hE⟩ : ∃ E, E = T.extract 0 p ++ strOfNums [x2] ++ T.extract (p + 1) T.size := ⟨_, rfl⟩
          rw [← hE] at b1 b4 b5 b6 b7
          have HE := Lib.hid hE
          have HEm := Lib.hid b6
          have Hb1 := Lib.hid b1; clear b1; have Hb4 := Lib.hid b4; clear b4; have Hb5 := Lib.hid b5; clear b5; have Hb7 := Lib.hid b7; clear b7
          clear hE b6
          go_upto_region 25 with fail
          (refine wp_region_fromC (D := [125]) wr (by repeat (first | (with_reducible exact Ext.refl _) | (with_reducible refine Ext.drewN ?_ _) | (with_reducible refine Ext.drew ?_) | (with_reducible refine Ext.alloc ?_ _) | ((with_reducible refine Ext.setCell ?_ ?_ _); rotate_left; focus (first | (simp; done) | (simp; omega) | omega)) | assumption | (with_reducible refine Ext.trans ?_ (by assumption)))) (by kernel_rfl) (by kernel_rfl) (by kernel_rfl) ?_; (repeat (first | (refine mixc_q rfl ?_; go_big_quiet_step (fail); refine wpQuiet_nil ?_; show wpMixC _ _ _ _ _ _ _ _) | (refine mixc_s rfl ?_; go_wp2_with ((go_at_call 8; (with_reducible refine (HA2.out _ (HXr.out.trans (by repeat (first | (with_reducible exact Ext.refl _) | (with_reducible assumption) | (with_reducible refine Ext.drewN ?_ _) | (with_reducible refine Ext.drew ?_) | (with_reducible refine Ext.alloc ?_ _) | ((with_reducible refine Ext.setCell ?_ ?_ _); rotate_left; focus (first | (simp; done) | (simp; omega) | omega)) | (with_reducible refine Ext.trans ?_ (by with_reducible assumption)))))).mono ?_); rintro e w9 ⟨rfl, rfl⟩)); first | refine ⟨up_of (by repeat (first | (with_reducible exact Ext.refl _) | (with_reducible refine Ext.drewN ?_ _) | (with_reducible refine Ext.drew ?_) | (with_reducible refine Ext.alloc ?_ _) | ((with_reducible refine Ext.setCell ?_ ?_ _); rotate_left; focus (first | (simp; done) | (simp; omega) | omega)) | assumption | (with_reducible refine Ext.trans ?_ (by assumption)))), ?_⟩ | refine ⟨rfl, rfl, up_of (by repeat (first | (with_reducible exact Ext.refl _) | (with_reducible refine Ext.drewN ?_ _) | (with_reducible refine Ext.drew ?_) | (with_reducible refine Ext.alloc ?_ _) | ((with_reducible refine Ext.setCell ?_ ?_ _); rotate_left; focus (first | (simp; done) | (simp; omega) | omega)) | assumption | (with_reducible refine Ext.trans ?_ (by assumption)))), ?_⟩))); refine mixc_nil ?_)
          rw [← HE.out]
          obtain ⟨wy, hwy⟩ : ∃ W, W = (wr.alloc (.cells #[.int .u8 x2] 5)).drew := ⟨_, rfl⟩
          have HXy := Lib.hid (HXr.out.trans (show Ext wr wy from by rw [hwy]; exact (by repeat (first | (with_reducible exact Ext.refl _) | (with_reducible refine Ext.drewN ?_ _) | (with_reducible refine Ext.drew ?_) | (with_reducible refine Ext.alloc ?_ _) | ((with_reducible refine Ext.setCell ?_ ?_ _); rotate_left; focus (first | (simp; done) | (simp; omega) | omega)) | assumption | (with_reducible refine Ext.trans ?_ (by assumption))))))
          rw [← hwy]
          have hEz : E.size ≤ 4000 := by have := Hb7.out; omega
          have hmE : m ≤ E.size := by have := Hb7.out; omega
          have HRb := Lib.hid (fun W (h : Ext w W) => impl_RecoverJournal E W (by omega) (HT.out.ext h))
          unfold RetRcO at HRb
          rw [Hb1.out, Hb4.out] at HRb
          have HLe := Lib.hid (jr_lens Hb5.out)
          obtain ⟨L2, hL2⟩ : ∃ L2, L2 = rcL E := ⟨_, rfl⟩
          rw [← hL2] at HRb Hb5 HEm HLe
          have hL2n := HLe.out.1
          have hbk : (k : Int) ≤ (m : Int) := b2
          clear hwy Hb1 Hb4 HE hcv hs1 hs2 hw8 i0 i1 i2 i3 i4 i5 i6 b2 hL2 Hb7 HA2 HBt
          obtain ⟨N2, hN2⟩ : ∃ N2, N2 = L2.length := ⟨_, rfl⟩
          rw [← hN2] at HRb hL2n
          clear hN2
          go_wp2_with (go_at_call 9; (with_reducible refine (HRb.out _ HXy.out).mono ?_); rintro e w8 ⟨a8, c8, rfl, ho8, hx8⟩; have HX8 := Lib.hid (HXy.out.trans hx8); have HO8 := Lib.hid (show Strs w8 a8 N2 c8 L2 from ho8.sl); clear ho8 hx8)
          refine (impl_JournalOf a8 N2 c8 L2 w8 HO8.out (by omega) HLe.out.2 (HT.out.ext HX8.out)).mono ?_
          rintro e w9 ⟨rfl, hx9⟩
          rw [Hb5.out, HEm.out]
          have HX9 := Lib.hid (HX8.out.trans hx9)
          have hEm : (E.extract 0 m).size = m := by rw [ByteArray.size_extract]; omega
          clear hx9
          go_wp2_with fail
          go_ret
          exact ⟨rfl, HX9.out⟩
end Go.Proofs.YtefkefmhfoedcaaDoor
