/- Walks: the least distance of two patterns in the reference; the laws' helpers on barcodes. -/
import Derived.Test.YtnmkckghfckgbaaLpd
namespace Go.Proofs.Ytnmkckghfckgbaa
set_option maxRecDepth 100000
open Go.RowKit

set_option maxHeartbeats 2000000 in
theorem spec_Lpd (D : Bc) (a : Option Addr) (n c : Nat) (w : World) (hv : Strs w a n c D.pats) (hn : n ≤ 1048576) (hs : D.start.size ≤ 1048576) (ht : D.stop.size ≤ 1048576) (hp : ∀ p ∈ D.pats, p.size ≤ 1048576) :
    Calls Try.prog 15 #[.agg #[.string D.start, .string D.stop, .slice a n c, .int .i64 D.gap]] w (Ret2 (.int .i64 (lpdRes D)) (.bool (lpdOk D)) w) := by
  have HL := Lib.hid hv.len
  have HB := Lib.hid (bc_box w D a n c 28 hv)
  have HVB := Lib.hid (spec_l08Is D w.heap.size a n c _ HB.out hn hs ht hp)
  clear hv
  cases hval : validBc D
  · rw [hval] at HVB
    have HO := Lib.hid (show lpdOk D = false by simp [lpdOk, hval])
    have HR := Lib.hid (show lpdRes D = 0 by simp [lpdRes, lpdOk, hval])
    clear hval
    go_enter Try.func15, Try.ntmps15
    go_wp2_with (refine HVB.out.mono ?_; rintro e w1 ⟨rfl, hx⟩)
    go_ret2
    exact ⟨by rw [HR.out, HO.out]; rfl, (by repeat (first | (with_reducible exact Ext.refl _) | (with_reducible refine Ext.drewN ?_ _) | (with_reducible refine Ext.drew ?_) | (with_reducible refine Ext.alloc ?_ _) | ((with_reducible refine Ext.setCell ?_ ?_ _); rotate_left; focus (first | (simp; done) | (simp; omega) | omega)) | assumption | (with_reducible refine Ext.trans ?_ (by assumption))))⟩
  rw [hval] at HVB
  have hok := validBc_ok hval
  have hn1 := hok.n1
  rw [HL.out] at hn1
  by_cases h2 : n < 2
  · have HO := Lib.hid (show lpdOk D = false by simp only [lpdOk, HL.out]; simp; intro _; omega)
    have HR := Lib.hid (show lpdRes D = 0 by rw [lpdRes, HO.out]; rfl)
    obtain rfl : n = 1 := by omega
    clear hval hok
    go_enter Try.func15, Try.ntmps15
    go_wp2_with (refine HVB.out.mono ?_; rintro e w1 ⟨rfl, hx⟩; obtain ⟨c0, c1, c2, c3, _⟩ := HB.out)
    go_ret2
    exact ⟨by rw [HR.out, HO.out]; rfl, (by repeat (first | (with_reducible exact Ext.refl _) | (with_reducible refine Ext.drewN ?_ _) | (with_reducible refine Ext.drew ?_) | (with_reducible refine Ext.alloc ?_ _) | ((with_reducible refine Ext.setCell ?_ ?_ _); rotate_left; focus (first | (simp; done) | (simp; omega) | omega)) | assumption | (with_reducible refine Ext.trans ?_ (by assumption))))⟩
  have HO := Lib.hid (show lpdOk D = true by simp only [lpdOk, HL.out, hval]; simp; omega)
  have HR := Lib.hid (show lpdRes D = lowL (prs (distBc D) n 0) by
    rw [lpdRes, HO.out, HL.out, lowL_eq ?_ fun x hx => ?_]; rfl
    · have : distBc D 1 0 ∈ prs (distBc D) n 0 := by
        unfold prs; rw [List.mem_append]; refine .inl (List.mem_flatMap.2 ⟨1, List.mem_range.2 (by omega), List.mem_map.2 ⟨0, List.mem_range.2 (by omega), rfl⟩⟩)
      intro h; rw [h] at this; cases this
    · obtain ⟨a, b, ha, hb, rfl⟩ := prs_mem (n := n) hx (.inr ⟨rfl, Nat.le_refl _⟩) (Nat.zero_le _)
      have := hok.dist (i := a) (k := b) (by rw [HL.out]; omega) (by rw [HL.out]; omega)
      unfold far40; omega)
  have h36 := hok.n36
  rw [HL.out] at h36
  have HP := Lib.hid (fun k (hk : k < n) => hp _ (gs_mem (l := D.pats) (k := k) (by rw [HL.out]; exact hk)))
  have HA := Lib.hid (fun i k (hi : i < n) (hk : k < n) W => spec_l08Far (gs D.pats i) (gs D.pats k) W (HP.out i hi) (by rw [hok.size i (by rw [HL.out]; exact hi), hok.size k (by rw [HL.out]; exact hk)]; exact Nat.le_refl _))
  have HF := Lib.hid (fun i k (hi : i < n) (hk : k < n) => show apartL ((elsL (gs D.pats i).data.toList).take (gs D.pats i).size) ((elsL (gs D.pats k).data.toList).take (gs D.pats i).size) = distBc D i k from apartL_full (by rw [elsL_len, size_eq]) (by rw [elsL_len, size_eq, hok.size k (by rw [HL.out]; exact hk), hok.size i (by rw [HL.out]; exact hi)]))
  have HMb := Lib.hid (fun i k (hi : i < n ∨ k = 0 ∧ i ≤ n) (hk : k ≤ i) => lowL_bd (l := prs (distBc D) i k) (n := 80) (by omega) fun x hx => by
    obtain ⟨a, b, ha, hb, rfl⟩ := prs_mem (n := n) hx hi hk
    exact hok.dist (by rw [HL.out]; omega) (by rw [HL.out]; omega))
  clear hval hok
  have hb1 : ((n : Int) == 1) = false := by simp; omega
  go_enter Try.func15, Try.ntmps15
  go_wp2_with (refine HVB.out.mono ?_; rintro e w1 ⟨rfl, hx⟩; have hxw : Ext w w1 := (by repeat (first | (with_reducible exact Ext.refl _) | (with_reducible refine Ext.drewN ?_ _) | (with_reducible refine Ext.drew ?_) | (with_reducible refine Ext.alloc ?_ _) | ((with_reducible refine Ext.setCell ?_ ?_ _); rotate_left; focus (first | (simp; done) | (simp; omega) | omega)) | assumption | (with_reducible refine Ext.trans ?_ (by assumption)))); obtain ⟨c0, c1, c2, c3, hps⟩ := HB.out.ext hx; clear hx)
  obtain ⟨b, off, hix, hcell⟩ := hps.ix (P := Try.prog) 22 9 und_strings cell_string
  clear hps hb1
  generalize w.heap.size = p at *
  go_loopw [4, 5] (fun m i wr => ∃ k : Nat, k ≤ n ∧ i = .int .i64 k ∧ m = .int .i64 (lowL (prs (distBc D) k 0)) ∧ Ext w1 wr) (fun _ i _ => n - (intOf i).toNat)
  case atStart => exact ⟨0, Nat.zero_le _, rfl, rfl, Ext.refl _⟩
  case round =>
    obtain ⟨k, hk, rfl, rfl, hx⟩ := hrel
    by_cases hlt : k < n
    · go_wp2
      go_loopw [4, 6] (fun m i wr2 => ∃ j : Nat, j ≤ k ∧ i = .int .i64 j ∧ m = .int .i64 (lowL (prs (distBc D) k j)) ∧ Ext w1 wr2) (fun _ i _ => k - (intOf i).toNat)
      case atStart => exact ⟨0, Nat.zero_le _, rfl, rfl, (by repeat (first | (with_reducible exact Ext.refl _) | (with_reducible refine Ext.drewN ?_ _) | (with_reducible refine Ext.drew ?_) | (with_reducible refine Ext.alloc ?_ _) | ((with_reducible refine Ext.setCell ?_ ?_ _); rotate_left; focus (first | (simp; done) | (simp; omega) | omega)) | assumption | (with_reducible refine Ext.trans ?_ (by assumption))))⟩
      case round =>
        rename_i wr2
        obtain ⟨j, hj, rfl, rfl, hx2⟩ := hrel
        have hmb := HMb.out k j (.inl hlt) hj
        by_cases hjk : j < k
        · have hjn : j < n := by omega
          have HAij := Lib.hid (HA.out k j hlt hjn)
          rw [HF.out k j hlt hjn] at HAij
          have HN := Lib.hid (lowL_snoc (prs (distBc D) k j) (distBc D k j))
          rw [← prs_k, lowf] at HN
          generalize distBc D k j = d at *
          generalize lowL (prs (distBc D) k j) = m at *
          by_cases hm0 : m < 0
          · go_wp2
            (refine wp_region_up (by kernel_rfl) (by kernel_rfl) (by kernel_rfl) ?_; (repeat (first | (refine mix_q rfl ?_; go_big_quiet_step (fail); refine wpQuiet_nil ?_; show wpMix _ _ _ _ _ _ _) | (refine mix_s rfl ?_; go_wp2_with (((with_reducible refine (HAij.out _).mono ?_); rintro e w4 ⟨rfl, hy4⟩; have hxw4 : Ext w1 w4 := Ext.trans (by repeat (first | (with_reducible exact Ext.refl _) | (with_reducible refine Ext.drewN ?_ _) | (with_reducible refine Ext.drew ?_) | (with_reducible refine Ext.alloc ?_ _) | ((with_reducible refine Ext.setCell ?_ ?_ _); rotate_left; focus (first | (simp; done) | (simp; omega) | omega)) | assumption | (with_reducible refine Ext.trans ?_ (by assumption)))) hy4; have hxw5 := hy4)); first | refine ⟨up_of (by repeat (first | (with_reducible exact Ext.refl _) | (with_reducible refine Ext.drewN ?_ _) | (with_reducible refine Ext.drew ?_) | (with_reducible refine Ext.alloc ?_ _) | ((with_reducible refine Ext.setCell ?_ ?_ _); rotate_left; focus (first | (simp; done) | (simp; omega) | omega)) | assumption | (with_reducible refine Ext.trans ?_ (by assumption)))), ?_⟩ | refine ⟨rfl, rfl, up_of (by repeat (first | (with_reducible exact Ext.refl _) | (with_reducible refine Ext.drewN ?_ _) | (with_reducible refine Ext.drew ?_) | (with_reducible refine Ext.alloc ?_ _) | ((with_reducible refine Ext.setCell ?_ ?_ _); rotate_left; focus (first | (simp; done) | (simp; omega) | omega)) | assumption | (with_reducible refine Ext.trans ?_ (by assumption)))), ?_⟩))); refine mix_nil ?_)
            go_wp2
            exact ⟨⟨j + 1, by omega, by go_num, by rw [HN.out, if_pos (.inl hm0)], (by repeat (first | (with_reducible exact Ext.refl _) | (with_reducible refine Ext.drewN ?_ _) | (with_reducible refine Ext.drew ?_) | (with_reducible refine Ext.alloc ?_ _) | ((with_reducible refine Ext.setCell ?_ ?_ _); rotate_left; focus (first | (simp; done) | (simp; omega) | omega)) | assumption | (with_reducible refine Ext.trans ?_ (by assumption))))⟩, by simp [intOf]; omega⟩
          · by_cases hdm : d < m
            · go_wp2
              (refine wp_region_up (by kernel_rfl) (by kernel_rfl) (by kernel_rfl) ?_; (repeat (first | (refine mix_q rfl ?_; go_big_quiet_step (fail); refine wpQuiet_nil ?_; show wpMix _ _ _ _ _ _ _) | (refine mix_s rfl ?_; go_wp2_with (((with_reducible refine (HAij.out _).mono ?_); rintro e w4 ⟨rfl, hy4⟩; have hxw4 : Ext w1 w4 := Ext.trans (by repeat (first | (with_reducible exact Ext.refl _) | (with_reducible refine Ext.drewN ?_ _) | (with_reducible refine Ext.drew ?_) | (with_reducible refine Ext.alloc ?_ _) | ((with_reducible refine Ext.setCell ?_ ?_ _); rotate_left; focus (first | (simp; done) | (simp; omega) | omega)) | assumption | (with_reducible refine Ext.trans ?_ (by assumption)))) hy4; have hxw5 := hy4)); first | refine ⟨up_of (by repeat (first | (with_reducible exact Ext.refl _) | (with_reducible refine Ext.drewN ?_ _) | (with_reducible refine Ext.drew ?_) | (with_reducible refine Ext.alloc ?_ _) | ((with_reducible refine Ext.setCell ?_ ?_ _); rotate_left; focus (first | (simp; done) | (simp; omega) | omega)) | assumption | (with_reducible refine Ext.trans ?_ (by assumption)))), ?_⟩ | refine ⟨rfl, rfl, up_of (by repeat (first | (with_reducible exact Ext.refl _) | (with_reducible refine Ext.drewN ?_ _) | (with_reducible refine Ext.drew ?_) | (with_reducible refine Ext.alloc ?_ _) | ((with_reducible refine Ext.setCell ?_ ?_ _); rotate_left; focus (first | (simp; done) | (simp; omega) | omega)) | assumption | (with_reducible refine Ext.trans ?_ (by assumption)))), ?_⟩))); refine mix_nil ?_)
              go_wp2
              exact ⟨⟨j + 1, by omega, by go_num, by rw [HN.out, if_pos (.inr hdm)], (by repeat (first | (with_reducible exact Ext.refl _) | (with_reducible refine Ext.drewN ?_ _) | (with_reducible refine Ext.drew ?_) | (with_reducible refine Ext.alloc ?_ _) | ((with_reducible refine Ext.setCell ?_ ?_ _); rotate_left; focus (first | (simp; done) | (simp; omega) | omega)) | assumption | (with_reducible refine Ext.trans ?_ (by assumption))))⟩, by simp [intOf]; omega⟩
            · go_wp2
              (refine wp_region_up (by kernel_rfl) (by kernel_rfl) (by kernel_rfl) ?_; (repeat (first | (refine mix_q rfl ?_; go_big_quiet_step (fail); refine wpQuiet_nil ?_; show wpMix _ _ _ _ _ _ _) | (refine mix_s rfl ?_; go_wp2_with (((with_reducible refine (HAij.out _).mono ?_); rintro e w4 ⟨rfl, hy4⟩; have hxw4 : Ext w1 w4 := Ext.trans (by repeat (first | (with_reducible exact Ext.refl _) | (with_reducible refine Ext.drewN ?_ _) | (with_reducible refine Ext.drew ?_) | (with_reducible refine Ext.alloc ?_ _) | ((with_reducible refine Ext.setCell ?_ ?_ _); rotate_left; focus (first | (simp; done) | (simp; omega) | omega)) | assumption | (with_reducible refine Ext.trans ?_ (by assumption)))) hy4; have hxw5 := hy4)); first | refine ⟨up_of (by repeat (first | (with_reducible exact Ext.refl _) | (with_reducible refine Ext.drewN ?_ _) | (with_reducible refine Ext.drew ?_) | (with_reducible refine Ext.alloc ?_ _) | ((with_reducible refine Ext.setCell ?_ ?_ _); rotate_left; focus (first | (simp; done) | (simp; omega) | omega)) | assumption | (with_reducible refine Ext.trans ?_ (by assumption)))), ?_⟩ | refine ⟨rfl, rfl, up_of (by repeat (first | (with_reducible exact Ext.refl _) | (with_reducible refine Ext.drewN ?_ _) | (with_reducible refine Ext.drew ?_) | (with_reducible refine Ext.alloc ?_ _) | ((with_reducible refine Ext.setCell ?_ ?_ _); rotate_left; focus (first | (simp; done) | (simp; omega) | omega)) | assumption | (with_reducible refine Ext.trans ?_ (by assumption)))), ?_⟩))); refine mix_nil ?_)
              go_wp2
              exact ⟨⟨j + 1, by omega, by go_num, by rw [HN.out, if_neg (by omega)], (by repeat (first | (with_reducible exact Ext.refl _) | (with_reducible refine Ext.drewN ?_ _) | (with_reducible refine Ext.drew ?_) | (with_reducible refine Ext.alloc ?_ _) | ((with_reducible refine Ext.setCell ?_ ?_ _); rotate_left; focus (first | (simp; done) | (simp; omega) | omega)) | assumption | (with_reducible refine Ext.trans ?_ (by assumption))))⟩, by simp [intOf]; omega⟩
        · obtain rfl : j = k := by omega
          go_wp2
          exact ⟨⟨j + 1, by omega, by go_num, by rw [prs_i], (by repeat (first | (with_reducible exact Ext.refl _) | (with_reducible refine Ext.drewN ?_ _) | (with_reducible refine Ext.drew ?_) | (with_reducible refine Ext.alloc ?_ _) | ((with_reducible refine Ext.setCell ?_ ?_ _); rotate_left; focus (first | (simp; done) | (simp; omega) | omega)) | assumption | (with_reducible refine Ext.trans ?_ (by assumption))))⟩, by simp [intOf]; omega⟩
    · obtain rfl : k = n := by omega
      go_wp2
      go_ret2
      exact ⟨by rw [HR.out, HO.out]; rfl, (by repeat (first | (with_reducible exact Ext.refl _) | (with_reducible refine Ext.drewN ?_ _) | (with_reducible refine Ext.drew ?_) | (with_reducible refine Ext.alloc ?_ _) | ((with_reducible refine Ext.setCell ?_ ?_ _); rotate_left; focus (first | (simp; done) | (simp; omega) | omega)) | assumption | (with_reducible refine Ext.trans ?_ (by assumption))))⟩

/-! ### the laws' helpers -/
def bcVal (D : Bc) (a : Option Addr) (n c : Nat) : Value := .agg #[.string D.start, .string D.stop, .slice a n c, .int .i64 D.gap]
/-- a barcode of the call's own -/
def RetBc (D : Bc) (w : World) (e : Ending) (w' : World) : Prop :=
  ∃ a c, e = .returned (.agg #[.string D.start, .string D.stop, .slice a D.pats.length c, .int .i64 D.gap]) ∧ Own w' w.heap.size 9 a D.pats.length c (St D.pats) ∧ Ext w w'
theorem Own.strs {w : World} {B : Nat} {E : TypeId} {a : Option Addr} {n c : Nat} {l : List ByteArray} (h : Own w B E a n c (St l)) : Strs w a n c l := Own.sl h
set_option maxHeartbeats 400000 in
theorem toBc (D : Bc) (a : Option Addr) (n c : Nat) (w : World) (hv : Strs w a n c D.pats) (hn : n ≤ 4194304) :
    Calls Try.prog 16 #[.agg #[.string D.start, .string D.stop, .slice a n c, .int .i64 D.gap]] w (RetBc D w) := by
  have HL := Lib.hid hv.len
  have HV := Lib.hid hv
  clear hv
  go_enter Try.func16, Try.ntmps16
  go_wp2_with fail
  refine (toStrs a n c D.pats _ (HV.out.ext (by repeat (first | (with_reducible exact Ext.refl _) | (with_reducible refine Ext.drewN ?_ _) | (with_reducible refine Ext.drew ?_) | (with_reducible refine Ext.alloc ?_ _) | ((with_reducible refine Ext.setCell ?_ ?_ _); rotate_left; focus (first | (simp; done) | (simp; omega) | omega)) | assumption | (with_reducible refine Ext.trans ?_ (by assumption))))) hn).mono ?_
  rintro e w1 ⟨a1, c1, rfl, ho1, hx1⟩
  rw [St_len, HL.out] at ho1 ⊢
  obtain ⟨hc, hf⟩ := bcell hx1
  have HO1 := Lib.hid (ho1.mono (B' := w.heap.size + 3) (by simp))
  have HX1 := Lib.hid hx1
  clear ho1 hx1
  go_wp2
  refine bodyPost_ret (v := .agg #[.string D.start, .string D.stop, .slice a1 n c1, .int .i64 D.gap]) ?_ rfl ?_
  · simp [results, Try.results16, go_sem, hc]
  · refine ⟨a1, c1, ?_, ?_, (by repeat (first | (with_reducible exact Ext.refl _) | (with_reducible refine Ext.drewN ?_ _) | (with_reducible refine Ext.drew ?_) | (with_reducible refine Ext.alloc ?_ _) | ((with_reducible refine Ext.setCell ?_ ?_ _); rotate_left; focus (first | (simp; done) | (simp; omega) | omega)) | (with_reducible refine Ext.trans ?_ HX1.out)))⟩
    · rw [HL.out]
    · rw [HL.out]
      refine Own.mono (B := w.heap.size + 3) (by repeat (first | (with_reducible exact HO1.out) | ((with_reducible refine Own.setBelow ?_ ?_ _); rotate_left; focus (first | (simp; done) | (simp; omega) | omega)))) (by omega)
set_option maxHeartbeats 400000 in
theorem eqBc (D : Bc) (a a' : Option Addr) (n c c' : Nat) (w : World) (hv : Strs w a n c D.pats) (hv' : Strs w a' n c' D.pats) (hn : n ≤ 4194304) :
    Calls Try.prog 18 #[.agg #[.string D.start, .string D.stop, .slice a n c, .int .i64 D.gap], .agg #[.string D.start, .string D.stop, .slice a' n c', .int .i64 D.gap]] w (Ret (.bool true) w) := by
  have HE := Lib.hid (fun W h h' => eqStrs a a' n n c c' D.pats D.pats W h h' (by omega) (by omega))
  have HV := Lib.hid hv
  have HV' := Lib.hid hv'
  clear hv hv'
  have hd : decide (D.pats = D.pats) = true := by simp
  rw [hd] at HE
  go_enter Try.func18, Try.ntmps18
  go_wp2_with fail
  refine (HE.out _ (HV.out.ext (by repeat (first | (with_reducible exact Ext.refl _) | (with_reducible refine Ext.drewN ?_ _) | (with_reducible refine Ext.drew ?_) | (with_reducible refine Ext.alloc ?_ _) | ((with_reducible refine Ext.setCell ?_ ?_ _); rotate_left; focus (first | (simp; done) | (simp; omega) | omega)) | assumption | (with_reducible refine Ext.trans ?_ (by assumption))))) (HV'.out.ext (by repeat (first | (with_reducible exact Ext.refl _) | (with_reducible refine Ext.drewN ?_ _) | (with_reducible refine Ext.drew ?_) | (with_reducible refine Ext.alloc ?_ _) | ((with_reducible refine Ext.setCell ?_ ?_ _); rotate_left; focus (first | (simp; done) | (simp; omega) | omega)) | assumption | (with_reducible refine Ext.trans ?_ (by assumption)))))).mono ?_
  rintro e w1 ⟨rfl, hx⟩
  obtain ⟨hc, hf⟩ := bcell hx
  go_wp2
  go_ret
  exact ⟨rfl, (by repeat (first | (with_reducible exact Ext.refl _) | (with_reducible refine Ext.drewN ?_ _) | (with_reducible refine Ext.drew ?_) | (with_reducible refine Ext.alloc ?_ _) | ((with_reducible refine Ext.setCell ?_ ?_ _); rotate_left; focus (first | (simp; done) | (simp; omega) | omega)) | assumption | (with_reducible refine Ext.trans ?_ (by assumption))))⟩
def bcSize (D : Bc) : Nat := D.start.size + D.stop.size + (D.pats.length + sizeS D.pats)
set_option maxHeartbeats 1000000 in
theorem szBc (D : Bc) (a : Option Addr) (n c : Nat) (left : Int) (w : World) (hv : Strs w a n c D.pats) (hn : n ≤ 9223372036854775807) (hs : D.start.size ≤ 9223372036854775807) (ht : D.stop.size ≤ 9223372036854775807) (hp : ∀ p ∈ D.pats, p.size ≤ 9223372036854775807) (h0 : 0 ≤ left) (h1 : left ≤ 1048576) :
    Calls Try.prog 14 #[.agg #[.string D.start, .string D.stop, .slice a n c, .int .i64 D.gap], .int .i64 left] w (Ret (.int .i64 (leftOf left (bcSize D))) w) := by
  have HL := Lib.hid hv.len
  have HS := Lib.hid (fun W left h h0 h1 => szStrs a n c D.pats left W h hn hp h0 h1)
  have HV := Lib.hid hv
  clear hv
  by_cases hl : left < D.start.size
  · go_enter Try.func14, Try.ntmps14
    go_wp2
    go_ret
    exact ⟨ri (by unfold leftOf bcSize; rw [if_pos (by omega)]), (by repeat (first | (with_reducible exact Ext.refl _) | (with_reducible refine Ext.drewN ?_ _) | (with_reducible refine Ext.drew ?_) | (with_reducible refine Ext.alloc ?_ _) | ((with_reducible refine Ext.setCell ?_ ?_ _); rotate_left; focus (first | (simp; done) | (simp; omega) | omega)) | assumption | (with_reducible refine Ext.trans ?_ (by assumption))))⟩
  by_cases hl2 : left - D.start.size < D.stop.size
  · go_enter Try.func14, Try.ntmps14
    go_wp2
    go_ret
    exact ⟨ri (by unfold leftOf bcSize; rw [if_pos (by omega)]), (by repeat (first | (with_reducible exact Ext.refl _) | (with_reducible refine Ext.drewN ?_ _) | (with_reducible refine Ext.drew ?_) | (with_reducible refine Ext.alloc ?_ _) | ((with_reducible refine Ext.setCell ?_ ?_ _); rotate_left; focus (first | (simp; done) | (simp; omega) | omega)) | assumption | (with_reducible refine Ext.trans ?_ (by assumption))))⟩
  have HE := Lib.hid (show leftOf (left - D.start.size - D.stop.size) (n + sizeS D.pats) = leftOf left (bcSize D) by unfold leftOf bcSize; rw [HL.out]; split <;> split <;> omega)
  have hlo : leftOf left (bcSize D) = -1 ∨ 0 ≤ leftOf left (bcSize D) := by unfold leftOf; split <;> omega
  have HX := Lib.hid (HS.out (w.alloc (.cells #[.string D.start, .string D.stop, .slice a n c, .int .i64 D.gap] 24)) (left - D.start.size - D.stop.size) (HV.out.ext (by repeat (first | (with_reducible exact Ext.refl _) | (with_reducible refine Ext.drewN ?_ _) | (with_reducible refine Ext.drew ?_) | (with_reducible refine Ext.alloc ?_ _) | ((with_reducible refine Ext.setCell ?_ ?_ _); rotate_left; focus (first | (simp; done) | (simp; omega) | omega)) | assumption | (with_reducible refine Ext.trans ?_ (by assumption))))) (by omega) (by omega))
  rw [HE.out] at HX
  generalize leftOf left (bcSize D) = r at *
  go_enter Try.func14, Try.ntmps14
  go_wp2_with (refine HX.out.mono ?_; rintro e w1 ⟨rfl, rfl⟩)
  all_goals (go_ret; exact ⟨ri (by omega), (by repeat (first | (with_reducible exact Ext.refl _) | (with_reducible refine Ext.drewN ?_ _) | (with_reducible refine Ext.drew ?_) | (with_reducible refine Ext.alloc ?_ _) | ((with_reducible refine Ext.setCell ?_ ?_ _); rotate_left; focus (first | (simp; done) | (simp; omega) | omega)) | assumption | (with_reducible refine Ext.trans ?_ (by assumption))))⟩)
end Go.Proofs.Ytnmkckghfckgbaa
