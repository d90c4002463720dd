/- Walks: whether a table is a group, in the program and in the reference. -/
import Derived.Test.YtohenfbgjjifbaaGrA
namespace Go.Proofs.Ytohenfbgjjifbaa
set_option maxRecDepth 100000
open Go.RowKit

def RetIs (T : List (List Int)) (n : Nat) (w : World) (e : Ending) (w' : World) : Prop := ∃ b : Bool, e = .returned (.bool b) ∧ (b = true → ∃ i, GrpT T n i) ∧ Ext w w'
theorem sq_of {T : List (List Int)} {n : Nat} (hl : T.length = n) (h : ∀ i, i < n → (gl T i).length = n ∧ belowB (gl T i) n = true) : SqT T n :=
  ⟨hl, fun x hx => (h x hx).1, fun x hx y hy => by
    have h1 := (h x hx).2
    unfold belowB at h1
    have h2 := inB_t.1 (List.all_eq_true.1 h1 (gi (gl T x) y) (gi_mem (by rw [(h x hx).1]; exact hy)))
    unfold tp
    omega⟩
theorem grp_of {T : List (List Int)} {n e : Nat} (hs : SqT T n) (h1 : 1 ≤ n) (h10 : n ≤ 10) (he : e < n) (hid : IsId T n e) (hinv : ∀ x, x < n → ∃ y, y < n ∧ tq T x y = e ∧ tq T y x = e)
    (has : ∀ x, x < n → ∀ y, y < n → ∀ z, z < n → tq T (tq T x y) z = tq T x (tq T y z)) : GrpT T n e :=
  ⟨hs, h1, h10, he, fun x hx => by rw [(hs.q he hx).1, (hid x hx).1], fun x hx => by rw [(hs.q hx he).1, (hid x hx).2],
    fun x hx => by obtain ⟨y, hy, g1, g2⟩ := hinv x hx; exact ⟨y, hy, by rw [(hs.q hx hy).1, g1], by rw [(hs.q hy hx).1, g2]⟩,
    fun x hx y hy z hz => by rw [(hs.q (hs.q hx hy).2 hz).1, (hs.q hx (hs.q hy hz).2).1, has x hx y hy z hz]⟩
theorem GrpT.isId {T : List (List Int)} {n e : Nat} (h : GrpT T n e) : IsId T n e := fun x hx => ⟨tq_of (h.il x hx), tq_of (h.ir x hx)⟩
theorem GrpT.uniqI {T : List (List Int)} {n e i : Nat} (h : GrpT T n e) (hi : i < n) (hid : IsId T n i) : i = e := h.uniq hi fun y hy => by rw [(h.sq.q hi hy).1, (hid y hy).1]
theorem GrpT.asq {T : List (List Int)} {n e x y z : Nat} (h : GrpT T n e) (hx : x < n) (hy : y < n) (hz : z < n) : tq T (tq T x y) z = tq T x (tq T y z) := by
  have := h.ass x hx y hy z hz; unfold tq at this ⊢; rw [this]
set_option maxHeartbeats 8000000 in
theorem spec_is (T : List (List Int)) (n q : Nat) (a : Option Addr) (c : Nat) (w : World) (hv : Mat w a n c T) (hn : n ≤ 1048576) (hr : ∀ r ∈ T, r.length ≤ 1048576) (hq : ∀ w', Ext w w' → w'.cell? ⟨q, 0, none⟩ = some (.slice a n c)) :
    Calls Try.prog 15 #[.pointer (some ⟨q, 0, none⟩)] w (RetIs T n w) := by
  have HV := Lib.hid hv
  have HLn := Lib.hid hv.len
  have HR := Lib.hid hr
  clear hv hr
  have c0 := hq w (Ext.refl _)
  by_cases h1 : 1 ≤ n
  case neg =>
    obtain rfl : n = 0 := by omega
    go_enter Try.func15, Try.ntmps15
    go_wp2_with fail
    go_ret
    exact ⟨false, rfl, (fun h => by cases h), Ext.refl _⟩
  by_cases h10 : n ≤ 10
  case neg =>
    go_enter Try.func15, Try.ntmps15
    go_wp2_with fail
    go_ret
    exact ⟨false, rfl, (fun h => by cases h), Ext.refl _⟩
  go_enter Try.func15, Try.ntmps15
  go_wp2_with fail
  go_loopw [4] (fun v4 wr => ∃ k : Nat, k ≤ n ∧ v4 = .int .i64 k ∧ Hid (∀ i, i < k → (gl T i).length = n ∧ belowB (gl T i) n = true) ∧ Ext w wr) (fun v4 _ => n - (intOf v4).toNat)
  case atStart => exact ⟨0, Nat.zero_le _, rfl, (fun i hi => by omega), Ext.refl _⟩
  case round =>
    obtain ⟨k, hk, rfl, HI, hx⟩ := hrel
    have cq : ∀ w', Ext wr w' → w'.cell? ⟨q, 0, none⟩ = some (.slice a n c) := fun w' h => hq w' (hx.trans h)
    have cq0 := cq wr (Ext.refl _)
    by_cases hlt : k < n
    · obtain ⟨b1, o1, a1, n1, c1, ⟨f1, f2⟩, hrow⟩ := (HV.out.ext hx).one (P := Try.prog) 24 28 und_rows cell_row1 (k : Int) (by omega) (by omega)
      rw [Int.toNat_natCast] at hrow
      have f20 := f2 wr (Ext.refl _)
      have hn1 : n1 ≤ 1048576 := by rw [← hrow.len]; exact HR.out _ (gl_mem (by rw [HLn.out]; exact hlt))
      have HRow := Lib.hid hrow
      have HRl := Lib.hid hrow.len
      clear hrow
      by_cases hnn : n1 = n
      · have hne : ((n1 : Int) != (n : Int)) = false := by simp [hnn]
        have HBl := Lib.hid (fun W (h : Ext wr W) => spec_below a1 n1 c1 (gl T k) (n : Int) W (HRow.out.ext h) (by omega) (by omega) (by omega))
        have HNn := Lib.hid hnn
        have HBv := Lib.hid (show ∀ b, belowB (gl T k) n = b → b = true → ∀ i, i < k + 1 → (gl T i).length = n ∧ belowB (gl T i) n = true from fun b hb ht i hi => by
          rcases Nat.lt_or_ge i k with h | h
          · exact HI.out i h
          · obtain rfl : i = k := by omega
            exact ⟨by rw [HRl.out, HNn.out], by rw [hb, ht]⟩)
        clear hnn
        obtain ⟨bb, hbb⟩ : ∃ b, b = belowB (gl T k) n := ⟨_, rfl⟩
        rw [← hbb] at HBl
        have HB3 := Lib.hid (HBv.out bb hbb.symm)
        clear hbb
        cases bb
        · go_wp2_with (go_at_call 41; (with_reducible refine (HBl.out _ (by repeat (first | (with_reducible exact Ext.refl _) | (with_reducible assumption) | (with_reducible refine Ext.drewN ?_ _) | (with_reducible refine Ext.drew ?_) | (with_reducible refine Ext.alloc ?_ _) | ((with_reducible refine Ext.setCell ?_ ?_ _); rotate_left; focus (first | (simp; done) | (simp; omega) | omega)) | (with_reducible refine Ext.trans ?_ (by with_reducible assumption))))).mono ?_); rintro e w1 ⟨rfl, rfl⟩)
          go_ret
          exact ⟨false, rfl, (fun h => by cases h), hx⟩
        · go_wp2_with (go_at_call 41; (with_reducible refine (HBl.out _ (by repeat (first | (with_reducible exact Ext.refl _) | (with_reducible assumption) | (with_reducible refine Ext.drewN ?_ _) | (with_reducible refine Ext.drew ?_) | (with_reducible refine Ext.alloc ?_ _) | ((with_reducible refine Ext.setCell ?_ ?_ _); rotate_left; focus (first | (simp; done) | (simp; omega) | omega)) | (with_reducible refine Ext.trans ?_ (by with_reducible assumption))))).mono ?_); rintro e w1 ⟨rfl, rfl⟩)
          exact ⟨⟨k + 1, by omega, by go_num, HB3.out (by trivial), hx⟩, by simp [intOf]; omega⟩
      · have hne : ((n1 : Int) != (n : Int)) = true := by simp; omega
        clear hnn
        go_wp2_with fail
        go_ret
        exact ⟨false, rfl, (fun h => by cases h), hx⟩
    · obtain rfl : k = n := by omega
      have HSq := Lib.hid (sq_of HLn.out HI.out)
      have HId := Lib.hid (fun W (h : Ext wr W) => ident3 T k a c W ((HV.out.ext hx).ext h) HSq.out (by omega))
      go_wp2_with (go_at_call 42; (with_reducible refine (HId.out _ (by repeat (first | (with_reducible exact Ext.refl _) | (with_reducible assumption) | (with_reducible refine Ext.drewN ?_ _) | (with_reducible refine Ext.drew ?_) | (with_reducible refine Ext.alloc ?_ _) | ((with_reducible refine Ext.setCell ?_ ?_ _); rotate_left; focus (first | (simp; done) | (simp; omega) | omega)) | (with_reducible refine Ext.trans ?_ (by with_reducible assumption))))).mono ?_); rintro e w1 ⟨v, rfl, hvv, hx1⟩)
      · go_ret
        exact ⟨false, rfl, (fun h => by cases h), hx.trans hx1⟩
      have hvn : 0 ≤ v := by first | omega | (have h := ‹decide (v < 0) = false›; simp at h; omega)
      rcases hvv with ⟨rfl, hno⟩ | ⟨e, he, rfl, hid⟩
      · simp at hvn
      have HIde := Lib.hid hid
      have hxw1 : Ext w w1 := hx.trans hx1
      clear hid
      go_wp2_with fail
      go_loopw [6] (fun v6 wr => ∃ x : Nat, x ≤ k ∧ v6 = .int .i64 x ∧ Hid (∀ i, i < x → (∃ y, y < k ∧ tq T i y = e ∧ tq T y i = e) ∧ ∀ y, y < k → ∀ z, z < k → tq T (tq T i y) z = tq T i (tq T y z)) ∧ Ext w wr) (fun v6 _ => k - (intOf v6).toNat)
      case atStart => exact ⟨0, Nat.zero_le _, rfl, (fun i hi => by omega), hxw1⟩
      case round =>
        clear cq cq0 hx hx1 hxw1 hlt hk
        obtain ⟨x, hxk, rfl, HAs, hx⟩ := hrel
        have cq : ∀ w', Ext wr w' → w'.cell? ⟨q, 0, none⟩ = some (.slice a k c) := fun w' h => hq w' (hx.trans h)
        have cq0 := cq wr (Ext.refl _)
        by_cases hlx : x < k
        · have HIv := Lib.hid (fun W (h : Ext wr W) => invers7 T k e x a c W ((HV.out.ext hx).ext h) HSq.out (by omega) hlx)
          go_wp2_with (go_at_call 43; (with_reducible refine (HIv.out _ (by repeat (first | (with_reducible exact Ext.refl _) | (with_reducible assumption) | (with_reducible refine Ext.drewN ?_ _) | (with_reducible refine Ext.drew ?_) | (with_reducible refine Ext.alloc ?_ _) | ((with_reducible refine Ext.setCell ?_ ?_ _); rotate_left; focus (first | (simp; done) | (simp; omega) | omega)) | (with_reducible refine Ext.trans ?_ (by with_reducible assumption))))).mono ?_); rintro e1 w1 ⟨v, rfl, hvv, hx1⟩)
          · go_ret
            exact ⟨false, rfl, (fun h => by cases h), hx.trans hx1⟩
          have hvn : 0 ≤ v := by first | omega | (have h := ‹decide (v < 0) = false›; simp at h; omega)
          rcases hvv with ⟨rfl, hno⟩ | ⟨y0, hy0, rfl, hi1, hi2⟩
          · simp at hvn
          have HY := Lib.hid (show ∃ y, y < k ∧ tq T x y = e ∧ tq T y x = e from ⟨y0, hy0, hi1, hi2⟩)
          have hxw1 : Ext w w1 := hx.trans hx1
          clear hi1 hi2
          go_wp2_with fail
          go_loopw [7] (fun v7 wr => ∃ y : Nat, y ≤ k ∧ v7 = .int .i64 y ∧ Hid (∀ i, i < y → ∀ z, z < k → tq T (tq T x i) z = tq T x (tq T i z)) ∧ Ext w wr) (fun v7 _ => k - (intOf v7).toNat)
          case atStart => exact ⟨0, Nat.zero_le _, rfl, (fun i hi => by omega), hxw1⟩
          case round =>
            clear cq cq0 hx hx1 hxw1
            obtain ⟨y, hyk, rfl, HAy, hx⟩ := hrel
            by_cases hly : y < k
            · go_wp2_with fail
              go_loopw [8] (fun v8 wr => ∃ z : Nat, z ≤ k ∧ v8 = .int .i64 z ∧ Hid (∀ i, i < z → tq T (tq T x y) i = tq T x (tq T y i)) ∧ Ext w wr) (fun v8 _ => k - (intOf v8).toNat)
              case atStart => exact ⟨0, Nat.zero_le _, rfl, (fun i hi => by omega), hx⟩
              case round =>
                clear hx
                obtain ⟨z, hzk, rfl, HAz, hx⟩ := hrel
                have cq : ∀ w', Ext wr w' → w'.cell? ⟨q, 0, none⟩ = some (.slice a k c) := fun w' h => hq w' (hx.trans h)
                have cq0 := cq wr (Ext.refl _)
                by_cases hlz : z < k
                · have q1 := (HSq.out.q hlx hly).2
                  have q2 := (HSq.out.q hly hlz).2
                  obtain ⟨b1, o1, a1, c1, ⟨f1, f2⟩, _, hcx⟩ := sq_row (HV.out.ext hx) HSq.out hlx
                  obtain ⟨b2, o2, ⟨f3, f4⟩⟩ := hcx y hly
                  obtain ⟨b3, o3, a3, c3, b4, o4, ⟨f5, f6⟩, ⟨f7, f8⟩⟩ := sq_cell (HV.out.ext hx) HSq.out q1 hlz
                  obtain ⟨b5, o5, a5, c5, b6, o6, ⟨f9, f10⟩, ⟨f11, f12⟩⟩ := sq_cell (HV.out.ext hx) HSq.out hly hlz
                  obtain ⟨b8, o8, ⟨f15, f16⟩⟩ := hcx (tq T y z) q2
                  clear hcx
                  have HE := Lib.hid (show tq T (tq T x y) z = tq T x (tq T y z) → ∀ i, i < z + 1 → tq T (tq T x y) i = tq T x (tq T y i) from fun h i hi => by
                    rcases Nat.lt_or_ge i z with h2 | h2
                    · exact HAz.out i h2
                    · obtain rfl : i = z := by omega
                      exact h)
                  generalize tq T (tq T x y) z = u1 at *
                  generalize tq T x (tq T y z) = u2 at *
                  generalize tq T x y = u3 at *
                  generalize tq T y z = u4 at *
                  by_cases hu : u1 = u2
                  · have hub : ((u1 : Int) != (u2 : Int)) = false := by simp [hu]
                    have HE2 := Lib.hid (HE.out hu)
                    clear hu
                    go_wp2_with fail
                    (refine wp_region_up (by kernel_rfl) (by kernel_rfl) (by kernel_rfl) ?_; (repeat (first | (refine mix_q rfl ?_; go_big_quiet_step (fail); refine wpQuiet_nil ?_; show wpMix _ _ _ _ _ _ _) | (refine mix_s rfl ?_; go_wp2_with (fail); first | refine ⟨up_of (by repeat (first | (with_reducible exact Ext.refl _) | (with_reducible refine Ext.drewN ?_ _) | (with_reducible refine Ext.drew ?_) | (with_reducible refine Ext.alloc ?_ _) | ((with_reducible refine Ext.setCell ?_ ?_ _); rotate_left; focus (first | (simp; done) | (simp; omega) | omega)) | assumption | (with_reducible refine Ext.trans ?_ (by assumption)))), ?_⟩ | refine ⟨rfl, rfl, up_of (by repeat (first | (with_reducible exact Ext.refl _) | (with_reducible refine Ext.drewN ?_ _) | (with_reducible refine Ext.drew ?_) | (with_reducible refine Ext.alloc ?_ _) | ((with_reducible refine Ext.setCell ?_ ?_ _); rotate_left; focus (first | (simp; done) | (simp; omega) | omega)) | assumption | (with_reducible refine Ext.trans ?_ (by assumption)))), ?_⟩))); refine mix_nil ?_)
                    go_wp2_with fail
                    exact ⟨⟨z + 1, by omega, by go_num, HE2.out, (by repeat (first | (with_reducible exact Ext.refl _) | (with_reducible assumption) | (with_reducible refine Ext.drewN ?_ _) | (with_reducible refine Ext.drew ?_) | (with_reducible refine Ext.alloc ?_ _) | ((with_reducible refine Ext.setCell ?_ ?_ _); rotate_left; focus (first | (simp; done) | (simp; omega) | omega)) | (with_reducible refine Ext.trans ?_ (by with_reducible assumption))))⟩, by simp [intOf]; omega⟩
                  · have hub : ((u1 : Int) != (u2 : Int)) = true := by simp; omega
                    clear hu
                    go_wp2_with fail
                    (refine wp_region_up (by kernel_rfl) (by kernel_rfl) (by kernel_rfl) ?_; (repeat (first | (refine mix_q rfl ?_; go_big_quiet_step (fail); refine wpQuiet_nil ?_; show wpMix _ _ _ _ _ _ _) | (refine mix_s rfl ?_; go_wp2_with (fail); first | refine ⟨up_of (by repeat (first | (with_reducible exact Ext.refl _) | (with_reducible refine Ext.drewN ?_ _) | (with_reducible refine Ext.drew ?_) | (with_reducible refine Ext.alloc ?_ _) | ((with_reducible refine Ext.setCell ?_ ?_ _); rotate_left; focus (first | (simp; done) | (simp; omega) | omega)) | assumption | (with_reducible refine Ext.trans ?_ (by assumption)))), ?_⟩ | refine ⟨rfl, rfl, up_of (by repeat (first | (with_reducible exact Ext.refl _) | (with_reducible refine Ext.drewN ?_ _) | (with_reducible refine Ext.drew ?_) | (with_reducible refine Ext.alloc ?_ _) | ((with_reducible refine Ext.setCell ?_ ?_ _); rotate_left; focus (first | (simp; done) | (simp; omega) | omega)) | assumption | (with_reducible refine Ext.trans ?_ (by assumption)))), ?_⟩))); refine mix_nil ?_)
                    go_wp2_with fail
                    go_ret
                    exact ⟨false, rfl, (fun h => by cases h), (by repeat (first | (with_reducible exact Ext.refl _) | (with_reducible assumption) | (with_reducible refine Ext.drewN ?_ _) | (with_reducible refine Ext.drew ?_) | (with_reducible refine Ext.alloc ?_ _) | ((with_reducible refine Ext.setCell ?_ ?_ _); rotate_left; focus (first | (simp; done) | (simp; omega) | omega)) | (with_reducible refine Ext.trans ?_ (by with_reducible assumption))))⟩
                · obtain rfl : z = k := by omega
                  have HAy2 := Lib.hid (show ∀ i, i < y + 1 → ∀ t, t < z → tq T (tq T x i) t = tq T x (tq T i t) from fun i hi t ht => by
                    rcases Nat.lt_or_ge i y with h2 | h2
                    · exact HAy.out i h2 t ht
                    · obtain rfl : i = y := by omega
                      exact HAz.out t ht)
                  go_wp2_with fail
                  exact ⟨⟨y + 1, by omega, by go_num, HAy2.out, hx⟩, by simp [intOf]; omega⟩
            · obtain rfl : y = k := by omega
              have HAs2 := Lib.hid (show ∀ i, i < x + 1 → (∃ t, t < y ∧ tq T i t = e ∧ tq T t i = e) ∧ ∀ t, t < y → ∀ z, z < y → tq T (tq T i t) z = tq T i (tq T t z) from fun i hi => by
                rcases Nat.lt_or_ge i x with h2 | h2
                · exact HAs.out i h2
                · obtain rfl : i = x := by omega
                  exact ⟨HY.out, HAy.out⟩)
              go_wp2_with fail
              exact ⟨⟨x + 1, (by omega), (by go_num), HAs2.out, hx⟩, by simp [intOf]; omega⟩
        · obtain rfl : x = k := by omega
          go_wp2_with fail
          go_ret
          exact ⟨true, rfl, fun _ => ⟨e, grp_of HSq.out h1 h10 he HIde.out (fun i hi => (HAs.out i hi).1) (fun i hi => (HAs.out i hi).2)⟩, hx⟩
end Go.Proofs.Ytohenfbgjjifbaa
