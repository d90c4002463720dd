/- Walks: a group's table is found valid, in the program. -/
import Derived.Test.YtohenfbgjjifbaaGrB
namespace Go.Proofs.Ytohenfbgjjifbaa
set_option maxRecDepth 100000
open Go.RowKit

set_option maxHeartbeats 400000 in
theorem elem11 (x : Int) (n q : Nat) (w : World) (hc : w.cell? ⟨q, 0, none⟩ = some (.int .i64 n)) (hn : n ≤ 1048576) :
    Calls Try.prog 76 (#[.int .i64 x] ++ #[.pointer (some ⟨q, 0, none⟩)]) w (Ret (.bool (!inB x 0 ((n : Int) - 1))) w) := by
  go_enter Try.func76, Try.ntmps76
  go_wp2_with (go_at_call 18; refine (impl_in _ _ _ _).mono ?_; rintro e w' ⟨rfl, rfl⟩)
  go_ret
  exact ⟨rfl, Ext.refl _⟩
set_option maxHeartbeats 1000000 in
theorem elem1 (a : Option Addr) (n c : Nat) (l : List Int) (q : Nat) (w : World) (hv : Ints w a n c l) (hc : ∀ w', Ext w w' → w'.cell? ⟨q, 0, none⟩ = some (.int .i64 n)) (hn : n ≤ 1048576) (hb : belowB l n = true) :
    Calls Try.prog 75 (#[.slice a n c] ++ #[.pointer (some ⟨q, 0, none⟩)]) w (Ret (.bool false) w) := by
  have HC := Lib.hid (fun W (h : Ext w W) => containsFunc_ints a n c l 76 #[.pointer (some ⟨q, 0, none⟩)] (fun z => !inB z 0 ((n : Int) - 1)) (ofI fun z => !inB z 0 ((n : Int) - 1)) W (hv.ext h) (by omega) (fun z => rfl)
    ⟨fun _ _ => rfl, fun v hvl w' hx' => by obtain ⟨z, _, rfl⟩ := mem_I hvl; exact elem11 z n q w' (hc w' (h.trans hx')) hn⟩)
  rw [show (l.any fun z => !inB z 0 ((n : Int) - 1)) = false from by
    unfold belowB at hb
    have h2 := List.all_eq_not_any_not (l := l) (p := fun z => inB z 0 ((n : Int) - 1))
    rw [hb] at h2
    simpa using h2.symm] at HC
  have c0 := hc w (Ext.refl _)
  clear hv hb
  go_enter Try.func75, Try.ntmps75
  go_wp2_with (go_at_call 50; (with_reducible refine (HC.out _ (by repeat (first | (with_reducible exact Ext.refl _) | (with_reducible assumption) | (with_reducible refine Ext.drewN ?_ _) | (with_reducible refine Ext.drew ?_) | (with_reducible refine Ext.alloc ?_ _) | ((with_reducible refine Ext.setCell ?_ ?_ _); rotate_left; focus (first | (simp; done) | (simp; omega) | omega)) | (with_reducible refine Ext.trans ?_ (by with_reducible assumption))))).mono ?_); rintro e w1 ⟨rfl, hx⟩)
  go_ret
  exact ⟨rfl, hx⟩
theorem sq_below {T : List (List Int)} {n : Nat} (h : SqT T n) {x : Nat} (hx : x < n) : belowB (gl T x) n = true := by
  unfold belowB
  rw [List.all_eq_true]
  intro z hz
  obtain ⟨y, hy, rfl⟩ := List.mem_iff_getElem.1 hz
  have := h.bd x hx y (by rw [← h.row x hx]; exact hy)
  unfold tp at this
  rw [gi_get hy] at this
  exact inB_t.2 (by omega)
set_option maxHeartbeats 1000000 in
theorem impl_elements (T : List (List Int)) (n : Nat) (a : Option Addr) (c : Nat) (w : World) (hv : Mat w a n c T) (hs : SqT T n) (h1 : 1 ≤ n) (h10 : n ≤ 10) : Calls Try.prog 62 #[.slice a n c] w (Ret (.bool true) w) := by
  obtain ⟨vs, hvs, hrw⟩ := hv.rows
  have HC := Lib.hid (fun (q : Nat) (W : World) (hx : Ext w W) (hc : ∀ w', Ext W w' → w'.cell? ⟨q, 0, none⟩ = some (.int .i64 n)) =>
    containsFunc_rows2 a n c vs 75 #[.pointer (some ⟨q, 0, none⟩)] (fun _ => false) W (hvs.ext hx) (by omega) (fun _ _ => rfl) (fun k hk w' hx' => by
      obtain ⟨a', n', c', hv2, hi⟩ := hrw k hk
      have hl := hs.row k hk
      obtain rfl : n' = n := by have := hi.len; omega
      rw [hv2]
      exact elem1 a' n' c' (gl T k) q w' (hi.ext (hx.trans hx')) (fun w2 h2 => hc w2 (hx'.trans h2)) (by omega) (sq_below hs hk)))
  rw [show ((List.range n).any fun _ => false) = false by simp] at HC
  clear hv hvs hrw hs
  go_enter Try.func62, Try.ntmps62
  go_wp2_with fail
  obtain ⟨q, hq⟩ : ∃ q, q = w.heap.size := ⟨_, rfl⟩
  obtain ⟨wb, hwb⟩ : ∃ W, W = w.alloc (.cells #[.int .i64 n] 3) := ⟨_, rfl⟩
  have hxb : Ext w wb := by rw [hwb]; exact (by repeat (first | (with_reducible exact Ext.refl _) | (with_reducible refine Ext.drewN ?_ _) | (with_reducible refine Ext.drew ?_) | (with_reducible refine Ext.alloc ?_ _) | ((with_reducible refine Ext.setCell ?_ ?_ _); rotate_left; focus (first | (simp; done) | (simp; omega) | omega)) | assumption | (with_reducible refine Ext.trans ?_ (by assumption))))
  have HQ := Lib.hid (show SAt wb q 3 #[.int .i64 n] from by rw [hwb, hq]; exact SAt.new' _ _ _ rfl)
  rw [← hwb, ← hq]
  clear hwb hq
  have k0 : ∀ w', Ext wb w' → w'.cell? ⟨q, 0, none⟩ = some (.int .i64 n) := fun w' h => h.cell (HQ.out.cell 0 (by simp))
  have HC2 := Lib.hid (HC.out q wb hxb k0)
  have k00 := k0 wb (Ext.refl _)
  go_wp2_with (go_at_call 74; (with_reducible refine HC2.out.mono ?_); rintro e w1 ⟨rfl, hx1⟩)
  go_ret
  exact ⟨rfl, hxb.trans hx1⟩
set_option maxHeartbeats 8000000 in
theorem impl_ValidGroup (T : List (List Int)) (n e : Nat) (a : Option Addr) (c : Nat) (w : World) (hv : Mat w a n c T) (hg : GrpT T n e) : Calls Try.prog 45 #[.agg #[.slice a n c]] w (Ret (.bool true) w) := by
  have HV := Lib.hid hv
  have HG := Lib.hid hg
  have h1 := hg.n1
  have h10 := hg.n10
  have HE := Lib.hid (fun W (h : Ext w W) => impl_elements T n a c W (hv.ext h) hg.sq h1 h10)
  have HI := Lib.hid (fun W (h : Ext w W) => (ident8 T n a c W (hv.ext h) hg.sq (by omega)).mono (R' := Ret (.int .i64 (e : Int)) W) (by
    rintro en w1 ⟨v, rfl, hvv, hx1⟩
    rcases hvv with ⟨rfl, hno⟩ | ⟨i, hi, rfl, hid⟩
    · exact absurd hg.isId (hno e hg.e0)
    · rw [hg.uniqI hi hid]
      exact ⟨rfl, hx1⟩))
  have HN := Lib.hid (fun x (hx : x < n) W (h : Ext w W) => (invers10 T n e x a c W (hv.ext h) hg.sq (by omega) hx).mono (R' := fun en w' => ∃ y : Nat, en = .returned (.int .i64 (y : Int)) ∧ Ext W w') (by
    rintro en w1 ⟨v, rfl, hvv, hx1⟩
    rcases hvv with ⟨rfl, hno⟩ | ⟨y, hy, rfl, _⟩
    · obtain ⟨y, hy, g1, g2⟩ := hg.inv x hx
      exact absurd ⟨tq_of g1, tq_of g2⟩ (hno y hy)
    · exact ⟨y, rfl, hx1⟩))
  have HEl : Hid (e < n) := hg.e0
  clear hv hg
  go_enter Try.func45, Try.ntmps45
  go_wp2_with fail
  obtain ⟨q, hq⟩ : ∃ q, q = w.heap.size := ⟨_, rfl⟩
  obtain ⟨wb, hwb⟩ : ∃ W, W = w.alloc (.cells #[.slice a n c] 26) := ⟨_, rfl⟩
  have hxb : Ext w wb := by rw [hwb]; exact (by repeat (first | (with_reducible exact Ext.refl _) | (with_reducible refine Ext.drewN ?_ _) | (with_reducible refine Ext.drew ?_) | (with_reducible refine Ext.alloc ?_ _) | ((with_reducible refine Ext.setCell ?_ ?_ _); rotate_left; focus (first | (simp; done) | (simp; omega) | omega)) | assumption | (with_reducible refine Ext.trans ?_ (by assumption))))
  have HQ := Lib.hid (show SAt wb q 26 #[.slice a n c] from by rw [hwb, hq]; exact SAt.new' _ _ _ rfl)
  rw [← hwb, ← hq]
  clear hwb hq
  have k0 : ∀ w', Ext wb w' → w'.cell? ⟨q, 0, none⟩ = some (.slice a n c) := fun w' h => h.cell (HQ.out.cell 0 (by simp))
  have k00 := k0 wb (Ext.refl _)
  go_wp2_with (first | (go_at_call 62; (with_reducible refine (HE.out _ (by repeat (first | (with_reducible exact Ext.refl _) | (with_reducible assumption) | (with_reducible refine Ext.drewN ?_ _) | (with_reducible refine Ext.drew ?_) | (with_reducible refine Ext.alloc ?_ _) | ((with_reducible refine Ext.setCell ?_ ?_ _); rotate_left; focus (first | (simp; done) | (simp; omega) | omega)) | (with_reducible refine Ext.trans ?_ (by with_reducible assumption))))).mono ?_); rintro e1 w1 ⟨rfl, hy1⟩; have hx1 : Ext w w1 := Ext.trans (by repeat (first | (with_reducible exact Ext.refl _) | (with_reducible assumption) | (with_reducible refine Ext.drewN ?_ _) | (with_reducible refine Ext.drew ?_) | (with_reducible refine Ext.alloc ?_ _) | ((with_reducible refine Ext.setCell ?_ ?_ _); rotate_left; focus (first | (simp; done) | (simp; omega) | omega)) | (with_reducible refine Ext.trans ?_ (by with_reducible assumption)))) hy1; clear hy1) | (go_at_call 19; (with_reducible refine (HI.out _ (by repeat (first | (with_reducible exact Ext.refl _) | (with_reducible assumption) | (with_reducible refine Ext.drewN ?_ _) | (with_reducible refine Ext.drew ?_) | (with_reducible refine Ext.alloc ?_ _) | ((with_reducible refine Ext.setCell ?_ ?_ _); rotate_left; focus (first | (simp; done) | (simp; omega) | omega)) | (with_reducible refine Ext.trans ?_ (by with_reducible assumption))))).mono ?_); rintro e1 w2 ⟨rfl, hy2⟩; have hx2 : Ext w w2 := Ext.trans (by repeat (first | (with_reducible exact Ext.refl _) | (with_reducible assumption) | (with_reducible refine Ext.drewN ?_ _) | (with_reducible refine Ext.drew ?_) | (with_reducible refine Ext.alloc ?_ _) | ((with_reducible refine Ext.setCell ?_ ?_ _); rotate_left; focus (first | (simp; done) | (simp; omega) | omega)) | (with_reducible refine Ext.trans ?_ (by with_reducible assumption)))) hy2; clear hy2))
  go_loopw [19] (fun v19 wr => ∃ x : Nat, x ≤ n ∧ v19 = .int .i64 x ∧ Ext w wr) (fun v19 _ => n - (intOf v19).toNat)
  case atStart => exact ⟨0, Nat.zero_le _, rfl, hx2⟩
  case round =>
    clear hx1 hx2 k00 k0
    obtain ⟨x, hxn, rfl, hx⟩ := hrel
    by_cases hlx : x < n
    · have HN2 := Lib.hid (HN.out x hlx)
      go_wp2_with (first | (go_at_call 19; (with_reducible refine (HI.out _ (by repeat (first | (with_reducible exact Ext.refl _) | (with_reducible assumption) | (with_reducible refine Ext.drewN ?_ _) | (with_reducible refine Ext.drew ?_) | (with_reducible refine Ext.alloc ?_ _) | ((with_reducible refine Ext.setCell ?_ ?_ _); rotate_left; focus (first | (simp; done) | (simp; omega) | omega)) | (with_reducible refine Ext.trans ?_ (by with_reducible assumption))))).mono ?_); rintro e1 w2 ⟨rfl, hy2⟩; have hx2 : Ext w w2 := Ext.trans (by repeat (first | (with_reducible exact Ext.refl _) | (with_reducible assumption) | (with_reducible refine Ext.drewN ?_ _) | (with_reducible refine Ext.drew ?_) | (with_reducible refine Ext.alloc ?_ _) | ((with_reducible refine Ext.setCell ?_ ?_ _); rotate_left; focus (first | (simp; done) | (simp; omega) | omega)) | (with_reducible refine Ext.trans ?_ (by with_reducible assumption)))) hy2; clear hy2) | (go_at_call 63; (with_reducible refine (HN2.out _ (by repeat (first | (with_reducible exact Ext.refl _) | (with_reducible assumption) | (with_reducible refine Ext.drewN ?_ _) | (with_reducible refine Ext.drew ?_) | (with_reducible refine Ext.alloc ?_ _) | ((with_reducible refine Ext.setCell ?_ ?_ _); rotate_left; focus (first | (simp; done) | (simp; omega) | omega)) | (with_reducible refine Ext.trans ?_ (by with_reducible assumption))))).mono ?_); rintro e1 w3 ⟨y, rfl, hy3⟩; have hx3 : Ext w w3 := Ext.trans (by repeat (first | (with_reducible exact Ext.refl _) | (with_reducible assumption) | (with_reducible refine Ext.drewN ?_ _) | (with_reducible refine Ext.drew ?_) | (with_reducible refine Ext.alloc ?_ _) | ((with_reducible refine Ext.setCell ?_ ?_ _); rotate_left; focus (first | (simp; done) | (simp; omega) | omega)) | (with_reducible refine Ext.trans ?_ (by with_reducible assumption)))) hy3; clear hy3))
      go_loopw [30] (fun v30 wr => ∃ y : Nat, y ≤ n ∧ v30 = .int .i64 y ∧ Ext w wr) (fun v30 _ => n - (intOf v30).toNat)
      case atStart => exact ⟨0, Nat.zero_le _, rfl, hx3⟩
      case round =>
        clear hx3 hx2 hx
        obtain ⟨y, hyn, rfl, hx⟩ := hrel
        by_cases hly : y < n
        · go_wp2_with fail
          go_loopw [35] (fun v35 wr => ∃ z : Nat, z ≤ n ∧ v35 = .int .i64 z ∧ Ext w wr) (fun v35 _ => n - (intOf v35).toNat)
          case atStart => exact ⟨0, Nat.zero_le _, rfl, hx⟩
          case round =>
            clear hx
            obtain ⟨z, hzn, rfl, hx⟩ := hrel
            by_cases hlz : z < n
            · have q1 := (HG.out.sq.q hlx hly).2
              have q2 := (HG.out.sq.q hly hlz).2
              obtain ⟨b1, o1, a1, c1, ⟨f1, f2⟩, _, hcx⟩ := sq_row (HV.out.ext hx) HG.out.sq hlx
              obtain ⟨b2, o2, ⟨f3, f4⟩⟩ := hcx y hly
              obtain ⟨b3, o3, a3, c3, b4, o4, ⟨f5, f6⟩, ⟨f7, f8⟩⟩ := sq_cell (HV.out.ext hx) HG.out.sq q1 hlz
              obtain ⟨b5, o5, a5, c5, b6, o6, ⟨f9, f10⟩, ⟨f11, f12⟩⟩ := sq_cell (HV.out.ext hx) HG.out.sq hly hlz
              obtain ⟨b8, o8, ⟨f15, f16⟩⟩ := hcx (tq T y z) q2
              have hu := HG.out.asq hlx hly hlz
              clear hcx
              generalize tq T (tq T x y) z = u1 at *
              generalize tq T x (tq T y z) = u2 at *
              generalize tq T x y = u3 at *
              generalize tq T y z = u4 at *
              have hub : ((u1 : Int) != (u2 : Int)) = false := by simp [hu]
              clear hu
              go_wp2_with fail
              (refine wp_region_up (by kernel_rfl) (by kernel_rfl) (by kernel_rfl) ?_; (repeat (first | (refine mix_q rfl ?_; go_big_quiet_step (fail); refine wpQuiet_nil ?_; show wpMix _ _ _ _ _ _ _) | (refine mix_s rfl ?_; go_wp2_with (fail); first | refine ⟨up_of (by repeat (first | (with_reducible exact Ext.refl _) | (with_reducible refine Ext.drewN ?_ _) | (with_reducible refine Ext.drew ?_) | (with_reducible refine Ext.alloc ?_ _) | ((with_reducible refine Ext.setCell ?_ ?_ _); rotate_left; focus (first | (simp; done) | (simp; omega) | omega)) | assumption | (with_reducible refine Ext.trans ?_ (by assumption)))), ?_⟩ | refine ⟨rfl, rfl, up_of (by repeat (first | (with_reducible exact Ext.refl _) | (with_reducible refine Ext.drewN ?_ _) | (with_reducible refine Ext.drew ?_) | (with_reducible refine Ext.alloc ?_ _) | ((with_reducible refine Ext.setCell ?_ ?_ _); rotate_left; focus (first | (simp; done) | (simp; omega) | omega)) | assumption | (with_reducible refine Ext.trans ?_ (by assumption)))), ?_⟩))); refine mix_nil ?_)
              go_wp2_with fail
              exact ⟨⟨z + 1, by omega, by go_num, (by repeat (first | (with_reducible exact Ext.refl _) | (with_reducible assumption) | (with_reducible refine Ext.drewN ?_ _) | (with_reducible refine Ext.drew ?_) | (with_reducible refine Ext.alloc ?_ _) | ((with_reducible refine Ext.setCell ?_ ?_ _); rotate_left; focus (first | (simp; done) | (simp; omega) | omega)) | (with_reducible refine Ext.trans ?_ (by with_reducible assumption))))⟩, by simp [intOf]; omega⟩
            · obtain rfl : z = n := by omega
              go_wp2_with fail
              exact ⟨⟨y + 1, by omega, by go_num, hx⟩, by simp [intOf]; omega⟩
        · obtain rfl : y = n := by omega
          go_wp2_with fail
          exact ⟨⟨x + 1, by omega, by go_num, hx⟩, by simp [intOf]; omega⟩
    · obtain rfl : x = n := by omega
      go_wp2_with fail
      go_ret
      exact ⟨rfl, hx⟩
set_option maxHeartbeats 1000000 in
theorem impl_has (T : List (List Int)) (n e q : Nat) (x : Int) (a : Option Addr) (c : Nat) (w : World) (hv : Mat w a n c T) (hg : GrpT T n e) (hq : ∀ w', Ext w w' → w'.cell? ⟨q, 0, none⟩ = some (.slice a n c)) (h0 : 0 ≤ x) (h1 : x < n) :
    Calls Try.prog 17 #[.pointer (some ⟨q, 0, none⟩), .int .i64 x] w (Ret (.bool true) w) := by
  have HV := Lib.hid (fun W (h : Ext w W) => impl_ValidGroup T n e a c W (hv.ext h) hg)
  have hn10 := hg.n10
  have hn1 := hg.n1
  have HI := Lib.hid (fun W => impl_in x 0 ((n : Int) - 1) W)
  rw [show inB x 0 ((n : Int) - 1) = true from inB_t.2 (by omega)] at HI
  have c0 := hq w (Ext.refl _)
  clear hv hg
  go_enter Try.func17, Try.ntmps17
  go_wp2_with (first | (go_at_call 45; (with_reducible refine (HV.out _ (by repeat (first | (with_reducible exact Ext.refl _) | (with_reducible assumption) | (with_reducible refine Ext.drewN ?_ _) | (with_reducible refine Ext.drew ?_) | (with_reducible refine Ext.alloc ?_ _) | ((with_reducible refine Ext.setCell ?_ ?_ _); rotate_left; focus (first | (simp; done) | (simp; omega) | omega)) | (with_reducible refine Ext.trans ?_ (by with_reducible assumption))))).mono ?_); rintro e1 w1 ⟨rfl, hx1⟩; have c1 := hq w1 hx1) | (go_at_call 18; (with_reducible refine (HI.out _).mono ?_); rintro e1 w2 ⟨rfl, rfl⟩))
  go_ret
  exact ⟨rfl, hx1⟩
end Go.Proofs.Ytohenfbgjjifbaa
