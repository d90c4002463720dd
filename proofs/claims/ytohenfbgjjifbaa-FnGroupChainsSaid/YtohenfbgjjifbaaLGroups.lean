/- The law on the chains of groups: walked. -/
import Derived.Test.YtohenfbgjjifbaaGrW
import Derived.Test.YtohenfbgjjifbaaGrF
import Derived.Test.YtohenfbgjjifbaaRankM
import Derived.Test.YtohenfbgjjifbaaGcd
import Derived.Deep.CutRange
import Derived.Deep.CutBlock
import Derived.Deep.RegionHeld3
namespace Go.Proofs.Ytohenfbgjjifbaa
set_option maxRecDepth 100000
open Go.RowKit

/-! ### words -/
structure GrGood (D : Ch) (n p : Nat) : Prop where
  kn : KnGood D p
  base : D.base = (n : Int)
  st : D.states = (n : Int)
  sw : badN D n p 1 n true (p + 1 - lenK 1) = 0
theorem grp_good {T : List (List Int)} {n e p : Nat} {fin : Int} {f : List Int} (hg : GrpT T n e) (hn : 2 ≤ n) (h0 : 0 ≤ fin) (h1 : fin < n) (ha : AntiT T n f) (hp1 : 1 ≤ p) (hp4 : p ≤ 4) : GrGood (grpCh T n e fin (mapsL n f p)) n p := by
  have hok := maps_ok hg hn h0 h1 ha hp1 hp4
  have hl := mapsL_len n f p
  have h2 := grp_one hok
  have h3 := grp_last hok (maps_last hp1)
  have h4 := grp_swap hok ha (maps_step ha.ord)
  rw [hl] at h2 h3 h4
  exact ⟨⟨grp_valid hok, by rw [grp_len, hl], _, h2, h3⟩, rfl, rfl, h4⟩
theorem caught1 (D : Ch) (a : Option Addr) (n c : Nat) (b : Option Addr) (m d S bs : Nat) (w : World) (hv : ChIn w D a n c b m d) (hval : validCh D = true) (hS : D.states = (S : Int)) (hbs : D.base = (bs : Int)) (hz : badN D S m 1 bs true (m + 1 - lenK 1) = 0) :
    Calls Try.prog 9 #[.agg #[.int .i64 D.base, .int .i64 D.states, .int .i64 D.start, .int .i64 D.fin, .slice a n c, .slice b m d], .int .i64 1] w (Ret (.bool true) w) := by
  have HU : Hid (∀ W, Ext w W → Calls Try.prog 24 #[.agg #[.int .i64 D.base, .int .i64 D.states, .int .i64 D.start, .int .i64 D.fin, .slice a n c, .slice b m d], .int .i64 1] W (RetU3 0 (wrap64 (badN D S m 1 bs false (m + 1 - lenK 1))) true W)) := fun W h => by
    have := impl_UndetG D a n c b m d S 1 (by omega) bs hbs (.inl (by omega)) W (hv.ext h) hval hS
    rw [hz, wrap_zero] at this
    exact this
  exact impl_Caught D a n c b m d 1 0 _ true w hv HU
theorem caught0 (D : Ch) (a : Option Addr) (n c : Nat) (b : Option Addr) (m d S : Nat) (w : World) (hv : ChIn w D a n c b m d) (hS : D.states = (S : Int)) (hk : KnGood D m) :
    Calls Try.prog 9 #[.agg #[.int .i64 D.base, .int .i64 D.states, .int .i64 D.start, .int .i64 D.fin, .slice a n c, .slice b m d], .int .i64 0] w (Ret (.bool true) w) := by
  obtain ⟨R, hR, _⟩ := hk.one
  exact impl_Caught0 D a n c b m d S w hv hk.val hS (sep_of (validCh_ok hk.val) hk.len hS hR)
/-- what GroupChain and the box it is stored into leave -/
def GcCut (D : Ch) (wt : World) (s15 s16 : Value) (wx : World) : Prop :=
  ∃ (g : Nat) (a : Option Addr) (x c : Nat) (b : Option Addr) (y d : Nat), s15 = .pointer (some ⟨g, 0, none⟩) ∧ s16 = .bool true ∧ SAt wx g 34 #[.int .i64 D.base, .int .i64 D.states, .int .i64 D.start, .int .i64 D.fin, .slice a x c, .slice b y d] ∧ ChIn wx D a x c b y d ∧ Ext wt wx
theorem gc_leaf {D : Ch} {wt wx : World} {g : Nat} {a : Option Addr} {x c : Nat} {b : Option Addr} {y d : Nat} (hS : SAt wx g 34 #[.int .i64 D.base, .int .i64 D.states, .int .i64 D.start, .int .i64 D.fin, .slice a x c, .slice b y d]) (hC : ChIn wx D a x c b y d) (hX : Ext wt wx) :
    GcCut D wt (.pointer (some ⟨g, 0, none⟩)) (.bool true) wx := ⟨g, a, x, c, b, y, d, rfl, rfl, hS, hC, hX⟩
set_option maxHeartbeats 16000000 in
theorem lawGroupChains (a : Option Addr) (n c : Nat) (l : List UInt8) (a' : Option Addr) (n' c' : Nat) (l' : List UInt8) (w : World) (hv : Bytes w a n c l) (hn : n ≤ 9223372036854775807) (hv' : Bytes w a' n' c' l') (hn' : n' ≤ 9223372036854775807) :
    Calls Try.prog 3 #[.slice a n c, .slice a' n' c'] w (Ret (.bool true) w) := by
  have HLong := Lib.hid (laws_b10Long a a' n c n' c' w hn hn')
  have HB := Lib.hid hv
  have HB' := Lib.hid hv'
  clear hv hv'
  by_cases hlong : 1048576 < n ∨ 1048576 < n'
  · rw [decide_eq_true hlong] at HLong
    clear hlong
    go_enter Try.func3, Try.ntmps3
    go_wp2_with (go_at_call 4; refine HLong.out.mono ?_; rintro e w1 ⟨rfl, rfl⟩)
    go_ret
    exact ⟨rfl, Ext.refl _⟩
  rw [decide_eq_false hlong] at HLong
  have HB10 := Lib.hid (fun i k (h0 : 0 ≤ i) (h1 : i ≤ 1000000) (h2 : 0 ≤ k) W (h : Ext w W) => laws_b10 a' n' c' l' i k W (HB'.out.ext h) (by omega) h0 h1)
  have HGr := Lib.hid (spec_B10Group a n c l w HB.out (by omega))
  go_enter Try.func3, Try.ntmps3
  go_upto_region 3 with (go_at_call 4; refine HLong.out.mono ?_; rintro e w1 ⟨rfl, rfl⟩)
  go_wp2_with fail
  refine HGr.out.mono ?_
  rintro e w1 ⟨N, ga, gc, T, rfl, hN, hsq, hmat, hx1⟩
  have HSq := Lib.hid hsq
  have HMat := Lib.hid hmat
  obtain ⟨q5, hq5⟩ : ∃ q, q = w1.heap.size := ⟨_, rfl⟩
  obtain ⟨w5, hw5⟩ : ∃ W, W = w1.alloc (.cells #[.slice ga N gc] 26) := ⟨_, rfl⟩
  have hx5 : Ext w1 w5 := by rw [hw5]; exact (by repeat (first | (with_reducible exact Ext.refl _) | (with_reducible refine Ext.drewN ?_ _) | (with_reducible refine Ext.drew ?_) | (with_reducible refine Ext.alloc ?_ _) | ((with_reducible refine Ext.setCell ?_ ?_ _); rotate_left; focus (first | (simp; done) | (simp; omega) | omega)) | assumption | (with_reducible refine Ext.trans ?_ (by assumption))))
  have HQ5 := Lib.hid (show SAt w5 q5 26 #[.slice ga N gc] from by rw [hw5, hq5]; exact SAt.new' _ _ _ rfl)
  have hxw5 : Ext w w5 := hx1.trans hx5
  have k5 : ∀ w', Ext w5 w' → w'.cell? ⟨q5, 0, none⟩ = some (.slice ga N gc) := fun w' h => h.cell (HQ5.out.cell 0 (by simp))
  have HLa := Lib.hid (spec_LeastAnti T N ga gc w5 (hmat.ext hx5) hsq hN)
  have k50 := k5 w5 (Ext.refl _)
  go_upto_region 4 with fail
  rw [← hw5, ← hq5]
  clear hw5 hq5 hsq hmat HGr HLong
  go_wp2_with fail
  refine HLa.out.mono ?_
  rintro e w6 ⟨oa, m, oc, O, b, rfl, hO, hx6⟩
  have HO := Lib.hid hO
  have hxw6 : Ext w w6 := hxw5.trans hx6
  have HB0 := Lib.hid (laws_b10 a' n' c' l' 0 3 w6 (HB'.out.ext hxw6) (by omega) (by omega) (by omega))
  have hb0 := b10_bd l' 0 3 (by omega)
  generalize b10 l' 0 3 = p0 at *
  obtain ⟨P, hP⟩ := Int.eq_ofNat_of_zero_le (show 0 ≤ 2 + p0 by omega)
  have hPb : 2 ≤ P ∧ P ≤ 4 := by omega
  clear hO hb0 k50 HLa
  go_upto_region 7 with (go_at_call 7; (with_reducible refine HB0.out.mono ?_); rintro e w7 ⟨rfl, rfl⟩)
  go_cut [45] from 41 to 45 (fun v45 wx => ∃ v : Bool, v45 = .bool v ∧ (v = true → b = true ∧ 2 ≤ N) ∧ Ext w6 wx)
  case first =>
    cases b
    · go_wp2_with fail
      go_meet
      exact ⟨_, rfl, (fun h => by cases h), (by repeat (first | (with_reducible exact Ext.refl _) | (with_reducible assumption) | (with_reducible refine Ext.drewN ?_ _) | (with_reducible refine Ext.drew ?_) | (with_reducible refine Ext.alloc ?_ _) | ((with_reducible refine Ext.setCell ?_ ?_ _); rotate_left; focus (first | (simp; done) | (simp; omega) | omega)) | (with_reducible refine Ext.trans ?_ (by with_reducible assumption))))⟩
    · go_wp2_with fail
      go_meet
      exact ⟨_, rfl, (fun h => ⟨by simp, by have := of_decide_eq_true h; omega⟩), (by repeat (first | (with_reducible exact Ext.refl _) | (with_reducible assumption) | (with_reducible refine Ext.drewN ?_ _) | (with_reducible refine Ext.drew ?_) | (with_reducible refine Ext.alloc ?_ _) | ((with_reducible refine Ext.setCell ?_ ?_ _); rotate_left; focus (first | (simp; done) | (simp; omega) | omega)) | (with_reducible refine Ext.trans ?_ (by with_reducible assumption))))⟩
  case rest =>
    obtain ⟨v, rfl, hvb, hx67⟩ := hcut
    generalize wc = w7 at *
    have hxw7 : Ext w w7 := hxw6.trans hx67
    go_upto_if 45 with fail
    go_cut [] from 46 to 104 (fun wx => Ext w wx)
    case first =>
      cases v
      · go_wp2_with fail
        go_meet
        exact hxw7
      · obtain ⟨rfl, h2⟩ := hvb rfl
        obtain ⟨rfl, ⟨ei, hg⟩, ha, hio⟩ := HO.out rfl
        have HG := Lib.hid hg
        have HA := Lib.hid ha
        have HF := Lib.hid (hio.ext hx67)
        clear hg ha hio HO
        have k7 : ∀ w', Ext w7 w' → w'.cell? ⟨q5, 0, none⟩ = some (.slice ga m gc) := fun w' h => k5 w' ((hx6.trans hx67).trans h)
        have HMat7 := Lib.hid (HMat.out.ext ((hx5.trans hx6).trans hx67))
        clear k5 hx67 hx6 hx5 hxw5 hxw6 hx1 HMat HQ5 hvb HB0
        go_wp2_with fail
        go_loopw [10, 11] (fun v10 v11 wr => ∃ (k : Nat) (ra : Option Addr) (rc : Nat), k ≤ m ∧ v11 = .int .i64 k ∧ v10 = .slice ra k rc ∧ Hid (Own wr w7.heap.size 2 ra k rc (I ((idL m).take k))) ∧ Ext w7 wr) (fun _ v11 _ => m - (intOf v11).toNat)
        case atStart => exact ⟨0, _, _, Nat.zero_le _, rfl, rfl, Own.lit0 _ _, (Ext.refl _).alloc _⟩
        case round =>
          obtain ⟨k, ra, rc, hk, rfl, rfl, HR, hx⟩ := hrel
          by_cases hlt : k < m
          · have HNx := Lib.hid (idL_step hlt)
            go_wp2_with (at_builtin; refine law_append1 _ rfl _ _ 28 rfl 2 (.int .i64 0) 8 und_int64s info_int64 rfl w7.heap.size ra k rc _ _ rfl rfl rfl HR.out hx.le (by omega) (by omega) ?_; intro ra' rc' w8 ho8 hb8 _; have hxo8 : Ext w7 w8 := Ext.below hx hb8)
            exact ⟨⟨k + 1, ra', rc', by omega, by go_num, rfl, by rw [Hid, HNx.out, I_append]; exact ho8, hxo8⟩, by simp [intOf]; omega⟩
          obtain rfl : k = m := by omega
          have HLast := Lib.hid (show Ints wr ra k rc (idL k) from by have h := HR.out.ints; rwa [take_full (by rw [idL_len]; exact Nat.le_refl _)] at h)
          go_wp2_with fail
          obtain ⟨bm, hbm⟩ : ∃ b, b = wr.heap.size := ⟨_, rfl⟩
          obtain ⟨w9, hw9⟩ : ∃ W, W = wr.alloc (.cells #[.slice ra k rc] 28) := ⟨_, rfl⟩
          have hx9 : Ext wr w9 := by rw [hw9]; exact (by repeat (first | (with_reducible exact Ext.refl _) | (with_reducible refine Ext.drewN ?_ _) | (with_reducible refine Ext.drew ?_) | (with_reducible refine Ext.alloc ?_ _) | ((with_reducible refine Ext.setCell ?_ ?_ _); rotate_left; focus (first | (simp; done) | (simp; omega) | omega)) | assumption | (with_reducible refine Ext.trans ?_ (by assumption))))
          have HM9 := Lib.hid (show Mat w9 (some ⟨bm, 0, none⟩) 1 1 (mapsL k O 1) from by
            refine ⟨rfl, [.slice ra k rc], by rw [hw9, hbm]; exact (own_lit1 wr 28 _).sl, fun j hj => ?_⟩
            obtain rfl : j = 0 := by omega
            exact ⟨ra, k, rc, rfl, HLast.out.ext hx9⟩)
          have hx79 : Ext w7 w9 := hx.trans hx9
          rw [← hw9, ← hbm]
          clear hw9 hbm hx9 HLast HR
          go_loopw [12] (fun v12 wr => ∃ (j : Nat) (ma : Option Addr) (mc : Nat), 1 ≤ j ∧ j ≤ P ∧ v12 = .slice ma j mc ∧ Hid (Mat wr ma j mc (mapsL k O j)) ∧ Ext w7 wr) (fun v12 _ => P - (match v12 with | .slice _ q _ => q | _ => 0))
          case atStart => exact ⟨1, _, _, Nat.le_refl _, by omega, rfl, HM9.out, hx79⟩
          case round =>
            clear HM9 hx79 hx
            obtain ⟨j, ma, mc, hj1, hjP, rfl, HM, hx⟩ := hrel
            by_cases hlt2 : j < P
            · obtain ⟨J, rfl⟩ : ∃ J, j = J + 1 := ⟨j - 1, by omega⟩
              have hjd1 : decide (((J + 1 : Nat) : Int) < (P : Int)) = true := decide_eq_true (by omega)
              have hjd2 : decide ((J : Int) + 1 < (P : Int)) = true := decide_eq_true (by omega)
              obtain ⟨wo, hwo⟩ : ∃ W, W = wr := ⟨_, rfl⟩
              subst hwo
              go_wp2_with fail
              (try rw [hjd1])
              (try rw [hjd2])
              have HPw := Lib.hid (pw_ord HA.out.ord J)
              have HPn := Lib.hid (pw_ord HA.out.ord (J + 1))
              obtain ⟨b0, o0, a0, n0, c0, ⟨f1, f2⟩, hrow⟩ := HM.out.one (P := Try.prog) 24 28 und_rows cell_row1 0 (by omega) (by omega)
              rw [show (0 : Int).toNat = 0 from rfl, mapsL_gl _ _ _ _ (by omega), show J + 1 - 1 - 0 = J by omega] at hrow
              obtain rfl : n0 = k := by have h1 := hrow.len; have h2 := HPw.out.len; omega
              have HRow := Lib.hid hrow
              clear hrow
              go_loopw [13, 14] (fun v13 v14 wr => ∃ (i : Nat) (ra : Option Addr) (rc : Nat), i ≤ n0 ∧ v14 = .int .i64 i ∧ v13 = .slice ra i rc ∧ Hid (Own wr wo.heap.size 2 ra i rc (I ((pwL n0 O (J + 1)).take i))) ∧ Ext wo wr) (fun _ v14 _ => n0 - (intOf v14).toNat)
              case atStart => exact ⟨0, _, _, Nat.zero_le _, rfl, rfl, Own.lit0 _ _, (Ext.refl _).alloc _⟩
              case round =>
                obtain ⟨i, sa, sc, hi, rfl, rfl, HR, hxo⟩ := hrel
                by_cases hli : i < n0
                · have hq := HA.out.ord.q hli
                  obtain ⟨b1, o1, ⟨f3, f4⟩⟩ := (HF.out.ext hx).one (P := Try.prog) 28 2 und_int64s cell_int64 (i : Int) (by omega) (by omega)
                  rw [Int.toNat_natCast, hq.1] at f4
                  obtain ⟨b2, o2, ⟨f5, f6⟩⟩ := HRow.out.one (P := Try.prog) 28 2 und_int64s cell_int64 ((gq O i : Nat) : Int) (by omega) (by omega)
                  rw [Int.toNat_natCast] at f6
                  have HNx := Lib.hid (show (pwL n0 O (J + 1)).take (i + 1) = (pwL n0 O (J + 1)).take i ++ [gi (pwL n0 O J) (gq O i)] from by
                    rw [take_gi (by rw [HPn.out.len]; exact hli)]
                    congr 2
                    exact compL_gi (by rw [HA.out.ord.len]; exact hli))
                  clear hq
                  generalize gi (pwL n0 O J) (gq O i) = u1 at *
                  generalize gq O i = u2 at *
                  go_wp2_with fail
                  (refine wp_region_from wo (by repeat (first | (with_reducible exact Ext.refl _) | (with_reducible refine Ext.drewN ?_ _) | (with_reducible refine Ext.drew ?_) | (with_reducible refine Ext.alloc ?_ _) | ((with_reducible refine Ext.setCell ?_ ?_ _); rotate_left; focus (first | (simp; done) | (simp; omega) | omega)) | assumption | (with_reducible refine Ext.trans ?_ (by assumption)))) (by kernel_rfl) (by kernel_rfl) (by kernel_rfl) ?_; (repeat (first | (refine mix_q rfl ?_; go_big_quiet_step (fail); refine wpQuiet_nil ?_; show wpMix _ _ _ _ _ _ _) | (refine mix_s rfl ?_; go_wp2_with ((at_builtin; refine law_append1 wr.drew rfl _ _ 28 rfl 2 (.int .i64 0) 8 und_int64s info_int64 rfl wo.heap.size sa i sc _ _ rfl rfl (by simp [Act.eval, go_sem]) HR.out.drew (hxo.drew).le (by omega) (by omega) ?_; intro sa' sc' w8 ho8 hb8 _; have hxo8 : Ext wo w8 := Ext.below hxo.drew hb8; clear hb8)); first | refine ⟨up_of (by repeat (first | (with_reducible exact Ext.refl _) | (with_reducible refine Ext.drewN ?_ _) | (with_reducible refine Ext.drew ?_) | (with_reducible refine Ext.alloc ?_ _) | ((with_reducible refine Ext.setCell ?_ ?_ _); rotate_left; focus (first | (simp; done) | (simp; omega) | omega)) | assumption | (with_reducible refine Ext.trans ?_ (by assumption)))), ?_⟩ | refine ⟨rfl, rfl, up_of (by repeat (first | (with_reducible exact Ext.refl _) | (with_reducible refine Ext.drewN ?_ _) | (with_reducible refine Ext.drew ?_) | (with_reducible refine Ext.alloc ?_ _) | ((with_reducible refine Ext.setCell ?_ ?_ _); rotate_left; focus (first | (simp; done) | (simp; omega) | omega)) | assumption | (with_reducible refine Ext.trans ?_ (by assumption)))), ?_⟩))); refine mix_nil ?_)
                  go_wp2_with fail
                  exact ⟨⟨i + 1, sa', sc', by omega, by go_num, rfl, by rw [Hid, HNx.out, I_append]; exact ho8, hxo8⟩, by simp [intOf]; omega⟩
                · obtain rfl : i = n0 := by omega
                  have HNew := Lib.hid (show Ints wr sa i sc (pwL i O (J + 1)) from by have h := HR.out.ints; rwa [take_full (by rw [HPn.out.len]; exact Nat.le_refl _)] at h)
                  have HM2 := Lib.hid (HM.out.ext hxo)
                  obtain ⟨vs, hvs, hrw⟩ := HM2.out.rows
                  have HVs := Lib.hid hvs
                  have HRw := Lib.hid hrw
                  obtain ⟨bs, os, has, _⟩ := hvs.cells (by omega)
                  have hone : ∀ u ∈ vs, u.oneCell' = true := fun u hu => by
                    obtain ⟨x, hx, rfl⟩ := List.mem_iff_getElem.1 hu
                    obtain ⟨a1, n1, c1, h1, _⟩ := hrw x (by have := hvs.len; omega)
                    rw [gv_get hx] at h1
                    rw [h1]; rfl
                  subst has
                  have hx7r : Ext w7 wr := hx.trans hxo
                  clear hvs hrw
                  go_wp2_with (at_builtin; refine law_appends _ rfl _ _ 24 rfl 28 (.slice none 0 0) 24 und_rows info_row1 rfl wr.heap.size _ 1 1 [.slice sa i sc] ⟨bs, os, none⟩ (J + 1) mc vs hone rfl rfl (own_lit1 wr _ _) (HVs.out.ext ((Ext.refl wr).alloc _)) (by simp) (by omega) (by omega) ?_; intro ma' mc' w8 ho8 hb8 _ _; have hx8 : Ext wr w8 := Ext.below ((Ext.refl wr).alloc _) hb8)
                  have HM8 : Mat w8 ma' (1 + (J + 1)) mc' (mapsL i O (J + 1 + 1)) := ⟨by rw [mapsL_len]; omega, _, ho8.sl, fun t ht => by
                    rcases Nat.eq_zero_or_pos t with rfl | h
                    · exact ⟨sa, i, sc, rfl, HNew.out.ext hx8⟩
                    · obtain ⟨t, rfl⟩ : ∃ s, t = s + 1 := ⟨t - 1, by omega⟩
                      obtain ⟨a1, n1, c1, h1, h2⟩ := HRw.out t (by omega)
                      exact ⟨a1, n1, c1, h1, h2.ext hx8⟩⟩
                  rw [show 1 + (J + 1) = J + 1 + 1 by omega] at HM8 ⊢
                  exact ⟨⟨J + 1 + 1, ma', mc', by omega, by omega, rfl, HM8, hx7r.trans hx8⟩, by simp; omega⟩
            · obtain rfl : j = P := by omega
              have HB1 := Lib.hid (fun W (h : Ext w W) => laws_b10 a' n' c' l' 1 (k : Int) W (HB'.out.ext h) (by omega) (by omega) (by omega))
              have hb1 := b10_bd l' 1 (k : Int) (by omega)
              generalize b10 l' 1 (k : Int) = fin at *
              have HGood := Lib.hid (grp_good HG.out h2 hb1.1 hb1.2 HA.out (show 1 ≤ j by omega) (by omega))
              have HGOk := Lib.hid (maps_ok HG.out h2 hb1.1 hb1.2 HA.out (show 1 ≤ j by omega) (by omega))
              have HMt := Lib.hid (HMat7.out.ext hx)
              obtain ⟨wt, hwt⟩ : ∃ wt, wt = wr := ⟨_, rfl⟩
              subst hwt
              have hxtt : Ext wt wt := Ext.refl _
              have hxwt : Ext w wt := hxw7.trans hx
              have kt : ∀ w', Ext wt w' → w'.cell? ⟨q5, 0, none⟩ = some (.slice ga k gc) := fun w' h => k7 w' (hx.trans h)
              have HGc := Lib.hid (fun W (h : Ext wt W) => impl_GroupChain T k ei fin (mapsL k O j) ga gc ma j mc W (HMt.out.ext h) (HM.out.ext h) HGOk.out)
              generalize hDD : grpCh T k ei fin (mapsL k O j) = D at *
              clear hDD
              go_wp2_with fail
              go_cut [15, 16] from 84 to 92 (fun s15 s16 wx => GcCut D wt s15 s16 wx)
              case first =>
                go_region_held3 (fun w' => Ext wt w') ((exact (by repeat (first | (with_reducible exact Ext.refl _) | (with_reducible assumption) | (with_reducible refine Ext.drewN ?_ _) | (with_reducible refine Ext.drew ?_) | (with_reducible refine Ext.alloc ?_ _) | ((with_reducible refine Ext.setCell ?_ ?_ _); rotate_left; focus (first | (simp; done) | (simp; omega) | omega)) | (with_reducible refine Ext.trans ?_ (by with_reducible assumption)))))) ((first | (go_at_call 7; (with_reducible refine (HB1.out _ (Ext.trans hxwt (by repeat (first | (with_reducible exact Ext.refl _) | (with_reducible assumption) | (with_reducible refine Ext.drewN ?_ _) | (with_reducible refine Ext.drew ?_) | (with_reducible refine Ext.alloc ?_ _) | ((with_reducible refine Ext.setCell ?_ ?_ _); rotate_left; focus (first | (simp; done) | (simp; omega) | omega)) | (with_reducible refine Ext.trans ?_ (by with_reducible assumption)))))).mono ?_); rintro e w8 ⟨rfl, rfl⟩) | (go_at_call 8; (with_reducible refine (HGc.out _ (by repeat (first | (with_reducible exact Ext.refl _) | (with_reducible assumption) | (with_reducible refine Ext.drewN ?_ _) | (with_reducible refine Ext.drew ?_) | (with_reducible refine Ext.alloc ?_ _) | ((with_reducible refine Ext.setCell ?_ ?_ _); rotate_left; focus (first | (simp; done) | (simp; omega) | omega)) | (with_reducible refine Ext.trans ?_ (by with_reducible assumption))))).mono ?_); rintro e w9 ⟨ca, cx, cc, cb, cy, cd, rfl, hk9, hz9⟩; have hx9 : Ext wt w9 := Ext.trans (by repeat (first | (with_reducible exact Ext.refl _) | (with_reducible assumption) | (with_reducible refine Ext.drewN ?_ _) | (with_reducible refine Ext.drew ?_) | (with_reducible refine Ext.alloc ?_ _) | ((with_reducible refine Ext.setCell ?_ ?_ _); rotate_left; focus (first | (simp; done) | (simp; omega) | omega)) | (with_reducible refine Ext.trans ?_ (by with_reducible assumption)))) hz9; obtain ⟨hc9, hf9⟩ := bcell hz9; have hle9 := hx9.le; have hsz9 := hz9.le; simp at hsz9; (try (have hlt9 : wt.heap.size < w9.heap.size := by omega)))))
                all_goals (go_wp2_with fail; go_meet)
                all_goals
                  clear hc9 hf9
                  apply gc_leaf
                  · repeat (first | ((with_reducible refine SAt.new' _ _ _ ?_) <;> (first | (simp; done) | (simp; omega))) | (with_reducible refine SAt.alloc ?_ _) | (with_reducible refine SAt.drew ?_) | (with_reducible refine SAt.six (z0 := .int .i64 0) (z1 := .int .i64 0) (z2 := .int .i64 0) (z3 := .int .i64 0) (z4 := .slice none 0 0) (z5 := .slice none 0 0) ?_ _ _ _ _ _ _) | (with_reducible refine SAt.ext ?_ hz9))
                  · refine hk9 _ ?_
                    repeat (first | with_reducible exact KeepB.refl _ _ _ | ((with_reducible refine KeepB.setB ?_ _ _ (Or.inl ?_)); rotate_left; (focus (simp; done))) | ((with_reducible refine KeepB.allB ?_ _ ?_); rotate_left; (focus (exact Nat.le_refl _))))
                  · exact (by repeat (first | (with_reducible exact Ext.refl _) | (with_reducible assumption) | (with_reducible refine Ext.drewN ?_ _) | (with_reducible refine Ext.drew ?_) | (with_reducible refine Ext.alloc ?_ _) | ((with_reducible refine Ext.setCell ?_ ?_ _); rotate_left; focus (first | (simp; done) | (simp; omega) | omega)) | (with_reducible refine Ext.trans ?_ (by with_reducible assumption))))
              case rest =>
                obtain ⟨g, ca, cx, cc, cb, cy, cd, rfl, rfl, hS, hCh, hxc⟩ := hcut
                have hcy : cy = j := by have h1 := hCh.ps.len; have h2 := HGood.out.kn.len; omega
                subst hcy
                have HC0 := Lib.hid (fun W (h : Ext wc W) => caught0 D ca cx cc cb cy cd k W (hCh.ext h) HGood.out.st HGood.out.kn)
                have HC1 := Lib.hid (fun W (h : Ext wc W) => caught1 D ca cx cc cb cy cd k k W (hCh.ext h) HGood.out.kn.val HGood.out.st HGood.out.base HGood.out.sw)
                have HS := Lib.hid hS
                have hxwc : Ext w wc := hxwt.trans hxc
                clear hS hCh
                have e0 : ∀ W, Ext wc W → W.cell? ⟨g, 0, none⟩ = some (.int .i64 D.base) := fun W h => (HS.out.ext h).cell 0 (by simp)
                have e1 : ∀ W, Ext wc W → W.cell? ⟨g, 1, none⟩ = some (.int .i64 D.states) := fun W h => (HS.out.ext h).cell 1 (by simp)
                have e2 : ∀ W, Ext wc W → W.cell? ⟨g, 2, none⟩ = some (.int .i64 D.start) := fun W h => (HS.out.ext h).cell 2 (by simp)
                have e3 : ∀ W, Ext wc W → W.cell? ⟨g, 3, none⟩ = some (.int .i64 D.fin) := fun W h => (HS.out.ext h).cell 3 (by simp)
                have e4 : ∀ W, Ext wc W → W.cell? ⟨g, 4, none⟩ = some (.slice ca cx cc) := fun W h => (HS.out.ext h).cell 4 (by simp)
                have e5 : ∀ W, Ext wc W → W.cell? ⟨g, 5, none⟩ = some (.slice cb cy cd) := fun W h => (HS.out.ext h).cell 5 (by simp)
                have m0 := e0 wc (Ext.refl _)
                have m1 := e1 wc (Ext.refl _)
                have m2 := e2 wc (Ext.refl _)
                have m3 := e3 wc (Ext.refl _)
                have m4 := e4 wc (Ext.refl _)
                have m5 := e5 wc (Ext.refl _)
                go_wp2_with (go_at_call 9; first | ((with_reducible refine (HC0.out _ (by repeat (first | (with_reducible exact Ext.refl _) | (with_reducible assumption) | (with_reducible refine Ext.drewN ?_ _) | (with_reducible refine Ext.drew ?_) | (with_reducible refine Ext.alloc ?_ _) | ((with_reducible refine Ext.setCell ?_ ?_ _); rotate_left; focus (first | (simp; done) | (simp; omega) | omega)) | (with_reducible refine Ext.trans ?_ (by with_reducible assumption))))).mono ?_); rintro e w22 ⟨rfl, hy22⟩; have hx22 : Ext wc w22 := Ext.trans (by repeat (first | (with_reducible exact Ext.refl _) | (with_reducible assumption) | (with_reducible refine Ext.drewN ?_ _) | (with_reducible refine Ext.drew ?_) | (with_reducible refine Ext.alloc ?_ _) | ((with_reducible refine Ext.setCell ?_ ?_ _); rotate_left; focus (first | (simp; done) | (simp; omega) | omega)) | (with_reducible refine Ext.trans ?_ (by with_reducible assumption)))) hy22; have o0 := e0 w22 hx22; have o1 := e1 w22 hx22; have o2 := e2 w22 hx22; have o3 := e3 w22 hx22; have o4 := e4 w22 hx22; have o5 := e5 w22 hx22; clear hy22) | ((with_reducible refine (HC1.out _ (by repeat (first | (with_reducible exact Ext.refl _) | (with_reducible assumption) | (with_reducible refine Ext.drewN ?_ _) | (with_reducible refine Ext.drew ?_) | (with_reducible refine Ext.alloc ?_ _) | ((with_reducible refine Ext.setCell ?_ ?_ _); rotate_left; focus (first | (simp; done) | (simp; omega) | omega)) | (with_reducible refine Ext.trans ?_ (by with_reducible assumption))))).mono ?_); rintro e w23 ⟨rfl, hy23⟩; have hx23 : Ext wc w23 := Ext.trans (by repeat (first | (with_reducible exact Ext.refl _) | (with_reducible assumption) | (with_reducible refine Ext.drewN ?_ _) | (with_reducible refine Ext.drew ?_) | (with_reducible refine Ext.alloc ?_ _) | ((with_reducible refine Ext.setCell ?_ ?_ _); rotate_left; focus (first | (simp; done) | (simp; omega) | omega)) | (with_reducible refine Ext.trans ?_ (by with_reducible assumption)))) hy23; clear hy23))
                go_meet
                exact hxwc.trans (by assumption)
    case rest =>
      clear hx67 hxw7 hvb HMat HQ5 HSq k5 hx5 hx6 hxw5 hxw6 hx1 HB0 HO
      have hxy : Ext w wc := hcut
      clear hcut
      generalize wc = wy at *
      have HD := Lib.hid (grp_good (fin := 0) (e := 0) dih_grp (by omega) (by omega) (by omega) dih_anti (show 1 ≤ P by omega) (by omega))
      have HDi := Lib.hid (fun W => impl_DihedralChain P W (by omega) (by omega))
      generalize hDD : grpCh dihT 10 0 0 (mapsL 10 dihO P) = D at *
      clear hDD
      go_upto_region 25 with ((go_at_call 10; (with_reducible refine (HDi.out _).mono ?_); rintro e w18 ⟨da, dx, dc, db, dy, dd, rfl, hch, hy18⟩; have HC18 := Lib.hid (hch _ (KeepB.refl _ _ _)); have hx18 : Ext w w18 := hxy.trans hy18; clear hch hy18))
      have hdy : dy = P := by have h1 := HC18.out.ps.len; have h2 := HD.out.kn.len; omega
      subst hdy
      obtain ⟨q18, hq18⟩ : ∃ q, q = w18.heap.size := ⟨_, rfl⟩
      obtain ⟨wf, hwf⟩ : ∃ W, W = w18.alloc (.cells #[.int .i64 D.base, .int .i64 D.states, .int .i64 D.start, .int .i64 D.fin, .slice da dx dc, .slice db dy dd] 34) := ⟨_, rfl⟩
      have hxf : Ext w18 wf := by rw [hwf]; exact (by repeat (first | (with_reducible exact Ext.refl _) | (with_reducible refine Ext.drewN ?_ _) | (with_reducible refine Ext.drew ?_) | (with_reducible refine Ext.alloc ?_ _) | ((with_reducible refine Ext.setCell ?_ ?_ _); rotate_left; focus (first | (simp; done) | (simp; omega) | omega)) | assumption | (with_reducible refine Ext.trans ?_ (by assumption))))
      have HQf := Lib.hid (show SAt wf q18 34 #[.int .i64 D.base, .int .i64 D.states, .int .i64 D.start, .int .i64 D.fin, .slice da dx dc, .slice db dy dd] by rw [hwf, hq18]; exact SAt.new' _ _ _ rfl)
      have HCf := Lib.hid (HC18.out.ext hxf)
      rw [← hwf, ← hq18]
      have hxwf : Ext w wf := hx18.trans hxf
      clear hwf hq18 HC18 hxf hx18
      have c0 : ∀ W', Ext wf W' → W'.cell? ⟨q18, 0, none⟩ = some (.int .i64 D.base) := fun W' h => h.cell (HQf.out.cell 0 (by simp))
      have c1 : ∀ W', Ext wf W' → W'.cell? ⟨q18, 1, none⟩ = some (.int .i64 D.states) := fun W' h => h.cell (HQf.out.cell 1 (by simp))
      have c2 : ∀ W', Ext wf W' → W'.cell? ⟨q18, 2, none⟩ = some (.int .i64 D.start) := fun W' h => h.cell (HQf.out.cell 2 (by simp))
      have c3 : ∀ W', Ext wf W' → W'.cell? ⟨q18, 3, none⟩ = some (.int .i64 D.fin) := fun W' h => h.cell (HQf.out.cell 3 (by simp))
      have c4 : ∀ W', Ext wf W' → W'.cell? ⟨q18, 4, none⟩ = some (.slice da dx dc) := fun W' h => h.cell (HQf.out.cell 4 (by simp))
      have c5 : ∀ W', Ext wf W' → W'.cell? ⟨q18, 5, none⟩ = some (.slice db dy dd) := fun W' h => h.cell (HQf.out.cell 5 (by simp))
      have k0 := c0 wf (Ext.refl _)
      have k1 := c1 wf (Ext.refl _)
      have k2 := c2 wf (Ext.refl _)
      have k3 := c3 wf (Ext.refl _)
      have k4 := c4 wf (Ext.refl _)
      have k5 := c5 wf (Ext.refl _)
      have HOk := Lib.hid (validCh_ok HD.out.kn.val)
      have hb10 : D.base = 10 := HD.out.base
      have HB10b := Lib.hid hb10
      clear hb10
      have HC0 := Lib.hid (fun W (h : Ext wf W) => caught0 D da dx dc db dy dd 10 W (HCf.out.ext h) HD.out.st HD.out.kn)
      have HC1 := Lib.hid (fun W (h : Ext wf W) => caught1 D da dx dc db dy dd 10 10 W (HCf.out.ext h) HD.out.kn.val HD.out.st HD.out.base HD.out.sw)
      go_wp2_with (go_at_call 9; first | ((with_reducible refine (HC0.out _ (by repeat (first | (with_reducible exact Ext.refl _) | (with_reducible assumption) | (with_reducible refine Ext.drewN ?_ _) | (with_reducible refine Ext.drew ?_) | (with_reducible refine Ext.alloc ?_ _) | ((with_reducible refine Ext.setCell ?_ ?_ _); rotate_left; focus (first | (simp; done) | (simp; omega) | omega)) | (with_reducible refine Ext.trans ?_ (by with_reducible assumption))))).mono ?_); rintro e w22 ⟨rfl, hy22⟩; have hx22 : Ext wf w22 := Ext.trans (by repeat (first | (with_reducible exact Ext.refl _) | (with_reducible assumption) | (with_reducible refine Ext.drewN ?_ _) | (with_reducible refine Ext.drew ?_) | (with_reducible refine Ext.alloc ?_ _) | ((with_reducible refine Ext.setCell ?_ ?_ _); rotate_left; focus (first | (simp; done) | (simp; omega) | omega)) | (with_reducible refine Ext.trans ?_ (by with_reducible assumption)))) hy22; have o0 := c0 w22 hx22; have o1 := c1 w22 hx22; have o2 := c2 w22 hx22; have o3 := c3 w22 hx22; have o4 := c4 w22 hx22; have o5 := c5 w22 hx22; clear hy22) | ((with_reducible refine (HC1.out _ (by repeat (first | (with_reducible exact Ext.refl _) | (with_reducible assumption) | (with_reducible refine Ext.drewN ?_ _) | (with_reducible refine Ext.drew ?_) | (with_reducible refine Ext.alloc ?_ _) | ((with_reducible refine Ext.setCell ?_ ?_ _); rotate_left; focus (first | (simp; done) | (simp; omega) | omega)) | (with_reducible refine Ext.trans ?_ (by with_reducible assumption))))).mono ?_); rintro e w23 ⟨rfl, hy23⟩; have hx23 : Ext wf w23 := Ext.trans (by repeat (first | (with_reducible exact Ext.refl _) | (with_reducible assumption) | (with_reducible refine Ext.drewN ?_ _) | (with_reducible refine Ext.drew ?_) | (with_reducible refine Ext.alloc ?_ _) | ((with_reducible refine Ext.setCell ?_ ?_ _); rotate_left; focus (first | (simp; done) | (simp; omega) | omega)) | (with_reducible refine Ext.trans ?_ (by with_reducible assumption)))) hy23; clear hy23))
      have hxs : Ext wf w23 := by assumption
      go_loopw [19, 20] (fun v19 v20 wr => ∃ (xs : List Int), xs.length ≤ dy ∧ v20 = .int .i64 (xs.length : Int) ∧ v19 = .string (textOf xs) ∧ Hid (DigC D xs) ∧ Ext wf wr) (fun _ v20 _ => dy - (intOf v20).toNat)
      case atStart => exact ⟨[], Nat.zero_le _, rfl, rfl, (fun x hx => by simp at hx), hxs⟩
      case round =>
        clear hxs hx22 hx23 o0 o1 o2 o3 o4 o5 k0 k1 k2 k3 k4 k5
        obtain ⟨xs, hxl, rfl, rfl, HXd, hxr⟩ := hrel
        have hsz := textOf_size xs
        by_cases hlx : xs.length < dy
        · have HB2 := Lib.hid (fun W (h : Ext w W) => laws_b10 a' n' c' l' ((xs.length : Int) + 2) 10 W (HB'.out.ext h) (by omega) (by omega) (by omega))
          have hz := b10_bd l' ((xs.length : Int) + 2) 10 (by omega)
          generalize b10 l' ((xs.length : Int) + 2) 10 = z at *
          have HSy := Lib.hid (fun W => spec_SymbolOf z W hz.1 (by omega))
          have hu1 : (textOf [z]).size = 1 := textOf_size _
          have HTa := Lib.hid (text_app xs [z])
          have HZd := Lib.hid (show 0 ≤ z ∧ z < D.base from by rw [HB10b.out]; exact hz)
          generalize hn : xs.length = m at *
          generalize textOf xs = tx at *
          generalize textOf [z] = tz at *
          go_wp2_with (first | (go_at_call 7; (with_reducible refine (HB2.out _ (Ext.trans hxwf (by repeat (first | (with_reducible exact Ext.refl _) | (with_reducible assumption) | (with_reducible refine Ext.drewN ?_ _) | (with_reducible refine Ext.drew ?_) | (with_reducible refine Ext.alloc ?_ _) | ((with_reducible refine Ext.setCell ?_ ?_ _); rotate_left; focus (first | (simp; done) | (simp; omega) | omega)) | (with_reducible refine Ext.trans ?_ (by with_reducible assumption)))))).mono ?_); rintro e w20 ⟨rfl, rfl⟩) | (go_at_call 11; (with_reducible refine (HSy.out _).mono ?_); rintro e w21 ⟨rfl, hy21⟩; have hx21 : Ext wf w21 := hxr.trans hy21; clear hy21))
          exact ⟨⟨xs ++ [z], by rw [List.length_append, hn]; exact hlx, by rw [List.length_append, hn]; rfl, by rw [HTa.out], by rw [Hid]; exact all_snoc HXd.out HZd.out, by assumption⟩, by simp [intOf]; omega⟩
        · have hxe : xs.length = dy := by omega
          have m0 := c0 wr hxr
          have m1 := c1 wr hxr
          have m2 := c2 wr hxr
          have m3 := c3 wr hxr
          have m4 := c4 wr hxr
          have m6 := c5 wr hxr
          have hlen := HD.out.kn.len
          have hrun := runOk_text HOk.out HD.out.kn.val HXd.out (hxe.trans hlen.symm)
          have hcs : csOk D (textOf xs) ((dy : Int) - 1) = true := by
            unfold csOk
            rw [hrun, inB_t.2 (by rw [textOf_size, hxe]; omega)]; rfl
          have hct : (csT D (textOf xs) ((dy : Int) - 1)).size = 1 := by
            unfold csT
            rw [if_pos hcs, textOf_size, digC_text (fun d hd => by have := HXd.out d hd; have := HB10b.out; omega), show ((dy : Int) - 1).toNat = dy - 1 by omega]
            exact csL_one HD.out.kn HXd.out hxe
          have HCs := Lib.hid (fun W (h : Ext wf W) => impl_CheckSymbols D da dx dc db dy dd (textOf xs) ((dy : Int) - 1) W (HCf.out.ext h) (by omega) (by unfold In64; omega))
          rw [hcs] at HCs
          generalize csT D (textOf xs) ((dy : Int) - 1) = tc at *
          generalize textOf xs = tx at *
          clear hcs hrun hlen
          go_wp2_with (go_at_call 12; (with_reducible refine (HCs.out _ (by repeat (first | (with_reducible exact Ext.refl _) | (with_reducible assumption) | (with_reducible refine Ext.drewN ?_ _) | (with_reducible refine Ext.drew ?_) | (with_reducible refine Ext.alloc ?_ _) | ((with_reducible refine Ext.setCell ?_ ?_ _); rotate_left; focus (first | (simp; done) | (simp; omega) | omega)) | (with_reducible refine Ext.trans ?_ (by with_reducible assumption))))).mono ?_); rintro e w24 ⟨rfl, hy24⟩; have hx24 : Ext wf w24 := Ext.trans (by repeat (first | (with_reducible exact Ext.refl _) | (with_reducible assumption) | (with_reducible refine Ext.drewN ?_ _) | (with_reducible refine Ext.drew ?_) | (with_reducible refine Ext.alloc ?_ _) | ((with_reducible refine Ext.setCell ?_ ?_ _); rotate_left; focus (first | (simp; done) | (simp; omega) | omega)) | (with_reducible refine Ext.trans ?_ (by with_reducible assumption)))) hy24; clear hy24)
          go_ret
          exact ⟨rfl, hxwf.trans (by assumption)⟩
end Go.Proofs.Ytohenfbgjjifbaa
