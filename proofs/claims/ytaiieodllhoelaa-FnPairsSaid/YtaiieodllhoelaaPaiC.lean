/- Walks: the chain of a pair of weightings, in the program. -/
import Derived.Test.YtaiieodllhoelaaJoinR
import Derived.Test.YtaiieodllhoelaaWtE
namespace Go.Proofs.Ytaiieodllhoelaa
set_option maxRecDepth 100000
open Go.RowKit

/-- the chain that stands for none -/
def zCh : Ch := ⟨0, 0, 0, 0, [], []⟩
theorem zCh_small : SmallCh zCh := fun t ht => by cases ht
theorem zCh_in (w : World) : ChIn w zCh none 0 0 none 0 0 := ⟨⟨rfl, [], (Own.nil w 0 0).sl, fun k hk => by omega⟩, (Own.nil w 0 0 : Own w 0 0 none 0 0 (I [])).ints, by omega, by omega, zCh_small⟩
theorem zCh_p (w : World) (lo hi : Nat) (h : w.heap.size ≤ hi) : ChP w lo hi zCh none 0 0 none 0 0 :=
  ⟨[], fun _ => 0, fun _ => 0, rfl, Row.zero _ (Own.nil _ _ _) h, ⟨Own.nil _ _ _, fun g hg => by cases hg⟩, fun g hg => by cases hg⟩
def pbB (b : Int) : Bool := b == 2 || (b == 3 || b == 5)
theorem pbB_t {b : Int} (h : pbB b = true) : b = 2 ∨ b = 3 ∨ b = 5 := by simpa [pbB] using h
/-- a weighting whose modulus is its base, for zero -/
def pW (b : Int) (l : List Int) : Wt := ⟨b, b, 0, l⟩
def pairB (b : Int) (l1 l2 : List Int) : Bool := (pbB b && decide (l1.length = l2.length)) && (validB (pW b l1) && validB (pW b l2))
def pairCh (b : Int) (l1 l2 : List Int) : Ch := if pairB b l1 l2 = true then joinCh (wtCh (pW b l1)) (wtCh (pW b l2)) else zCh
theorem wt_lenP (X : Wt) : (wtCh X).places.length = X.weights.length := (addF_inv (X.weights.map (wgL X.base.toNat)) _ (Nat.le_refl _)).1.trans (List.length_map ..)
theorem pair_fit {b : Int} {l1 l2 : List Int} (h : pairB b l1 l2 = true) : Fit (wtCh (pW b l1)) (wtCh (pW b l2)) := by
  unfold pairB at h
  simp only [Bool.and_eq_true, decide_eq_true_eq] at h
  obtain ⟨⟨h1, h2⟩, h3, h4⟩ := h
  refine ⟨validCh_ok (addCh_valid (validB_addOk h3)), validCh_ok (addCh_valid (validB_addOk h4)), rfl, ?_, ?_⟩
  · rw [wt_lenP, wt_lenP]; exact h2
  · show b * b ≤ 36
    rcases pbB_t h1 with rfl | rfl | rfl <;> decide
/-- a chain of the call's own, or none -/
def RetChP (D : Ch) (ok : Bool) (w : World) (e : Ending) (w' : World) : Prop :=
  ∃ a x c b y d, e = .returned (.tuple #[.agg #[.int .i64 D.base, .int .i64 D.states, .int .i64 D.start, .int .i64 D.fin, .slice a x c, .slice b y d], .bool ok]) ∧ x ≤ 1048576 ∧ y ≤ 1048576 ∧ ChP w' w.heap.size w'.heap.size D a x c b y d ∧ Ext w w'
/-- a chain, or none -/
def RetChK (D : Ch) (ok : Bool) (w : World) (e : Ending) (w' : World) : Prop :=
  ∃ a x c b y d, e = .returned (.tuple #[.agg #[.int .i64 D.base, .int .i64 D.states, .int .i64 D.start, .int .i64 D.fin, .slice a x c, .slice b y d], .bool ok]) ∧ ChIn w' D a x c b y d ∧ Ext w w'
set_option maxHeartbeats 400000 in
theorem impl_pairBase (b : Int) (w : World) : Calls Try.prog 97 #[.int .i64 b] w (Same (.bool (pbB b)) w) := by
  by_cases h1 : b = 2
  · subst h1
    go_enter Try.func97, Try.ntmps97
    go_wp2
    go_ret
    exact ⟨rfl, rfl⟩
  · by_cases h2 : b = 3
    · subst h2
      go_enter Try.func97, Try.ntmps97
      go_wp2
      go_ret
      exact ⟨rfl, rfl⟩
    · have HB := Lib.hid (show (b == 2 || b == 3 || b == 5) = pbB b by unfold pbB; rw [Bool.or_assoc])
      go_enter Try.func97, Try.ntmps97
      go_wp2
      go_ret
      exact ⟨by rw [← HB.out]; rfl, rfl⟩
def wtK (X : Wt) : Ch := if validB X = true then wtCh X else zCh
set_option maxHeartbeats 2000000 in
theorem impl_WeightChainK (X : Wt) (a : Option Addr) (n c : Nat) (w : World) (hw : Ints w a n c X.weights) :
    Calls Try.prog 60 #[.agg #[.int .i64 X.base, .int .i64 X.modulus, .int .i64 X.target, .slice a n c]] w (RetChK (wtK X) (validB X) w) := by
  cases hval : validB X
  rotate_left
  · refine (impl_WeightChain X a n c w hw hval).mono ?_
    rintro e w' ⟨a1, x1, c1, b1, y1, d1, he, hch, hx⟩
    unfold wtK
    rw [if_pos hval]
    exact ⟨a1, x1, c1, b1, y1, d1, he, hch, hx⟩
  have HVl := Lib.hid (fun W (h : Ext w W) => impl_valid X a n c W (hw.ext h))
  rw [hval] at HVl
  have HK := Lib.hid (show wtK X = zCh by unfold wtK; rw [hval]; rfl)
  clear hw hval
  go_enter Try.func60, Try.ntmps60
  go_wp2_with fail
  obtain ⟨g, hg⟩ : ∃ g, g = w.heap.size + 1 := ⟨_, rfl⟩
  obtain ⟨p, hp⟩ : ∃ p, p = w.heap.size := ⟨_, rfl⟩
  obtain ⟨wz, hwz⟩ : ∃ W, W = (w.alloc (.cells #[.int .i64 X.base, .int .i64 X.modulus, .int .i64 X.target, .slice a n c] 72)).alloc (.cells #[.int .i64 0, .int .i64 0, .int .i64 0, .int .i64 0, .slice none 0 0, .slice none 0 0] 27) := ⟨_, rfl⟩
  have hxz : Ext w wz := by rw [hwz]; exact (by repeat (first | (with_reducible exact Ext.refl _) | (with_reducible refine Ext.drewN ?_ _) | (with_reducible refine Ext.drew ?_) | (with_reducible refine Ext.alloc ?_ _) | ((with_reducible refine Ext.setCell ?_ ?_ _); rotate_left; focus (first | (simp; done) | (simp; omega) | omega)) | assumption | (with_reducible refine Ext.trans ?_ (by assumption))))
  have HZ := Lib.hid (show SAt wz g 27 #[.int .i64 0, .int .i64 0, .int .i64 0, .int .i64 0, .slice none 0 0, .slice none 0 0] from by rw [hwz, hg]; exact SAt.new' _ _ _ (by simp))
  have HP := Lib.hid (show SAt wz p 72 #[.int .i64 X.base, .int .i64 X.modulus, .int .i64 X.target, .slice a n c] from by rw [hwz, hp]; exact (SAt.new' w #[.int .i64 X.base, .int .i64 X.modulus, .int .i64 X.target, .slice a n c] 72 rfl).alloc _)
  have hgw : w.heap.size ≤ g := by omega
  have d0 := HP.out.cell 0 (by simp)
  have d1 := HP.out.cell 1 (by simp)
  have d2 := HP.out.cell 2 (by simp)
  have d3 := HP.out.cell 3 (by simp)
  simp only [List.getElem_toArray, List.getElem_cons_succ, List.getElem_cons_zero] at d0 d1 d2 d3
  have hpz : p < wz.heap.size := HP.out.lt
  rw [← hwz, ← hp, show p + 1 = g by omega]
  clear hwz hg hp
  go_wp2_with ((with_reducible refine (HVl.out _ hxz).mono ?_); rintro e w1 ⟨rfl, hy1⟩; have HZ1 := Lib.hid (HZ.out.ext hy1); have hx1 : Ext w w1 := hxz.trans hy1; have z0 := HZ1.out.cell 0 (by simp); have z1 := HZ1.out.cell 1 (by simp); have z2 := HZ1.out.cell 2 (by simp); have z3 := HZ1.out.cell 3 (by simp); have z4 := HZ1.out.cell 4 (by simp); have z5 := HZ1.out.cell 5 (by simp); have fr := fun j => HZ1.out.frozen j; have hltz := HZ1.out.lt; (try simp only [List.getElem_toArray, List.getElem_cons_succ, List.getElem_cons_zero] at z0 z1 z2 z3 z4 z5))
  refine bodyPost_ret (v := .tuple #[.agg #[.int .i64 0, .int .i64 0, .int .i64 0, .int .i64 0, .slice none 0 0, .slice none 0 0], .bool false]) ?_ rfl ?_
  · simp [results, Try.results60, go_sem, z0, z1, z2, z3, z4, z5]
  · rw [HK.out]
    refine ⟨none, 0, 0, none, 0, 0, rfl, zCh_in _, ?_⟩
    repeat (first | with_reducible exact hx1 | with_reducible refine Ext.setCell ?_ hgw _)
set_option maxHeartbeats 4000000 in
theorem impl_PairChain (b : Int) (a : Option Addr) (n c : Nat) (l1 : List Int) (a2 : Option Addr) (n2 c2 : Nat) (l2 : List Int) (w : World) (h1 : Ints w a n c l1) (h2 : Ints w a2 n2 c2 l2) :
    Calls Try.prog 38 #[.int .i64 b, .slice a n c, .slice a2 n2 c2] w (RetChP (pairCh b l1 l2) (pairB b l1 l2) w) := by
  have HL1 := Lib.hid h1.len
  have HL2 := Lib.hid h2.len
  have HPb := Lib.hid (fun W => impl_pairBase b W)
  have HW1 := Lib.hid (fun W (h : Ext w W) => show Calls Try.prog 60 #[.agg #[.int .i64 b, .int .i64 b, .int .i64 0, .slice a n c]] W (RetChK (wtK (pW b l1)) (validB (pW b l1)) W) from impl_WeightChainK (pW b l1) a n c W (h1.ext h))
  have HW2 := Lib.hid (fun W (h : Ext w W) => show Calls Try.prog 60 #[.agg #[.int .i64 b, .int .i64 b, .int .i64 0, .slice a2 n2 c2]] W (RetChK (wtK (pW b l2)) (validB (pW b l2)) W) from impl_WeightChainK (pW b l2) a2 n2 c2 W (h2.ext h))
  clear h1 h2
  have hno : pairB b l1 l2 = false → pairCh b l1 l2 = zCh := fun h => by unfold pairCh; rw [h]; rfl
  have HNo := Lib.hid hno
  obtain ⟨q, hq⟩ : ∃ q, q = w.heap.size := ⟨_, rfl⟩
  have hqw : w.heap.size ≤ q := by omega
  have HQw := Lib.hid hq
  clear hno
  cases hpb : pbB b
  · rw [hpb] at HPb
    have hF : pairB b l1 l2 = false := by unfold pairB; rw [hpb]; rfl
    rw [HNo.out hF, hF]
    clear hpb hF hq HW1 HW2
    go_enter Try.func38, Try.ntmps38
    go_wp2_with ((with_reducible refine (HPb.out _).mono ?_); rintro e w1 ⟨rfl, rfl⟩)
    refine bodyPost_ret (v := .tuple #[.agg #[.int .i64 0, .int .i64 0, .int .i64 0, .int .i64 0, .slice none 0 0, .slice none 0 0], .bool false]) ?_ rfl ?_
    · simp [results, Try.results38, go_sem]
    · exact ⟨none, 0, 0, none, 0, 0, rfl, by omega, by omega, zCh_p _ _ _ (Nat.le_refl _), (by repeat (first | (with_reducible exact Ext.refl _) | (with_reducible assumption) | (with_reducible refine Ext.drewN ?_ _) | (with_reducible refine Ext.drew ?_) | (with_reducible refine Ext.alloc ?_ _) | ((with_reducible refine Ext.setCell ?_ ?_ _); rotate_left; focus (first | (simp; done) | (simp; omega) | omega)) | (with_reducible refine Ext.trans ?_ (by with_reducible assumption))))⟩
  rw [hpb] at HPb
  by_cases hn : n = n2
  rotate_left
  · have hF : pairB b l1 l2 = false := by unfold pairB; rw [hpb, decide_eq_false (by rw [HL1.out, HL2.out]; exact hn)]; rfl
    rw [HNo.out hF, hF]
    have hne : ((n : Int) != (n2 : Int)) = true := by simp; omega
    clear hpb hF hq HW1 HW2
    go_enter Try.func38, Try.ntmps38
    go_wp2_with ((with_reducible refine (HPb.out _).mono ?_); rintro e w1 ⟨rfl, rfl⟩)
    refine bodyPost_ret (v := .tuple #[.agg #[.int .i64 0, .int .i64 0, .int .i64 0, .int .i64 0, .slice none 0 0, .slice none 0 0], .bool false]) ?_ rfl ?_
    · simp [results, Try.results38, go_sem]
    · exact ⟨none, 0, 0, none, 0, 0, rfl, by omega, by omega, zCh_p _ _ _ (Nat.le_refl _), (by repeat (first | (with_reducible exact Ext.refl _) | (with_reducible assumption) | (with_reducible refine Ext.drewN ?_ _) | (with_reducible refine Ext.drew ?_) | (with_reducible refine Ext.alloc ?_ _) | ((with_reducible refine Ext.setCell ?_ ?_ _); rotate_left; focus (first | (simp; done) | (simp; omega) | omega)) | (with_reducible refine Ext.trans ?_ (by with_reducible assumption))))⟩
  subst hn
  have HAll := Lib.hid (show pairB b l1 l2 = (validB (pW b l1) && validB (pW b l2)) by unfold pairB; rw [hpb, decide_eq_true (by rw [HL1.out, HL2.out])]; rfl)
  clear hpb
  go_enter Try.func38, Try.ntmps38
  obtain ⟨wz, hwz⟩ : ∃ W, W = w.alloc (.cells #[.int .i64 0, .int .i64 0, .int .i64 0, .int .i64 0, .slice none 0 0, .slice none 0 0] 27) := ⟨_, rfl⟩
  have hxz : Ext w wz := by rw [hwz]; exact (by repeat (first | (with_reducible exact Ext.refl _) | (with_reducible refine Ext.drewN ?_ _) | (with_reducible refine Ext.drew ?_) | (with_reducible refine Ext.alloc ?_ _) | ((with_reducible refine Ext.setCell ?_ ?_ _); rotate_left; focus (first | (simp; done) | (simp; omega) | omega)) | assumption | (with_reducible refine Ext.trans ?_ (by assumption))))
  have HZ := Lib.hid (show SAt wz q 27 #[.int .i64 0, .int .i64 0, .int .i64 0, .int .i64 0, .slice none 0 0, .slice none 0 0] from by rw [hwz, hq]; exact SAt.new' _ _ _ rfl)
  go_wp2_with fail
  rw [← hwz, ← hq]
  have hqz : q < wz.heap.size := HZ.out.lt
  clear hwz hq
  generalize hd1 : wtK (pW b l1) = D1 at HW1
  generalize hd2 : wtK (pW b l2) = D2 at HW2
  generalize hv1 : validB (pW b l1) = ok1 at HW1
  generalize hv2 : validB (pW b l2) = ok2 at HW2
  have HD1 := Lib.hid hd1
  have HD2 := Lib.hid hd2
  have HV1 := Lib.hid hv1
  have HV2 := Lib.hid hv2
  clear hd1 hd2 hv1 hv2
  go_upto_region 5 with (first | ((with_reducible refine (HPb.out _).mono ?_); rintro e w1 ⟨rfl, rfl⟩) | ((with_reducible refine (HW1.out _ (hxz.trans (by repeat (first | (with_reducible exact Ext.refl _) | (with_reducible assumption) | (with_reducible refine Ext.drewN ?_ _) | (with_reducible refine Ext.drew ?_) | (with_reducible refine Ext.alloc ?_ _) | ((with_reducible refine Ext.setCell ?_ ?_ _); rotate_left; focus (first | (simp; done) | (simp; omega) | omega)) | (with_reducible refine Ext.trans ?_ (by with_reducible assumption)))))).mono ?_); rintro e w1 ⟨a3, x3, c3, b3, y3, d3, rfl, hch3, hy3⟩; have HC3 := Lib.hid hch3; have hx3 : Ext wz w1 := hy3; clear hch3 hy3) | ((with_reducible refine (HW2.out _ (hxz.trans (by repeat (first | (with_reducible exact Ext.refl _) | (with_reducible assumption) | (with_reducible refine Ext.drewN ?_ _) | (with_reducible refine Ext.drew ?_) | (with_reducible refine Ext.alloc ?_ _) | ((with_reducible refine Ext.setCell ?_ ?_ _); rotate_left; focus (first | (simp; done) | (simp; omega) | omega)) | (with_reducible refine Ext.trans ?_ (by with_reducible assumption)))))).mono ?_); rintro e w2 ⟨a4, x4, c4, b4, y4, d4, rfl, hch4, hy4⟩; have HC4 := Lib.hid hch4; have HS8 := Lib.hid ((SAt.new' w1 #[.int .i64 D1.base, .int .i64 D1.states, .int .i64 D1.start, .int .i64 D1.fin, .slice a3 x3 c3, .slice b3 y3 d3] 27 rfl).ext hy4); have HC3' := Lib.hid (HC3.out.ext (((Ext.refl w1).alloc _).trans hy4)); have hx4 : Ext wz w2 := Ext.trans (by repeat (first | (with_reducible exact Ext.refl _) | (with_reducible assumption) | (with_reducible refine Ext.drewN ?_ _) | (with_reducible refine Ext.drew ?_) | (with_reducible refine Ext.alloc ?_ _) | ((with_reducible refine Ext.setCell ?_ ?_ _); rotate_left; focus (first | (simp; done) | (simp; omega) | omega)) | (with_reducible refine Ext.trans ?_ (by with_reducible assumption)))) hy4; clear hch4 hy4))
  obtain ⟨q8, hq8⟩ : ∃ x, x = w1.heap.size := ⟨_, rfl⟩
  obtain ⟨q10, hq10⟩ : ∃ x, x = w2.heap.size := ⟨_, rfl⟩
  rw [← hq8] at HS8
  obtain ⟨w3, hw3⟩ : ∃ W, W = w2.alloc (.cells #[.int .i64 D2.base, .int .i64 D2.states, .int .i64 D2.start, .int .i64 D2.fin, .slice a4 x4 c4, .slice b4 y4 d4] 27) := ⟨_, rfl⟩
  have hx23 : Ext w2 w3 := by rw [hw3]; exact (by repeat (first | (with_reducible exact Ext.refl _) | (with_reducible refine Ext.drewN ?_ _) | (with_reducible refine Ext.drew ?_) | (with_reducible refine Ext.alloc ?_ _) | ((with_reducible refine Ext.setCell ?_ ?_ _); rotate_left; focus (first | (simp; done) | (simp; omega) | omega)) | assumption | (with_reducible refine Ext.trans ?_ (by assumption))))
  have HS83 := Lib.hid (HS8.out.ext hx23)
  have HS10 := Lib.hid (show SAt w3 q10 27 #[.int .i64 D2.base, .int .i64 D2.states, .int .i64 D2.start, .int .i64 D2.fin, .slice a4 x4 c4, .slice b4 y4 d4] from by rw [hw3, hq10]; exact SAt.new' _ _ _ rfl)
  have HC33 := Lib.hid (HC3'.out.ext hx23)
  have HC43 := Lib.hid (HC4.out.ext hx23)
  have hxz3 : Ext wz w3 := hx4.trans hx23
  have HZ3 := Lib.hid (HZ.out.ext hxz3)
  rw [← hq8, ← hq10, ← hw3]
  have hq38 : q8 ≠ q := by have := hx3.le; omega
  clear hw3 hq8 hq10 HS8 HC3 HC3' HC4 HW1 HW2
  have m0 := HS83.out.cell 0 (by simp)
  have m1 := HS83.out.cell 1 (by simp)
  have m2 := HS83.out.cell 2 (by simp)
  have m3 := HS83.out.cell 3 (by simp)
  have m4 := HS83.out.cell 4 (by simp)
  have m5 := HS83.out.cell 5 (by simp)
  have k0 := HS10.out.cell 0 (by simp)
  have k1 := HS10.out.cell 1 (by simp)
  have k2 := HS10.out.cell 2 (by simp)
  have k3 := HS10.out.cell 3 (by simp)
  have k4 := HS10.out.cell 4 (by simp)
  have k5 := HS10.out.cell 5 (by simp)
  have z0 := HZ3.out.cell 0 (by simp)
  have z1 := HZ3.out.cell 1 (by simp)
  have z2 := HZ3.out.cell 2 (by simp)
  have z3 := HZ3.out.cell 3 (by simp)
  have z4 := HZ3.out.cell 4 (by simp)
  have z5 := HZ3.out.cell 5 (by simp)
  have fr := fun j => HZ3.out.frozen j
  have ltz := HZ3.out.lt
  try simp only [List.getElem_toArray, List.getElem_cons_succ, List.getElem_cons_zero] at m0 m1 m2 m3 m4 m5 k0 k1 k2 k3 k4 k5 z0 z1 z2 z3 z4 z5
  have hxw3 : Ext w w3 := hxz.trans hxz3
  by_cases hok : ok1 = true ∧ ok2 = true
  · obtain ⟨rfl, rfl⟩ := hok
    have hP : pairB b l1 l2 = true := by rw [HAll.out, HV1.out, HV2.out]; rfl
    have hfit := pair_fit hP
    have e1 : D1 = wtCh (pW b l1) := by rw [← HD1.out]; unfold wtK; rw [if_pos HV1.out]
    have e2 : D2 = wtCh (pW b l2) := by rw [← HD2.out]; unfold wtK; rw [if_pos HV2.out]
    rw [← e1, ← e2] at hfit
    have hv1 : validCh D1 = true := by rw [e1]; exact addCh_valid (validB_addOk HV1.out)
    have hv2 : validCh D2 = true := by rw [e2]; exact addCh_valid (validB_addOk HV2.out)
    have hy : y4 = y3 := by have h1 := HC33.out.ps.len; have h2 := HC43.out.ps.len; have h3 := hfit.l; omega
    subst hy
    have HJ := Lib.hid (impl_JoinR D1 D2 a3 x3 c3 b3 y4 d3 a4 x4 c4 b4 d4 w3 HC33.out HC43.out hfit hv1 hv2)
    have HPC := Lib.hid (show pairCh b l1 l2 = joinCh D1 D2 by unfold pairCh; rw [if_pos hP, e1, e2])
    have HPt := Lib.hid hP
    obtain ⟨DD, hDD⟩ : ∃ x, x = joinCh D1 D2 := ⟨_, rfl⟩
    have HDD := Lib.hid hDD
    rw [← hDD] at HPC
    clear e1 e2 hfit hv1 hv2 hP hDD
    go_wp2_with ((go_at_call 27; (with_reducible refine HJ.out.mono ?_); rintro e w9 ⟨a9, x9, c9, b9, y9, d9, rfl, hx9n, hy9n, hch9, hy9⟩; rw [← HDD.out] at hch9 ⊢; have HC9 := Lib.hid hch9; have HZ9 := Lib.hid (HZ3.out.ext hy9); have g0 := HZ9.out.cell 0 (by simp); have g1 := HZ9.out.cell 1 (by simp); have g2 := HZ9.out.cell 2 (by simp); have g3 := HZ9.out.cell 3 (by simp); have g4 := HZ9.out.cell 4 (by simp); have g5 := HZ9.out.cell 5 (by simp); have fr9 := fun j => HZ9.out.frozen j; have lt9 := HZ9.out.lt; have hx9 : Ext w w9 := hxw3.trans hy9; have hle9 := hy9.le; (try simp only [List.getElem_toArray, List.getElem_cons_succ, List.getElem_cons_zero] at g0 g1 g2 g3 g4 g5); clear hch9 hy9))
    refine bodyPost_ret (v := .tuple #[.agg #[.int .i64 DD.base, .int .i64 DD.states, .int .i64 DD.start, .int .i64 DD.fin, .slice a9 x9 c9, .slice b9 y9 d9], .bool true]) ?_ rfl ?_
    · simp [results, Try.results38, go_sem, g0, g1, g2, g3, g4, g5]
    · have hq3 : q < w3.heap.size := ltz
      have hww3 : w.heap.size ≤ w3.heap.size := hxw3.le
      rw [HPC.out, HPt.out]
      have hfin : ∀ W, Chg 0 w3.heap.size w9 W → w9.heap.size ≤ W.heap.size → Ext w W → RetChP DD true w (.returned (.tuple #[.agg #[.int .i64 DD.base, .int .i64 DD.states, .int .i64 DD.start, .int .i64 DD.fin, .slice a9 x9 c9, .slice b9 y9 d9], .bool true])) W := fun W hc hl hx =>
        ⟨a9, x9, c9, b9, y9, d9, rfl, hx9n, hy9n, (HC9.out.chg hc (.inl (Nat.le_refl _))).mono hww3 hl, hx⟩
      refine hfin _ ?_ ?_ ?_
      · exact (by repeat (first | (with_reducible exact Chg.refl _ _ _) | (with_reducible assumption) | ((with_reducible refine Chg.trans ?_ (Chg.setP _ _ _ ?_ ?_)); rotate_left; (focus (first | (simp; done) | (simp; omega) | omega)); (focus (first | (simp; done) | (simp; omega) | omega))) | (with_reducible refine Chg.trans ?_ (Chg.ext (Ext.alloc (Ext.refl _) _) _ _)) | (with_reducible refine Chg.trans ?_ (Chg.ext (Ext.drew (Ext.refl _)) _ _)) | (with_reducible refine Chg.trans ?_ (Chg.ext (Ext.drewN (Ext.refl _) _) _ _))))
      · simp [World.setCell]
      · repeat (first | with_reducible exact hx9 | with_reducible refine Ext.setCell ?_ hqw _)
  · have hF : pairB b l1 l2 = false := by
      rw [HAll.out, HV1.out, HV2.out]
      cases ok1 <;> cases ok2 <;> first | rfl | exact absurd ⟨rfl, rfl⟩ hok
    have HFa := Lib.hid hF
    clear hF
    have ho : ok1 = false ∨ ok1 = true ∧ ok2 = false := by cases ok1 <;> cases ok2 <;> simp at hok ⊢
    clear hok
    rcases ho with rfl | ⟨rfl, rfl⟩
    all_goals
      go_wp2_with fail
      refine bodyPost_ret (v := .tuple #[.agg #[.int .i64 0, .int .i64 0, .int .i64 0, .int .i64 0, .slice none 0 0, .slice none 0 0], .bool false]) ?_ rfl ?_
      · simp [results, Try.results38, go_sem, z0, z1, z2, z3, z4, z5]
      · rw [HNo.out HFa.out, HFa.out]
        refine ⟨none, 0, 0, none, 0, 0, rfl, by omega, by omega, zCh_p _ _ _ (Nat.le_refl _), ?_⟩
        repeat (first | with_reducible exact hxw3 | with_reducible refine Ext.setCell ?_ hqw _)
end Go.Proofs.Ytaiieodllhoelaa
