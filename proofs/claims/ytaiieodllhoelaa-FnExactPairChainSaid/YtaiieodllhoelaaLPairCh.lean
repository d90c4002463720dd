/- Walks: marks on a chain whose rows lie in any order, apart from one another. -/
import Derived.Test.YtaiieodllhoelaaChP
import Derived.Test.YtaiieodllhoelaaMarkR
import Derived.Test.YtaiieodllhoelaaSpPC
import Derived.Test.YtaiieodllhoelaaChL
import Derived.Test.YtaiieodllhoelaaLInts
import Derived.Test.YtaiieodllhoelaaOpen
import Derived.Deep.CutRange
namespace Go.Proofs.Ytaiieodllhoelaa
set_option maxRecDepth 100000
open Go.RowKit

theorem Mk.chg1 {B : Nat} {a : Option Addr} {g : Addr} {w w' : World} (h : Mk B a w w') (ha : a = some g) : Chg g.block (g.block + 1) w w' :=
  ⟨h.below.os, h.below.tape, h.below.output, h.size, fun q hq ho => h.block q hq fun g' hg' he => by rw [ha] at hg'; cases hg'; omega⟩
theorem Mk.chg0 {B : Nat} {a : Option Addr} {w w' : World} (h : Mk B a w w') (ha : a = none) : Chg 0 0 w w' :=
  ⟨h.below.os, h.below.tape, h.below.output, h.size, fun q hq _ => h.block q hq fun g' hg' => by rw [ha] at hg'; cases hg'⟩
set_option maxHeartbeats 1000000 in
theorem markSSSp (a : Option Addr) (n c : Nat) (ll : List (List (List Int))) (k lo hi : Nat) (vs : List Value) (s t : Nat → Nat) (b : Option Addr) (mb db : Nat) (ps : List Int) (w : World) (hl : ll.length = n) (hrow : Row w lo hi 43 a n c vs n s t (RM 25 2 ll)) (hpl : OwnIn w lo hi 2 b mb db (I ps)) (hoff : ∀ g, b = some g → ∀ k, k < n → g.block < s k ∨ t k ≤ g.block) (hn : n ≤ 549755813888) (hk : k + szLL ll ≤ 549755813888) (hsm : ∀ t ∈ ll, t.length ≤ 1048576) :
    Calls Try.prog 98 #[.slice a n c, .int .i64 k] w (MarkR (k + szLL ll) lo hi w fun w' => Row w' lo hi 43 a n c vs n s t (RM 25 2 (markLLL k ll)) ∧ OwnIn w' lo hi 2 b mb db (I ps)) := by
  have HPl := Lib.hid hpl
  have HOff := Lib.hid hoff
  have HL := Lib.hid hl
  have HR0 := Lib.hid hrow
  have hz := hk
  have hln := markLLL_len k ll
  have Hhln := Lib.hid hln; clear hln
  clear hl hrow hpl hoff
  go_enter Try.func98, Try.ntmps98
  go_wp2
  go_loopw [1, 5] (fun x i wr => ∃ (j m : Nat), j ≤ n ∧ i = .int .i64 j ∧ x = .int .i64 ((k : Int) + m) ∧ Hid (m = szLL (ll.take j)) ∧ Chg lo hi w wr ∧ Row wr lo hi 43 a n c vs n s t (RM 25 2 (mixL (markLLL k ll) ll j)) ∧ OwnIn wr lo hi 2 b mb db (I ps)) (fun _ i _ => n - (intOf i).toNat)
  case atStart => exact ⟨0, 0, Nat.zero_le _, rfl, by simp, Lib.hid rfl, Chg.refl _ _ _, HR0.out, HPl.out⟩
  case round =>
    obtain ⟨j, m, hj, rfl, rfl, HM, hc, hr, hp⟩ := hrel
    have HPr := Lib.hid hp
    clear hp
    have HC := Lib.hid hc
    have HR := Lib.hid hr
    clear hc hr
    have hm : m ≤ 549755813888 - k := by have := szLL_take ll j; rw [HM.out]; omega
    by_cases hlt : j < n
    · have hjl : j < ll.length := by rw [HL.out]; exact hlt
      obtain ⟨b0, off, f1, f2⟩ := HR.out.own.sl.one (P := Try.prog) 24 43 und_tabs cell_tab1 (j : Int) (by omega) (by omega)
      rw [show (j : Int).toNat = j by omega] at f2
      obtain ⟨s1, s2, s3, a2, n2, c2, hgv, hin⟩ := HR.out.el j hlt
      rw [hgv] at f2
      have hge : gm (mixL (markLLL k ll) ll j) j = gm ll j := by
        have := mixL_get (A := markLLL k ll) (B := ll) Hhln.out j j []
        rw [if_neg (by omega)] at this
        exact this
      rw [hge] at hin
      have HS := Lib.hid (szLL_step hjl)
      have hn2 : m + szL (gm ll j) ≤ 549755813888 - k := by have h1 := szLL_take ll (j + 1); have h2 := HS.out; have h3 := HM.out; omega
      obtain ⟨hb, hbl⟩ : n2 ≤ 549755813888 ∧ True := ⟨by have := hsm _ (gm_mem hjl); obtain ⟨_, _, _, h5, _⟩ := hin; omega, trivial⟩
      have HCall := Lib.hid (markSSr a2 n2 c2 (gm ll j) (k + m) (s j) (t j) wr hin hb (by omega))
      rw [show (((k + m : Nat)) : Int) = (k : Int) + m by omega] at HCall
      have HGv := Lib.hid hgv
      have HGet := Lib.hid (markLLL_get k ll j hjl)
      clear hgv hge hin s1 s2 s3 hjl
      go_wp2_with fail
      refine HCall.out.mono ?_
      rintro e w2 ⟨rfl, hc2, ho2⟩
      have hnew : RM 25 2 (mixL (markLLL k ll) ll (j + 1)) j (gv vs j) w2 (s j) (t j) := by
        refine ⟨a2, n2, c2, HGv.out, ?_⟩
        have e2 := mixL_get (A := markLLL k ll) (B := ll) Hhln.out (j + 1) j []
        rw [if_pos (by omega)] at e2
        have e3 : gm (mixL (markLLL k ll) ll (j + 1)) j = markLL (k + m) (gm ll j) := by
          unfold gm
          rw [e2, HM.out]
          exact HGet.out
        rw [e3]
        exact ho2
      rw [show ((((k + m) + szL (gm ll j) : Nat)) : Int) = (k : Int) + m + szL (gm ll j) by omega]
      clear ho2
      clear f1 f2
      go_wp2
      refine ⟨⟨j + 1, m + szL (gm ll j), by omega, by go_num, by go_num, by show _ = _; rw [HM.out, HS.out], HC.out.trans (hc2.mono (HR.out.el j hlt).1 (HR.out.el j hlt).2.2.1), HR.out.at (RM.keeps _ _ _) hlt hc2 hnew (fun i v W l u hne h => ?_), ⟨HPr.out.1.chg hc2 (fun g hg => HOff.out g hg j hlt), HPr.out.2⟩⟩, by simp [intOf]; omega⟩
      obtain ⟨a3, n3, c3, h3, h4⟩ := h
      refine ⟨a3, n3, c3, h3, ?_⟩
      have e1 := mixL_get (A := markLLL k ll) (B := ll) Hhln.out j i []
      have e2 := mixL_get (A := markLLL k ll) (B := ll) Hhln.out (j + 1) i []
      have e3 : gm (mixL (markLLL k ll) ll (j + 1)) i = gm (mixL (markLLL k ll) ll j) i := by
        unfold gm
        rw [e1, e2]
        by_cases e : i < j
        · rw [if_pos e, if_pos (by omega)]
        · rw [if_neg e, if_neg (by omega)]
      rw [e3]
      exact h4
    · obtain rfl : j = n := by omega
      go_wp2
      go_ret
      have hfull : m = szLL ll := by rw [HM.out, take_full (by rw [HL.out]; exact Nat.le_refl _)]
      refine ⟨ri (by omega), HC.out, ?_, HPr.out⟩
      have := HR.out
      rw [mixL_full Hhln.out (by rw [HL.out]; exact Nat.le_refl _)] at this
      exact this
set_option maxHeartbeats 1000000 in
theorem markChP (D : Ch) (a : Option Addr) (n c : Nat) (b : Option Addr) (m d : Nat) (k lo hi : Nat) (w : World) (hv : ChP w lo hi D a n c b m d) (hhi : hi ≤ w.heap.size) (hn : n ≤ 1048576) (hk : k + szCh2 D ≤ 549755813888) (hsm : ∀ t ∈ D.tabs, t.length ≤ 1048576) :
    Calls Try.prog 41 #[.agg #[.int .i64 D.base, .int .i64 D.states, .int .i64 D.start, .int .i64 D.fin, .slice a n c, .slice b m d], .int .i64 k] w (MarkR (k + szCh2 D) lo hi w fun w' => ChP w' lo hi (markC k D) a n c b m d) := by
  obtain ⟨vs, s, t, hl, hrow, hpl, hoff⟩ := hv
  have hlp : D.places.length = m := by have := hpl.1.len; rwa [I_len] at this
  have HCU := Lib.hid (fun W (hx : Ext w W) => markSSSp a n c D.tabs k lo hi vs s t b m d D.places W hl (hrow.ext (RM.keeps _ _ _) hx) (hpl.ext hx) hoff (by omega) (by unfold szCh2 at hk; omega) hsm)
  have HPL := Lib.hid (fun W (ho : OwnIn W lo hi 2 b m d (I D.places)) => markInts b m d D.places (k + szLL D.tabs) lo W ho.1 (by unfold szCh2 at hk; omega) (by unfold szCh2 at hk; omega))
  have HOff := Lib.hid hoff
  have HLt := Lib.hid hl
  have HSz := Lib.hid (show szCh2 D = szLL D.tabs + m by rw [szCh2, hlp])
  have hzz : k + szLL D.tabs + m ≤ 549755813888 := by unfold szCh2 at hk; omega
  have hbx : (w.alloc (.cells #[.int .i64 D.base, .int .i64 D.states, .int .i64 D.start, .int .i64 D.fin, .slice a n c, .slice b m d] 27)).cell? ⟨w.heap.size, 5, none⟩ = some (.slice b m d) := by go_simp
  have HBx := Lib.hid hbx
  have Hhlp := Lib.hid hlp; clear hlp
  clear hrow hpl hoff hl hbx hsm
  go_enter Try.func41, Try.ntmps41
  go_wp2_with fail
  refine (HCU.out _ ((Ext.refl w).alloc _)).mono ?_
  rintro e w2 ⟨rfl, hc2, hq2, ho2⟩
  have hcell : w2.cell? ⟨w.heap.size, 5, none⟩ = some (.slice b m d) := (hc2.cell (by simp) (.inr hhi)).trans HBx.out
  have hcw : Chg lo hi w w2 := (Chg.ext ((Ext.refl w).alloc _) lo hi).trans hc2
  have HP2 := Lib.hid (HPL.out w2 ho2)
  have HQ2 := Lib.hid hq2
  have HO2 := Lib.hid ho2
  have HC2 := Lib.hid hcw
  rw [show (((k + szLL D.tabs : Nat)) : Int) = (k : Int) + szLL D.tabs by omega] at HP2 ⊢
  clear hc2 hq2 hcw HCU HPL ho2
  go_wp2_with fail
  refine HP2.out.mono ?_
  rintro e w3 ⟨rfl, hm3, ho3⟩
  go_wp2
  go_ret
  have hr3 : Row w3 lo hi 43 a n c vs n s t (RM 25 2 (markLLL k D.tabs)) := by
    cases hbb : b with
    | none => exact HQ2.out.chg (RM.keeps _ _ _) (hm3.chg0 hbb) (.inl (Nat.zero_le _))
    | some g =>
      have hne := own_ne_type HO2.out.1 HQ2.out.own (by decide)
      exact HQ2.out.touch1 (q := g.block) (RM.keeps _ _ _) (hm3.chg1 hbb) (HQ2.out.own.chg (hm3.chg1 hbb) (fun x hx => by have := hne g x hbb hx; omega)) (fun k hk => HOff.out g hbb k hk)
  exact ⟨ri (by rw [HSz.out]; omega), HC2.out.trans (hm3.chg (Nat.le_refl _) HO2.out.2 (fun g hg => (HO2.out.1.blk g hg).1)), vs, s, t, (markLLL_len k D.tabs).trans HLt.out, hr3, ⟨by show Own w3 lo _ b m d (I (markL _ D.places.length)); rw [Hhlp.out]; exact ho3, HO2.out.2⟩, HOff.out⟩
end Go.Proofs.Ytaiieodllhoelaa

/- The law on PairChain: walked. -/
namespace Go.Proofs.Ytaiieodllhoelaa
set_option maxRecDepth 100000
open Go.RowKit

theorem pair_small (b : Int) (l1 l2 : List Int) : SmallCh (pairCh b l1 l2) := by
  unfold pairCh
  split
  · exact (pair_fit ‹_›).small
  · exact zCh_small
theorem sumMulP {α : Type} (f : α → Nat) (B : Nat) : ∀ (l : List α), (∀ x ∈ l, f x ≤ B) → (l.map f).sum ≤ l.length * B
  | [], _ => by simp
  | x :: l, h => by
    have h1 := h x (List.mem_cons_self ..)
    have h2 := sumMulP f B l fun y hy => h y (List.mem_cons_of_mem _ hy)
    rw [List.map_cons, List.sum_cons, List.length_cons, Nat.succ_mul]
    omega
theorem pair_sz (b : Int) (l1 l2 : List Int) : szCh2 (pairCh b l1 l2) ≤ 1048576 ∧ ∀ t ∈ (pairCh b l1 l2).tabs, t.length ≤ 1048576 := by
  refine ⟨?_, fun t ht => (pair_small b l1 l2 t ht).1⟩
  unfold pairCh
  split
  · rename_i h
    have hf := pair_fit h
    generalize wtCh (pW b l1) = C at *
    generalize wtCh (pW b l2) = D at *
    have h1 := hf.c.p20
    have h2 := hf.s
    have h3 := hf.c.b36
    have ht : szLL (joinCh C D).tabs ≤ (joinCh C D).tabs.length * (36 * 36) := by
      refine sumMulP szL _ _ fun t ht => ?_
      obtain ⟨k, _, rfl⟩ := List.mem_map.1 ht
      refine Nat.le_trans (sumMulP List.length 36 _ fun r hr => ?_) (Nat.mul_le_mul_right _ ?_)
      · obtain ⟨s, _, rfl⟩ := List.mem_map.1 hr
        simp only [joinRow, List.length_map, List.length_range]; omega
      · simp only [joinTab, List.length_map, List.length_range]; omega
    have hl : (joinCh C D).tabs.length = C.places.length := by simp [joinCh]
    have hp : (joinCh C D).places.length = C.places.length := by simp [joinCh]
    have hm : (joinCh C D).tabs.length * (36 * 36) ≤ 20 * (36 * 36) := Nat.mul_le_mul_right _ (by omega)
    unfold szCh2
    omega
  · decide
theorem markA (a : Option Addr) (n c : Nat) (l : List Int) (k lo hi : Nat) (w : World) (ho : OwnIn w lo hi 2 a n c (I l)) (hn : k + n ≤ 1099511627776) :
    Calls Try.prog 40 #[.slice a n c, .int .i64 (k : Int)] w (fun e w' => e = .returned (.int .i64 ((k + n : Nat) : Int)) ∧ Chg lo hi w w') := by
  refine (markInts a n c l k lo w ho.1 (by omega) (by omega)).mono ?_
  rintro e w' ⟨h1, h2, _⟩
  exact ⟨h1, h2.chg (Nat.le_refl _) ho.2 (fun g hg => (ho.1.blk g hg).1)⟩
section
variable {w : World} {g : Nat} {T : TypeId}
theorem SAt.six6 {v0 v1 v2 v3 v4 v5 : Value} (h : SAt w g T #[v0, v1, v2, v3, v4, v5]) :
    (∀ w', Ext w w' → w'.cell? ⟨g, 0, none⟩ = some v0) ∧ (∀ w', Ext w w' → w'.cell? ⟨g, 1, none⟩ = some v1) ∧ (∀ w', Ext w w' → w'.cell? ⟨g, 2, none⟩ = some v2) ∧ (∀ w', Ext w w' → w'.cell? ⟨g, 3, none⟩ = some v3) ∧ (∀ w', Ext w w' → w'.cell? ⟨g, 4, none⟩ = some v4) ∧ ∀ w', Ext w w' → w'.cell? ⟨g, 5, none⟩ = some v5 :=
  ⟨fun _ hx => hx.cell (h.cell 0 (by simp)), fun _ hx => hx.cell (h.cell 1 (by simp)), fun _ hx => hx.cell (h.cell 2 (by simp)), fun _ hx => hx.cell (h.cell 3 (by simp)), fun _ hx => hx.cell (h.cell 4 (by simp)), fun _ hx => hx.cell (h.cell 5 (by simp))⟩
end
set_option maxHeartbeats 8000000 in
theorem lawPairChain (b : Int) (a1 : Option Addr) (n1 c1 : Nat) (l1 : List Int) (a2 : Option Addr) (n2 c2 : Nat) (l2 : List Int) (w : World) (_hx : In64 b) (hw1 : Ints w a1 n1 c1 l1) (_hf1 : Fits l1) (_hm1 : n1 ≤ 9223372036854775807) (hw2 : Ints w a2 n2 c2 l2) (_hf2 : Fits l2) (_hm2 : n2 ≤ 9223372036854775807) :
    Calls Try.prog 9 #[.int .i64 b, .slice a1 n1 c1, .slice a2 n2 c2] w (Ret (.bool true) w) := by
  have HL1 := Lib.hid hw1.len
  have HL2 := Lib.hid hw2.len
  have HW1 := Lib.hid hw1
  have HW2 := Lib.hid hw2
  clear hw1 hw2
  by_cases hs1 : n1 ≤ 1048576
  rotate_left
  · go_enter Try.func9, Try.ntmps9
    go_wp2_with fail
    go_ret
    exact ⟨rfl, (by repeat (first | (with_reducible exact Ext.refl _) | (with_reducible refine Ext.drewN ?_ _) | (with_reducible refine Ext.drew ?_) | (with_reducible refine Ext.alloc ?_ _) | ((with_reducible refine Ext.setCell ?_ ?_ _); rotate_left; focus (first | (simp; done) | (simp; omega) | omega)) | assumption | (with_reducible refine Ext.trans ?_ (by assumption))))⟩
  by_cases hs2 : n2 ≤ 1048576
  rotate_left
  · go_enter Try.func9, Try.ntmps9
    go_wp2_with fail
    go_ret
    exact ⟨rfl, (by repeat (first | (with_reducible exact Ext.refl _) | (with_reducible refine Ext.drewN ?_ _) | (with_reducible refine Ext.drew ?_) | (with_reducible refine Ext.alloc ?_ _) | ((with_reducible refine Ext.setCell ?_ ?_ _); rotate_left; focus (first | (simp; done) | (simp; omega) | omega)) | assumption | (with_reducible refine Ext.trans ?_ (by assumption))))⟩
  have HT1 := Lib.hid (fun W (h : Ext w W) => toInts a1 n1 c1 l1 W (HW1.out.ext h) (by omega))
  have HT2 := Lib.hid (fun W (h : Ext w W) => toInts a2 n2 c2 l2 W (HW2.out.ext h) (by omega))
  obtain ⟨R, hR⟩ : ∃ R, R = pairCh b l1 l2 := ⟨_, rfl⟩
  obtain ⟨ok, hok⟩ : ∃ R, R = pairB b l1 l2 := ⟨_, rfl⟩
  have HSp := Lib.hid (fun (W : World) (ax : Option Addr) (cx : Nat) (ay : Option Addr) (cy : Nat) (h1 : Ints W ax n1 cx l1) (h2 : Ints W ay n2 cy l2) => spec_PairChain b ax n1 cx l1 ay n2 cy l2 W h1 h2)
  have HIm := Lib.hid (fun (W : World) (ax : Option Addr) (cx : Nat) (ay : Option Addr) (cy : Nat) (h1 : Ints W ax n1 cx l1) (h2 : Ints W ay n2 cy l2) => impl_PairChain b ax n1 cx l1 ay n2 cy l2 W h1 h2)
  have HSm := Lib.hid (pair_small b l1 l2)
  have HSz := Lib.hid (pair_sz b l1 l2)
  rw [← hR] at HSm HSz
  rw [← hR, ← hok] at HSp HIm
  clear hR hok
  go_enter Try.func9, Try.ntmps9
  go_upto_region 5 with fail
  go_upto_region 6 with (first | (go_at_call 37; first | ((with_reducible refine (HT1.out _ (Ext.refl _)).mono ?_); rintro e v1 ⟨s1, d1, rfl, hq, hy⟩; rw [I_len, HL1.out] at hq ⊢; have HA1 := Lib.hid hq; have hxv1 : Ext w v1 := hy; clear hq hy) | ((with_reducible refine (HT2.out _ hxv1).mono ?_); rintro e v2 ⟨s2, d2, rfl, hq, hy⟩; rw [I_len, HL2.out] at hq ⊢; have HA2 := Lib.hid hq; have HA1' := Lib.hid (HA1.out.ext hy); have hxv2 : Ext w v2 := hxv1.trans hy; clear hq hy)) | (go_at_call 36; (with_reducible refine (HSp.out _ _ _ _ _ HA1'.out.ints HA2.out.ints).mono ?_); rintro e w3 ⟨aS, xS, cS, bS, yS, dS, rfl, hch, hy⟩; have HCS := Lib.hid hch; have hxw3 : Ext w w3 := hxv2.trans hy; clear hch hy))
  clear HA1 HA2 HA1'
  obtain ⟨p7, hp7⟩ : ∃ x, x = w3.heap.size := ⟨_, rfl⟩
  obtain ⟨w3a, hw3a⟩ : ∃ W, W = w3.alloc (.cells #[.int .i64 R.base, .int .i64 R.states, .int .i64 R.start, .int .i64 R.fin, .slice aS xS cS, .slice bS yS dS] 27) := ⟨_, rfl⟩
  have hx3a : Ext w3 w3a := by rw [hw3a]; exact (by repeat (first | (with_reducible exact Ext.refl _) | (with_reducible refine Ext.drewN ?_ _) | (with_reducible refine Ext.drew ?_) | (with_reducible refine Ext.alloc ?_ _) | ((with_reducible refine Ext.setCell ?_ ?_ _); rotate_left; focus (first | (simp; done) | (simp; omega) | omega)) | assumption | (with_reducible refine Ext.trans ?_ (by assumption))))
  have HS7 := Lib.hid (show SAt w3a p7 27 #[.int .i64 R.base, .int .i64 R.states, .int .i64 R.start, .int .i64 R.fin, .slice aS xS cS, .slice bS yS dS] by rw [hw3a, hp7]; exact SAt.new' _ _ _ rfl)
  have HCSa := Lib.hid (HCS.out.ext hx3a)
  have hxw3a : Ext w w3a := hxw3.trans hx3a
  have hp7l : p7 < w3a.heap.size := HS7.out.lt
  rw [← hw3a, ← hp7]
  clear hw3a hp7 HCS
  go_upto_region 8 with (go_at_call 37; first | ((with_reducible refine (HT1.out _ hxw3a).mono ?_); rintro e v3 ⟨s3, d3, rfl, hq, hy⟩; rw [I_len, HL1.out] at hq ⊢; have HB1 := Lib.hid hq; have hx3v : Ext w3a v3 := hy; clear hq hy) | ((with_reducible refine (HT2.out _ (hxw3a.trans hx3v)).mono ?_); rintro e v4 ⟨s4, d4, rfl, hq, hy⟩; rw [I_len, HL2.out] at hq ⊢; have HB2 := Lib.hid hq; have hx34 : Ext v3 v4 := hy; clear hq hy))
  have hx3v4 : Ext w3a v4 := hx3v.trans hx34
  have HB1' := Lib.hid (HB1.out.in.ext hx34)
  have HB2' := Lib.hid HB2.out.in
  have hxw4 : Ext w v4 := hxw3a.trans hx3v4
  have HJ1 := Lib.hid (show Ints v4 s3 n1 d3 l1 from HB1'.out.1.ints)
  have HJ2 := Lib.hid (show Ints v4 s4 n2 d4 l2 from HB2.out.ints)
  have hl3v : w3a.heap.size ≤ v3.heap.size := hx3v.le
  have hlv4 : v3.heap.size ≤ v4.heap.size := hx34.le
  go_upto_region 9 with (go_at_call 38; (with_reducible refine (HIm.out _ _ _ _ _ HJ1.out HJ2.out).mono ?_); rintro e w5 ⟨aG, xG, cG, bG, yG, dG, rfl, hxG, hyG, hch, hy⟩; have HCG := Lib.hid hch; have hx45 : Ext v4 w5 := hy; clear hch hy)
  have hl45 : v4.heap.size ≤ w5.heap.size := hx45.le
  obtain ⟨p11, hp11⟩ : ∃ x, x = w5.heap.size := ⟨_, rfl⟩
  obtain ⟨w6, hw6⟩ : ∃ W, W = w5.alloc (.cells #[.int .i64 R.base, .int .i64 R.states, .int .i64 R.start, .int .i64 R.fin, .slice aG xG cG, .slice bG yG dG] 27) := ⟨_, rfl⟩
  have hx56 : Ext w5 w6 := by rw [hw6]; exact (by repeat (first | (with_reducible exact Ext.refl _) | (with_reducible refine Ext.drewN ?_ _) | (with_reducible refine Ext.drew ?_) | (with_reducible refine Ext.alloc ?_ _) | ((with_reducible refine Ext.setCell ?_ ?_ _); rotate_left; focus (first | (simp; done) | (simp; omega) | omega)) | assumption | (with_reducible refine Ext.trans ?_ (by assumption))))
  have HS11 := Lib.hid (show SAt w6 p11 27 #[.int .i64 R.base, .int .i64 R.states, .int .i64 R.start, .int .i64 R.fin, .slice aG xG cG, .slice bG yG dG] by rw [hw6, hp11]; exact SAt.new' _ _ _ rfl)
  have hp11l : p11 < w6.heap.size := HS11.out.lt
  have hp11e : w5.heap.size ≤ p11 := by omega
  rw [← hw6, ← hp11]
  clear hw6 hp11
  have hx46 : Ext v4 w6 := hx45.trans hx56
  have hx36 : Ext w3a w6 := hx3v4.trans hx46
  have hxw6 : Ext w w6 := hxw3a.trans hx36
  have HP6 := Lib.hid (HCG.out.ext hx56)
  have HCG6 := Lib.hid (HP6.out.inn hxG hyG HSm.out)
  have HCS6 := Lib.hid (HCSa.out.ext hx36)
  have HJ16 := Lib.hid (HJ1.out.ext hx46)
  have HJ26 := Lib.hid (HJ2.out.ext hx46)
  have HB16 := Lib.hid (HB1'.out.ext hx46)
  have HB26 := Lib.hid (HB2'.out.ext hx46)
  have HS76 := Lib.hid (HS7.out.ext hx36)
  have hxGS : xS = xG ∧ yS = yG := ⟨HCS6.out.ts.len.symm.trans HCG6.out.ts.len, HCS6.out.ps.len.symm.trans HCG6.out.ps.len⟩
  obtain ⟨rfl, rfl⟩ := hxGS
  have hl6 : w5.heap.size ≤ w6.heap.size := hx56.le
  have HCSa' := Lib.hid HCSa.out
  clear HS7 HB1 HB1' HB2 HB2' HCSa HCG
  obtain ⟨k0, k1, k2, k3, k4, k5⟩ := SAt.six6 HS76.out
  obtain ⟨j0, j1, j2, j3, j4, j5⟩ := SAt.six6 HS11.out
  have hx66 : Ext w6 w6 := Ext.refl _
  have HE1 := Lib.hid (fun W s d (h : Ext w6 W) (hq : Ints W s n1 d l1) => eqIntsT s3 s n1 d3 d l1 W (HJ16.out.ext h) hq (by omega))
  have HE2 := Lib.hid (fun W s d (h : Ext w6 W) (hq : Ints W s n2 d l2) => eqIntsT s4 s n2 d4 d l2 W (HJ26.out.ext h) hq (by omega))
  have HEq := Lib.hid (fun W (h : Ext w6 W) => eqCh R aG xS cG bG yS dG aS cS bS dS W (HCG6.out.ext h) (HCS6.out.ext h))
  go_upto_region 11 with (go_at_call 32; (with_reducible refine (HEq.out _ (by repeat (first | (with_reducible exact Ext.refl _) | (with_reducible assumption) | (with_reducible refine Ext.drewN ?_ _) | (with_reducible refine Ext.drew ?_) | (with_reducible refine Ext.alloc ?_ _) | ((with_reducible refine Ext.setCell ?_ ?_ _); rotate_left; focus (first | (simp; done) | (simp; omega) | omega)) | (with_reducible refine Ext.trans ?_ (by with_reducible assumption))))).mono ?_); rintro e v7 ⟨rfl, hy7⟩; have hx7 : Ext w6 v7 := Ext.trans (by repeat (first | (with_reducible exact Ext.refl _) | (with_reducible assumption) | (with_reducible refine Ext.drewN ?_ _) | (with_reducible refine Ext.drew ?_) | (with_reducible refine Ext.alloc ?_ _) | ((with_reducible refine Ext.setCell ?_ ?_ _); rotate_left; focus (first | (simp; done) | (simp; omega) | omega)) | (with_reducible refine Ext.trans ?_ (by with_reducible assumption)))) hy7; clear hy7)
  have hxw7 : Ext w v7 := hxw6.trans hx7
  go_upto_region 13 with (first | (go_at_call 37; (with_reducible refine (HT1.out _ hxw7).mono ?_); rintro e v8 ⟨s8, d8, rfl, hq, hy⟩; rw [I_len, HL1.out] at hq ⊢; have HQ8 := Lib.hid hq.ints; have hx8 : Ext w6 v8 := hx7.trans hy; clear hq hy) | (go_at_call 39; (with_reducible refine (HE1.out _ _ _ hx8 HQ8.out).mono ?_); rintro e wq ⟨rfl, kq, rfl⟩; have hx9 : Ext w6 (v8.drewN kq) := hx8.drewN kq; have hxw9 : Ext w (v8.drewN kq) := hxw6.trans hx9))
  obtain ⟨v9, hv9⟩ : ∃ W, W = v8.drewN kq := ⟨_, rfl⟩
  rw [← hv9] at hx9 hxw9 ⊢
  clear hv9
  go_upto_region 16 with (first | (go_at_call 37; (with_reducible refine (HT2.out _ hxw9).mono ?_); rintro e v10 ⟨s9, d9, rfl, hq, hy⟩; rw [I_len, HL2.out] at hq ⊢; have HQ9 := Lib.hid hq.ints; have hx10 : Ext w6 v10 := hx9.trans hy; clear hq hy) | (go_at_call 39; (with_reducible refine (HE2.out _ _ _ hx10 HQ9.out).mono ?_); rintro e wq ⟨rfl, kr, rfl⟩; have hx11 : Ext w6 (v10.drewN kr) := hx10.drewN kr; have hxw11 : Ext w (v10.drewN kr) := hxw6.trans hx11))
  obtain ⟨v11, hv11⟩ : ∃ W, W = v10.drewN kr := ⟨_, rfl⟩
  rw [← hv11] at hx11 hxw11 ⊢
  clear hv11 hx10 hx9 hxw9 hx8 hx7 hxw7 HQ8 HQ9 HE1 HE2
  have HM1 := Lib.hid (show Calls Try.prog 40 #[.slice s3 n1 d3, .int .i64 1] v11 (fun e w' => e = .returned (.int .i64 (1 + (n1 : Int))) ∧ Chg w3a.heap.size v3.heap.size v11 w') from by
    have h := markA s3 n1 d3 l1 1 w3a.heap.size v3.heap.size v11 (HB16.out.ext hx11) (by omega)
    rwa [show ((1 + n1 : Nat) : Int) = 1 + (n1 : Int) by omega] at h)
  go_upto_region 17 with ((with_reducible refine HM1.out.mono ?_); rintro e v12 ⟨rfl, hc12⟩; have HC12 := Lib.hid hc12; clear hc12)
  have HM2 := Lib.hid (show Calls Try.prog 40 #[.slice s4 n2 d4, .int .i64 (1 + (n1 : Int))] v12 (fun e w' => e = .returned (.int .i64 (1 + (n1 : Int) + n2)) ∧ Chg v3.heap.size v4.heap.size v12 w') from by
    have h := markA s4 n2 d4 l2 (1 + n1) v3.heap.size v4.heap.size v12 ((HB26.out.ext hx11).chg HC12.out (.inl (Nat.le_refl _))) (by omega)
    rwa [show ((1 + n1 + n2 : Nat) : Int) = 1 + (n1 : Int) + n2 by omega, show ((1 + n1 : Nat) : Int) = 1 + (n1 : Int) by omega] at h)
  go_upto_region 18 with ((with_reducible refine HM2.out.mono ?_); rintro e v13 ⟨rfl, hc13⟩; have HC13 := Lib.hid ((HC12.out.mono (Nat.le_refl _) hlv4).trans (hc13.mono hl3v (Nat.le_refl _))); clear hc13)
  have hx3_13 : Ext w3a v13 := HC13.out.to (hx36.trans hx11) (Nat.le_refl _)
  have HS7c := Lib.hid ((HS76.out.ext hx11).chg HC13.out (.inl hp7l))
  have HS11c := Lib.hid ((HS11.out.ext hx11).chg HC13.out (.inr (by omega)))
  have HPc := Lib.hid ((HP6.out.ext hx11).chg HC13.out (.inl (Nat.le_refl _)))
  have HCSc := Lib.hid (HCSa'.out.ext hx3_13)
  have HCGc := Lib.hid (HPc.out.inn hxG hyG HSm.out)
  have hxw13 : Ext w v13 := hxw3a.trans hx3_13
  have hl13 : w6.heap.size ≤ v13.heap.size := Nat.le_trans hx11.le HC13.out.size
  clear k0 k1 k2 k3 k4 k5 j0 j1 j2 j3 j4 j5 hx66 HEq HM1 HM2 HC12 HC13 hx11 hxw11 HS76 HS11 HP6 HCG6 HCS6 HB16 HB26 HJ16 HJ26 HJ1 HJ2
  obtain ⟨k0, k1, k2, k3, k4, k5⟩ := SAt.six6 HS7c.out
  obtain ⟨j0, j1, j2, j3, j4, j5⟩ := SAt.six6 HS11c.out
  have hx1313 : Ext v13 v13 := Ext.refl _
  have HEq := Lib.hid (fun W (h : Ext v13 W) => eqCh R aG xS cG bG yS dG aS cS bS dS W (HCGc.out.ext h) (HCSc.out.ext h))
  go_upto_region 21 with (go_at_call 32; (with_reducible refine (HEq.out _ hx1313).mono ?_); rintro e v14 ⟨rfl, hy14⟩; have hx14 : Ext v13 v14 := hy14; clear hy14)
  have HMk := Lib.hid (show Calls Try.prog 41 #[.agg #[.int .i64 R.base, .int .i64 R.states, .int .i64 R.start, .int .i64 R.fin, .slice aG xS cG, .slice bG yS dG], .int .i64 1] v14 (MarkR (1 + szCh2 R) v4.heap.size w5.heap.size v14 fun w' => ChP w' v4.heap.size w5.heap.size (markC 1 R) aG xS cG bG yS dG) from
    markChP R aG xS cG bG yS dG 1 v4.heap.size w5.heap.size v14 (HPc.out.ext hx14) (by have := hx14.le; omega) hxG (by have := HSz.out.1; omega) HSz.out.2)
  have j0' := j0 v14 hx14
  have j1' := j1 v14 hx14
  have j2' := j2 v14 hx14
  have j3' := j3 v14 hx14
  have j4' := j4 v14 hx14
  have j5' := j5 v14 hx14
  go_upto_region 22 with (go_at_call 41; (with_reducible refine HMk.out.mono ?_); rintro e v15 ⟨rfl, hc15, hp15⟩; have HC15 := Lib.hid hc15; have HP15 := Lib.hid hp15; clear hc15 hp15)
  have hx3_15 : Ext w3a v15 := HC15.out.to (hx3_13.trans hx14) (by omega)
  have HS7d := Lib.hid ((HS7c.out.ext hx14).chg HC15.out (.inl (by omega)))
  have HS11d := Lib.hid ((HS11c.out.ext hx14).chg HC15.out (.inr hp11e))
  have HCSd := Lib.hid (HCSa'.out.ext hx3_15)
  have hxw15 : Ext w v15 := hxw3a.trans hx3_15
  have HCu := Lib.hid (show Cube v15 aG xS cG (markLLL 1 R.tabs) from by obtain ⟨vs, s, t, h1, h2, _, _⟩ := HP15.out; exact CubeR.cube ⟨vs, s, t, h1, h2⟩)
  have HPs := Lib.hid (show Ints v15 bG yS dG (markL (1 + szLL R.tabs) R.places.length) from by obtain ⟨_, _, _, _, _, h3, _⟩ := HP15.out; exact h3.1.ints)
  clear k0 k1 k2 k3 k4 k5 j0 j1 j2 j3 j4 j5 j0' j1' j2' j3' j4' j5' hx1313 HEq HMk HC15 hx14 HS7c HS11c HPc HCSc HCGc HP15
  obtain ⟨k0, k1, k2, k3, k4, k5⟩ := SAt.six6 HS7d.out
  obtain ⟨j0, j1, j2, j3, j4, j5⟩ := SAt.six6 HS11d.out
  have hx1515 : Ext v15 v15 := Ext.refl _
  have HHe := Lib.hid (fun W (h : Ext v15 W) => show Calls Try.prog 42 #[.agg #[.int .i64 R.base, .int .i64 R.states, .int .i64 R.start, .int .i64 R.fin, .slice aG xS cG, .slice bG yS dG], .int .i64 1] W (Ret (.int .i64 (1 + (szCh2 R : Int))) W) from by
    have h2 := heldChR R aG xS cG bG yS dG 1 W (HCu.out.ext h) (HPs.out.ext h) hxG (by have := HSz.out.1; omega) HSz.out.2
    exact h2)
  try rw [show (((1 + szCh2 R : Nat)) : Int) = 1 + (szCh2 R : Int) by omega]
  have hsz : szCh2 R ≤ 1048576 := HSz.out.1
  generalize szCh2 R = sz at *
  go_upto_region 28 with (go_at_call 42; (with_reducible refine (HHe.out _ (by repeat (first | (with_reducible exact Ext.refl _) | (with_reducible assumption) | (with_reducible refine Ext.drewN ?_ _) | (with_reducible refine Ext.drew ?_) | (with_reducible refine Ext.alloc ?_ _) | ((with_reducible refine Ext.setCell ?_ ?_ _); rotate_left; focus (first | (simp; done) | (simp; omega) | omega)) | (with_reducible refine Ext.trans ?_ (by with_reducible assumption))))).mono ?_); rintro e v16 ⟨rfl, hy16⟩; have hx16 : Ext v15 v16 := hy16; clear hy16)
  have hxw16 : Ext w v16 := hxw15.trans hx16
  go_upto_region 29 with (first | (go_at_call 37; first | ((with_reducible refine (HT1.out _ hxw16).mono ?_); rintro e v17 ⟨s7, d7, rfl, hq, hy⟩; rw [I_len, HL1.out] at hq ⊢; have HQ7 := Lib.hid hq.ints; have hx17 : Ext v15 v17 := hx16.trans hy; have hxw17 : Ext w v17 := hxw15.trans hx17; clear hq hy) | ((with_reducible refine (HT2.out _ hxw17).mono ?_); rintro e v18 ⟨s8, d8, rfl, hq, hy⟩; rw [I_len, HL2.out] at hq ⊢; have HQ8 := Lib.hid hq.ints; have HQ7' := Lib.hid (HQ7.out.ext hy); have hx18 : Ext v15 v18 := hx17.trans hy; clear hq hy)) | (go_at_call 38; (with_reducible refine (HIm.out _ _ _ _ _ HQ7'.out HQ8.out).mono ?_); rintro e v19 ⟨aH, xH, cH, bH, yH, dH, rfl, hxH, hyH, hch, hy⟩; have HCH := Lib.hid hch; have hx19 : Ext v15 v19 := hx18.trans hy; clear hch hy))
  obtain ⟨p16, hp16⟩ : ∃ x, x = v19.heap.size := ⟨_, rfl⟩
  obtain ⟨v20, hv20⟩ : ∃ W, W = v19.alloc (.cells #[.int .i64 R.base, .int .i64 R.states, .int .i64 R.start, .int .i64 R.fin, .slice aH xH cH, .slice bH yH dH] 27) := ⟨_, rfl⟩
  have hx1920 : Ext v19 v20 := by rw [hv20]; exact (by repeat (first | (with_reducible exact Ext.refl _) | (with_reducible refine Ext.drewN ?_ _) | (with_reducible refine Ext.drew ?_) | (with_reducible refine Ext.alloc ?_ _) | ((with_reducible refine Ext.setCell ?_ ?_ _); rotate_left; focus (first | (simp; done) | (simp; omega) | omega)) | assumption | (with_reducible refine Ext.trans ?_ (by assumption))))
  have HS16 := Lib.hid (show SAt v20 p16 27 #[.int .i64 R.base, .int .i64 R.states, .int .i64 R.start, .int .i64 R.fin, .slice aH xH cH, .slice bH yH dH] by rw [hv20, hp16]; exact SAt.new' _ _ _ rfl)
  rw [← hv20, ← hp16]
  clear hv20 hp16
  have hx20 : Ext v15 v20 := hx19.trans hx1920
  have HCH2 := Lib.hid ((HCH.out.ext hx1920).inn hxH hyH HSm.out)
  have HCSe := Lib.hid (HCSd.out.ext hx20)
  have hxHS : xH = xS ∧ yH = yS := ⟨HCH2.out.ts.len.symm.trans HCSe.out.ts.len, HCH2.out.ps.len.symm.trans HCSe.out.ps.len⟩
  obtain ⟨rfl, rfl⟩ := hxHS
  obtain ⟨i0, i1, i2, i3, i4, i5⟩ := SAt.six6 HS16.out
  have hx2020 : Ext v20 v20 := Ext.refl _
  have HEq2 := Lib.hid (fun W (h : Ext v20 W) => eqCh R aH xH cH bH yH dH aS cS bS dS W (HCH2.out.ext h) (HCSe.out.ext h))
  have hl20 : v15.heap.size ≤ v20.heap.size := hx20.le
  go_wp2_with (first | (go_at_call 32; (with_reducible refine (HEq2.out _ hx2020).mono ?_); rintro e v21 ⟨rfl, hy21⟩; have hx21 : Ext v15 v21 := hx20.trans hy21; clear hy21) | (go_at_call 42; (with_reducible refine (HHe.out _ hx21).mono ?_); rintro e v22 ⟨rfl, hy22⟩; have hx22 : Ext v15 v22 := hx21.trans hy22; clear hy22))
  go_ret
  exact ⟨rfl, hxw15.trans (by assumption)⟩
end Go.Proofs.Ytaiieodllhoelaa
