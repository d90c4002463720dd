/- Walks: BestWeights, CountBest in the reference; what both sides return. -/
import Derived.Test.YtlpbflmgkopklaaSBest
namespace Go.Proofs.Ytlpbflmgkopklaa
set_option maxRecDepth 100000
open Go.RowKit

/-- a fresh list of numbers, a number, a bool -/
def RetLNB (R : List Int) (z : Int) (ok : Bool) (w : World) (e : Ending) (w' : World) : Prop :=
  ∃ a n c, e = .returned (.tuple #[.slice a n c, .int .i64 z, .bool ok]) ∧ Ext w w' ∧ Own w' w.heap.size 2 a n c (I R)
def bwL (base modulus places : Int) (costs : List Int) : List Int := if bestOk base modulus places costs then (bestF base modulus places costs).1.getD [] else []
def bwZ (base modulus places : Int) (costs : List Int) : Int := if bestOk base modulus places costs then (bestF base modulus places costs).2.1 else 0
def bwC (base modulus places : Int) (costs : List Int) : Int := if bestOk base modulus places costs then (bestF base modulus places costs).2.2 else 0
theorem bw_no {base modulus places : Int} {costs : List Int} (h : bestOk base modulus places costs = false) : bwL base modulus places costs = [] ∧ bwZ base modulus places costs = 0 ∧ bwC base modulus places costs = 0 := by
  simp [bwL, bwZ, bwC, h]
theorem bw_yes {base modulus places : Int} {costs : List Int} (h : bestOk base modulus places costs = true) {l : List Int} (hl : (bestF base modulus places costs).1 = some l) :
    bwL base modulus places costs = l ∧ bwZ base modulus places costs = (bestF base modulus places costs).2.1 ∧ bwC base modulus places costs = (bestF base modulus places costs).2.2 := by
  simp [bwL, bwZ, bwC, h, hl]
theorem bst_some {f : Nat → Int} {tp : Nat → List Int} : ∀ {t : Nat} {l : List Int}, (bst f tp t).1 = some l → ∃ i, i < t ∧ l = tp i
  | 0, l, h => by cases h
  | t + 1, l, h => by
    rw [bst] at h
    unfold bnext at h
    split at h
    · simp only [Option.some.injEq] at h; exact ⟨t, by omega, h.symm⟩
    · rename_i b hb
      split at h
      · simp only [Option.some.injEq] at h; exact ⟨t, by omega, h.symm⟩
      · have h2 : (bst f tp t).1 = some l := by
          split at h <;> (simp only [Option.some.injEq] at h; rw [hb, h])
        obtain ⟨i, h3, h4⟩ := bst_some h2
        exact ⟨i, by omega, h4⟩
theorem bw_len (base modulus places : Int) (costs : List Int) : (bwL base modulus places costs).length ≤ 1048576 := by
  unfold bwL
  split
  · rename_i h
    cases hb : (bestF base modulus places costs).1 with
    | none => simp
    | some l =>
      obtain ⟨i, _, rfl⟩ := bst_some hb
      simp only [Option.getD_some, tupAt_len]
      unfold bestOk searchB at h
      simp only [Bool.and_eq_true] at h
      have := inB_t.1 h.1.1.1.1.1
      omega
  · simp
theorem impl_BW (base modulus places : Int) (a : Option Addr) (n c : Nat) (costs : List Int) (w : World) (hc : Ints w a n c costs) :
    Calls Try.prog 26 #[.int .i64 base, .int .i64 modulus, .int .i64 places, .slice a n c] w (RetLNB (bwL base modulus places costs) (bwZ base modulus places costs) (bestOk base modulus places costs) w) := by
  refine (impl_BestWeights base modulus places a n c costs w hc).mono ?_
  rintro e w' ⟨hx, h⟩
  cases hk : bestOk base modulus places costs
  · rw [if_neg (by rw [hk]; simp)] at h
    obtain ⟨h1, h2, _⟩ := bw_no hk
    rw [h1, h2]
    exact ⟨none, 0, 0, h, hx, Own.nil _ _ _⟩
  · rw [if_pos hk] at h
    obtain ⟨sa, sn, sc, l, h1, h2, h3, h4⟩ := h
    obtain ⟨g1, g2, _⟩ := bw_yes hk h2
    rw [g1, g2]
    exact ⟨sa, sn, sc, h1, hx, h4⟩
theorem impl_CB (base modulus places : Int) (a : Option Addr) (n c : Nat) (costs : List Int) (w : World) (hc : Ints w a n c costs) :
    Calls Try.prog 24 #[.int .i64 base, .int .i64 modulus, .int .i64 places, .slice a n c] w (Ret2 (.int .i64 (bwC base modulus places costs)) (.bool (bestOk base modulus places costs)) w) := by
  refine (impl_CountBest base modulus places a n c costs w hc).mono ?_
  rintro e w' ⟨hx, h⟩
  refine ⟨?_, hx⟩
  rw [h]
  rfl
theorem start_facts {base modulus places : Int} (hk : searchB base modulus places = true) : ∃ (m np : Nat), modulus = m ∧ places = np ∧ (2 ≤ base ∧ base ≤ 36) ∧ (2 ≤ m ∧ m ≤ 36) ∧ (1 ≤ np ∧ np ≤ 20) ∧ m ^ np ≤ 20000 := by
  unfold searchB at hk
  simp only [Bool.and_eq_true, decide_eq_true_eq] at hk
  obtain ⟨⟨⟨⟨s1, s2⟩, s3⟩, s4⟩, s5⟩ := hk
  obtain ⟨p1, p2⟩ := inB_t.1 s1
  obtain ⟨m1, m2⟩ := inB_t.1 s2
  obtain ⟨b1, b2⟩ := baseB_t s3
  obtain ⟨np, rfl⟩ := Int.eq_ofNat_of_zero_le (show 0 ≤ places by omega)
  obtain ⟨m, rfl⟩ := Int.eq_ofNat_of_zero_le (show 0 ≤ modulus by omega)
  have h2 : m ^ np ≤ 20000 := by rw [Int.toNat_natCast] at s5; exact Int.ofNat_le.1 (by rw [Int.natCast_pow]; exact s5)
  exact ⟨m, np, rfl, rfl, ⟨b1, b2⟩, by omega, by omega, h2⟩
set_option maxHeartbeats 2000000 in
theorem spec_BW (base modulus places : Int) (a : Option Addr) (n c : Nat) (costs : List Int) (w : World) (hc : Ints w a n c costs) :
    Calls Try.prog 25 #[.int .i64 base, .int .i64 modulus, .int .i64 places, .slice a n c] w (RetLNB (bwL base modulus places costs) (bwZ base modulus places costs) (bestOk base modulus places costs) w) := by
  have HSt := Lib.hid (spec_start base modulus places w)
  have HCo := Lib.hid (fun W (h : Ext w W) => l09Costs a n c costs W (hc.ext h))
  have HL := Lib.hid hc.len
  have HC := Lib.hid hc
  clear hc
  cases hs : searchB base modulus places
  · have HO := Lib.hid (show bestOk base modulus places costs = false by rw [bestOk, hs]; rfl)
    go_enter Try.func25, Try.ntmps25
    go_wp2_with ((with_reducible refine HSt.out.mono ?_); rintro e w1 ⟨hx1, b1, m1, a1, n1, c1, rfl, -⟩; rw [hs])
    go_ret3
    rw [HO.out, (bw_no HO.out).1, (bw_no HO.out).2.1]
    exact ⟨none, 0, 0, rfl, (by repeat (first | (with_reducible exact Ext.refl _) | (with_reducible assumption) | (with_reducible refine Ext.drewN ?_ _) | (with_reducible refine Ext.drew ?_) | (with_reducible refine Ext.alloc ?_ _) | ((with_reducible refine Ext.setCell ?_ ?_ _); rotate_left; focus (first | (simp; done) | (simp; omega) | omega)) | (with_reducible refine Ext.trans ?_ (by with_reducible assumption)))), Own.nil _ _ _⟩
  · obtain ⟨m, np, rfl, rfl, hb, hm, hn, hN⟩ := start_facts hs
    cases hcb : costsB costs
    · rw [hcb] at HCo
      have HO := Lib.hid (show bestOk base m np costs = false by rw [bestOk, hcb]; simp)
      go_enter Try.func25, Try.ntmps25
      go_wp2_with (first | ((with_reducible refine HSt.out.mono ?_); rintro e w1 ⟨hx1, b1, m1, a1, n1, c1, rfl, -⟩; rw [hs]) | ((with_reducible refine (HCo.out _ (by repeat (first | (with_reducible exact Ext.refl _) | (with_reducible assumption) | (with_reducible refine Ext.drewN ?_ _) | (with_reducible refine Ext.drew ?_) | (with_reducible refine Ext.alloc ?_ _) | ((with_reducible refine Ext.setCell ?_ ?_ _); rotate_left; focus (first | (simp; done) | (simp; omega) | omega)) | (with_reducible refine Ext.trans ?_ (by with_reducible assumption))))).mono ?_); rintro e w2 ⟨rfl, rfl⟩))
      go_ret3
      rw [HO.out, (bw_no HO.out).1, (bw_no HO.out).2.1]
      exact ⟨none, 0, 0, rfl, (by repeat (first | (with_reducible exact Ext.refl _) | (with_reducible assumption) | (with_reducible refine Ext.drewN ?_ _) | (with_reducible refine Ext.drew ?_) | (with_reducible refine Ext.alloc ?_ _) | ((with_reducible refine Ext.setCell ?_ ?_ _); rotate_left; focus (first | (simp; done) | (simp; omega) | omega)) | (with_reducible refine Ext.trans ?_ (by with_reducible assumption)))), Own.nil _ _ _⟩
    · rw [hcb] at HCo
      have HO := Lib.hid (show bestOk base m np costs = true by rw [bestOk, hs, hcb]; rfl)
      have HCB := Lib.hid (costsB_costs hcb)
      have h6 : n = 6 := by rw [← HL.out]; exact HCB.out.len
      subst h6
      have HN := Lib.hid hN
      clear hcb hN
      go_enter Try.func25, Try.ntmps25
      go_wp2_with ((with_reducible refine HSt.out.mono ?_); rintro e w1 ⟨hx1, b1, m1, a1, n1, c1, rfl, hy⟩; obtain ⟨e1, e2, e3, hnp, g, rfl, ho⟩ := hy hs; rw [hs])
      have e5 : np = n1 := by omega
      have e6 : np = c1 := by omega
      clear e3
      subst e5 e6 e2
      obtain rfl : base = b1 := e1.symm
      have hgl := ho.lt
      have HB := Lib.hid (isWt_box w1 base m 0 (List.replicate np 0) (some ⟨g, 0, none⟩) np np 34 ho.ints)
      have HO1 := Lib.hid (ho.ext ((Ext.refl w1).alloc (.cells #[.int .i64 base, .int .i64 m, .int .i64 0, .slice (some ⟨g, 0, none⟩) np np] 34)))
      clear ho hs
      go_wp2_with ((with_reducible refine (HCo.out _ (by repeat (first | (with_reducible exact Ext.refl _) | (with_reducible assumption) | (with_reducible refine Ext.drewN ?_ _) | (with_reducible refine Ext.drew ?_) | (with_reducible refine Ext.alloc ?_ _) | ((with_reducible refine Ext.setCell ?_ ?_ _); rotate_left; focus (first | (simp; done) | (simp; omega) | omega)) | (with_reducible refine Ext.trans ?_ (by with_reducible assumption))))).mono ?_); rintro e w2 ⟨rfl, rfl⟩)
      have HSp := Lib.hid (spec_best w w1.heap.size g np m c base a costs _ (hx1.alloc _) hgl.1 (by omega) HB.out HO1.out HC.out HCB.out hb hm hn HN.out)
      refine HSp.out.mono ?_
      rintro e w3 ⟨hx3, hle3, sa, sc, l, rfl, hl, hso⟩
      obtain ⟨g1, g2, g3⟩ := bw_yes HO.out hl
      have HSo := Lib.hid hso
      have HG := Lib.hid (And.intro g1 (And.intro g2 g3))
      clear hso hl g1 g2 g3
      go_wp2_with fail
      go_ret3
      rw [HO.out, HG.out.1, HG.out.2.1]
      exact ⟨sa, l.length, sc, rfl, hx3, HSo.out.mono (by have := hx1.le; simp; omega)⟩
set_option maxHeartbeats 2000000 in
theorem spec_CB (base modulus places : Int) (a : Option Addr) (n c : Nat) (costs : List Int) (w : World) (hc : Ints w a n c costs) :
    Calls Try.prog 23 #[.int .i64 base, .int .i64 modulus, .int .i64 places, .slice a n c] w (Ret2 (.int .i64 (bwC base modulus places costs)) (.bool (bestOk base modulus places costs)) w) := by
  have HSt := Lib.hid (spec_start base modulus places w)
  have HCo := Lib.hid (fun W (h : Ext w W) => l09Costs a n c costs W (hc.ext h))
  have HL := Lib.hid hc.len
  have HC := Lib.hid hc
  clear hc
  cases hs : searchB base modulus places
  · have HO := Lib.hid (show bestOk base modulus places costs = false by rw [bestOk, hs]; rfl)
    go_enter Try.func23, Try.ntmps23
    go_wp2_with ((with_reducible refine HSt.out.mono ?_); rintro e w1 ⟨hx1, b1, m1, a1, n1, c1, rfl, -⟩; rw [hs])
    go_ret2
    rw [HO.out, (bw_no HO.out).2.2]
    exact ⟨rfl, (by repeat (first | (with_reducible exact Ext.refl _) | (with_reducible assumption) | (with_reducible refine Ext.drewN ?_ _) | (with_reducible refine Ext.drew ?_) | (with_reducible refine Ext.alloc ?_ _) | ((with_reducible refine Ext.setCell ?_ ?_ _); rotate_left; focus (first | (simp; done) | (simp; omega) | omega)) | (with_reducible refine Ext.trans ?_ (by with_reducible assumption))))⟩
  · obtain ⟨m, np, rfl, rfl, hb, hm, hn, hN⟩ := start_facts hs
    cases hcb : costsB costs
    · rw [hcb] at HCo
      have HO := Lib.hid (show bestOk base m np costs = false by rw [bestOk, hcb]; simp)
      go_enter Try.func23, Try.ntmps23
      go_wp2_with (first | ((with_reducible refine HSt.out.mono ?_); rintro e w1 ⟨hx1, b1, m1, a1, n1, c1, rfl, -⟩; rw [hs]) | ((with_reducible refine (HCo.out _ (by repeat (first | (with_reducible exact Ext.refl _) | (with_reducible assumption) | (with_reducible refine Ext.drewN ?_ _) | (with_reducible refine Ext.drew ?_) | (with_reducible refine Ext.alloc ?_ _) | ((with_reducible refine Ext.setCell ?_ ?_ _); rotate_left; focus (first | (simp; done) | (simp; omega) | omega)) | (with_reducible refine Ext.trans ?_ (by with_reducible assumption))))).mono ?_); rintro e w2 ⟨rfl, rfl⟩))
      go_ret2
      rw [HO.out, (bw_no HO.out).2.2]
      exact ⟨rfl, (by repeat (first | (with_reducible exact Ext.refl _) | (with_reducible assumption) | (with_reducible refine Ext.drewN ?_ _) | (with_reducible refine Ext.drew ?_) | (with_reducible refine Ext.alloc ?_ _) | ((with_reducible refine Ext.setCell ?_ ?_ _); rotate_left; focus (first | (simp; done) | (simp; omega) | omega)) | (with_reducible refine Ext.trans ?_ (by with_reducible assumption))))⟩
    · rw [hcb] at HCo
      have HO := Lib.hid (show bestOk base m np costs = true by rw [bestOk, hs, hcb]; rfl)
      have HCB := Lib.hid (costsB_costs hcb)
      have h6 : n = 6 := by rw [← HL.out]; exact HCB.out.len
      subst h6
      have HN := Lib.hid hN
      clear hcb hN
      go_enter Try.func23, Try.ntmps23
      go_wp2_with ((with_reducible refine HSt.out.mono ?_); rintro e w1 ⟨hx1, b1, m1, a1, n1, c1, rfl, hy⟩; obtain ⟨e1, e2, e3, hnp, g, rfl, ho⟩ := hy hs; rw [hs])
      have e5 : np = n1 := by omega
      have e6 : np = c1 := by omega
      clear e3
      subst e5 e6 e2
      obtain rfl : base = b1 := e1.symm
      have hgl := ho.lt
      have HB := Lib.hid (isWt_box w1 base m 0 (List.replicate np 0) (some ⟨g, 0, none⟩) np np 34 ho.ints)
      have HO1 := Lib.hid (ho.ext ((Ext.refl w1).alloc (.cells #[.int .i64 base, .int .i64 m, .int .i64 0, .slice (some ⟨g, 0, none⟩) np np] 34)))
      clear ho hs
      go_wp2_with ((with_reducible refine (HCo.out _ (by repeat (first | (with_reducible exact Ext.refl _) | (with_reducible assumption) | (with_reducible refine Ext.drewN ?_ _) | (with_reducible refine Ext.drew ?_) | (with_reducible refine Ext.alloc ?_ _) | ((with_reducible refine Ext.setCell ?_ ?_ _); rotate_left; focus (first | (simp; done) | (simp; omega) | omega)) | (with_reducible refine Ext.trans ?_ (by with_reducible assumption))))).mono ?_); rintro e w2 ⟨rfl, rfl⟩)
      have HSp := Lib.hid (spec_best w w1.heap.size g np m c base a costs _ (hx1.alloc _) hgl.1 (by omega) HB.out HO1.out HC.out HCB.out hb hm hn HN.out)
      refine HSp.out.mono ?_
      rintro e w3 ⟨hx3, hle3, sa, sc, l, rfl, hl, hso⟩
      obtain ⟨g1, g2, g3⟩ := bw_yes HO.out hl
      have HSo := Lib.hid hso
      have HG := Lib.hid (And.intro g1 (And.intro g2 g3))
      clear hso hl g1 g2 g3
      go_wp2_with fail
      go_ret2
      rw [HO.out, HG.out.2.2]
      exact ⟨rfl, hx3⟩
end Go.Proofs.Ytlpbflmgkopklaa
