/- The law on best weights: walked. -/
import Derived.Test.YtaleololajildaaMath2
import Derived.Test.YtaleololajildaaDraw
import Derived.Test.YtaleololajildaaOpenB
import Derived.Deep.RegionLaw
namespace Go.Proofs.Ytaleololajildaa
open Go.RowKit

/-- the drawn weights -/
def drawnW (l : List UInt8) (m np : Nat) : List Int := (List.range np).map fun (i : Nat) => b10 l ((i : Int) + 3) m
theorem drawnW_len (l : List UInt8) (m np : Nat) : (drawnW l m np).length = np := by simp [drawnW]
theorem drawnW_bd (l : List UInt8) {m : Nat} (np : Nat) (hm : 1 ≤ m) : ∀ x ∈ drawnW l m np, 0 ≤ x ∧ x < m := fun x hx => by
  obtain ⟨i, _, rfl⟩ := List.mem_map.1 hx
  exact b10_bd l _ _ (by omega)

theorem drawnW_snoc (l : List UInt8) (m np k : Nat) (h : k < np) : (drawnW l m np).take (k + 1) = (drawnW l m np).take k ++ [b10 l ((k : Int) + 3) m] := by
  rw [take_snoc _ 0 k (by rw [drawnW_len]; exact h)]
  simp [drawnW, List.getD_eq_getElem?_getD, h]

theorem Ext.frozen {a w : World} (h : Ext a w) {p : Addr} (hp : p.block < a.heap.size) : w.frozen? p = a.frozen? p := Below.frozen h hp

theorem term_uns {W : Wt} {cs : List Int} (hv : validB W = true) (p k : Nat) : termF W cs p k = if unsOk W k p = true then cs.getD k 0 * unsRes W k p else 0 := by
  unfold termF unsRes
  have h1 : (unsOk W k p = true) ↔ (kindB k W.base = true ∧ p + elen k ≤ W.weights.length) := by
    unfold unsOk
    rw [hv, Bool.true_and, Bool.and_eq_true, inB_t]
    exact ⟨fun h => ⟨h.1, by omega⟩, fun h => ⟨h.1, by omega, by omega⟩⟩
  by_cases h : unsOk W k p = true
  · rw [if_pos h, if_pos h, if_pos (h1.1 h), Int.toNat_natCast]
  · rw [if_neg h, if_neg fun h' => h (h1.2 h')]
theorem score_swap (W : Wt) (cs : List Int) : scoreF W cs = S 6 fun k => S W.weights.length fun p => termF W cs p k := by
  unfold scoreF shareF
  exact S_swap _ _ _
/-- the worst place carries at least its part of the score -/
theorem worst_facts {W : Wt} {cs : List Int} (hv : validB W = true) (hc : costsB cs = true) : ∃ (q : Nat) (sh : Int), worstP W cs = q ∧ worstS W cs = sh ∧ q < W.weights.length ∧ 0 ≤ sh ∧ sh ≤ 15552000 ∧ scoreF W cs ≤ sh * W.weights.length ∧ sh ≤ scoreF W cs ∧ sh * W.weights.length ≤ 311040000 := by
  have hg := validB_good hv
  have hcb := costsB_costs hc
  obtain ⟨h1, h2, _⟩ := worst_yes hv hc
  obtain ⟨n, hn⟩ : ∃ n, W.weights.length = n + 1 := ⟨W.weights.length - 1, by have := hg.l1; omega⟩
  rw [hn] at h1 h2
  obtain ⟨h3, h4⟩ := wst_share hg hcb n
  have h5 := shareF_bd hg hcb (wst W cs (n + 1)).1
  have h6 : scoreF W cs ≤ (wst W cs (n + 1)).2 * W.weights.length := S_le fun i hi => wst_max (n + 1) i (by omega)
  have h7 : (wst W cs (n + 1)).2 ≤ scoreF W cs := by
    rw [h4]; exact S_one (fun i _ => (shareF_bd hg hcb i).1) (by omega)
  refine ⟨_, _, h1, h2, by omega, by omega, by omega, h6, h7, ?_⟩
  have h8 := mul_bd (x := (wst W cs (n + 1)).2) (y := (W.weights.length : Int)) (a := 15552000) (b := 20) (by omega) (by omega) (by omega) (by have := hg.l20; omega)
  omega

/-- append within a region that draws its order -/
theorem step_append1 {P : Program} {W : World} {ops : Array Oper} {o : Oper} {a : Act} {K : Act → World → Prop} {Q : Exit → Act → World → Prop} {E : Prop}
    (hg : o.guard = none) (s x : Operand) (t : TypeId) (hop : o.op = Op.call { callee := Callee.builtin Builtin.append, args := #[s, x], argTypes := #[t, t] })
    (e : TypeId) (z : Value) (bytes : Nat) (h1 : P.underlying t = some (.slice e)) (h2 : (P.info? e).map (fun i => (i.zero, i.size, i.bytes)) = some (some z, 1, bytes)) (hz : z.cells.size = 1)
    (B : Nat) (ad : Option Addr) (n c : Nat) (vs : List Value) (u : Value) (b : Nat) (hs : a.eval s = .slice ad n c) (hx : a.eval x = .slice (some ⟨b, 0, none⟩) 1 1)
    (hcell : W.cell? ⟨b, 0, none⟩ = some u) (hown : Own W B e ad n c vs) (hu : u.oneCell' = true) (hB : B ≤ W.heap.size) (hn : n < 1099511627776) (hb : bytes ≤ 64)
    (hK : ∀ ad' c' w', Own w' B e ad' (n + 1) c' (vs ++ [u]) → Below B W w' → K (a.put o.dst (.slice ad' (n + 1) c')) w') :
    if Region.wanted o (yielded ops a.tmps) = true then Oper.wp P o a W K Q else E := by
  have hw : Region.wanted o (yielded ops a.tmps) = true := by simp [Region.wanted, hg]
  rw [if_pos hw]
  obtain ⟨i, hi, hz0, hz1, rfl⟩ := info_parts h2
  refine wp_append_own (P := P) W s x t hop B e i z 1 i.bytes h1 hi hz0 hz1 rfl hz (by omega) (.slice ad n c) n vs hs hown ⟨b, 0, none⟩ 1 1 [u] hx rfl
    (fun j v hj => by
      have : j = 0 := by have := (List.getElem?_eq_some_iff.1 hj).1; simp at this; omega
      subst this
      simp at hj; subst hj; exact hcell) (by simpa using hu) (by unfold maxLen; omega) (by have := Nat.mul_le_mul (show n + 1 ≤ 1099511627776 by omega) hb; omega) hB ?_
  intro v' w' h3 h4 _
  have hv : ∃ ad' c', v' = .slice ad' (n + 1) c' := by
    rcases h3.2 with ⟨_, h⟩ | ⟨g, cap, cur, hv, _⟩
    · omega
    · exact ⟨_, _, hv⟩
  obtain ⟨ad', c', rfl⟩ := hv
  exact hK ad' c' w' h3 (Below.grown (Below.refl B W) h4 hB (fun k hk => (World.ownsRow.lt hown k hk).1))

set_option maxHeartbeats 1000000 in
set_option maxRecDepth 100000 in
theorem lawBest (a : Option Addr) (n c : Nat) (l : List UInt8) (a' : Option Addr) (n' c' : Nat) (l' : List UInt8) (w : World) (hv : Bytes w a n c l) (hn : n ≤ 9223372036854775807) (hv' : Bytes w a' n' c' l') (hn' : n' ≤ 9223372036854775807) :
    Calls Try.prog 5 #[.slice a n c, .slice a' n' c'] w (Ret (.bool true) w) := by
  have HLong := Lib.hid (laws_b10Long a a' n c n' c' w hn hn')
  by_cases hlong : 1048576 < n ∨ 1048576 < n'
  · have hd : decide (1048576 < n ∨ 1048576 < n') = true := by simpa using hlong
    rw [hd] at HLong
    clear hd hlong
    go_enter Try.func5, Try.ntmps5
    go_wp2_with (refine HLong.out.mono ?_; rintro e w' ⟨rfl, rfl⟩)
    go_ret
    exact ⟨rfl, Ext.refl _⟩
  have hd : decide (1048576 < n ∨ 1048576 < n') = false := by simpa using hlong
  rw [hd] at HLong
  have hns : n ≤ 1048576 ∧ n' ≤ 1048576 := by omega
  clear hd hlong
  have HV := Lib.hid hv
  have HV' := Lib.hid hv'
  clear hv hv'
  have x0 := b10_bd l' 0 9 (by omega)
  have x1 := b10_bd l' 1 7 (by omega)
  have x2 := b10_bd l' 2 3 (by omega)
  obtain ⟨base, hb⟩ : ∃ b, b = 2 + b10 l' 0 9 := ⟨_, rfl⟩
  obtain ⟨m, hm⟩ := Int.eq_ofNat_of_zero_le (show 0 ≤ 2 + b10 l' 1 7 by omega)
  obtain ⟨np, hp⟩ := Int.eq_ofNat_of_zero_le (show 0 ≤ 1 + b10 l' 2 3 by omega)
  have hbb : 2 ≤ base ∧ base ≤ 10 := by omega
  have hmm : 2 ≤ m ∧ m ≤ 8 := by omega
  have hpp : 1 ≤ np ∧ np ≤ 3 := by omega
  have HB := Lib.hid hb
  have HM := Lib.hid hm
  have HP := Lib.hid hp
  clear hb hm hp
  go_enter Try.func5, Try.ntmps5
  go_wp2_with (refine HLong.out.mono ?_; rintro e w' ⟨rfl, rfl⟩)
  refine (spec_B10Costs a n c l w HV.out hns.1).mono ?_
  rintro e w1 ⟨cs, ⟨ac, cc, rfl, hoc, hx1⟩, hcl, hcs⟩
  rw [I_len, hcl] at hoc ⊢
  have hcb : costsB cs = true := by
    unfold costsB belowB; rw [hcl]; simp only [decide_true, Bool.true_and, List.all_eq_true]; exact fun x hx => inB_t.2 (by have := hcs x hx; omega)
  have HOC := Lib.hid hoc.ints
  have HX1 := Lib.hid hx1
  have HCB := Lib.hid hcb
  clear hoc hcs hcb hx1
  go_wp2_with (go_at_call 19; refine (laws_b10 a' n' c' l' _ _ _ (HV'.out.ext HX1.out) (by omega) (by omega) (by omega)).mono ?_; rintro e w' ⟨rfl, rfl⟩)
  rw [← HB.out, HM.out, HP.out]
  clear x0 x1 x2
  have HOK := Lib.hid (show bestOk base m np cs = true by rw [bestOk, search_small hbb hmm hpp, HCB.out]; rfl)
  have HCo := Lib.hid (costsB_costs HCB.out)
  -- the best weights
  obtain ⟨t0, ht0, hb1, hb2, hb3, hb4⟩ := bst_spec (fun t => scoreF ⟨base, m, 0, tupAt m np t⟩ cs) (tupAt m np) (m ^ np) (Nat.pow_pos (by omega))
  have hBF : bestF base m np cs = bst (fun t => scoreF ⟨base, m, 0, tupAt m np t⟩ cs) (tupAt m np) (m ^ np) := by simp only [bestF, Int.toNat_natCast]
  rw [← hBF] at hb1 hb2 hb3 hb4
  obtain ⟨lb, hlb⟩ : ∃ lb, lb = tupAt m np t0 := ⟨_, rfl⟩
  have hlbl : lb.length = np := by rw [hlb]; exact tupAt_len m np t0
  have hlbb : ∀ x ∈ lb, 0 ≤ x ∧ x < m := by rw [hlb]; exact tupAt_bd (by omega) ht0
  have hvb : validB ⟨base, m, 0, lb⟩ = true := valid_small hbb hmm (by omega) hlbb
  have hsc := score_yes hvb HCB.out
  rw [← hlb] at hb1 hb2
  -- the drawn ones
  obtain ⟨ld, hld⟩ : ∃ ld, ld = drawnW l' m np := ⟨_, rfl⟩
  have hldl : ld.length = np := by rw [hld]; exact drawnW_len l' m np
  have hldb : ∀ x ∈ ld, 0 ≤ x ∧ x < m := by rw [hld]; exact drawnW_bd l' np (by omega)
  have hvd : validB ⟨base, m, 0, ld⟩ = true := valid_small hbb hmm (by omega) hldb
  have hsd := score_yes hvd HCB.out
  obtain ⟨td, htd, hte⟩ := tupAt_all (m := m) (n := np) (by omega) hldl hldb
  have hle := hb3 td htd
  rw [hte] at hle
  have HMin := Lib.hid hle
  obtain ⟨bf1, bf2, bf3, hq⟩ : ∃ x y z, bestF base m np cs = (x, y, z) := ⟨_, _, _, rfl⟩
  rw [hq] at hb1 hb2 hb4 HMin
  have HQ := Lib.hid hq
  simp only at hb1 hb2 hb4
  have HB1 := Lib.hid hb1
  have HB2 := Lib.hid hb2
  have HSC := Lib.hid hsc
  have HSD := Lib.hid hsd
  have HLB := Lib.hid hlbl
  have HLD := Lib.hid hldl
  have HLDB := Lib.hid hld
  have HVD := Lib.hid hvd
  clear hb1 hb2 hb3 hBF hlb hlbl hlbb hvb hsc hld hldl hldb hvd hsd hte hle hq htd ht0
  refine (impl_BestWeights base m np ac 6 cc cs w1 HOC.out).mono ?_
  rintro e w2 ⟨hx2, hr⟩
  rw [if_pos HOK.out, HQ.out] at hr
  obtain ⟨sa, sn, sc, lb', rfl, hlb', hsn, hob⟩ := hr
  simp only at hlb' ⊢
  rw [HB1.out] at hlb'
  simp only [Option.some.injEq] at hlb'
  subst hlb'
  rw [HLB.out] at hsn
  subst hsn
  have HOB := Lib.hid hob.ints
  have HX2 := Lib.hid (HX1.out.trans hx2)
  have HOC2 := Lib.hid (HOC.out.ext hx2)
  clear hob hx2 HOC HX1
  go_wp2_with fail
  refine (impl_CountBest base m sn ac 6 cc cs w2 HOC2.out).mono ?_
  rintro e w3 ⟨hx3, rfl⟩
  rw [if_pos HOK.out, HQ.out, HOK.out]
  have HOB3 := Lib.hid (HOB.out.ext hx3)
  have HX3 := Lib.hid (HX2.out.trans hx3)
  have HOC3 := Lib.hid (HOC2.out.ext hx3)
  clear hx3 HX2 HOC2 HOB
  go_wp2_with fail
  refine (impl_ScoreOf ⟨base, m, 0, lb⟩ sa ac sn sc 6 cc cs _ (HOB3.out.ext (by repeat (first | (with_reducible exact Ext.refl _) | (with_reducible refine Ext.drewN ?_ _) | (with_reducible refine Ext.drew ?_) | (with_reducible refine Ext.alloc ?_ _) | ((with_reducible refine Ext.setCell ?_ ?_ _); rotate_left; focus (first | (simp; done) | (simp; omega) | omega))))) (HOC3.out.ext (by repeat (first | (with_reducible exact Ext.refl _) | (with_reducible refine Ext.drewN ?_ _) | (with_reducible refine Ext.drew ?_) | (with_reducible refine Ext.alloc ?_ _) | ((with_reducible refine Ext.setCell ?_ ?_ _); rotate_left; focus (first | (simp; done) | (simp; omega) | omega)))))).mono ?_
  rintro e w4 ⟨rfl, hx4⟩
  rw [HSC.out.1, HSC.out.2, ← HB2.out]
  have hx34 : Ext w3 w4 := Ext.trans (by repeat (first | (with_reducible exact Ext.refl _) | (with_reducible refine Ext.drewN ?_ _) | (with_reducible refine Ext.drew ?_) | (with_reducible refine Ext.alloc ?_ _) | ((with_reducible refine Ext.setCell ?_ ?_ _); rotate_left; focus (first | (simp; done) | (simp; omega) | omega)))) hx4
  have HOC4 := Lib.hid (HOC3.out.ext hx34)
  have HX4 := Lib.hid (HX3.out.trans hx34)
  clear hx4 hx34 HX3 HOC3 HOB3
  go_wp2_with fail
  refine (implIsCosts ac 6 cc cs w4 HOC4.out).mono ?_
  rintro e w5 ⟨rfl, hx5⟩
  rw [HCB.out]
  have HOC5 := Lib.hid (HOC4.out.ext hx5)
  have HX5 := Lib.hid (HX4.out.trans hx5)
  clear hx5 HX4 HOC4
  go_wp2_with fail
  obtain ⟨O, hO⟩ : ∃ O, O = w5.heap.size := ⟨_, rfl⟩
  rw [← hO]
  have hOw : w.heap.size ≤ O := by rw [hO]; exact HX5.out.le
  have HO0 := Lib.hid hO
  clear hO
  go_loopw [18] (fun i wr => ∃ (k : Nat) (ad : Option Addr) (c2 : Nat), k ≤ sn ∧ i = .int .i64 k ∧ wr.cell? ⟨O, 0, none⟩ = some (.int .i64 base) ∧ wr.cell? ⟨O, 1, none⟩ = some (.int .i64 m) ∧ wr.cell? ⟨O, 2, none⟩ = some (.int .i64 0) ∧ wr.cell? ⟨O, 3, none⟩ = some (.slice ad k c2) ∧ wr.frozen? ⟨O, 3, none⟩ = false ∧
    Hid (Own wr (O + 1) 2 ad k c2 (I (ld.take k))) ∧ Hid (Ext w5 wr)) (fun i _ => sn - (intOf i).toNat)
  case atStart =>
    have hO := HO0.out
    subst hO
    refine ⟨0, none, 0, Nat.zero_le _, rfl, by go_simp, by go_simp, by go_simp, by go_simp, by go_simp, Own.nil _ _ _, ?_⟩
    rw [Hid]; exact (by repeat (first | (with_reducible exact Ext.refl _) | (with_reducible refine Ext.drewN ?_ _) | (with_reducible refine Ext.drew ?_) | (with_reducible refine Ext.alloc ?_ _) | ((with_reducible refine Ext.setCell ?_ ?_ _); rotate_left; focus (first | (simp; done) | (simp; omega) | omega))))
  case round =>
    obtain ⟨k, ad, c2, hk, rfl, d0, d1, d2, d3, f3, HO, HX⟩ := hrel
    have hol : O + 1 ≤ wr.heap.size := World.block_lt_of_cell? wr _ d0
    by_cases hlt : k < sn
    · have HSn := Lib.hid (drawnW_snoc l' m sn k hlt)
      rw [← HLDB.out] at HSn
      have HB10 := Lib.hid (fun w' h => laws_b10 a' n' c' l' ((k : Int) + 3) m w' h (by omega) (by omega) (by omega))
      generalize b10 l' ((k : Int) + 3) m = x at *
      go_wp2
      have hsum : IntKind.i64.wrap ((k : Int) + 3) = (k : Int) + 3 := IntWalk.i64_in _ (by omega)
      have hlen : (I (ld.take k)).length = k := by rw [I_len, List.length_take, HLD.out]; omega
      have hol' : O < wr.heap.size := hol
      go_region_law (first | (refine step_append1 rfl _ _ _ rfl 2 (.int .i64 0) 8 rfl rfl rfl (O + 1) ad k c2 (I (ld.take k)) (.int .i64 x) wr.heap.size (by simp [Act.eval, Act.put]) (by simp [Act.eval, Act.put]) (by simp) (by first | exact HO.out.ext (by repeat (first | (with_reducible exact Ext.refl _) | (with_reducible refine Ext.drewN ?_ _) | (with_reducible refine Ext.drew ?_) | (with_reducible refine Ext.alloc ?_ _) | ((with_reducible refine Ext.setCell ?_ ?_ _); rotate_left; focus (first | (simp; done) | (simp; omega) | omega))))) rfl (by simp; omega) (by omega) (by omega) ?_; intro ad' c3 w6 ho6 hb6; have HO6 := Lib.hid ho6; have HB6 := Lib.hid hb6; clear ho6 hb6; have e0 := Eq.trans (HB6.out.cell (p := ⟨O, 0, none⟩) (by simp)) (Ext.cell (by repeat (first | (with_reducible exact Ext.refl _) | (with_reducible refine Ext.drewN ?_ _) | (with_reducible refine Ext.drew ?_) | (with_reducible refine Ext.alloc ?_ _) | ((with_reducible refine Ext.setCell ?_ ?_ _); rotate_left; focus (first | (simp; done) | (simp; omega) | omega)))) d0); have e1 := Eq.trans (HB6.out.cell (p := ⟨O, 1, none⟩) (by simp)) (Ext.cell (by repeat (first | (with_reducible exact Ext.refl _) | (with_reducible refine Ext.drewN ?_ _) | (with_reducible refine Ext.drew ?_) | (with_reducible refine Ext.alloc ?_ _) | ((with_reducible refine Ext.setCell ?_ ?_ _); rotate_left; focus (first | (simp; done) | (simp; omega) | omega)))) d1); have e2 := Eq.trans (HB6.out.cell (p := ⟨O, 2, none⟩) (by simp)) (Ext.cell (by repeat (first | (with_reducible exact Ext.refl _) | (with_reducible refine Ext.drewN ?_ _) | (with_reducible refine Ext.drew ?_) | (with_reducible refine Ext.alloc ?_ _) | ((with_reducible refine Ext.setCell ?_ ?_ _); rotate_left; focus (first | (simp; done) | (simp; omega) | omega)))) d2); have e3 := Eq.trans (HB6.out.cell (p := ⟨O, 3, none⟩) (by simp)) (Ext.cell (by repeat (first | (with_reducible exact Ext.refl _) | (with_reducible refine Ext.drewN ?_ _) | (with_reducible refine Ext.drew ?_) | (with_reducible refine Ext.alloc ?_ _) | ((with_reducible refine Ext.setCell ?_ ?_ _); rotate_left; focus (first | (simp; done) | (simp; omega) | omega)))) d3); have g3 := Eq.trans (HB6.out.frozen (p := ⟨O, 3, none⟩) (by simp)) (Eq.trans (Ext.frozen (a := wr) (by repeat (first | (with_reducible exact Ext.refl _) | (with_reducible refine Ext.drewN ?_ _) | (with_reducible refine Ext.drew ?_) | (with_reducible refine Ext.alloc ?_ _) | ((with_reducible refine Ext.setCell ?_ ?_ _); rotate_left; focus (first | (simp; done) | (simp; omega) | omega)))) (p := ⟨O, 3, none⟩) hol) f3)) | (go_simp; try (go_at_call 19); refine (HB10.out _ (HV'.out.ext (by repeat (first | (with_reducible exact Ext.refl _) | (with_reducible refine Ext.drewN ?_ _) | (with_reducible refine Ext.drew ?_) | (with_reducible refine Ext.alloc ?_ _) | ((with_reducible refine Ext.setCell ?_ ?_ _); rotate_left; focus (first | (simp; done) | (simp; omega) | omega)) | (with_reducible refine Ext.trans ?_ HX.out) | (with_reducible refine Ext.trans ?_ HX5.out))))).mono ?_; rintro e w' ⟨rfl, rfl⟩))
      all_goals
        have HX6 := Lib.hid (show Ext w5 (w6.setCell ⟨O, 3, none⟩ (.slice ad' (k + 1) c3)) from Ext.setCell (Ext.below (HX.out.trans (by repeat (first | (with_reducible exact Ext.refl _) | (with_reducible refine Ext.drewN ?_ _) | (with_reducible refine Ext.drew ?_) | (with_reducible refine Ext.alloc ?_ _) | ((with_reducible refine Ext.setCell ?_ ?_ _); rotate_left; focus (first | (simp; done) | (simp; omega) | omega))))) (HB6.out.mono (by rw [HO0.out]; omega))) (by rw [HO0.out]; exact Nat.le_refl _) _)
        have HO7 := Lib.hid (HO6.out.setBelow (p := ⟨O, 3, none⟩) (Nat.lt_succ_self O) (.slice ad' (k + 1) c3))
        go_wp2
        exact ⟨⟨k + 1, ad', c3, by omega, by go_num, by go_simp, by go_simp, by go_simp, by go_simp, by go_simp, by rw [Hid, HSn.out, I_append]; exact HO7.out, HX6.out⟩, by simp [intOf]; omega⟩
    · have hks : k = sn := by omega
      subst hks
      have hdo := HO.out.ints
      rw [List.take_of_length_le (by rw [HLD.out]; omega)] at hdo
      have HDO := Lib.hid hdo
      have HOCr := Lib.hid (HOC5.out.ext HX.out)
      have HXr := Lib.hid (HX5.out.trans HX.out)
      clear hdo HO HX HOC5 HX5 f3
      go_wp2_with fail
      refine (impl_ScoreOf ⟨base, m, 0, ld⟩ ad ac k c2 6 cc cs wr HDO.out HOCr.out).mono ?_
      rintro e w7 ⟨rfl, hx7⟩
      rw [HSD.out.1, HSD.out.2]
      have d0 := hx7.cell d0
      have d1 := hx7.cell d1
      have d2 := hx7.cell d2
      have d3 := hx7.cell d3
      have HDO7 := Lib.hid (HDO.out.ext hx7)
      have HOC7 := Lib.hid (HOCr.out.ext hx7)
      have HX7 := Lib.hid (HXr.out.trans hx7)
      clear hx7 HDO HOCr HXr
      obtain ⟨q, sh, hq1, hq2, hq3, hq4, hq5, hq6, hq7, hq8⟩ := worst_facts HVD.out HCB.out
      simp only [HLD.out] at hq3 hq6 hq8
      have HQ1 := Lib.hid hq1
      have HQ2 := Lib.hid hq2
      have HSW := Lib.hid (score_swap ⟨base, m, 0, ld⟩ cs)
      have hmin := HMin.out
      have HT := Lib.hid (term_uns (cs := cs) HVD.out)
      have HTB := Lib.hid (fun p k hk => termF_bd (validB_good HVD.out) HCo.out p k hk)
      clear hq1 hq2 HMin
      generalize scoreF ⟨base, m, 0, ld⟩ cs = own at *
      generalize hpr : sh * (k : Int) = pr at *
      have hpw : IntKind.i64.wrap (sh * (k : Int)) = pr := by rw [hpr]; exact IntWalk.i64_in _ (by omega)
      go_wp2_with fail
      refine (impl_WorstPlace ⟨base, m, 0, ld⟩ ad ac k c2 6 cc cs w7 HDO7.out HOC7.out).mono ?_
      rintro e w8 ⟨rfl, hx8⟩
      rw [HQ1.out, HQ2.out, HSD.out.2]
      have HDO8 := Lib.hid (HDO7.out.ext hx8)
      have HOC8 := Lib.hid (HOC7.out.ext hx8)
      have HX8 := Lib.hid (HX7.out.trans hx8)
      have d0 := hx8.cell d0
      have d1 := hx8.cell d1
      have d2 := hx8.cell d2
      have d3 := hx8.cell d3
      clear hx8 HDO7 HOC7 HX7
      go_wp2_with fail
      clear hpw hpr hq3 hq4 hq5 hq6 hq7 hq8 hmin HQ1 HQ2
      have hpl : k ≤ 3 := hpp.2
      have HTk := Lib.hid (show ld.length = k from HLD.out)
      generalize decide (own < bf2) = y1
      generalize decide (pr < own) = y2
      generalize decide (own < sh) = y3
      generalize decide ((q : Int) < 0) = y4
      generalize decide (k ≤ q) = y5
      generalize decide (bf3 < 1) = y6
      go_loopw [24, 25, 26, 27, 28] (fun su kv _ _ _ wr => ∃ (kd : Nat) (z : Int), kd ≤ 6 ∧ kv = .int .i64 kd ∧ su = .int .i64 z ∧ 0 ≤ z ∧ z ≤ 7776000 * kd ∧ Hid (z = S kd fun q => S k fun p => termF ⟨base, m, 0, ld⟩ cs p q) ∧ Hid (Ext w8 wr)) (fun _ kv _ _ _ _ => 6 - (intOf kv).toNat)
      case atStart => exact ⟨0, 0, Nat.zero_le _, rfl, rfl, by omega, by omega, rfl, Ext.refl _⟩
      case round =>
        obtain ⟨kd, z, hkd, rfl, rfl, hz1, hz2, HZ, HX⟩ := hrel
        by_cases hlt : kd < 6
        · have hcb := HCo.out.at kd hlt
          go_wp2
          generalize decide ((kd : Int) < 6) = y7
          go_loopw [24, 26, 27, 28] (fun su iv _ _ wr2 => ∃ (i : Nat) (y : Int), i ≤ k ∧ iv = .int .i64 i ∧ su = .int .i64 (z + y) ∧ 0 ≤ y ∧ y ≤ 2592000 * i ∧ Hid (y = S i fun p => termF ⟨base, m, 0, ld⟩ cs p kd) ∧ Hid (Ext w8 wr2)) (fun _ iv _ _ _ => k - (intOf iv).toNat)
          case atStart => exact ⟨0, 0, Nat.zero_le _, rfl, by simp, by omega, by omega, rfl, HX.out⟩
          case round =>
            obtain ⟨i, y, hi, rfl, rfl, hy1, hy2, HY, HX2⟩ := hrel
            by_cases hli : i < k
            · have HN := Lib.hid (show (S (i + 1) fun p => termF ⟨base, m, 0, ld⟩ cs p kd) = y + termF ⟨base, m, 0, ld⟩ cs i kd by rw [HY.out]; rfl)
              have htb := HTB.out i kd hlt
              have ht := HT.out i kd
              have d0 := HX2.out.cell d0
              have d1 := HX2.out.cell d1
              have d2 := HX2.out.cell d2
              have d3 := HX2.out.cell d3
              have HU := Lib.hid (fun w' h => impl_UnseenPairs ⟨base, m, 0, ld⟩ ad k c2 kd i w' h (by omega))
              have HI := Lib.hid (fun w' (h : Ext w8 w') => (HOC8.out.ext h).at 22 2 und_int64s cell_int64 kd hlt .i64)
              clear HY HZ HX
              cases hu : unsOk ⟨base, m, 0, ld⟩ kd i
              · rw [hu] at HU
                rw [hu, if_neg (by simp)] at ht
                rw [ht] at HN
                clear hu
                go_wp2_with fail
                refine (HU.out _ (HDO8.out.ext (by repeat (first | (with_reducible exact Ext.refl _) | (with_reducible refine Ext.drewN ?_ _) | (with_reducible refine Ext.drew ?_) | (with_reducible refine Ext.alloc ?_ _) | ((with_reducible refine Ext.setCell ?_ ?_ _); rotate_left; focus (first | (simp; done) | (simp; omega) | omega)) | (with_reducible refine Ext.trans ?_ HX2.out))))).mono ?_
                rintro e w9 ⟨rfl, hx9⟩
                have HX9 := Lib.hid (show Ext w8 w9 from Ext.trans (by repeat (first | (with_reducible exact Ext.refl _) | (with_reducible refine Ext.drewN ?_ _) | (with_reducible refine Ext.drew ?_) | (with_reducible refine Ext.alloc ?_ _) | ((with_reducible refine Ext.setCell ?_ ?_ _); rotate_left; focus (first | (simp; done) | (simp; omega) | omega)) | (with_reducible refine Ext.trans ?_ HX2.out))) hx9)
                clear hx9
                go_wp2
                exact ⟨⟨i + 1, y, by omega, by go_num, rfl, by omega, by omega, by rw [Hid, HN.out]; omega, HX9.out⟩, by simp [intOf]; omega⟩
              · rw [hu] at HU
                rw [hu, if_pos rfl] at ht
                rw [ht] at HN htb
                clear hu ht
                generalize unsRes ⟨base, m, 0, ld⟩ kd i = u at *
                generalize cs.getD kd 0 = x at *
                generalize hxu : x * u = xu at *
                go_wp2_with fail
                refine (HU.out _ (HDO8.out.ext (by repeat (first | (with_reducible exact Ext.refl _) | (with_reducible refine Ext.drewN ?_ _) | (with_reducible refine Ext.drew ?_) | (with_reducible refine Ext.alloc ?_ _) | ((with_reducible refine Ext.setCell ?_ ?_ _); rotate_left; focus (first | (simp; done) | (simp; omega) | omega)) | (with_reducible refine Ext.trans ?_ HX2.out))))).mono ?_
                rintro e w9 ⟨rfl, hx9⟩
                have HX9 := Lib.hid (show Ext w8 w9 from Ext.trans (by repeat (first | (with_reducible exact Ext.refl _) | (with_reducible refine Ext.drewN ?_ _) | (with_reducible refine Ext.drew ?_) | (with_reducible refine Ext.alloc ?_ _) | ((with_reducible refine Ext.setCell ?_ ?_ _); rotate_left; focus (first | (simp; done) | (simp; omega) | omega)) | (with_reducible refine Ext.trans ?_ HX2.out))) hx9)
                obtain ⟨b1, off1, hia1, k1⟩ := HI.out w9 HX9.out
                clear hx9
                have hw1 : IntKind.i64.wrap (x * u) = xu := by rw [hxu]; exact IntWalk.i64_in _ (by omega)
                go_wp2
                exact ⟨⟨i + 1, y + xu, by omega, by go_num, by go_num, by omega, by omega, by rw [Hid, HN.out], HX9.out⟩, by simp [intOf]; omega⟩
            · have hik : i = k := by omega
              subst hik
              go_wp2
              exact ⟨⟨kd + 1, z + y, by omega, by go_num, rfl, by omega, by omega, by rw [Hid, S, ← HZ.out, ← HY.out], HX2.out⟩, by simp [intOf]; omega⟩
        · have hk6 : kd = 6 := by omega
          subst hk6
          have hzo : z = own := by rw [HZ.out, HSW.out]; simp only [HTk.out]
          subst hzo
          go_wp2
          go_ret
          exact ⟨rfl, HX8.out.trans HX.out⟩
end Go.Proofs.Ytaleololajildaa
