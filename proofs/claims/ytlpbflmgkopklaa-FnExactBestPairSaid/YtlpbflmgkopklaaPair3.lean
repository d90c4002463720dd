/- Walks: BestPair of the program. -/
import Derived.Test.YtlpbflmgkopklaaPair2
namespace Go.Proofs.Ytlpbflmgkopklaa
set_option maxRecDepth 100000
open Go.RowKit

/-- the best pair of the first t lists: the list, how far apart its words are -/
def bpF (m np : Nat) : Nat → Option (List Int) × Int
  | 0 => (none, 0)
  | t + 1 => if (bpF m np t).2 < apF m np ((tupAt m (2 * np) t).take np) ((tupAt m (2 * np) t).drop np) (m ^ np) then (some (tupAt m (2 * np) t), apF m np ((tupAt m (2 * np) t).take np) ((tupAt m (2 * np) t).drop np) (m ^ np)) else bpF m np t
theorem bpF_bd (m np : Nat) : ∀ t, 0 ≤ (bpF m np t).2 ∧ (bpF m np t).2 ≤ np ∧ ((bpF m np t).1 = none ↔ (bpF m np t).2 = 0)
  | 0 => by simp [bpF]
  | t + 1 => by
    have h1 := bpF_bd m np t
    have h2 := apF_bd m np ((tupAt m (2 * np) t).take np) ((tupAt m (2 * np) t).drop np) (m ^ np)
    rw [bpF]
    split
    · refine ⟨h2.1, h2.2, ?_⟩
      simp only [reduceCtorEq, false_iff]
      omega
    · exact h1
theorem bpF_len (m np : Nat) : ∀ t {l : List Int}, (bpF m np t).1 = some l → l.length = 2 * np
  | 0, l, h => by cases h
  | t + 1, l, h => by
    rw [bpF] at h
    split at h
    · cases h; exact tupAt_len _ _ _
    · exact bpF_len m np t h
/-- the trial of BestPair -/
def BpPost (l : List Int) (z mo : Int) (p8 p9 : Nat) (W : World) (e : Ending) (W' : World) : Prop :=
  e = .returned (.bool true) ∧ ((mo < z ∧ ∃ W2 sa sc, Ext W W2 ∧ W' = (W2.setCell ⟨p8, 0, none⟩ (.slice sa l.length sc)).setCell ⟨p9, 0, none⟩ (.int .i64 z) ∧ Own W2 W.heap.size 2 sa l.length sc (I l) ∧ sa ≠ none) ∨ (¬ mo < z ∧ Ext W W'))
set_option maxHeartbeats 4000000 in
theorem bp1 (p2 p3 p8 p9 g m np N : Nat) (mo : Int) (sa : Option Addr) (sn sc : Nat) (l : List Int) (W : World) (h2 : VarAt W p2 2 (.int .i64 m)) (h3 : VarAt W p3 2 (.int .i64 np)) (h8 : VarAt W p8 22 (.slice sa sn sc)) (h9 : VarAt W p9 2 (.int .i64 mo))
    (hl : Ints W (some ⟨g, 0, none⟩) N N l) (hN : N = 2 * np) (hn : np ≤ 6) (hm : 1 ≤ m) (hm2 : m ≤ 36) (hs : Small l) (hmo : 0 ≤ mo ∧ mo ≤ np) :
    Calls Try.prog 46 (#[.slice (some ⟨g, 0, none⟩) N N] ++ #[.pointer (some ⟨p2, 0, none⟩), .pointer (some ⟨p3, 0, none⟩), .pointer (some ⟨p9, 0, none⟩), .pointer (some ⟨p8, 0, none⟩)]) W (BpPost l (apF m np (l.take np) (l.drop np) (m ^ np)) mo p8 p9 W) := by
  have hln := hl.len
  have k2 : ∀ w', Ext W w' → w'.cell? ⟨p2, 0, none⟩ = some (.int .i64 m) := fun w' h => (h2.ext h).cell
  have k3 : ∀ w', Ext W w' → w'.cell? ⟨p3, 0, none⟩ = some (.int .i64 np) := fun w' h => (h3.ext h).cell
  have k9 : ∀ w', Ext W w' → w'.cell? ⟨p9, 0, none⟩ = some (.int .i64 mo) := fun w' h => (h9.ext h).cell
  have H8 := Lib.hid h8
  have H9 := Lib.hid h9
  obtain ⟨a1, r1, i1⟩ := hl.pre (P := Try.prog) 22 2 und_int64s cell_int64 elem_int64s np (by omega)
  obtain ⟨a2, r2, i2⟩ := hl.suf (P := Try.prog) 22 2 und_int64s cell_int64 elem_int64s np (by omega)
  rw [show N - np = np by omega] at r2 i2
  have HLi := Lib.hid (fun W' (h : Ext W W') => impl_lightest m np a1 a2 N np (l.take np) (l.drop np) W' (i1.ext h) (i2.ext h) (by omega) hm hm2 (hs.take np) (fun x hx => hs x (List.mem_of_mem_drop hx)))
  have HCl := Lib.hid (fun W' (h : Ext W W') => clone_ints (some ⟨g, 0, none⟩) N N l W' (hl.ext h) (by omega))
  have hzb := apF_bd m np (l.take np) (l.drop np) (m ^ np)
  generalize apF m np (l.take np) (l.drop np) (m ^ np) = z at *
  have hfar : farI z = if z = 0 then 1099511627776 else z := rfl
  have HFar := Lib.hid hfar
  have HNN := Lib.hid hN
  have hN20 : N < 1000 := by omega
  have hnN : np ≤ N := by omega
  clear h2 h3 h8 h9 hl i1 i2 hs hfar hN
  by_cases hz0 : z = 0
  · have HF := Lib.hid (HFar.out.trans (if_pos hz0))
    have hnl : ¬ mo < z := by omega
    rw [HF.out] at HLi
    clear hz0
    go_enter Try.func46, Try.ntmps46
    go_wp2_with fail
    (refine wp_region_from W (by repeat (first | (with_reducible exact Ext.refl _) | (with_reducible refine Ext.drewN ?_ _) | (with_reducible refine Ext.drew ?_) | (with_reducible refine Ext.alloc ?_ _) | ((with_reducible refine Ext.setCell ?_ ?_ _); rotate_left; focus (first | (simp; done) | (simp; omega) | omega)) | assumption | (with_reducible refine Ext.trans ?_ (by assumption)))) (by kernel_rfl) (by kernel_rfl) (seqB_of (by kernel_rfl)) ?_; (repeat (first | (refine mix_q rfl ?_; go_big_quiet_step (fail); refine wpQuiet_nil ?_; show wpMix _ _ _ _ _ _ _) | (refine mix_s rfl ?_; go_wp2_with (((with_reducible refine (HLi.out _ (by repeat (first | (with_reducible exact Ext.refl _) | (with_reducible refine Ext.drewN ?_ _) | (with_reducible refine Ext.drew ?_) | (with_reducible refine Ext.alloc ?_ _) | ((with_reducible refine Ext.setCell ?_ ?_ _); rotate_left; focus (first | (simp; done) | (simp; omega) | omega)) | assumption | (with_reducible refine Ext.trans ?_ (by assumption))))).mono ?_); rintro e w1 ⟨rfl, hy1⟩; have hxw1 : Ext W w1 := Ext.trans (by repeat (first | (with_reducible exact Ext.refl _) | (with_reducible refine Ext.drewN ?_ _) | (with_reducible refine Ext.drew ?_) | (with_reducible refine Ext.alloc ?_ _) | ((with_reducible refine Ext.setCell ?_ ?_ _); rotate_left; focus (first | (simp; done) | (simp; omega) | omega)) | assumption | (with_reducible refine Ext.trans ?_ (by assumption)))) hy1; have hz1 := hy1; clear hy1)); first | refine ⟨up_of (by repeat (first | (with_reducible exact Ext.refl _) | (with_reducible refine Ext.drewN ?_ _) | (with_reducible refine Ext.drew ?_) | (with_reducible refine Ext.alloc ?_ _) | ((with_reducible refine Ext.setCell ?_ ?_ _); rotate_left; focus (first | (simp; done) | (simp; omega) | omega)) | assumption | (with_reducible refine Ext.trans ?_ (by assumption)))), ?_⟩ | refine ⟨rfl, rfl, up_of (by repeat (first | (with_reducible exact Ext.refl _) | (with_reducible refine Ext.drewN ?_ _) | (with_reducible refine Ext.drew ?_) | (with_reducible refine Ext.alloc ?_ _) | ((with_reducible refine Ext.setCell ?_ ?_ _); rotate_left; focus (first | (simp; done) | (simp; omega) | omega)) | assumption | (with_reducible refine Ext.trans ?_ (by assumption)))), ?_⟩))); refine mix_nil ?_)
    go_wp2_with fail
    go_ret
    exact ⟨rfl, .inr ⟨Int.not_lt.2 hnl, hxw1⟩⟩
  have HF := Lib.hid (HFar.out.trans (if_neg hz0))
  rw [HF.out] at HLi
  by_cases hlt : mo < z
  · go_enter Try.func46, Try.ntmps46
    go_wp2_with fail
    (refine wp_region_from W (by repeat (first | (with_reducible exact Ext.refl _) | (with_reducible refine Ext.drewN ?_ _) | (with_reducible refine Ext.drew ?_) | (with_reducible refine Ext.alloc ?_ _) | ((with_reducible refine Ext.setCell ?_ ?_ _); rotate_left; focus (first | (simp; done) | (simp; omega) | omega)) | assumption | (with_reducible refine Ext.trans ?_ (by assumption)))) (by kernel_rfl) (by kernel_rfl) (seqB_of (by kernel_rfl)) ?_; (repeat (first | (refine mix_q rfl ?_; go_big_quiet_step (fail); refine wpQuiet_nil ?_; show wpMix _ _ _ _ _ _ _) | (refine mix_s rfl ?_; go_wp2_with (((with_reducible refine (HLi.out _ (by repeat (first | (with_reducible exact Ext.refl _) | (with_reducible refine Ext.drewN ?_ _) | (with_reducible refine Ext.drew ?_) | (with_reducible refine Ext.alloc ?_ _) | ((with_reducible refine Ext.setCell ?_ ?_ _); rotate_left; focus (first | (simp; done) | (simp; omega) | omega)) | assumption | (with_reducible refine Ext.trans ?_ (by assumption))))).mono ?_); rintro e w1 ⟨rfl, hy1⟩; have hxw1 : Ext W w1 := Ext.trans (by repeat (first | (with_reducible exact Ext.refl _) | (with_reducible refine Ext.drewN ?_ _) | (with_reducible refine Ext.drew ?_) | (with_reducible refine Ext.alloc ?_ _) | ((with_reducible refine Ext.setCell ?_ ?_ _); rotate_left; focus (first | (simp; done) | (simp; omega) | omega)) | assumption | (with_reducible refine Ext.trans ?_ (by assumption)))) hy1; have hz1 := hy1; clear hy1)); first | refine ⟨up_of (by repeat (first | (with_reducible exact Ext.refl _) | (with_reducible refine Ext.drewN ?_ _) | (with_reducible refine Ext.drew ?_) | (with_reducible refine Ext.alloc ?_ _) | ((with_reducible refine Ext.setCell ?_ ?_ _); rotate_left; focus (first | (simp; done) | (simp; omega) | omega)) | assumption | (with_reducible refine Ext.trans ?_ (by assumption)))), ?_⟩ | refine ⟨rfl, rfl, up_of (by repeat (first | (with_reducible exact Ext.refl _) | (with_reducible refine Ext.drewN ?_ _) | (with_reducible refine Ext.drew ?_) | (with_reducible refine Ext.alloc ?_ _) | ((with_reducible refine Ext.setCell ?_ ?_ _); rotate_left; focus (first | (simp; done) | (simp; omega) | omega)) | assumption | (with_reducible refine Ext.trans ?_ (by assumption)))), ?_⟩))); refine mix_nil ?_)
    go_wp2_with ((with_reducible refine (HCl.out _ (by repeat (first | (with_reducible exact Ext.refl _) | (with_reducible assumption) | (with_reducible refine Ext.drewN ?_ _) | (with_reducible refine Ext.drew ?_) | (with_reducible refine Ext.alloc ?_ _) | ((with_reducible refine Ext.setCell ?_ ?_ _); rotate_left; focus (first | (simp; done) | (simp; omega) | omega)) | (with_reducible refine Ext.trans ?_ (by with_reducible assumption))))).mono ?_); rintro e W2 ⟨sa, sc, rfl, ho2, hy, hnn⟩; rw [I_len, hln] at ho2 ⊢; have hx2 : Ext W W2 := Ext.trans (by repeat (first | (with_reducible exact Ext.refl _) | (with_reducible assumption) | (with_reducible refine Ext.drewN ?_ _) | (with_reducible refine Ext.drew ?_) | (with_reducible refine Ext.alloc ?_ _) | ((with_reducible refine Ext.setCell ?_ ?_ _); rotate_left; focus (first | (simp; done) | (simp; omega) | omega)) | (with_reducible refine Ext.trans ?_ (by with_reducible assumption)))) hy; have HO2 := Lib.hid (ho2.mono hxw1.le); have HNn := Lib.hid (show sa ≠ none from fun h => by have := hnn.1 h; cases this); have hv := H8.out.ext hx2; have d1 := hv.cell; have d2 := hv.frozen; have d3 := hv.lt; have hv9 := H9.out.ext hx2; have g1 := hv9.cell; have g2 := hv9.frozen; have g3 := hv9.lt; have hpp : p8 ≠ p9 := hv.ne hv9 (by decide); have hpp2 : p9 ≠ p8 := hpp.symm; clear hy ho2 hnn hv hv9)
    go_ret
    exact ⟨rfl, .inl ⟨hlt, W2, sa, sc, hx2, by rw [hln], by rw [hln]; exact HO2.out, HNn.out⟩⟩
  · go_enter Try.func46, Try.ntmps46
    go_wp2_with fail
    (refine wp_region_from W (by repeat (first | (with_reducible exact Ext.refl _) | (with_reducible refine Ext.drewN ?_ _) | (with_reducible refine Ext.drew ?_) | (with_reducible refine Ext.alloc ?_ _) | ((with_reducible refine Ext.setCell ?_ ?_ _); rotate_left; focus (first | (simp; done) | (simp; omega) | omega)) | assumption | (with_reducible refine Ext.trans ?_ (by assumption)))) (by kernel_rfl) (by kernel_rfl) (seqB_of (by kernel_rfl)) ?_; (repeat (first | (refine mix_q rfl ?_; go_big_quiet_step (fail); refine wpQuiet_nil ?_; show wpMix _ _ _ _ _ _ _) | (refine mix_s rfl ?_; go_wp2_with (((with_reducible refine (HLi.out _ (by repeat (first | (with_reducible exact Ext.refl _) | (with_reducible refine Ext.drewN ?_ _) | (with_reducible refine Ext.drew ?_) | (with_reducible refine Ext.alloc ?_ _) | ((with_reducible refine Ext.setCell ?_ ?_ _); rotate_left; focus (first | (simp; done) | (simp; omega) | omega)) | assumption | (with_reducible refine Ext.trans ?_ (by assumption))))).mono ?_); rintro e w1 ⟨rfl, hy1⟩; have hxw1 : Ext W w1 := Ext.trans (by repeat (first | (with_reducible exact Ext.refl _) | (with_reducible refine Ext.drewN ?_ _) | (with_reducible refine Ext.drew ?_) | (with_reducible refine Ext.alloc ?_ _) | ((with_reducible refine Ext.setCell ?_ ?_ _); rotate_left; focus (first | (simp; done) | (simp; omega) | omega)) | assumption | (with_reducible refine Ext.trans ?_ (by assumption)))) hy1; have hz1 := hy1; clear hy1)); first | refine ⟨up_of (by repeat (first | (with_reducible exact Ext.refl _) | (with_reducible refine Ext.drewN ?_ _) | (with_reducible refine Ext.drew ?_) | (with_reducible refine Ext.alloc ?_ _) | ((with_reducible refine Ext.setCell ?_ ?_ _); rotate_left; focus (first | (simp; done) | (simp; omega) | omega)) | assumption | (with_reducible refine Ext.trans ?_ (by assumption)))), ?_⟩ | refine ⟨rfl, rfl, up_of (by repeat (first | (with_reducible exact Ext.refl _) | (with_reducible refine Ext.drewN ?_ _) | (with_reducible refine Ext.drew ?_) | (with_reducible refine Ext.alloc ?_ _) | ((with_reducible refine Ext.setCell ?_ ?_ _); rotate_left; focus (first | (simp; done) | (simp; omega) | omega)) | assumption | (with_reducible refine Ext.trans ?_ (by assumption)))), ?_⟩))); refine mix_nil ?_)
    go_wp2_with fail
    go_ret
    exact ⟨rfl, .inr ⟨Int.not_lt.2 hlt, hxw1⟩⟩
/-- bases of pairs -/
def pairB (b : Int) : Bool := b == 2 || b == 3 || b == 5
theorem pairB_t {b : Int} (h : pairB b = true) : b = 2 ∨ b = 3 ∨ b = 5 := by
  unfold pairB at h
  simp only [Bool.or_eq_true, beq_iff_eq] at h
  omega
theorem impl_pairBase (b : Int) (w : World) : Calls Try.prog 42 #[.int .i64 b] w (Same (.bool (pairB b)) w) := by
  by_cases h2 : b = 2
  · subst h2
    go_enter Try.func42, Try.ntmps42
    go_wp2_with fail
    go_ret
    exact ⟨rfl, rfl⟩
  by_cases h3 : b = 3
  · subst h3
    go_enter Try.func42, Try.ntmps42
    go_wp2_with fail
    go_ret
    exact ⟨rfl, rfl⟩
  have hp : pairB b = (b == 5) := by
    unfold pairB
    rw [show (b == 2) = false from by simpa using h2, show (b == 3) = false from by simpa using h3]
    rfl
  have e2 : (b == 2) = false := by simpa using h2
  have e3 : (b == 3) = false := by simpa using h3
  clear h2 h3
  rw [hp]
  go_enter Try.func42, Try.ntmps42
  go_wp2_with fail
  go_ret
  exact ⟨rb (by first | rfl | simp [e2, e3]), rfl⟩
def bpOk (base places : Int) : Bool := pairB base && (inB places 1 6 && decide (base ^ (2 * places.toNat) ≤ 20000))
def bpO (base places : Int) : Option (List Int) × Int := if bpOk base places = true then bpF base.toNat places.toNat (base.toNat ^ (2 * places.toNat)) else (none, 0)
def bpL1 (base places : Int) : List Int := ((bpO base places).1.getD []).take places.toNat
def bpL2 (base places : Int) : List Int := ((bpO base places).1.getD []).drop places.toNat
def bpZ (base places : Int) : Int := (bpO base places).2
def bpB (base places : Int) : Bool := (bpO base places).1.isSome
/-- two fresh lists of numbers, a number, a bool -/
def RetLLNB (R1 R2 : List Int) (z : Int) (ok : Bool) (w : World) (e : Ending) (w' : World) : Prop :=
  ∃ a0 n0 c0 a1 n1 c1, e = .returned (.tuple #[.slice a0 n0 c0, .slice a1 n1 c1, .int .i64 z, .bool ok]) ∧ Ext w w' ∧ Own w' w.heap.size 2 a0 n0 c0 (I R1) ∧ Own w' w.heap.size 2 a1 n1 c1 (I R2) ∧ (∀ g g', a0 = some g → a1 = some g' → g.block ≠ g'.block)
theorem bp_retN {base places : Int} {w w' : World} (h : (bpO base places).1 = none) (hx : Ext w w') :
    RetLLNB (bpL1 base places) (bpL2 base places) (bpZ base places) (bpB base places) w (.returned (.tuple #[.slice none 0 0, .slice none 0 0, .int .i64 0, .bool false])) w' := by
  have hz : (bpO base places).2 = 0 := by
    unfold bpO at h ⊢
    split
    · rename_i hk
      rw [if_pos hk] at h
      exact ((bpF_bd _ _ _).2.2).1 h
    · rfl
  have h1 : bpL1 base places = [] := by unfold bpL1; rw [h]; simp
  have h2 : bpL2 base places = [] := by unfold bpL2; rw [h]; simp
  have h3 : bpZ base places = 0 := hz
  have h4 : bpB base places = false := by unfold bpB; rw [h]; rfl
  rw [h1, h2, h3, h4]
  exact ⟨none, 0, 0, none, 0, 0, rfl, hx, Own.nil _ _ _, Own.nil _ _ _, fun g g' h => by cases h⟩
theorem bpO_no {base places : Int} (h : bpOk base places = false) : (bpO base places).1 = none := by unfold bpO; rw [h]; rfl
set_option maxHeartbeats 4000000 in
theorem impl_BP (base places : Int) (w : World) :
    Calls Try.prog 11 #[.int .i64 base, .int .i64 places] w (RetLLNB (bpL1 base places) (bpL2 base places) (bpZ base places) (bpB base places) w) := by
  have qT : ∀ (w : World) a n c, (binOp .eql 22 (.slice a n c) (.slice none 0 0)).run Try.prog w = .ok (.bool a.isNone) w := fun w a n c => Lib.run_eql_slice_nil w 22 2 a n c 0 0 und_int64s
  have HBa := Lib.hid (fun W => impl_pairBase base W)
  have HIn := Lib.hid (fun W => impl_in places 1 6 W)
  cases hb : pairB base
  · rw [hb] at HBa
    have HO := Lib.hid (bpO_no (show bpOk base places = false by unfold bpOk; rw [hb]; rfl))
    clear hb
    go_enter Try.func11, Try.ntmps11
    go_wp2_with ((with_reducible refine (HBa.out _).mono ?_); rintro e w' ⟨rfl, rfl⟩)
    refine bodyPost_ret (v := .tuple #[.slice none 0 0, .slice none 0 0, .int .i64 0, .bool false]) (by simp [results, Try.results11, go_sem]) rfl ?_
    exact bp_retN HO.out (by repeat (first | (with_reducible exact Ext.refl _) | (with_reducible assumption) | (with_reducible refine Ext.drewN ?_ _) | (with_reducible refine Ext.drew ?_) | (with_reducible refine Ext.alloc ?_ _) | ((with_reducible refine Ext.setCell ?_ ?_ _); rotate_left; focus (first | (simp; done) | (simp; omega) | omega)) | (with_reducible refine Ext.trans ?_ (by with_reducible assumption))))
  rw [hb] at HBa
  cases hp : inB places 1 6
  · rw [hp] at HIn
    have HO := Lib.hid (bpO_no (show bpOk base places = false by unfold bpOk; rw [hp]; simp))
    clear hb hp
    go_enter Try.func11, Try.ntmps11
    go_wp2_with (first | ((with_reducible refine (HBa.out _).mono ?_); rintro e w' ⟨rfl, rfl⟩) | ((with_reducible refine (HIn.out _).mono ?_); rintro e w' ⟨rfl, rfl⟩))
    refine bodyPost_ret (v := .tuple #[.slice none 0 0, .slice none 0 0, .int .i64 0, .bool false]) (by simp [results, Try.results11, go_sem]) rfl ?_
    exact bp_retN HO.out (by repeat (first | (with_reducible exact Ext.refl _) | (with_reducible assumption) | (with_reducible refine Ext.drewN ?_ _) | (with_reducible refine Ext.drew ?_) | (with_reducible refine Ext.alloc ?_ _) | ((with_reducible refine Ext.setCell ?_ ?_ _); rotate_left; focus (first | (simp; done) | (simp; omega) | omega)) | (with_reducible refine Ext.trans ?_ (by with_reducible assumption))))
  rw [hp] at HIn
  obtain ⟨p1, p2⟩ := inB_t.1 hp
  have hb3 := pairB_t hb
  obtain ⟨np, rfl⟩ := Int.eq_ofNat_of_zero_le (show 0 ≤ places by omega)
  obtain ⟨m, rfl⟩ := Int.eq_ofNat_of_zero_le (show 0 ≤ base by omega)
  have hm2 : 2 ≤ m := by omega
  have hm5 : m ≤ 5 := by omega
  have HPw := Lib.hid (show ∀ W, Calls Try.prog 44 #[.int .i64 m, .int .i64 (2 * (np : Int)), .int .i64 20000] W (Same (.bool (decide ((m : Int) ^ (2 * np) ≤ 20000))) W) from fun W => by
    have h := impl_power m 20000 (2 * np) W (by omega) (by omega) (by omega) (by omega) (by omega)
    rwa [show ((2 * np : Nat) : Int) = 2 * (np : Int) by omega] at h)
  cases hpw : decide ((m : Int) ^ (2 * np) ≤ 20000)
  · rw [hpw] at HPw
    have HO := Lib.hid (bpO_no (show bpOk m np = false by unfold bpOk; rw [Int.toNat_natCast, hpw]; simp))
    clear hb hp hpw hb3
    go_enter Try.func11, Try.ntmps11
    go_wp2_with (first | ((with_reducible refine (HBa.out _).mono ?_); rintro e w' ⟨rfl, rfl⟩) | ((with_reducible refine (HIn.out _).mono ?_); rintro e w' ⟨rfl, rfl⟩) | ((with_reducible refine (HPw.out _).mono ?_); rintro e w' ⟨rfl, rfl⟩))
    refine bodyPost_ret (v := .tuple #[.slice none 0 0, .slice none 0 0, .int .i64 0, .bool false]) (by simp [results, Try.results11, go_sem]) rfl ?_
    exact bp_retN HO.out (by repeat (first | (with_reducible exact Ext.refl _) | (with_reducible assumption) | (with_reducible refine Ext.drewN ?_ _) | (with_reducible refine Ext.drew ?_) | (with_reducible refine Ext.alloc ?_ _) | ((with_reducible refine Ext.setCell ?_ ?_ _); rotate_left; focus (first | (simp; done) | (simp; omega) | omega)) | (with_reducible refine Ext.trans ?_ (by with_reducible assumption))))
  rw [hpw] at HPw
  have HO := Lib.hid (show bpO m np = bpF m np (m ^ (2 * np)) by unfold bpO bpOk; rw [Int.toNat_natCast, Int.toNat_natCast, hpw, hb, hp]; rfl)
  clear hb hp hpw hb3
  have hxb : Ext w ((w.alloc (.cells #[.int .i64 m] 2)).alloc (.cells #[.int .i64 np] 2)) := (by repeat (first | (with_reducible exact Ext.refl _) | (with_reducible refine Ext.drewN ?_ _) | (with_reducible refine Ext.drew ?_) | (with_reducible refine Ext.alloc ?_ _) | ((with_reducible refine Ext.setCell ?_ ?_ _); rotate_left; focus (first | (simp; done) | (simp; omega) | omega)) | assumption | (with_reducible refine Ext.trans ?_ (by assumption))))
  obtain ⟨wb, hwb⟩ : ∃ wb, wb = (w.alloc (.cells #[.int .i64 m] 2)).alloc (.cells #[.int .i64 np] 2) := ⟨_, rfl⟩
  rw [← hwb] at hxb
  have hbs : wb.heap.size = w.heap.size + 1 + 1 := by rw [hwb]; simp
  have HP2 := Lib.hid (show VarAt wb w.heap.size 2 (.int .i64 m) by rw [hwb]; exact (VarAt.new w _ _).ext ((Ext.refl _).alloc _))
  have HP3 := Lib.hid (show VarAt wb (w.heap.size + 1) 2 (.int .i64 np) by
    rw [hwb]
    have h := VarAt.new (w.alloc (.cells #[.int .i64 m] 2)) 2 (.int .i64 np)
    rwa [show (w.alloc (.cells #[.int .i64 m] 2)).heap.size = w.heap.size + 1 by simp] at h)
  obtain ⟨wS, hwS⟩ : ∃ wS, wS = (wb.alloc (.cells #[.slice none 0 0] 22)).alloc (.cells #[.int .i64 0] 2) := ⟨_, rfl⟩
  have hxS : Ext wb wS := by rw [hwS]; exact (by repeat (first | (with_reducible exact Ext.refl _) | (with_reducible refine Ext.drewN ?_ _) | (with_reducible refine Ext.drew ?_) | (with_reducible refine Ext.alloc ?_ _) | ((with_reducible refine Ext.setCell ?_ ?_ _); rotate_left; focus (first | (simp; done) | (simp; omega) | omega)) | assumption | (with_reducible refine Ext.trans ?_ (by assumption))))
  have hSs : wS.heap.size = w.heap.size + 1 + 1 + 1 + 1 := by rw [hwS]; simp [hbs]
  have H8 := Lib.hid (show VarAt wS (w.heap.size + 1 + 1) 22 (.slice none 0 0) by rw [hwS, ← hbs]; exact (VarAt.new wb _ _).ext ((Ext.refl _).alloc _))
  have H9 := Lib.hid (show VarAt wS (w.heap.size + 1 + 1 + 1) 2 (.int .i64 0) by
    rw [hwS, ← hbs]
    have h := VarAt.new (wb.alloc (.cells #[.slice none 0 0] 22)) 2 (.int .i64 0)
    rwa [show (wb.alloc (.cells #[.slice none 0 0] 22)).heap.size = wb.heap.size + 1 by simp] at h)
  have HT := Lib.hid (impl_tuples m (2 * np) 46 #[.pointer (some ⟨w.heap.size, 0, none⟩), .pointer (some ⟨w.heap.size + 1, 0, none⟩), .pointer (some ⟨w.heap.size + 1 + 1 + 1, 0, none⟩), .pointer (some ⟨w.heap.size + 1 + 1, 0, none⟩)]
    (fun t W => Ext wb W ∧ VarAt W (w.heap.size + 1 + 1 + 1) 2 (.int .i64 (bpF m np t).2) ∧ ∃ sa sn sc, VarAt W (w.heap.size + 1 + 1) 22 (.slice sa sn sc) ∧ BestIs W wS.heap.size (bpF m np t).1 sa sn sc) (fun _ => False) wS (by omega) (by omega) (by omega) (fun _ _ => rfl)
    (fun W ht => ⟨hxS.trans (touch_ext ht), H9.out.ext (touch_ext ht), none, 0, 0, H8.out.ext (touch_ext ht), rfl, rfl, rfl⟩)
    (fun t W W' h ht => ⟨⟨ht.os.trans h.1.os, ht.tape.trans h.1.tape, ht.output.trans h.1.output, Nat.le_trans h.1.size ht.size, fun k hk => (ht.block k (Nat.lt_of_lt_of_le hk h.1.size) (by omega)).trans (h.1.block k hk)⟩, (ht.block _ h.2.1.lt (by omega)).trans h.2.1, by
      obtain ⟨sa, sn, sc, h8, hbi⟩ := h.2.2
      exact ⟨sa, sn, sc, (ht.block _ h8.lt (by omega)).trans h8, hbi.touch ht⟩⟩)
    (fun t W ht h ho => by
      obtain ⟨hxW, h9, sa, sn, sc, h8, hbi⟩ := h
      have hbd := bpF_bd m np t
      refine (bp1 w.heap.size (w.heap.size + 1) (w.heap.size + 1 + 1) (w.heap.size + 1 + 1 + 1) wS.heap.size m np (2 * np) (bpF m np t).2 sa sn sc (tupAt m (2 * np) t) W (HP2.out.ext hxW) (HP3.out.ext hxW) h8 h9 ho.ints rfl (by omega) (by omega) (by omega) (tup_small (by omega) (by omega) ht) ⟨hbd.1, hbd.2.1⟩).mono ?_
      rintro e W' ⟨rfl, hu⟩
      left
      have hlt := ho.lt.2
      rcases hu with ⟨hu, W2, sa2, sc2, hx2, rfl, ho2, hn2⟩ | ⟨hu, hx2⟩
      · have e : bpF m np (t + 1) = (some (tupAt m (2 * np) t), apF m np ((tupAt m (2 * np) t).take np) ((tupAt m (2 * np) t).drop np) (m ^ np)) := by rw [bpF, if_pos hu]
        refine ⟨rfl, ⟨((hxW.trans hx2).setCell (by show wb.heap.size ≤ w.heap.size + 1 + 1; omega) _).setCell (by show wb.heap.size ≤ w.heap.size + 1 + 1 + 1; omega) _, ?_, sa2, (tupAt m (2 * np) t).length, sc2, ?_, ?_⟩, ?_⟩
        · rw [e]
          exact ((h9.ext hx2).other _ (show w.heap.size + 1 + 1 + 1 ≠ w.heap.size + 1 + 1 by omega)).set _
        · exact ((h8.ext hx2).set _).other _ (show w.heap.size + 1 + 1 ≠ w.heap.size + 1 + 1 + 1 by omega)
        · rw [e]
          exact ⟨hn2, rfl, ((ho2.mono (show wS.heap.size + 1 ≤ W.heap.size by omega)).setBelow (show w.heap.size + 1 + 1 < wS.heap.size + 1 by omega) _).setBelow (show w.heap.size + 1 + 1 + 1 < wS.heap.size + 1 by omega) _⟩
        · rw [Below.heap_setCell _ _ _ _ (show wS.heap.size ≠ w.heap.size + 1 + 1 + 1 by omega), Below.heap_setCell _ _ _ _ (show wS.heap.size ≠ w.heap.size + 1 + 1 by omega)]
          exact hx2.block _ hlt
      · have e : bpF m np (t + 1) = bpF m np t := by rw [bpF, if_neg hu]
        exact ⟨rfl, ⟨hxW.trans hx2, by rw [e]; exact h9.ext hx2, sa, sn, sc, h8.ext hx2, by rw [e]; exact hbi.ext hx2⟩, hx2.block _ hlt⟩))
  have q2 : wS.cell? ⟨w.heap.size, 0, none⟩ = some (.int .i64 m) := (HP2.out.ext hxS).cell
  have q3 : wS.cell? ⟨w.heap.size + 1, 0, none⟩ = some (.int .i64 np) := (HP3.out.ext hxS).cell
  have hct : ((2 * np : Nat) : Int) = 2 * (np : Int) := by omega
  rw [hct] at HT
  have hwSs : w.heap.size ≤ wS.heap.size := by omega
  have HWb := Lib.hid hwb
  have HWs := Lib.hid hwS
  have hbn := bpF_bd m np (m ^ (2 * np))
  have HLn := Lib.hid (fun l => bpF_len m np (m ^ (2 * np)) (l := l))
  clear hwb hwS hbs hSs hct
  go_enter Try.func11, Try.ntmps11
  go_wp2_with (first | ((with_reducible refine (HBa.out _).mono ?_); rintro e w' ⟨rfl, rfl⟩) | ((with_reducible refine (HIn.out _).mono ?_); rintro e w' ⟨rfl, rfl⟩) | ((with_reducible refine (HPw.out _).mono ?_); rintro e w' ⟨rfl, rfl⟩))
  rw [← HWb.out, ← HWs.out]
  refine HT.out.mono ?_
  rintro e w2 ⟨rfl, hf | hf⟩
  · obtain ⟨hx2, h9, sa, sn, sc, h8, hbi⟩ := hf
    have hxw2 : Ext w w2 := hxb.trans hx2
    have c8 : ∀ w', Ext w2 w' → w'.cell? ⟨w.heap.size + 1 + 1, 0, none⟩ = some (.slice sa sn sc) := fun w' h => (h8.ext h).cell
    have c9 : ∀ w', Ext w2 w' → w'.cell? ⟨w.heap.size + 1 + 1 + 1, 0, none⟩ = some (.int .i64 (bpF m np (m ^ (2 * np))).2) := fun w' h => (h9.ext h).cell
    have c3 : ∀ w', Ext w2 w' → w'.cell? ⟨w.heap.size + 1, 0, none⟩ = some (.int .i64 np) := fun w' h => ((HP3.out.ext hx2).ext h).cell
    have h2e : Ext w2 w2 := Ext.refl _
    have d8 := c8 w2 h2e
    have d9 := c9 w2 h2e
    have d3 := c3 w2 h2e
    obtain ⟨bo, bz, hbo⟩ : ∃ bo bz, bpF m np (m ^ (2 * np)) = (bo, bz) := ⟨_, _, rfl⟩
    rw [hbo] at hbi c9 d9 HO hbn
    simp only at c9 hbn d9
    have HLo := Lib.hid (fun l (h : bo = some l) => HLn.out l (by rw [hbo]; exact h))
    clear hbo h8 h9 q2 q3 hx2
    cases bo with
    | none =>
      obtain ⟨rfl, rfl, rfl⟩ := hbi
      go_wp2_with fail
      refine bodyPost_ret (v := .tuple #[.slice none 0 0, .slice none 0 0, .int .i64 0, .bool false]) (by simp [results, Try.results11, go_sem]) rfl ?_
      exact bp_retN (by rw [HO.out]) hxw2
    | some l =>
      obtain ⟨hn, rfl, ho⟩ := hbi
      have hll := HLo.out l rfl
      obtain ⟨g', rfl⟩ := Option.ne_none_iff_exists'.1 hn
      have hl := ho.ints
      obtain ⟨a1, r1, i1⟩ := hl.pre (P := Try.prog) 22 2 und_int64s cell_int64 elem_int64s np (by omega)
      obtain ⟨a2, r2, i2⟩ := hl.suf (P := Try.prog) 22 2 und_int64s cell_int64 elem_int64s np (by omega)
      have hl1 : (l.take np).length = np := i1.len
      have hl2 : (l.drop np).length = np := by rw [i2.len]; omega
      obtain ⟨nl, hnl⟩ : ∃ nl, nl = l.length := ⟨_, rfl⟩
      rw [← hnl] at r1 r2 i2
      have hnn : nl - np = np := by omega
      rw [hnn] at r2 i2
      have HC1 := Lib.hid (fun W' (h : Ext w2 W') => clone_ints a1 np sc (l.take np) W' (i1.ext h) (by omega))
      have HC2 := Lib.hid (fun W' (h : Ext w2 W') => clone_ints a2 np (sc - np) (l.drop np) W' (i2.ext h) (by omega))
      have HR1 := Lib.hid (show bpL1 m np = l.take np by unfold bpL1; rw [HO.out]; rfl)
      have HR2 := Lib.hid (show bpL2 m np = l.drop np by unfold bpL2; rw [HO.out]; rfl)
      have HR3 := Lib.hid (show bpZ m np = bz by unfold bpZ; rw [HO.out])
      have HR4 := Lib.hid (show bpB m np = true by unfold bpB; rw [HO.out]; rfl)
      rw [← hnl] at c8 d8
      clear i1 i2 hl ho hll hn HLo HLn hnn hnl
      go_wp2_with fail
      (refine wp_region_from w2 (by repeat (first | (with_reducible exact Ext.refl _) | (with_reducible refine Ext.drewN ?_ _) | (with_reducible refine Ext.drew ?_) | (with_reducible refine Ext.alloc ?_ _) | ((with_reducible refine Ext.setCell ?_ ?_ _); rotate_left; focus (first | (simp; done) | (simp; omega) | omega)) | assumption | (with_reducible refine Ext.trans ?_ (by assumption)))) (by kernel_rfl) (by kernel_rfl) (seqB_of (by kernel_rfl)) ?_; (repeat (first | (refine mix_q rfl ?_; go_big_quiet_step (fail); refine wpQuiet_nil ?_; show wpMix _ _ _ _ _ _ _) | (refine mix_s rfl ?_; go_wp2_with ((first | ((with_reducible refine (HC1.out _ (by repeat (first | (with_reducible exact Ext.refl _) | (with_reducible refine Ext.drewN ?_ _) | (with_reducible refine Ext.drew ?_) | (with_reducible refine Ext.alloc ?_ _) | ((with_reducible refine Ext.setCell ?_ ?_ _); rotate_left; focus (first | (simp; done) | (simp; omega) | omega)) | assumption | (with_reducible refine Ext.trans ?_ (by assumption))))).mono ?_); rintro e w3 ⟨b1, d1, rfl, ho3, hy3, -⟩; rw [I_len, hl1] at ho3 ⊢; have hx3 : Ext w2 w3 := Ext.trans (by repeat (first | (with_reducible exact Ext.refl _) | (with_reducible refine Ext.drewN ?_ _) | (with_reducible refine Ext.drew ?_) | (with_reducible refine Ext.alloc ?_ _) | ((with_reducible refine Ext.setCell ?_ ?_ _); rotate_left; focus (first | (simp; done) | (simp; omega) | omega)) | assumption | (with_reducible refine Ext.trans ?_ (by assumption)))) hy3; have HO3 := Lib.hid (ho3.mono (Ext.le (show Ext w2 _ from (by repeat (first | (with_reducible exact Ext.refl _) | (with_reducible refine Ext.drewN ?_ _) | (with_reducible refine Ext.drew ?_) | (with_reducible refine Ext.alloc ?_ _) | ((with_reducible refine Ext.setCell ?_ ?_ _); rotate_left; focus (first | (simp; done) | (simp; omega) | omega)) | assumption | (with_reducible refine Ext.trans ?_ (by assumption))))))); clear ho3 hy3) | ((with_reducible refine (HC2.out _ (by repeat (first | (with_reducible exact Ext.refl _) | (with_reducible refine Ext.drewN ?_ _) | (with_reducible refine Ext.drew ?_) | (with_reducible refine Ext.alloc ?_ _) | ((with_reducible refine Ext.setCell ?_ ?_ _); rotate_left; focus (first | (simp; done) | (simp; omega) | omega)) | assumption | (with_reducible refine Ext.trans ?_ (by assumption))))).mono ?_); rintro e w4 ⟨b2, d2, rfl, ho4, hy4, -⟩; rw [I_len, hl2] at ho4 ⊢; have hx34 : Ext w3 w4 := Ext.trans (by repeat (first | (with_reducible exact Ext.refl _) | (with_reducible refine Ext.drewN ?_ _) | (with_reducible refine Ext.drew ?_) | (with_reducible refine Ext.alloc ?_ _) | ((with_reducible refine Ext.setCell ?_ ?_ _); rotate_left; focus (first | (simp; done) | (simp; omega) | omega)) | assumption | (with_reducible refine Ext.trans ?_ (by assumption)))) hy4; have hx4 : Ext w2 w4 := hx3.trans hx34; have HO4 := Lib.hid (ho4.mono (Ext.le (show Ext w3 _ from (by repeat (first | (with_reducible exact Ext.refl _) | (with_reducible refine Ext.drewN ?_ _) | (with_reducible refine Ext.drew ?_) | (with_reducible refine Ext.alloc ?_ _) | ((with_reducible refine Ext.setCell ?_ ?_ _); rotate_left; focus (first | (simp; done) | (simp; omega) | omega)) | assumption | (with_reducible refine Ext.trans ?_ (by assumption))))))); clear ho4 hy4))); first | refine ⟨up_of (by repeat (first | (with_reducible exact Ext.refl _) | (with_reducible refine Ext.drewN ?_ _) | (with_reducible refine Ext.drew ?_) | (with_reducible refine Ext.alloc ?_ _) | ((with_reducible refine Ext.setCell ?_ ?_ _); rotate_left; focus (first | (simp; done) | (simp; omega) | omega)) | assumption | (with_reducible refine Ext.trans ?_ (by assumption)))), ?_⟩ | refine ⟨rfl, rfl, up_of (by repeat (first | (with_reducible exact Ext.refl _) | (with_reducible refine Ext.drewN ?_ _) | (with_reducible refine Ext.drew ?_) | (with_reducible refine Ext.alloc ?_ _) | ((with_reducible refine Ext.setCell ?_ ?_ _); rotate_left; focus (first | (simp; done) | (simp; omega) | omega)) | assumption | (with_reducible refine Ext.trans ?_ (by assumption)))), ?_⟩))); refine mix_nil ?_)
      go_wp2_with fail
      refine bodyPost_ret (v := .tuple #[.slice b1 np d1, .slice b2 np d2, .int .i64 bz, .bool true]) (by simp [results, Try.results11, go_sem]) rfl ?_
      rw [HR1.out, HR2.out, HR3.out, HR4.out]
      exact ⟨b1, np, d1, b2, np, d2, rfl, hxw2.trans hx4, (HO3.out.ext hx34).mono hxw2.le, HO4.out.mono (hxw2.trans hx3).le, own_ne HO3.out HO4.out (Nat.le_refl _)⟩
  · exact hf.elim
end Go.Proofs.Ytlpbflmgkopklaa
