/- Walks: what errors of a kind make of symbols, in the program. -/
import Derived.Test.YtbcfbkhbangeoaaGreatSAt
import Derived.Test.YtbcfbkhbangeoaaGreatMix2
namespace Go.Proofs.YtbcfbkhbangeoaaGreat
set_option maxRecDepth 100000
open Go.RowKit

/-- the numbers below b but one, made into lists -/
def eachTo (x0 : Int) (mk : Int → List Int) (b : Nat) : List (List Int) := ((List.range b).filter fun (k : Nat) => !decide ((k : Int) = x0)).map fun (k : Nat) => mk k
theorem eachTo_yes {x0 : Int} {mk : Int → List Int} {b : Nat} (h : (b : Int) ≠ x0) : eachTo x0 mk (b + 1) = eachTo x0 mk b ++ [mk b] := by
  unfold eachTo
  rw [List.range_succ, List.filter_append, List.map_append]
  simp [List.filter, h]
theorem eachTo_no {x0 : Int} {mk : Int → List Int} {b : Nat} (h : (b : Int) = x0) : eachTo x0 mk (b + 1) = eachTo x0 mk b := by
  unfold eachTo
  rw [List.range_succ, List.filter_append, List.map_append]
  simp [List.filter, h]
theorem eachTo_le (x0 : Int) (mk : Int → List Int) (b : Nat) : (eachTo x0 mk b).length ≤ b := by
  unfold eachTo
  rw [List.length_map]
  exact Nat.le_trans (List.length_filter_le _ _) (by simp)
theorem eachTo_pre (x0 : Int) (mk : Int → List Int) {b c : Nat} (h : b ≤ c) : eachTo x0 mk b <+: eachTo x0 mk c := by
  induction c with
  | zero =>
    obtain rfl : b = 0 := by omega
    exact List.prefix_refl _
  | succ c ih =>
    by_cases hb : b = c + 1
    · subst hb; exact List.prefix_refl _
    · refine (ih (by omega)).trans ?_
      by_cases hc : (c : Int) = x0
      · rw [eachTo_no hc]; exact List.prefix_refl _
      · rw [eachTo_yes hc]; exact List.prefix_append _ _
theorem eachTo_mem {x0 : Int} {mk : Int → List Int} {b : Nat} {l : List Int} (h : l ∈ eachTo x0 mk b) : ∃ k : Nat, k < b ∧ (k : Int) ≠ x0 ∧ l = mk k := by
  unfold eachTo at h
  obtain ⟨k, hk, rfl⟩ := List.mem_map.1 h
  have := List.mem_filter.1 hk
  exact ⟨k, List.mem_range.1 this.1, by simpa using this.2, rfl⟩
/-- what is handed on, list by list; the blocks from lo to hi stay as they are -/
def Does (f : Nat) (caps : Array Value) (ll : List (List Int)) (lo hi : Nat) (Inv : Nat → World → Prop) : Prop :=
  ∀ (j : Nat) (W : World) (a : Option Addr) (n c : Nat), j < ll.length → Inv j W → Ints W a n c (gl ll j) → (∀ x, a = some x → hi ≤ x.block) → hi ≤ W.heap.size → Calls Tryz.prog f (#[.slice a n c] ++ caps) W fun e w' => e = .returned (.tuple #[]) ∧ Inv (j + 1) w' ∧ KeepB lo hi W w'
def Done (lo hi : Nat) (Inv : World → Prop) (w : World) (e : Ending) (w' : World) : Prop := e = .returned (.tuple #[]) ∧ Inv w' ∧ KeepB lo hi w w'
theorem eachTo_at {x0 : Int} {mk : Int → List Int} {b c : Nat} (h : b < c) (hne : (b : Int) ≠ x0) : (eachTo x0 mk b).length < (eachTo x0 mk c).length ∧ gl (eachTo x0 mk c) (eachTo x0 mk b).length = mk b := by
  have h1 := eachTo_pre x0 mk (show b + 1 ≤ c by omega)
  rw [eachTo_yes hne] at h1
  obtain ⟨r, hr⟩ := h1
  rw [← hr]
  refine ⟨by simp, ?_⟩
  unfold gl
  rw [List.getD_eq_getElem?_getD, List.append_assoc, List.getElem?_append_right (Nat.le_refl _)]
  simp
theorem keepB_size {lo hi : Nat} {w w' : World} (h : KeepB lo hi w w') (hl : lo < hi) (hh : hi ≤ w.heap.size) : hi ≤ w'.heap.size := by
  have h1 := h (hi - 1) (by omega) (by omega)
  have h2 : w.heap[hi - 1]? = some w.heap[hi - 1] := Array.getElem?_eq_getElem (by omega)
  rw [h2] at h1
  have := (Array.getElem?_eq_some_iff.1 h1).1
  omega
theorem VarAt.keepB {lo hi q : Nat} {w w' : World} {T : TypeId} {v : Value} (h : VarAt w q T v) (hk : KeepB lo hi w w') (h1 : lo ≤ q) (h2 : q < hi) : VarAt w' q T v := (hk q h1 h2).trans h
set_option maxHeartbeats 4000000 in
theorem changes_each (base : Nat) (x0 : Int) (mk : Int → List Int) (fm : Nat) (capsm : Array Value) (fd : Nat) (capsd : Array Value) (fa : Option Addr) (fn fc : Nat) (from' : List Int) (p1 p2 p3 lo hi : Nat) (Inv : Nat → World → Prop) (w : World)
    (hb : base ≤ 36) (hp1 : lo ≤ p1 ∧ p1 < hi) (hp2 : lo ≤ p2 ∧ p2 < hi) (hp3 : lo ≤ p3 ∧ p3 < hi) (hhi : hi ≤ w.heap.size)
    (v1 : VarAt w p1 2 (.int .i64 base)) (v2 : VarAt w p2 25 (.slice fa fn fc)) (v3 : VarAt w p3 76 (.func (.func fd) #[] capsd))
    (hn : 1 ≤ fn) (hx0 : x0 = gi from' 0) (hfr : ∀ j W, Inv j W → Ints W fa fn fc from') (hst : ∀ j W W', Inv j W → Ext W W' → Inv j W')
    (hem : ∀ args w', (callFunc fm args).run Tryz.prog w' = .ok (.enter fm args) w') (hed : ∀ args w', (callFunc fd args).run Tryz.prog w' = .ok (.enter fd args) w')
    (hm : ∀ (b : Nat) W j, b < base → Inv j W → KeepB lo hi w W → Calls Tryz.prog fm (#[.int .i64 b] ++ capsm) W (RetOwn 2 (I (mk b)) W))
    (hd : Does fd capsd (eachTo x0 mk base) lo hi Inv) (h0 : Inv 0 w) :
    Calls Tryz.prog 115 (#[.func (.func fm) #[] capsm] ++ #[.pointer (some ⟨p1, 0, none⟩), .pointer (some ⟨p2, 0, none⟩), .pointer (some ⟨p3, 0, none⟩)]) w (Done lo hi (Inv (eachTo x0 mk base).length) w) := by
  have HV1 := Lib.hid v1
  have HV2 := Lib.hid v2
  have HV3 := Lib.hid v3
  have HFr := Lib.hid hfr
  have HSt := Lib.hid hst
  have HM := Lib.hid hm
  have HD := Lib.hid hd
  have H0 := Lib.hid h0
  have HX := Lib.hid hx0
  have cb := v1.cell
  clear v1 v2 v3 hfr hst hm hd h0 hx0
  go_enter Tryz.func115, Tryz.ntmps115
  go_wp2_with fail
  have hx0' := HX.out
  subst hx0'
  clear HX
  go_loopw [7] (fun v7 wr => ∃ b : Nat, b ≤ base ∧ v7 = .int .i64 b ∧ Hid (Inv (eachTo (gi from' 0) mk b).length wr) ∧ Hid (KeepB lo hi w wr)) (fun v7 _ => base - (intOf v7).toNat)
  case atStart => exact ⟨0, Nat.zero_le _, rfl, H0.out, KeepB.refl _ _ _⟩
  case round =>
    obtain ⟨b, hbb, rfl, HI, HK⟩ := hrel
    by_cases hlt : b < base
    · have hhr : hi ≤ wr.heap.size := keepB_size HK.out (by omega) hhi
      have hint := HFr.out _ _ HI.out
      have c2 := (HV2.out.keepB HK.out hp2.1 hp2.2).cell
      have c3 := (HV3.out.keepB HK.out hp3.1 hp3.2).cell
      have hc3 : p3 < wr.heap.size := by omega
      obtain ⟨bo, off, hix, hcell⟩ := hint.ix (P := Tryz.prog) 25 2 und_int64s cell_int64
      have hxx : Ext wr wr := Ext.refl _
      have hfn0 : 0 < fn := by omega
      have hcell0 : ∀ w', Ext wr w' → w'.cell? ⟨bo, off, none⟩ = some (.int .i64 (gi from' 0)) := fun w' h => hcell 0 w' hfn0 h
      clear hint
      by_cases hne : (b : Int) = gi from' 0
      · have hq : ((b : Int) != gi from' 0) = false := by simp [hne]
        have HE := Lib.hid (eachTo_no (mk := mk) hne)
        clear hne
        go_wp2
        exact ⟨⟨b + 1, by omega, by go_num, by rw [Hid, HE.out]; exact HI.out, HK.out⟩, by simp [intOf]; omega⟩
      · have hq : ((b : Int) != gi from' 0) = true := by simpa using hne
        have HE := Lib.hid (eachTo_yes (mk := mk) hne)
        have HA := Lib.hid (eachTo_at (mk := mk) hlt hne)
        have HMk := Lib.hid (fun W (h : Ext wr W) => HM.out b W _ hlt (HSt.out _ _ _ HI.out h) (HK.out.trans (KeepB.ext h hhr)))
        clear hne
        go_wp2
        (refine wp_region_upl 4 wr (by repeat (first | (with_reducible exact Ext.refl _) | (with_reducible refine Ext.drewN ?_ _) | (with_reducible refine Ext.drew ?_) | (with_reducible refine Ext.alloc ?_ _) | ((with_reducible refine Ext.setCell ?_ ?_ _); rotate_left; focus (first | (simp; done) | (simp; omega) | omega)) | assumption | (with_reducible refine Ext.trans ?_ (by assumption)))) rfl (by kernel_rfl) (by kernel_rfl) (seqB_of (by kernel_rfl)) (lastB_of (by kernel_rfl)) ?_; simp only [List.take_succ_cons, List.take_zero, List.drop_succ_cons, List.drop_zero]; (repeat (first | (refine mix_q rfl ?_; go_big_quiet_step (fail); refine wpQuiet_nil ?_; show wpMix _ _ _ _ _ _ _) | (refine mix_s rfl ?_; go_wp2_with (((with_reducible refine (HMk.out _ (by repeat (first | (with_reducible exact Ext.refl _) | (with_reducible assumption) | (with_reducible refine Ext.drewN ?_ _) | (with_reducible refine Ext.drew ?_) | (with_reducible refine Ext.alloc ?_ _) | ((with_reducible refine Ext.setCell ?_ ?_ _); rotate_left; focus (first | (simp; done) | (simp; omega) | omega)) | (with_reducible refine Ext.trans ?_ (by with_reducible assumption))))).mono ?_); rintro e w6 ⟨a6, c6, rfl, ho6, hy6⟩; have hx6 : Ext wr w6 := Ext.trans (by repeat (first | (with_reducible exact Ext.refl _) | (with_reducible assumption) | (with_reducible refine Ext.drewN ?_ _) | (with_reducible refine Ext.drew ?_) | (with_reducible refine Ext.alloc ?_ _) | ((with_reducible refine Ext.setCell ?_ ?_ _); rotate_left; focus (first | (simp; done) | (simp; omega) | omega)) | (with_reducible refine Ext.trans ?_ (by with_reducible assumption)))) hy6; have HO6 := Lib.hid ho6; clear ho6 hy6)); first | refine ⟨up_of (by repeat (first | (with_reducible exact Ext.refl _) | (with_reducible refine Ext.drewN ?_ _) | (with_reducible refine Ext.drew ?_) | (with_reducible refine Ext.alloc ?_ _) | ((with_reducible refine Ext.setCell ?_ ?_ _); rotate_left; focus (first | (simp; done) | (simp; omega) | omega)) | assumption | (with_reducible refine Ext.trans ?_ (by assumption)))), ?_⟩ | refine ⟨rfl, rfl, up_of (by repeat (first | (with_reducible exact Ext.refl _) | (with_reducible refine Ext.drewN ?_ _) | (with_reducible refine Ext.drew ?_) | (with_reducible refine Ext.alloc ?_ _) | ((with_reducible refine Ext.setCell ?_ ?_ _); rotate_left; focus (first | (simp; done) | (simp; omega) | omega)) | assumption | (with_reducible refine Ext.trans ?_ (by assumption)))), ?_⟩))); refine mix_nil ?_)
        have HDo := Lib.hid (HD.out _ w6 a6 _ c6 HA.out.1 (HSt.out _ _ _ HI.out hx6) (by rw [HA.out.2]; exact HO6.out.ints) (fun x hx => by have h1 : wr.heap.size ≤ x.block := (HO6.out.blk x hx).1; omega) (Nat.le_trans hhr hx6.le))
        go_wp2_with ((with_reducible refine HDo.out.mono ?_); rintro e w7 ⟨rfl, hi7, hk7⟩)
        exact ⟨⟨b + 1, by omega, by go_num, by rw [Hid, HE.out, List.length_append, List.length_singleton]; exact hi7, HK.out.trans ((KeepB.ext hx6 hhr).trans hk7)⟩, by simp [intOf]; omega⟩
    · obtain rfl : b = base := by omega
      go_wp2
      exact bodyPost_ret (v := .tuple #[]) (by simp [results, Tryz.results115, go_sem]) rfl ⟨rfl, HI.out, HK.out⟩
set_option maxHeartbeats 400000 in
theorem changes2 (b : Int) (w : World) : Calls Tryz.prog 116 (#[.int .i64 b] ++ #[]) w (RetOwn 2 (I [b]) w) := by
  go_enter Tryz.func116, Tryz.ntmps116
  go_wp2
  go_ret
  exact ⟨some ⟨w.heap.size, 0, none⟩, 1, rfl, own_lit1 w _ _, (by repeat (first | (with_reducible exact Ext.refl _) | (with_reducible refine Ext.drewN ?_ _) | (with_reducible refine Ext.drew ?_) | (with_reducible refine Ext.alloc ?_ _) | ((with_reducible refine Ext.setCell ?_ ?_ _); rotate_left; focus (first | (simp; done) | (simp; omega) | omega)) | assumption | (with_reducible refine Ext.trans ?_ (by assumption))))⟩
set_option maxHeartbeats 4000000 in
theorem changes_single (base : Nat) (fd : Nat) (capsd : Array Value) (fa : Option Addr) (fn fc : Nat) (from' : List Int) (Inv : Nat → World → Prop) (w : World)
    (hb : base ≤ 36) (hn : 1 ≤ fn) (hn2 : fn ≤ 1048576) (hfr : ∀ j W, Inv j W → Ints W fa fn fc from') (hst : ∀ j W W', Inv j W → Ext W W' → Inv j W') (hed : ∀ args w', (callFunc fd args).run Tryz.prog w' = .ok (.enter fd args) w')
    (hd : Does fd capsd (eachTo (gi from' 0) (fun b => [b]) base) w.heap.size (w.heap.size + 4) Inv) (h0 : Inv 0 w) :
    Calls Tryz.prog 78 #[.int .i64 0, .int .i64 base, .slice fa fn fc, .func (.func fd) #[] capsd] w (fun e w' => e = .returned (.tuple #[]) ∧ Inv (eachTo (gi from' 0) (fun b => [b]) base).length w') := by
  have HFr := Lib.hid hfr
  have HSt := Lib.hid hst
  have HD := Lib.hid hd
  have HI0 := Lib.hid h0
  clear hfr hst hd h0
  go_enter Tryz.func78, Tryz.ntmps78
  go_wp2_with fail
  obtain ⟨w4, hw4⟩ : ∃ W, W = (((w.alloc (.cells #[.int .i64 base] 2)).alloc (.cells #[.slice fa fn fc] 25)).alloc (.cells #[.func (.func fd) #[] capsd] 76)).alloc (.cells #[.int .i64 ((fn : Int) - 1)] 3) := ⟨_, rfl⟩
  have hx4 : Ext w w4 := by rw [hw4]; exact (by repeat (first | (with_reducible exact Ext.refl _) | (with_reducible refine Ext.drewN ?_ _) | (with_reducible refine Ext.drew ?_) | (with_reducible refine Ext.alloc ?_ _) | ((with_reducible refine Ext.setCell ?_ ?_ _); rotate_left; focus (first | (simp; done) | (simp; omega) | omega)) | assumption | (with_reducible refine Ext.trans ?_ (by assumption))))
  have v1 : VarAt w4 w.heap.size 2 (.int .i64 base) := by rw [hw4]; exact (((VarAt.new w _ _).ext ((Ext.refl _).alloc _)).ext ((Ext.refl _).alloc _)).ext ((Ext.refl _).alloc _)
  have v2 : VarAt w4 (w.heap.size + 1) 25 (.slice fa fn fc) := by
    rw [hw4]
    have h := VarAt.new (w.alloc (.cells #[.int .i64 base] 2)) 25 (.slice fa fn fc)
    rw [show (w.alloc (.cells #[.int .i64 base] 2)).heap.size = w.heap.size + 1 by simp] at h
    exact (h.ext ((Ext.refl _).alloc _)).ext ((Ext.refl _).alloc _)
  have v3 : VarAt w4 (w.heap.size + 1 + 1) 76 (.func (.func fd) #[] capsd) := by
    rw [hw4]
    have h := VarAt.new ((w.alloc (.cells #[.int .i64 base] 2)).alloc (.cells #[.slice fa fn fc] 25)) 76 (.func (.func fd) #[] capsd)
    rw [show ((w.alloc (.cells #[.int .i64 base] 2)).alloc (.cells #[.slice fa fn fc] 25)).heap.size = w.heap.size + 1 + 1 by simp] at h
    exact h.ext ((Ext.refl _).alloc _)
  have hsz : w.heap.size + 4 ≤ w4.heap.size := by rw [hw4]; simp
  have HE := Lib.hid (changes_each base (gi from' 0) (fun b => [b]) 116 #[] fd capsd fa fn fc from' w.heap.size (w.heap.size + 1) (w.heap.size + 1 + 1) w.heap.size (w.heap.size + 4) Inv w4 hb (by omega) (by omega) (by omega) hsz v1 v2 v3 hn rfl HFr.out HSt.out (fun _ _ => rfl) hed (fun b W j _ _ _ => changes2 b W) HD.out (HSt.out _ _ _ HI0.out hx4))
  rw [← hw4]
  clear hw4 v1 v2 v3 hsz hx4
  refine HE.out.mono ?_
  rintro e w5 ⟨rfl, hi5, _⟩
  go_wp2
  exact bodyPost_end (v := .tuple #[]) (by simp [results, Tryz.results78, go_sem]) rfl ⟨rfl, hi5⟩
end Go.Proofs.YtbcfbkhbangeoaaGreat
