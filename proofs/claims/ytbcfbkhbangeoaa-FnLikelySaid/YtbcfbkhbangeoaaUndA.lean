/- Walks: what errors of a kind make of symbols, in the program. -/
import Derived.Test.YtbcfbkhbangeoaaSAt
import Derived.Test.YtbcfbkhbangeoaaMix2
import Derived.Test.YtbcfbkhbangeoaaBegs
import Derived.Test.YtbcfbkhbangeoaaDraw
import Derived.Deep.RegionHeld3
import Derived.Deep.CutRange
namespace Go.Proofs.Ytbcfbkhbangeoaa
set_option maxRecDepth 100000
open Go.RowKit

/-- the numbers below b but one, made into lists -/
def eachTo (x0 : Int) (mk : Int → List Int) (b : Nat) : List (List Int) := ((List.range b).filter fun (k : Nat) => !decide ((k : Int) = x0)).map fun (k : Nat) => mk k
theorem eachTo_yes {x0 : Int} {mk : Int → List Int} {b : Nat} (h : (b : Int) ≠ x0) : eachTo x0 mk (b + 1) = eachTo x0 mk b ++ [mk b] := by
  unfold eachTo
  rw [List.range_succ, List.filter_append, List.map_append]
  simp [List.filter, h]
theorem eachTo_no {x0 : Int} {mk : Int → List Int} {b : Nat} (h : (b : Int) = x0) : eachTo x0 mk (b + 1) = eachTo x0 mk b := by
  unfold eachTo
  rw [List.range_succ, List.filter_append, List.map_append]
  simp [List.filter, h]
theorem eachTo_le (x0 : Int) (mk : Int → List Int) (b : Nat) : (eachTo x0 mk b).length ≤ b := by
  unfold eachTo
  rw [List.length_map]
  exact Nat.le_trans (List.length_filter_le _ _) (by simp)
theorem eachTo_pre (x0 : Int) (mk : Int → List Int) {b c : Nat} (h : b ≤ c) : eachTo x0 mk b <+: eachTo x0 mk c := by
  induction c with
  | zero =>
    obtain rfl : b = 0 := by omega
    exact List.prefix_refl _
  | succ c ih =>
    by_cases hb : b = c + 1
    · subst hb; exact List.prefix_refl _
    · refine (ih (by omega)).trans ?_
      by_cases hc : (c : Int) = x0
      · rw [eachTo_no hc]; exact List.prefix_refl _
      · rw [eachTo_yes hc]; exact List.prefix_append _ _
theorem eachTo_mem {x0 : Int} {mk : Int → List Int} {b : Nat} {l : List Int} (h : l ∈ eachTo x0 mk b) : ∃ k : Nat, k < b ∧ (k : Int) ≠ x0 ∧ l = mk k := by
  unfold eachTo at h
  obtain ⟨k, hk, rfl⟩ := List.mem_map.1 h
  have := List.mem_filter.1 hk
  exact ⟨k, List.mem_range.1 this.1, by simpa using this.2, rfl⟩
/-- what is handed on, list by list; the blocks from lo to hi stay as they are -/
def Does (f : Nat) (caps : Array Value) (ll : List (List Int)) (lo hi : Nat) (Inv : Nat → World → Prop) : Prop :=
  ∀ (j : Nat) (W : World) (a : Option Addr) (n c : Nat), j < ll.length → Inv j W → Ints W a n c (gl ll j) → (∀ x, a = some x → hi ≤ x.block) → hi ≤ W.heap.size → Calls Try.prog f (#[.slice a n c] ++ caps) W fun e w' => e = .returned (.tuple #[]) ∧ Inv (j + 1) w' ∧ KeepB lo hi W w'
def Done (lo hi : Nat) (Inv : World → Prop) (w : World) (e : Ending) (w' : World) : Prop := e = .returned (.tuple #[]) ∧ Inv w' ∧ KeepB lo hi w w'
theorem eachTo_at {x0 : Int} {mk : Int → List Int} {b c : Nat} (h : b < c) (hne : (b : Int) ≠ x0) : (eachTo x0 mk b).length < (eachTo x0 mk c).length ∧ gl (eachTo x0 mk c) (eachTo x0 mk b).length = mk b := by
  have h1 := eachTo_pre x0 mk (show b + 1 ≤ c by omega)
  rw [eachTo_yes hne] at h1
  obtain ⟨r, hr⟩ := h1
  rw [← hr]
  refine ⟨by simp, ?_⟩
  unfold gl
  rw [List.getD_eq_getElem?_getD, List.append_assoc, List.getElem?_append_right (Nat.le_refl _)]
  simp
theorem keepB_size {lo hi : Nat} {w w' : World} (h : KeepB lo hi w w') (hl : lo < hi) (hh : hi ≤ w.heap.size) : hi ≤ w'.heap.size := by
  have h1 := h (hi - 1) (by omega) (by omega)
  have h2 : w.heap[hi - 1]? = some w.heap[hi - 1] := Array.getElem?_eq_getElem (by omega)
  rw [h2] at h1
  have := (Array.getElem?_eq_some_iff.1 h1).1
  omega
theorem VarAt.keepB {lo hi q : Nat} {w w' : World} {T : TypeId} {v : Value} (h : VarAt w q T v) (hk : KeepB lo hi w w') (h1 : lo ≤ q) (h2 : q < hi) : VarAt w' q T v := (hk q h1 h2).trans h
set_option maxHeartbeats 4000000 in
theorem changes_each (base : Nat) (x0 : Int) (mk : Int → List Int) (fm : Nat) (capsm : Array Value) (fd : Nat) (capsd : Array Value) (fa : Option Addr) (fn fc : Nat) (from' : List Int) (p1 p2 p3 lo hi : Nat) (Inv : Nat → World → Prop) (w : World)
    (hb : base ≤ 36) (hp1 : lo ≤ p1 ∧ p1 < hi) (hp2 : lo ≤ p2 ∧ p2 < hi) (hp3 : lo ≤ p3 ∧ p3 < hi) (hhi : hi ≤ w.heap.size)
    (v1 : VarAt w p1 2 (.int .i64 base)) (v2 : VarAt w p2 23 (.slice fa fn fc)) (v3 : VarAt w p3 70 (.func (.func fd) #[] capsd))
    (hn : 1 ≤ fn) (hx0 : x0 = gi from' 0) (hfr : ∀ j W, Inv j W → Ints W fa fn fc from') (hst : ∀ j W W', Inv j W → Ext W W' → Inv j W')
    (hem : ∀ args w', (callFunc fm args).run Try.prog w' = .ok (.enter fm args) w') (hed : ∀ args w', (callFunc fd args).run Try.prog w' = .ok (.enter fd args) w')
    (hm : ∀ (b : Nat) W j, b < base → Inv j W → KeepB lo hi w W → Calls Try.prog fm (#[.int .i64 b] ++ capsm) W (RetOwn 2 (I (mk b)) W))
    (hd : Does fd capsd (eachTo x0 mk base) lo hi Inv) (h0 : Inv 0 w) :
    Calls Try.prog 104 (#[.func (.func fm) #[] capsm] ++ #[.pointer (some ⟨p1, 0, none⟩), .pointer (some ⟨p2, 0, none⟩), .pointer (some ⟨p3, 0, none⟩)]) w (Done lo hi (Inv (eachTo x0 mk base).length) w) := by
  have HV1 := Lib.hid v1
  have HV2 := Lib.hid v2
  have HV3 := Lib.hid v3
  have HFr := Lib.hid hfr
  have HSt := Lib.hid hst
  have HM := Lib.hid hm
  have HD := Lib.hid hd
  have H0 := Lib.hid h0
  have HX := Lib.hid hx0
  have cb := v1.cell
  clear v1 v2 v3 hfr hst hm hd h0 hx0
  go_enter Try.func104, Try.ntmps104
  go_wp2_with fail
  have hx0' := HX.out
  subst hx0'
  clear HX
  go_loopw [7] (fun v7 wr => ∃ b : Nat, b ≤ base ∧ v7 = .int .i64 b ∧ Hid (Inv (eachTo (gi from' 0) mk b).length wr) ∧ Hid (KeepB lo hi w wr)) (fun v7 _ => base - (intOf v7).toNat)
  case atStart => exact ⟨0, Nat.zero_le _, rfl, H0.out, KeepB.refl _ _ _⟩
  case round =>
    obtain ⟨b, hbb, rfl, HI, HK⟩ := hrel
    by_cases hlt : b < base
    · have hhr : hi ≤ wr.heap.size := keepB_size HK.out (by omega) hhi
      have hint := HFr.out _ _ HI.out
      have c2 := (HV2.out.keepB HK.out hp2.1 hp2.2).cell
      have c3 := (HV3.out.keepB HK.out hp3.1 hp3.2).cell
      have hc3 : p3 < wr.heap.size := by omega
      obtain ⟨bo, off, hix, hcell⟩ := hint.ix (P := Try.prog) 23 2 und_int64s cell_int64
      have hxx : Ext wr wr := Ext.refl _
      have hfn0 : 0 < fn := by omega
      have hcell0 : ∀ w', Ext wr w' → w'.cell? ⟨bo, off, none⟩ = some (.int .i64 (gi from' 0)) := fun w' h => hcell 0 w' hfn0 h
      clear hint
      by_cases hne : (b : Int) = gi from' 0
      · have hq : ((b : Int) != gi from' 0) = false := by simp [hne]
        have HE := Lib.hid (eachTo_no (mk := mk) hne)
        clear hne
        go_wp2
        exact ⟨⟨b + 1, by omega, by go_num, by rw [Hid, HE.out]; exact HI.out, HK.out⟩, by simp [intOf]; omega⟩
      · have hq : ((b : Int) != gi from' 0) = true := by simpa using hne
        have HE := Lib.hid (eachTo_yes (mk := mk) hne)
        have HA := Lib.hid (eachTo_at (mk := mk) hlt hne)
        have HMk := Lib.hid (fun W (h : Ext wr W) => HM.out b W _ hlt (HSt.out _ _ _ HI.out h) (HK.out.trans (KeepB.ext h hhr)))
        clear hne
        go_wp2
        (refine wp_region_upl 4 wr (by repeat (first | (with_reducible exact Ext.refl _) | (with_reducible refine Ext.drewN ?_ _) | (with_reducible refine Ext.drew ?_) | (with_reducible refine Ext.alloc ?_ _) | ((with_reducible refine Ext.setCell ?_ ?_ _); rotate_left; focus (first | (simp; done) | (simp; omega) | omega)) | assumption | (with_reducible refine Ext.trans ?_ (by assumption)))) rfl (by kernel_rfl) (by kernel_rfl) (seqB_of (by kernel_rfl)) (lastB_of (by kernel_rfl)) ?_; simp only [List.take_succ_cons, List.take_zero, List.drop_succ_cons, List.drop_zero]; (repeat (first | (refine mix_q rfl ?_; go_big_quiet_step (fail); refine wpQuiet_nil ?_; show wpMix _ _ _ _ _ _ _) | (refine mix_s rfl ?_; go_wp2_with (((with_reducible refine (HMk.out _ (by repeat (first | (with_reducible exact Ext.refl _) | (with_reducible assumption) | (with_reducible refine Ext.drewN ?_ _) | (with_reducible refine Ext.drew ?_) | (with_reducible refine Ext.alloc ?_ _) | ((with_reducible refine Ext.setCell ?_ ?_ _); rotate_left; focus (first | (simp; done) | (simp; omega) | omega)) | (with_reducible refine Ext.trans ?_ (by with_reducible assumption))))).mono ?_); rintro e w6 ⟨a6, c6, rfl, ho6, hy6⟩; have hx6 : Ext wr w6 := Ext.trans (by repeat (first | (with_reducible exact Ext.refl _) | (with_reducible assumption) | (with_reducible refine Ext.drewN ?_ _) | (with_reducible refine Ext.drew ?_) | (with_reducible refine Ext.alloc ?_ _) | ((with_reducible refine Ext.setCell ?_ ?_ _); rotate_left; focus (first | (simp; done) | (simp; omega) | omega)) | (with_reducible refine Ext.trans ?_ (by with_reducible assumption)))) hy6; have HO6 := Lib.hid ho6; clear ho6 hy6)); first | refine ⟨up_of (by repeat (first | (with_reducible exact Ext.refl _) | (with_reducible refine Ext.drewN ?_ _) | (with_reducible refine Ext.drew ?_) | (with_reducible refine Ext.alloc ?_ _) | ((with_reducible refine Ext.setCell ?_ ?_ _); rotate_left; focus (first | (simp; done) | (simp; omega) | omega)) | assumption | (with_reducible refine Ext.trans ?_ (by assumption)))), ?_⟩ | refine ⟨rfl, rfl, up_of (by repeat (first | (with_reducible exact Ext.refl _) | (with_reducible refine Ext.drewN ?_ _) | (with_reducible refine Ext.drew ?_) | (with_reducible refine Ext.alloc ?_ _) | ((with_reducible refine Ext.setCell ?_ ?_ _); rotate_left; focus (first | (simp; done) | (simp; omega) | omega)) | assumption | (with_reducible refine Ext.trans ?_ (by assumption)))), ?_⟩))); refine mix_nil ?_)
        have HDo := Lib.hid (HD.out _ w6 a6 _ c6 HA.out.1 (HSt.out _ _ _ HI.out hx6) (by rw [HA.out.2]; exact HO6.out.ints) (fun x hx => by have h1 : wr.heap.size ≤ x.block := (HO6.out.blk x hx).1; omega) (Nat.le_trans hhr hx6.le))
        go_wp2_with ((with_reducible refine HDo.out.mono ?_); rintro e w7 ⟨rfl, hi7, hk7⟩)
        exact ⟨⟨b + 1, by omega, by go_num, by rw [Hid, HE.out, List.length_append, List.length_singleton]; exact hi7, HK.out.trans ((KeepB.ext hx6 hhr).trans hk7)⟩, by simp [intOf]; omega⟩
    · obtain rfl : b = base := by omega
      go_wp2
      exact bodyPost_ret (v := .tuple #[]) (by simp [results, Try.results104, go_sem]) rfl ⟨rfl, HI.out, HK.out⟩
set_option maxHeartbeats 400000 in
theorem changes2 (b : Int) (w : World) : Calls Try.prog 105 (#[.int .i64 b] ++ #[]) w (RetOwn 2 (I [b]) w) := by
  go_enter Try.func105, Try.ntmps105
  go_wp2
  go_ret
  exact ⟨some ⟨w.heap.size, 0, none⟩, 1, rfl, own_lit1 w _ _, (by repeat (first | (with_reducible exact Ext.refl _) | (with_reducible refine Ext.drewN ?_ _) | (with_reducible refine Ext.drew ?_) | (with_reducible refine Ext.alloc ?_ _) | ((with_reducible refine Ext.setCell ?_ ?_ _); rotate_left; focus (first | (simp; done) | (simp; omega) | omega)) | assumption | (with_reducible refine Ext.trans ?_ (by assumption))))⟩
set_option maxHeartbeats 4000000 in
theorem changes_single (base : Nat) (fd : Nat) (capsd : Array Value) (fa : Option Addr) (fn fc : Nat) (from' : List Int) (Inv : Nat → World → Prop) (w : World)
    (hb : base ≤ 36) (hn : 1 ≤ fn) (hn2 : fn ≤ 1048576) (hfr : ∀ j W, Inv j W → Ints W fa fn fc from') (hst : ∀ j W W', Inv j W → Ext W W' → Inv j W') (hed : ∀ args w', (callFunc fd args).run Try.prog w' = .ok (.enter fd args) w')
    (hd : Does fd capsd (eachTo (gi from' 0) (fun b => [b]) base) w.heap.size (w.heap.size + 4) Inv) (h0 : Inv 0 w) :
    Calls Try.prog 77 #[.int .i64 0, .int .i64 base, .slice fa fn fc, .func (.func fd) #[] capsd] w (fun e w' => e = .returned (.tuple #[]) ∧ Inv (eachTo (gi from' 0) (fun b => [b]) base).length w') := by
  have HFr := Lib.hid hfr
  have HSt := Lib.hid hst
  have HD := Lib.hid hd
  have HI0 := Lib.hid h0
  clear hfr hst hd h0
  go_enter Try.func77, Try.ntmps77
  go_wp2_with fail
  obtain ⟨w4, hw4⟩ : ∃ W, W = (((w.alloc (.cells #[.int .i64 base] 2)).alloc (.cells #[.slice fa fn fc] 23)).alloc (.cells #[.func (.func fd) #[] capsd] 70)).alloc (.cells #[.int .i64 ((fn : Int) - 1)] 3) := ⟨_, rfl⟩
  have hx4 : Ext w w4 := by rw [hw4]; exact (by repeat (first | (with_reducible exact Ext.refl _) | (with_reducible refine Ext.drewN ?_ _) | (with_reducible refine Ext.drew ?_) | (with_reducible refine Ext.alloc ?_ _) | ((with_reducible refine Ext.setCell ?_ ?_ _); rotate_left; focus (first | (simp; done) | (simp; omega) | omega)) | assumption | (with_reducible refine Ext.trans ?_ (by assumption))))
  have v1 : VarAt w4 w.heap.size 2 (.int .i64 base) := by rw [hw4]; exact (((VarAt.new w _ _).ext ((Ext.refl _).alloc _)).ext ((Ext.refl _).alloc _)).ext ((Ext.refl _).alloc _)
  have v2 : VarAt w4 (w.heap.size + 1) 23 (.slice fa fn fc) := by
    rw [hw4]
    have h := VarAt.new (w.alloc (.cells #[.int .i64 base] 2)) 23 (.slice fa fn fc)
    rw [show (w.alloc (.cells #[.int .i64 base] 2)).heap.size = w.heap.size + 1 by simp] at h
    exact (h.ext ((Ext.refl _).alloc _)).ext ((Ext.refl _).alloc _)
  have v3 : VarAt w4 (w.heap.size + 1 + 1) 70 (.func (.func fd) #[] capsd) := by
    rw [hw4]
    have h := VarAt.new ((w.alloc (.cells #[.int .i64 base] 2)).alloc (.cells #[.slice fa fn fc] 23)) 70 (.func (.func fd) #[] capsd)
    rw [show ((w.alloc (.cells #[.int .i64 base] 2)).alloc (.cells #[.slice fa fn fc] 23)).heap.size = w.heap.size + 1 + 1 by simp] at h
    exact h.ext ((Ext.refl _).alloc _)
  have hsz : w.heap.size + 4 ≤ w4.heap.size := by rw [hw4]; simp
  have HE := Lib.hid (changes_each base (gi from' 0) (fun b => [b]) 105 #[] fd capsd fa fn fc from' w.heap.size (w.heap.size + 1) (w.heap.size + 1 + 1) w.heap.size (w.heap.size + 4) Inv w4 hb (by omega) (by omega) (by omega) hsz v1 v2 v3 hn rfl HFr.out HSt.out (fun _ _ => rfl) hed (fun b W j _ _ _ => changes2 b W) HD.out (HSt.out _ _ _ HI0.out hx4))
  rw [← hw4]
  clear hw4 v1 v2 v3 hsz hx4
  refine HE.out.mono ?_
  rintro e w5 ⟨rfl, hi5, _⟩
  go_wp2
  exact bodyPost_end (v := .tuple #[]) (by simp [results, Try.results77, go_sem]) rfl ⟨rfl, hi5⟩
end Go.Proofs.Ytbcfbkhbangeoaa

/- Walks: undetected errors, in the program. -/
namespace Go.Proofs.Ytbcfbkhbangeoaa
set_option maxRecDepth 100000
open Go.RowKit

/-- two blocks apart, nothing that was there has changed -/
structure Two (a b : Nat) (w w' : World) : Prop where
  os : w'.os = w.os
  tape : w'.tape = w.tape
  output : w'.output = w.output
  size : w.heap.size ≤ w'.heap.size
  block : ∀ k, k < w.heap.size → k ≠ a → k ≠ b → w'.heap[k]? = w.heap[k]?
section
variable {p q : Nat} {a b c : World}
theorem Two.refl (p q : Nat) (w : World) : Two p q w w := ⟨rfl, rfl, rfl, Nat.le_refl _, fun _ _ _ _ => rfl⟩
theorem Two.trans (h : Two p q a b) (k : Two p q b c) : Two p q a c :=
  ⟨k.os.trans h.os, k.tape.trans h.tape, k.output.trans h.output, Nat.le_trans h.size k.size, fun i hi h1 h2 => (k.block i (Nat.lt_of_lt_of_le hi h.size) h1 h2).trans (h.block i hi h1 h2)⟩
theorem Two.of_ext (h : Ext a b) : Two p q a b := ⟨Below.os h, Below.tape h, Below.output h, h.le, fun k hk _ _ => Below.block h k hk⟩
theorem Two.ext (h : Two p q a b) (k : Ext b c) : Two p q a c := h.trans (Two.of_ext k)
theorem Two.set1 (p q : Nat) (w : World) (u : Value) : Two p q w (w.setCell ⟨p, 0, none⟩ u) := ⟨rfl, rfl, rfl, by simp [World.setCell], fun i _ h1 _ => Below.heap_setCell _ _ _ _ h1⟩
theorem Two.set2 (p q : Nat) (w : World) (u : Value) : Two p q w (w.setCell ⟨q, 0, none⟩ u) := ⟨rfl, rfl, rfl, by simp [World.setCell], fun i _ _ h1 => Below.heap_setCell _ _ _ _ h1⟩
theorem Two.drew (h : Two p q a b) : Two p q a b.drew := ⟨h.os, h.tape, h.output, h.size, h.block⟩
theorem Ext.two {B0 : World} (h : Ext B0 a) (k : Two p q a b) (hp : B0.heap.size ≤ p) (hq : B0.heap.size ≤ q) : Ext B0 b :=
  h.below ⟨k.os, k.tape, k.output, k.size, fun i hi => k.block i (Nat.lt_of_lt_of_le hi h.size) (by omega) (by omega)⟩
theorem VarAt.two {x : Nat} {T : TypeId} {v : Value} (h : VarAt a x T v) (k : Two p q a b) (hp : x ≠ p) (hq : x ≠ q) : VarAt b x T v := (k.block x h.lt hp hq).trans h
theorem Ints.two {ad : Option Addr} {n m : Nat} {l : List Int} (h : Ints a ad n m l) (k : Two p q a b) (hp : ∀ x, ad = some x → x.block ≠ p ∧ x.block ≠ q) : Ints b ad n m l := by
  refine ⟨Sl.len h, Sl.cap h, fun h0 => ?_⟩
  obtain ⟨b1, off, ha, hc⟩ := Sl.cells h h0
  have hn := hp _ ha
  exact ⟨b1, off, ha, fun k' hk => (World.cell?_of_block (w := a) (k.block b1 (World.block_lt_of_cell? a _ (hc k' hk)) hn.1 hn.2)).trans (hc k' hk)⟩
theorem Two.keepB {lo hi : Nat} (k : Two p q a b) (hp : p < lo) (hq : q < lo) (hh : hi ≤ a.heap.size) : KeepB lo hi a b := fun x h1 h2 => k.block x (by omega) (by omega) (by omega)
end
set_option maxHeartbeats 400000 in
theorem impl_errLen0 (w : World) : Calls Try.prog 76 #[.int .i64 0] w (Same (.int .i64 1) w) := by
  go_enter Try.func76, Try.ntmps76
  go_wp2
  go_ret
  exact ⟨rfl, rfl⟩
end Go.Proofs.Ytbcfbkhbangeoaa

/- Walks: undetected single errors at a place, and of a chain, in the program. -/
namespace Go.Proofs.Ytbcfbkhbangeoaa
set_option maxRecDepth 100000
open Go.RowKit

/-- no errors are undetected; so many in all -/
def RetBad (w : World) (e : Ending) (w' : World) : Prop := ∃ v : Int, e = .returned (.tuple #[.int .i64 0, .int .i64 v]) ∧ Ext w w'
theorem KeepB.setB {lo hi : Nat} {w w' : World} (h : KeepB lo hi w w') (p : Addr) (u : Value) (hp : p.block < lo ∨ hi ≤ p.block) : KeepB lo hi w (w'.setCell p u) := fun x h1 h2 =>
  (Below.heap_setCell _ _ _ _ (by omega)).trans (h x h1 h2)
theorem KeepB.allB {lo hi : Nat} {w w' : World} (h : KeepB lo hi w w') (o : Obj) (hp : hi ≤ w'.heap.size) : KeepB lo hi w (w'.alloc o) := fun x h1 h2 =>
  (Below.block ((Ext.refl w').alloc o) x (by omega)).trans (h x h1 h2)
theorem VarAt.newN {w : World} {q : Nat} {T : TypeId} {v : Value} (hq : q = w.heap.size) : VarAt (w.alloc (.cells #[v] T)) q T v := hq ▸ VarAt.new w T v
theorem touch_extU {w w' : World} (h : Touch w.heap.size w w') : Ext w w' := ⟨h.os, h.tape, h.output, h.size, fun k hk => h.block k hk (by omega)⟩
def CutV (w0 : World) (s11 s12 : Value) (wx : World) : Prop :=
  ∃ (q7 q5 : Nat), s11 = .pointer (some ⟨q7, 0, none⟩) ∧ s12 = .pointer (some ⟨q5, 0, none⟩) ∧ w0.heap.size ≤ q7 ∧ w0.heap.size ≤ q5 ∧ q5 ≠ q7 ∧ VarAt wx q7 2 (.int .i64 0) ∧ VarAt wx q5 2 (.int .i64 0) ∧ Ext w0 wx
end Go.Proofs.Ytbcfbkhbangeoaa
