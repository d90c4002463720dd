/- Walks: what errors of a kind make of symbols, in the program. -/
import Derived.Test.YtccoopnoakhedaaSAt
import Derived.Test.YtccoopnoakhedaaMix2
import Derived.Test.YtccoopnoakhedaaBegs
import Derived.Test.YtccoopnoakhedaaDraw
import Derived.Deep.RegionHeld3
import Derived.Deep.CutRange
namespace Go.Proofs.Ytccoopnoakhedaa
set_option maxRecDepth 100000
open Go.RowKit

/-- the numbers below b but one, made into lists -/
def eachTo (x0 : Int) (mk : Int → List Int) (b : Nat) : List (List Int) := ((List.range b).filter fun (k : Nat) => !decide ((k : Int) = x0)).map fun (k : Nat) => mk k
theorem eachTo_yes {x0 : Int} {mk : Int → List Int} {b : Nat} (h : (b : Int) ≠ x0) : eachTo x0 mk (b + 1) = eachTo x0 mk b ++ [mk b] := by
  unfold eachTo
  rw [List.range_succ, List.filter_append, List.map_append]
  simp [List.filter, h]
theorem eachTo_no {x0 : Int} {mk : Int → List Int} {b : Nat} (h : (b : Int) = x0) : eachTo x0 mk (b + 1) = eachTo x0 mk b := by
  unfold eachTo
  rw [List.range_succ, List.filter_append, List.map_append]
  simp [List.filter, h]
theorem eachTo_le (x0 : Int) (mk : Int → List Int) (b : Nat) : (eachTo x0 mk b).length ≤ b := by
  unfold eachTo
  rw [List.length_map]
  exact Nat.le_trans (List.length_filter_le _ _) (by simp)
theorem eachTo_pre (x0 : Int) (mk : Int → List Int) {b c : Nat} (h : b ≤ c) : eachTo x0 mk b <+: eachTo x0 mk c := by
  induction c with
  | zero =>
    obtain rfl : b = 0 := by omega
    exact List.prefix_refl _
  | succ c ih =>
    by_cases hb : b = c + 1
    · subst hb; exact List.prefix_refl _
    · refine (ih (by omega)).trans ?_
      by_cases hc : (c : Int) = x0
      · rw [eachTo_no hc]; exact List.prefix_refl _
      · rw [eachTo_yes hc]; exact List.prefix_append _ _
theorem eachTo_mem {x0 : Int} {mk : Int → List Int} {b : Nat} {l : List Int} (h : l ∈ eachTo x0 mk b) : ∃ k : Nat, k < b ∧ (k : Int) ≠ x0 ∧ l = mk k := by
  unfold eachTo at h
  obtain ⟨k, hk, rfl⟩ := List.mem_map.1 h
  have := List.mem_filter.1 hk
  exact ⟨k, List.mem_range.1 this.1, by simpa using this.2, rfl⟩
/-- what is handed on, list by list; the blocks from lo to hi stay as they are -/
def Does (f : Nat) (caps : Array Value) (ll : List (List Int)) (lo hi : Nat) (Inv : Nat → World → Prop) : Prop :=
  ∀ (j : Nat) (W : World) (a : Option Addr) (n c : Nat), j < ll.length → Inv j W → Ints W a n c (gl ll j) → (∀ x, a = some x → hi ≤ x.block) → hi ≤ W.heap.size → Calls Try.prog f (#[.slice a n c] ++ caps) W fun e w' => e = .returned (.tuple #[]) ∧ Inv (j + 1) w' ∧ KeepB lo hi W w'
def Done (lo hi : Nat) (Inv : World → Prop) (w : World) (e : Ending) (w' : World) : Prop := e = .returned (.tuple #[]) ∧ Inv w' ∧ KeepB lo hi w w'
theorem eachTo_at {x0 : Int} {mk : Int → List Int} {b c : Nat} (h : b < c) (hne : (b : Int) ≠ x0) : (eachTo x0 mk b).length < (eachTo x0 mk c).length ∧ gl (eachTo x0 mk c) (eachTo x0 mk b).length = mk b := by
  have h1 := eachTo_pre x0 mk (show b + 1 ≤ c by omega)
  rw [eachTo_yes hne] at h1
  obtain ⟨r, hr⟩ := h1
  rw [← hr]
  refine ⟨by simp, ?_⟩
  unfold gl
  rw [List.getD_eq_getElem?_getD, List.append_assoc, List.getElem?_append_right (Nat.le_refl _)]
  simp
theorem keepB_size {lo hi : Nat} {w w' : World} (h : KeepB lo hi w w') (hl : lo < hi) (hh : hi ≤ w.heap.size) : hi ≤ w'.heap.size := by
  have h1 := h (hi - 1) (by omega) (by omega)
  have h2 : w.heap[hi - 1]? = some w.heap[hi - 1] := Array.getElem?_eq_getElem (by omega)
  rw [h2] at h1
  have := (Array.getElem?_eq_some_iff.1 h1).1
  omega
theorem VarAt.keepB {lo hi q : Nat} {w w' : World} {T : TypeId} {v : Value} (h : VarAt w q T v) (hk : KeepB lo hi w w') (h1 : lo ≤ q) (h2 : q < hi) : VarAt w' q T v := (hk q h1 h2).trans h
set_option maxHeartbeats 4000000 in
theorem changes_each (base : Nat) (x0 : Int) (mk : Int → List Int) (fm : Nat) (capsm : Array Value) (fd : Nat) (capsd : Array Value) (fa : Option Addr) (fn fc : Nat) (from' : List Int) (p1 p2 p3 lo hi : Nat) (Inv : Nat → World → Prop) (w : World)
    (hb : base ≤ 36) (hp1 : lo ≤ p1 ∧ p1 < hi) (hp2 : lo ≤ p2 ∧ p2 < hi) (hp3 : lo ≤ p3 ∧ p3 < hi) (hhi : hi ≤ w.heap.size)
    (v1 : VarAt w p1 2 (.int .i64 base)) (v2 : VarAt w p2 25 (.slice fa fn fc)) (v3 : VarAt w p3 67 (.func (.func fd) #[] capsd))
    (hn : 1 ≤ fn) (hx0 : x0 = gi from' 0) (hfr : ∀ j W, Inv j W → Ints W fa fn fc from') (hst : ∀ j W W', Inv j W → Ext W W' → Inv j W')
    (hem : ∀ args w', (callFunc fm args).run Try.prog w' = .ok (.enter fm args) w') (hed : ∀ args w', (callFunc fd args).run Try.prog w' = .ok (.enter fd args) w')
    (hm : ∀ (b : Nat) W j, b < base → Inv j W → KeepB lo hi w W → Calls Try.prog fm (#[.int .i64 b] ++ capsm) W (RetOwn 2 (I (mk b)) W))
    (hd : Does fd capsd (eachTo x0 mk base) lo hi Inv) (h0 : Inv 0 w) :
    Calls Try.prog 62 (#[.func (.func fm) #[] capsm] ++ #[.pointer (some ⟨p1, 0, none⟩), .pointer (some ⟨p2, 0, none⟩), .pointer (some ⟨p3, 0, none⟩)]) w (Done lo hi (Inv (eachTo x0 mk base).length) w) := by
  have HV1 := Lib.hid v1
  have HV2 := Lib.hid v2
  have HV3 := Lib.hid v3
  have HFr := Lib.hid hfr
  have HSt := Lib.hid hst
  have HM := Lib.hid hm
  have HD := Lib.hid hd
  have H0 := Lib.hid h0
  have HX := Lib.hid hx0
  have cb := v1.cell
  clear v1 v2 v3 hfr hst hm hd h0 hx0
  go_enter Try.func62, Try.ntmps62
  go_wp2_with fail
  have hx0' := HX.out
  subst hx0'
  clear HX
  go_loopw [7] (fun v7 wr => ∃ b : Nat, b ≤ base ∧ v7 = .int .i64 b ∧ Hid (Inv (eachTo (gi from' 0) mk b).length wr) ∧ Hid (KeepB lo hi w wr)) (fun v7 _ => base - (intOf v7).toNat)
  case atStart => exact ⟨0, Nat.zero_le _, rfl, H0.out, KeepB.refl _ _ _⟩
  case round =>
    obtain ⟨b, hbb, rfl, HI, HK⟩ := hrel
    by_cases hlt : b < base
    · have hhr : hi ≤ wr.heap.size := keepB_size HK.out (by omega) hhi
      have hint := HFr.out _ _ HI.out
      have c2 := (HV2.out.keepB HK.out hp2.1 hp2.2).cell
      have c3 := (HV3.out.keepB HK.out hp3.1 hp3.2).cell
      have hc3 : p3 < wr.heap.size := by omega
      obtain ⟨bo, off, hix, hcell⟩ := hint.ix (P := Try.prog) 25 2 und_int64s cell_int64
      have hxx : Ext wr wr := Ext.refl _
      have hfn0 : 0 < fn := by omega
      have hcell0 : ∀ w', Ext wr w' → w'.cell? ⟨bo, off, none⟩ = some (.int .i64 (gi from' 0)) := fun w' h => hcell 0 w' hfn0 h
      clear hint
      by_cases hne : (b : Int) = gi from' 0
      · have hq : ((b : Int) != gi from' 0) = false := by simp [hne]
        have HE := Lib.hid (eachTo_no (mk := mk) hne)
        clear hne
        go_wp2
        exact ⟨⟨b + 1, by omega, by go_num, by rw [Hid, HE.out]; exact HI.out, HK.out⟩, by simp [intOf]; omega⟩
      · have hq : ((b : Int) != gi from' 0) = true := by simpa using hne
        have HE := Lib.hid (eachTo_yes (mk := mk) hne)
        have HA := Lib.hid (eachTo_at (mk := mk) hlt hne)
        have HMk := Lib.hid (fun W (h : Ext wr W) => HM.out b W _ hlt (HSt.out _ _ _ HI.out h) (HK.out.trans (KeepB.ext h hhr)))
        clear hne
        go_wp2
        (refine wp_region_upl 4 wr (by repeat (first | (with_reducible exact Ext.refl _) | (with_reducible refine Ext.drewN ?_ _) | (with_reducible refine Ext.drew ?_) | (with_reducible refine Ext.alloc ?_ _) | ((with_reducible refine Ext.setCell ?_ ?_ _); rotate_left; focus (first | (simp; done) | (simp; omega) | omega)) | assumption | (with_reducible refine Ext.trans ?_ (by assumption)))) rfl (by kernel_rfl) (by kernel_rfl) (seqB_of (by kernel_rfl)) (lastB_of (by kernel_rfl)) ?_; simp only [List.take_succ_cons, List.take_zero, List.drop_succ_cons, List.drop_zero]; (repeat (first | (refine mix_q rfl ?_; go_big_quiet_step (fail); refine wpQuiet_nil ?_; show wpMix _ _ _ _ _ _ _) | (refine mix_s rfl ?_; go_wp2_with (((with_reducible refine (HMk.out _ (by repeat (first | (with_reducible exact Ext.refl _) | (with_reducible assumption) | (with_reducible refine Ext.drewN ?_ _) | (with_reducible refine Ext.drew ?_) | (with_reducible refine Ext.alloc ?_ _) | ((with_reducible refine Ext.setCell ?_ ?_ _); rotate_left; focus (first | (simp; done) | (simp; omega) | omega)) | (with_reducible refine Ext.trans ?_ (by with_reducible assumption))))).mono ?_); rintro e w6 ⟨a6, c6, rfl, ho6, hy6⟩; have hx6 : Ext wr w6 := Ext.trans (by repeat (first | (with_reducible exact Ext.refl _) | (with_reducible assumption) | (with_reducible refine Ext.drewN ?_ _) | (with_reducible refine Ext.drew ?_) | (with_reducible refine Ext.alloc ?_ _) | ((with_reducible refine Ext.setCell ?_ ?_ _); rotate_left; focus (first | (simp; done) | (simp; omega) | omega)) | (with_reducible refine Ext.trans ?_ (by with_reducible assumption)))) hy6; have HO6 := Lib.hid ho6; clear ho6 hy6)); first | refine ⟨up_of (by repeat (first | (with_reducible exact Ext.refl _) | (with_reducible refine Ext.drewN ?_ _) | (with_reducible refine Ext.drew ?_) | (with_reducible refine Ext.alloc ?_ _) | ((with_reducible refine Ext.setCell ?_ ?_ _); rotate_left; focus (first | (simp; done) | (simp; omega) | omega)) | assumption | (with_reducible refine Ext.trans ?_ (by assumption)))), ?_⟩ | refine ⟨rfl, rfl, up_of (by repeat (first | (with_reducible exact Ext.refl _) | (with_reducible refine Ext.drewN ?_ _) | (with_reducible refine Ext.drew ?_) | (with_reducible refine Ext.alloc ?_ _) | ((with_reducible refine Ext.setCell ?_ ?_ _); rotate_left; focus (first | (simp; done) | (simp; omega) | omega)) | assumption | (with_reducible refine Ext.trans ?_ (by assumption)))), ?_⟩))); refine mix_nil ?_)
        have HDo := Lib.hid (HD.out _ w6 a6 _ c6 HA.out.1 (HSt.out _ _ _ HI.out hx6) (by rw [HA.out.2]; exact HO6.out.ints) (fun x hx => by have h1 : wr.heap.size ≤ x.block := (HO6.out.blk x hx).1; omega) (Nat.le_trans hhr hx6.le))
        go_wp2_with ((with_reducible refine HDo.out.mono ?_); rintro e w7 ⟨rfl, hi7, hk7⟩)
        exact ⟨⟨b + 1, by omega, by go_num, by rw [Hid, HE.out, List.length_append, List.length_singleton]; exact hi7, HK.out.trans ((KeepB.ext hx6 hhr).trans hk7)⟩, by simp [intOf]; omega⟩
    · obtain rfl : b = base := by omega
      go_wp2
      exact bodyPost_ret (v := .tuple #[]) (by simp [results, Try.results62, go_sem]) rfl ⟨rfl, HI.out, HK.out⟩
set_option maxHeartbeats 400000 in
theorem changes2 (b : Int) (w : World) : Calls Try.prog 63 (#[.int .i64 b] ++ #[]) w (RetOwn 2 (I [b]) w) := by
  go_enter Try.func63, Try.ntmps63
  go_wp2
  go_ret
  exact ⟨some ⟨w.heap.size, 0, none⟩, 1, rfl, own_lit1 w _ _, (by repeat (first | (with_reducible exact Ext.refl _) | (with_reducible refine Ext.drewN ?_ _) | (with_reducible refine Ext.drew ?_) | (with_reducible refine Ext.alloc ?_ _) | ((with_reducible refine Ext.setCell ?_ ?_ _); rotate_left; focus (first | (simp; done) | (simp; omega) | omega)) | assumption | (with_reducible refine Ext.trans ?_ (by assumption))))⟩
set_option maxHeartbeats 4000000 in
theorem changes_single (base : Nat) (fd : Nat) (capsd : Array Value) (fa : Option Addr) (fn fc : Nat) (from' : List Int) (Inv : Nat → World → Prop) (w : World)
    (hb : base ≤ 36) (hn : 1 ≤ fn) (hn2 : fn ≤ 1048576) (hfr : ∀ j W, Inv j W → Ints W fa fn fc from') (hst : ∀ j W W', Inv j W → Ext W W' → Inv j W') (hed : ∀ args w', (callFunc fd args).run Try.prog w' = .ok (.enter fd args) w')
    (hd : Does fd capsd (eachTo (gi from' 0) (fun b => [b]) base) w.heap.size (w.heap.size + 4) Inv) (h0 : Inv 0 w) :
    Calls Try.prog 46 #[.int .i64 0, .int .i64 base, .slice fa fn fc, .func (.func fd) #[] capsd] w (fun e w' => e = .returned (.tuple #[]) ∧ Inv (eachTo (gi from' 0) (fun b => [b]) base).length w') := by
  have HFr := Lib.hid hfr
  have HSt := Lib.hid hst
  have HD := Lib.hid hd
  have HI0 := Lib.hid h0
  clear hfr hst hd h0
  go_enter Try.func46, Try.ntmps46
  go_wp2_with fail
  obtain ⟨w4, hw4⟩ : ∃ W, W = (((w.alloc (.cells #[.int .i64 base] 2)).alloc (.cells #[.slice fa fn fc] 25)).alloc (.cells #[.func (.func fd) #[] capsd] 67)).alloc (.cells #[.int .i64 ((fn : Int) - 1)] 3) := ⟨_, rfl⟩
  have hx4 : Ext w w4 := by rw [hw4]; exact (by repeat (first | (with_reducible exact Ext.refl _) | (with_reducible refine Ext.drewN ?_ _) | (with_reducible refine Ext.drew ?_) | (with_reducible refine Ext.alloc ?_ _) | ((with_reducible refine Ext.setCell ?_ ?_ _); rotate_left; focus (first | (simp; done) | (simp; omega) | omega)) | assumption | (with_reducible refine Ext.trans ?_ (by assumption))))
  have v1 : VarAt w4 w.heap.size 2 (.int .i64 base) := by rw [hw4]; exact (((VarAt.new w _ _).ext ((Ext.refl _).alloc _)).ext ((Ext.refl _).alloc _)).ext ((Ext.refl _).alloc _)
  have v2 : VarAt w4 (w.heap.size + 1) 25 (.slice fa fn fc) := by
    rw [hw4]
    have h := VarAt.new (w.alloc (.cells #[.int .i64 base] 2)) 25 (.slice fa fn fc)
    rw [show (w.alloc (.cells #[.int .i64 base] 2)).heap.size = w.heap.size + 1 by simp] at h
    exact (h.ext ((Ext.refl _).alloc _)).ext ((Ext.refl _).alloc _)
  have v3 : VarAt w4 (w.heap.size + 1 + 1) 67 (.func (.func fd) #[] capsd) := by
    rw [hw4]
    have h := VarAt.new ((w.alloc (.cells #[.int .i64 base] 2)).alloc (.cells #[.slice fa fn fc] 25)) 67 (.func (.func fd) #[] capsd)
    rw [show ((w.alloc (.cells #[.int .i64 base] 2)).alloc (.cells #[.slice fa fn fc] 25)).heap.size = w.heap.size + 1 + 1 by simp] at h
    exact h.ext ((Ext.refl _).alloc _)
  have hsz : w.heap.size + 4 ≤ w4.heap.size := by rw [hw4]; simp
  have HE := Lib.hid (changes_each base (gi from' 0) (fun b => [b]) 63 #[] fd capsd fa fn fc from' w.heap.size (w.heap.size + 1) (w.heap.size + 1 + 1) w.heap.size (w.heap.size + 4) Inv w4 hb (by omega) (by omega) (by omega) hsz v1 v2 v3 hn rfl HFr.out HSt.out (fun _ _ => rfl) hed (fun b W j _ _ _ => changes2 b W) HD.out (HSt.out _ _ _ HI0.out hx4))
  rw [← hw4]
  clear hw4 v1 v2 v3 hsz hx4
  refine HE.out.mono ?_
  rintro e w5 ⟨rfl, hi5, _⟩
  go_wp2
  exact bodyPost_end (v := .tuple #[]) (by simp [results, Try.results46, go_sem]) rfl ⟨rfl, hi5⟩
end Go.Proofs.Ytccoopnoakhedaa

/- Walks: undetected errors, in the program. -/
namespace Go.Proofs.Ytccoopnoakhedaa
set_option maxRecDepth 100000
open Go.RowKit

/-- two blocks apart, nothing that was there has changed -/
structure Two (a b : Nat) (w w' : World) : Prop where
  os : w'.os = w.os
  tape : w'.tape = w.tape
  output : w'.output = w.output
  size : w.heap.size ≤ w'.heap.size
  block : ∀ k, k < w.heap.size → k ≠ a → k ≠ b → w'.heap[k]? = w.heap[k]?
section
variable {p q : Nat} {a b c : World}
theorem Two.refl (p q : Nat) (w : World) : Two p q w w := ⟨rfl, rfl, rfl, Nat.le_refl _, fun _ _ _ _ => rfl⟩
theorem Two.trans (h : Two p q a b) (k : Two p q b c) : Two p q a c :=
  ⟨k.os.trans h.os, k.tape.trans h.tape, k.output.trans h.output, Nat.le_trans h.size k.size, fun i hi h1 h2 => (k.block i (Nat.lt_of_lt_of_le hi h.size) h1 h2).trans (h.block i hi h1 h2)⟩
theorem Two.of_ext (h : Ext a b) : Two p q a b := ⟨Below.os h, Below.tape h, Below.output h, h.le, fun k hk _ _ => Below.block h k hk⟩
theorem Two.ext (h : Two p q a b) (k : Ext b c) : Two p q a c := h.trans (Two.of_ext k)
theorem Two.set1 (p q : Nat) (w : World) (u : Value) : Two p q w (w.setCell ⟨p, 0, none⟩ u) := ⟨rfl, rfl, rfl, by simp [World.setCell], fun i _ h1 _ => Below.heap_setCell _ _ _ _ h1⟩
theorem Two.set2 (p q : Nat) (w : World) (u : Value) : Two p q w (w.setCell ⟨q, 0, none⟩ u) := ⟨rfl, rfl, rfl, by simp [World.setCell], fun i _ _ h1 => Below.heap_setCell _ _ _ _ h1⟩
theorem Two.drew (h : Two p q a b) : Two p q a b.drew := ⟨h.os, h.tape, h.output, h.size, h.block⟩
theorem Ext.two {B0 : World} (h : Ext B0 a) (k : Two p q a b) (hp : B0.heap.size ≤ p) (hq : B0.heap.size ≤ q) : Ext B0 b :=
  h.below ⟨k.os, k.tape, k.output, k.size, fun i hi => k.block i (Nat.lt_of_lt_of_le hi h.size) (by omega) (by omega)⟩
theorem VarAt.two {x : Nat} {T : TypeId} {v : Value} (h : VarAt a x T v) (k : Two p q a b) (hp : x ≠ p) (hq : x ≠ q) : VarAt b x T v := (k.block x h.lt hp hq).trans h
theorem Ints.two {ad : Option Addr} {n m : Nat} {l : List Int} (h : Ints a ad n m l) (k : Two p q a b) (hp : ∀ x, ad = some x → x.block ≠ p ∧ x.block ≠ q) : Ints b ad n m l := by
  refine ⟨Sl.len h, Sl.cap h, fun h0 => ?_⟩
  obtain ⟨b1, off, ha, hc⟩ := Sl.cells h h0
  have hn := hp _ ha
  exact ⟨b1, off, ha, fun k' hk => (World.cell?_of_block (w := a) (k.block b1 (World.block_lt_of_cell? a _ (hc k' hk)) hn.1 hn.2)).trans (hc k' hk)⟩
theorem Two.keepB {lo hi : Nat} (k : Two p q a b) (hp : p < lo) (hq : q < lo) (hh : hi ≤ a.heap.size) : KeepB lo hi a b := fun x h1 h2 => k.block x (by omega) (by omega) (by omega)
end
/-- what the counting of errors at a place reads -/
structure Env (D : Ch) (q S pl r : Nat) (a : Option Addr) (n c : Nat) (a' : Option Addr) (n' c' : Nat) (p1 p2 p3 p6 : Nat) (ba : Option Addr) (bc : Nat) (ga : Option Addr) (gc : Nat) (F : Nat → Nat → Int) (G C : Nat → Nat) (B : Nat) (W : World) : Prop where
  ch : ChAt W q D a n c a' n' c'
  v1 : VarAt W p1 25 (.slice ba S bc)
  v2 : VarAt W p2 76 (.pointer (some ⟨q, 0, none⟩))
  v3 : VarAt W p3 3 (.int .i64 pl)
  v6 : VarAt W p6 54 (.slice ga S gc)
  bi : Ints W ba S bc (begL D S pl)
  gr : Grid W B 25 2 ga S gc S F G C
  st : D.states = (S : Int)
theorem Env.ext {D : Ch} {q S pl r : Nat} {a : Option Addr} {n c : Nat} {a' : Option Addr} {n' c' : Nat} {p1 p2 p3 p6 : Nat} {ba : Option Addr} {bc : Nat} {ga : Option Addr} {gc : Nat} {F : Nat → Nat → Int} {G C : Nat → Nat} {B : Nat} {W W' : World}
    (h : Env D q S pl r a n c a' n' c' p1 p2 p3 p6 ba bc ga gc F G C B W) (hx : Ext W W') : Env D q S pl r a n c a' n' c' p1 p2 p3 p6 ba bc ga gc F G C B W' :=
  ⟨h.ch.ext hx, h.v1.ext hx, h.v2.ext hx, h.v3.ext hx, h.v6.ext hx, h.bi.ext hx, h.gr.ext hx, h.st⟩
set_option maxHeartbeats 8000000 in
theorem undet2 {D : Ch} {q S pl r : Nat} {a : Option Addr} {n c : Nat} {a' : Option Addr} {n' c' : Nat} {p1 p2 p3 p6 : Nat} {ba : Option Addr} {bc : Nat} {ga : Option Addr} {gc : Nat} {F : Nat → Nat → Int} {G C : Nat → Nat} {B : Nat} {B0 : World}
    (henv : Env D q S pl r a n c a' n' c' p1 p2 p3 p6 ba bc ga gc F G C B B0) (hok : OkCh D) (q5 q7 q8 : Nat) (fa : Option Addr) (fn fc : Nat) (from' : List Int) (ta : Option Addr) (tn tc : Nat) (to' : List Int) (W : World) (hx : Ext B0 W)
    (h5 : ∃ v : Int, VarAt W q5 2 (.int .i64 v)) (h7 : VarAt W q7 2 (.int .i64 0)) (h8 : VarAt W q8 25 (.slice fa fn fc)) (hf : Ints W fa fn fc from') (ht : Ints W ta tn tc to')
    (hfa : ∀ x, fa = some x → x.block ≠ q5 ∧ x.block ≠ q7) (hta : ∀ x, ta = some x → x.block ≠ q5 ∧ x.block ≠ q7) (hq5 : B0.heap.size ≤ q5) (hq7 : B0.heap.size ≤ q7) (h57 : q5 ≠ q7) (h85 : q8 ≠ q5) (h87 : q8 ≠ q7)
    (hfd : DigC D from') (htd : DigC D to') (hfl : pl + fn ≤ D.places.length) (htl : pl + tn ≤ D.places.length)
    (hz : ∀ s : Nat, s < S → gi (begL D S pl) s ≠ 0 → F (runS D pl s from').toNat (runS D pl s to').toNat = 0) :
    Calls Try.prog 47 (#[.slice ta tn tc] ++ #[.pointer (some ⟨p1, 0, none⟩), .pointer (some ⟨p2, 0, none⟩), .pointer (some ⟨p3, 0, none⟩), .pointer (some ⟨q8, 0, none⟩), .pointer (some ⟨q5, 0, none⟩), .pointer (some ⟨p6, 0, none⟩), .pointer (some ⟨q7, 0, none⟩)]) W
      (fun e w' => e = .returned (.tuple #[]) ∧ (∃ v : Int, VarAt w' q5 2 (.int .i64 v)) ∧ VarAt w' q7 2 (.int .i64 0) ∧ Two q5 q7 W w') := by
  have HEnv := Lib.hid henv
  have HOK := Lib.hid hok
  have H5 := Lib.hid h5
  have H7 := Lib.hid h7
  have H8 := Lib.hid h8
  have HF := Lib.hid hf
  have HT := Lib.hid ht
  have HFa := Lib.hid hfa
  have HTa := Lib.hid hta
  have HZ := Lib.hid hz
  have HFd := Lib.hid hfd
  have HTd := Lib.hid htd
  have hfn := hf.len
  have htn := ht.len
  have HSs := Lib.hid henv.st
  have cb1 : ∀ w', Ext B0 w' → w'.cell? ⟨p1, 0, none⟩ = some (.slice ba S bc) := fun w' h => (HEnv.out.v1.ext h).cell
  have cb2 : ∀ w', Ext B0 w' → w'.cell? ⟨p2, 0, none⟩ = some (.pointer (some ⟨q, 0, none⟩)) := fun w' h => (HEnv.out.v2.ext h).cell
  have cb3 : ∀ w', Ext B0 w' → w'.cell? ⟨p3, 0, none⟩ = some (.int .i64 pl) := fun w' h => (HEnv.out.v3.ext h).cell
  have cb6 : ∀ w', Ext B0 w' → w'.cell? ⟨p6, 0, none⟩ = some (.slice ga S gc) := fun w' h => (HEnv.out.v6.ext h).cell
  obtain ⟨bo, off, hix, hcell⟩ := henv.bi.ix (P := Try.prog) 25 2 und_int64s cell_int64
  have hS36 : S ≤ 36 := by have h1 := henv.st; have h2 := hok.s36; omega
  have HFn := Lib.hid hfn
  have HTn := Lib.hid htn
  clear henv hok h5 h7 h8 hf ht hfa hta hz hfd htd hfn htn
  go_enter Try.func47, Try.ntmps47
  go_wp2
  go_loopw [15] (fun v15 wr => ∃ s : Nat, s ≤ S ∧ v15 = .int .i64 s ∧ Hid (∃ v : Int, VarAt wr q5 2 (.int .i64 v)) ∧ Hid (VarAt wr q7 2 (.int .i64 0)) ∧ Hid (Two q5 q7 W wr) ∧ Ext B0 wr) (fun v15 _ => S - (intOf v15).toNat)
  case atStart => exact ⟨0, Nat.zero_le _, rfl, H5.out, H7.out, Two.refl _ _ _, hx⟩
  case round =>
    obtain ⟨s, hs, rfl, HV5, HV7, HTw, hxr⟩ := hrel
    by_cases hlt : s < S
    · by_cases h0 : gi (begL D S pl) s = 0
      · have hq0 : (gi (begL D S pl) s == 0) = true := by simp [h0]
        clear h0
        go_wp2
        exact ⟨⟨s + 1, by omega, by go_num, HV5.out, HV7.out, HTw.out, hxr⟩, by simp [intOf]; omega⟩
      · have hq0 : (gi (begL D S pl) s == 0) = false := by simp [h0]
        have HZs := Lib.hid (HZ.out s hlt h0)
        have hr1 := runS_bd HOK.out from' (pl : Int) (s : Int) HFd.out (by omega) (by rw [HFn.out]; omega) (by omega) (by have := HSs.out; omega)
        have hr2 := runS_bd HOK.out to' (pl : Int) (s : Int) HTd.out (by omega) (by rw [HTn.out]; omega) (by omega) (by have := HSs.out; omega)
        obtain ⟨ya, hya⟩ := Int.eq_ofNat_of_zero_le hr1.1
        obtain ⟨yb, hyb⟩ := Int.eq_ofNat_of_zero_le hr2.1
        have hyaS : ya < S := by have := HSs.out; omega
        have hybS : yb < S := by have := HSs.out; omega
        have HL1 := Lib.hid (fun w' (h : Ext wr w') => impl_leads D q a n c a' n' c' (pl : Int) (s : Int) fa fn fc from' w' ((HEnv.out.ch.ext hxr).ext h) HOK.out (by omega) (by omega) (by have := HSs.out; omega) ((HF.out.two HTw.out HFa.out).ext h) HFd.out (by omega))
        have HL2 := Lib.hid (fun w' (h : Ext wr w') => impl_leads D q a n c a' n' c' (pl : Int) (s : Int) ta tn tc to' w' ((HEnv.out.ch.ext hxr).ext h) HOK.out (by omega) (by omega) (by have := HSs.out; omega) ((HT.out.two HTw.out HTa.out).ext h) HTd.out (by omega))
        rw [hya] at HL1 HZs
        rw [hyb] at HL2 HZs
        rw [Int.toNat_natCast, Int.toNat_natCast] at HZs
        obtain ⟨b1, o1, f1, f2, f3, f4, _⟩ := HEnv.out.gr.one (P := Try.prog) 54 25 und_grid cell_row1 und_int64s cell_int64 (i := ya) (x := ya) hyaS hyaS
        obtain ⟨_, _, _, _, g3, g4, _⟩ := HEnv.out.gr.one (P := Try.prog) 54 25 und_grid cell_row1 und_int64s cell_int64 (i := ya) (x := yb) hyaS hybS
        rw [HZs.out] at g4
        have c8 : ∀ w', Ext wr w' → w'.cell? ⟨q8, 0, none⟩ = some (.slice fa fn fc) := fun w' h => (((H8.out.two HTw.out h85 h87)).ext h).cell
        obtain ⟨v5, hv5⟩ := HV5.out
        have HV5' := Lib.hid hv5
        clear hr1 hr2 hya hyb hv5 HV5 h0
        go_wp2
        (refine wp_region_from wr (by repeat (first | (with_reducible exact Ext.refl _) | (with_reducible refine Ext.drewN ?_ _) | (with_reducible refine Ext.drew ?_) | (with_reducible refine Ext.alloc ?_ _) | ((with_reducible refine Ext.setCell ?_ ?_ _); rotate_left; focus (first | (simp; done) | (simp; omega) | omega)) | assumption | (with_reducible refine Ext.trans ?_ (by assumption)))) (by kernel_rfl) (by kernel_rfl) (by kernel_rfl) ?_; (repeat (first | (refine mix_q rfl ?_; go_big_quiet_step (fail); refine wpQuiet_nil ?_; show wpMix _ _ _ _ _ _ _) | (refine mix_s rfl ?_; go_wp2_with (first | ((with_reducible refine (HL1.out _ (by repeat (first | (with_reducible exact Ext.refl _) | (with_reducible assumption) | (with_reducible refine Ext.drewN ?_ _) | (with_reducible refine Ext.drew ?_) | (with_reducible refine Ext.alloc ?_ _) | ((with_reducible refine Ext.setCell ?_ ?_ _); rotate_left; focus (first | (simp; done) | (simp; omega) | omega)) | (with_reducible refine Ext.trans ?_ (by with_reducible assumption))))).mono ?_); rintro e w6 ⟨rfl, hy6⟩; have hxr6 : Ext wr w6 := Ext.trans (by repeat (first | (with_reducible exact Ext.refl _) | (with_reducible assumption) | (with_reducible refine Ext.drewN ?_ _) | (with_reducible refine Ext.drew ?_) | (with_reducible refine Ext.alloc ?_ _) | ((with_reducible refine Ext.setCell ?_ ?_ _); rotate_left; focus (first | (simp; done) | (simp; omega) | omega)) | (with_reducible refine Ext.trans ?_ (by with_reducible assumption)))) hy6; clear hy6) | ((with_reducible refine (HL2.out _ (by repeat (first | (with_reducible exact Ext.refl _) | (with_reducible assumption) | (with_reducible refine Ext.drewN ?_ _) | (with_reducible refine Ext.drew ?_) | (with_reducible refine Ext.alloc ?_ _) | ((with_reducible refine Ext.setCell ?_ ?_ _); rotate_left; focus (first | (simp; done) | (simp; omega) | omega)) | (with_reducible refine Ext.trans ?_ (by with_reducible assumption))))).mono ?_); rintro e w7 ⟨rfl, hy7⟩; have hxr7 : Ext wr w7 := Ext.trans (by repeat (first | (with_reducible exact Ext.refl _) | (with_reducible assumption) | (with_reducible refine Ext.drewN ?_ _) | (with_reducible refine Ext.drew ?_) | (with_reducible refine Ext.alloc ?_ _) | ((with_reducible refine Ext.setCell ?_ ?_ _); rotate_left; focus (first | (simp; done) | (simp; omega) | omega)) | (with_reducible refine Ext.trans ?_ (by with_reducible assumption)))) hy7; have hxb7 : Ext B0 w7 := hxr.trans hxr7; clear hy7)); first | refine ⟨up_of (by repeat (first | (with_reducible exact Ext.refl _) | (with_reducible refine Ext.drewN ?_ _) | (with_reducible refine Ext.drew ?_) | (with_reducible refine Ext.alloc ?_ _) | ((with_reducible refine Ext.setCell ?_ ?_ _); rotate_left; focus (first | (simp; done) | (simp; omega) | omega)) | assumption | (with_reducible refine Ext.trans ?_ (by assumption)))), ?_⟩ | refine ⟨rfl, rfl, up_of (by repeat (first | (with_reducible exact Ext.refl _) | (with_reducible refine Ext.drewN ?_ _) | (with_reducible refine Ext.drew ?_) | (with_reducible refine Ext.alloc ?_ _) | ((with_reducible refine Ext.setCell ?_ ?_ _); rotate_left; focus (first | (simp; done) | (simp; omega) | omega)) | assumption | (with_reducible refine Ext.trans ?_ (by assumption)))), ?_⟩))); refine mix_nil ?_)
        have HV57 := Lib.hid (HV5'.out.ext hxr7)
        have HV77 := Lib.hid (HV7.out.ext hxr7)
        have HTw7 := Lib.hid (HTw.out.ext hxr7)
        have c5 := HV57.out.cell
        have fr5 := HV57.out.frozen
        have lt5 := HV57.out.lt
        go_wp2
        (refine wp_region_upl 11 w7 (by repeat (first | (with_reducible exact Ext.refl _) | (with_reducible refine Ext.drewN ?_ _) | (with_reducible refine Ext.drew ?_) | (with_reducible refine Ext.alloc ?_ _) | ((with_reducible refine Ext.setCell ?_ ?_ _); rotate_left; focus (first | (simp; done) | (simp; omega) | omega)) | assumption | (with_reducible refine Ext.trans ?_ (by assumption)))) rfl (by kernel_rfl) (by kernel_rfl) (seqB_of (by kernel_rfl)) (lastB_of (by kernel_rfl)) ?_; simp only [List.take_succ_cons, List.take_zero, List.drop_succ_cons, List.drop_zero]; (repeat (first | (refine mix_q rfl ?_; go_big_quiet_step (fail); refine wpQuiet_nil ?_; show wpMix _ _ _ _ _ _ _) | (refine mix_s rfl ?_; go_wp2_with (fail); first | refine ⟨up_of (by repeat (first | (with_reducible exact Ext.refl _) | (with_reducible refine Ext.drewN ?_ _) | (with_reducible refine Ext.drew ?_) | (with_reducible refine Ext.alloc ?_ _) | ((with_reducible refine Ext.setCell ?_ ?_ _); rotate_left; focus (first | (simp; done) | (simp; omega) | omega)) | assumption | (with_reducible refine Ext.trans ?_ (by assumption)))), ?_⟩ | refine ⟨rfl, rfl, up_of (by repeat (first | (with_reducible exact Ext.refl _) | (with_reducible refine Ext.drewN ?_ _) | (with_reducible refine Ext.drew ?_) | (with_reducible refine Ext.alloc ?_ _) | ((with_reducible refine Ext.setCell ?_ ?_ _); rotate_left; focus (first | (simp; done) | (simp; omega) | omega)) | assumption | (with_reducible refine Ext.trans ?_ (by assumption)))), ?_⟩))); refine mix_nil ?_)
        go_wp2
        obtain ⟨u5, hu5⟩ : ∃ u : Int, u = wrap64 (v5 + wrap64 (gi (begL D S pl) s * F ya ya)) := ⟨_, rfl⟩
        rw [← hu5]
        obtain ⟨w8, hw8⟩ : ∃ W, W = (w7.setCell ⟨q5, 0, none⟩ (.int .i64 u5)).drew := ⟨_, rfl⟩
        have HV58 := Lib.hid (show VarAt w8 q5 2 (.int .i64 u5) from by rw [hw8]; exact HV57.out.set _)
        have HV78 := Lib.hid (show VarAt w8 q7 2 (.int .i64 0) from by rw [hw8]; exact HV77.out.other _ (by simp only; exact Ne.symm h57))
        have ht78 : Two q5 q7 w7 w8 := by rw [hw8]; exact (Two.set1 q5 q7 w7 _).drew
        have HTw8 := Lib.hid (HTw7.out.trans ht78)
        have hxb8 : Ext B0 w8 := hxb7.two ht78 hq5 hq7
        rw [← hw8]
        have c7 := HV78.out.cell
        have fr7 := HV78.out.frozen
        have lt7 := HV78.out.lt
        clear hu5 hw8 ht78 c5 fr5 lt5 c8 hxr6 hxr7 hxb7
        (refine wp_region_upl 11 w8 (by repeat (first | (with_reducible exact Ext.refl _) | (with_reducible refine Ext.drewN ?_ _) | (with_reducible refine Ext.drew ?_) | (with_reducible refine Ext.alloc ?_ _) | ((with_reducible refine Ext.setCell ?_ ?_ _); rotate_left; focus (first | (simp; done) | (simp; omega) | omega)) | assumption | (with_reducible refine Ext.trans ?_ (by assumption)))) rfl (by kernel_rfl) (by kernel_rfl) (seqB_of (by kernel_rfl)) (lastB_of (by kernel_rfl)) ?_; simp only [List.take_succ_cons, List.take_zero, List.drop_succ_cons, List.drop_zero]; (repeat (first | (refine mix_q rfl ?_; go_big_quiet_step (fail); refine wpQuiet_nil ?_; show wpMix _ _ _ _ _ _ _) | (refine mix_s rfl ?_; go_wp2_with (fail); first | refine ⟨up_of (by repeat (first | (with_reducible exact Ext.refl _) | (with_reducible refine Ext.drewN ?_ _) | (with_reducible refine Ext.drew ?_) | (with_reducible refine Ext.alloc ?_ _) | ((with_reducible refine Ext.setCell ?_ ?_ _); rotate_left; focus (first | (simp; done) | (simp; omega) | omega)) | assumption | (with_reducible refine Ext.trans ?_ (by assumption)))), ?_⟩ | refine ⟨rfl, rfl, up_of (by repeat (first | (with_reducible exact Ext.refl _) | (with_reducible refine Ext.drewN ?_ _) | (with_reducible refine Ext.drew ?_) | (with_reducible refine Ext.alloc ?_ _) | ((with_reducible refine Ext.setCell ?_ ?_ _); rotate_left; focus (first | (simp; done) | (simp; omega) | omega)) | assumption | (with_reducible refine Ext.trans ?_ (by assumption)))), ?_⟩))); refine mix_nil ?_)
        go_wp2
        have ht89 : Two q5 q7 w8 (w8.setCell ⟨q7, 0, none⟩ (.int .i64 0)).drew := (Two.set2 q5 q7 w8 _).drew
        exact ⟨⟨s + 1, by omega, by go_num, ⟨u5, HV58.out.other _ (by simp only; exact h57)⟩, HV78.out.set _, HTw8.out.trans ht89, hxb8.two ht89 hq5 hq7⟩, by simp [intOf]; omega⟩
    · obtain rfl : s = S := by omega
      go_wp2
      exact bodyPost_end (v := .tuple #[]) (by simp [results, Try.results47, go_sem]) rfl ⟨rfl, HV5.out, HV7.out, HTw.out⟩
set_option maxHeartbeats 400000 in
theorem impl_errLen0 (w : World) : Calls Try.prog 41 #[.int .i64 0] w (Same (.int .i64 1) w) := by
  go_enter Try.func41, Try.ntmps41
  go_wp2
  go_ret
  exact ⟨rfl, rfl⟩
set_option maxHeartbeats 8000000 in
theorem undet1 {D : Ch} {q S pl r : Nat} {a : Option Addr} {n c : Nat} {a' : Option Addr} {n' c' : Nat} {p1 p2 p3 p6 : Nat} {ba : Option Addr} {bc : Nat} {ga : Option Addr} {gc : Nat} {F : Nat → Nat → Int} {G C : Nat → Nat} {B : Nat} {B0 : World}
    (henv : Env D q S pl r a n c a' n' c' p1 p2 p3 p6 ba bc ga gc F G C B B0) (hok : OkCh D) (p4 : Nat) (v4 : VarAt B0 p4 2 (.int .i64 0)) (q5 q7 g : Nat) (bs : Nat) (hbs : D.base = (bs : Int)) (x : Int) (hx0 : 0 ≤ x) (hx1 : x < bs) (W : World) (hx : Ext B0 W)
    (h5 : ∃ v : Int, VarAt W q5 2 (.int .i64 v)) (h7 : VarAt W q7 2 (.int .i64 0)) (hf : Ints W (some ⟨g, 0, none⟩) 1 1 [x])
    (hg5 : g ≠ q5) (hg7 : g ≠ q7) (hq5 : B0.heap.size ≤ q5) (hq7 : B0.heap.size ≤ q7) (h57 : q5 ≠ q7) (hpl : pl + 1 ≤ D.places.length)
    (hz : ∀ x y : Int, 0 ≤ x → x < bs → 0 ≤ y → y < bs → x ≠ y → ∀ s : Nat, s < S → gi (begL D S pl) s ≠ 0 → F (runS D pl s [x]).toNat (runS D pl s [y]).toNat = 0) :
    Calls Try.prog 45 (#[.slice (some ⟨g, 0, none⟩) 1 1] ++ #[.pointer (some ⟨p4, 0, none⟩), .pointer (some ⟨p2, 0, none⟩), .pointer (some ⟨p1, 0, none⟩), .pointer (some ⟨p3, 0, none⟩), .pointer (some ⟨q5, 0, none⟩), .pointer (some ⟨p6, 0, none⟩), .pointer (some ⟨q7, 0, none⟩)]) W
      (fun e w' => e = .returned (.bool true) ∧ (∃ v : Int, VarAt w' q5 2 (.int .i64 v)) ∧ VarAt w' q7 2 (.int .i64 0) ∧ Two q5 q7 W w') := by
  have HEnv := Lib.hid henv
  have HOK := Lib.hid hok
  have H5 := Lib.hid h5
  have H7 := Lib.hid h7
  have HF := Lib.hid hf
  have HZ := Lib.hid hz
  have HV4 := Lib.hid v4
  have hb36 := hok.b36
  have cb2 : ∀ w', Ext B0 w' → w'.cell? ⟨p2, 0, none⟩ = some (.pointer (some ⟨q, 0, none⟩)) := fun w' h => (HEnv.out.v2.ext h).cell
  have cb4 : ∀ w', Ext B0 w' → w'.cell? ⟨p4, 0, none⟩ = some (.int .i64 0) := fun w' h => (HV4.out.ext h).cell
  have k0 := henv.ch.c0
  simp only [hbs] at k0
  have HBs := Lib.hid hbs
  have h7lt : q7 < W.heap.size := H7.out.lt
  have h5lt : q5 < W.heap.size := by obtain ⟨v, hv⟩ := H5.out; exact hv.lt
  clear henv hok h5 h7 hf hz v4 hbs
  go_enter Try.func45, Try.ntmps45
  go_wp2
  obtain ⟨wb, hwb⟩ : ∃ wb, wb = W.alloc (.cells #[.slice (some ⟨g, 0, none⟩) 1 1] 25) := ⟨_, rfl⟩
  have hxb : Ext W wb := by rw [hwb]; exact (by repeat (first | (with_reducible exact Ext.refl _) | (with_reducible refine Ext.drewN ?_ _) | (with_reducible refine Ext.drew ?_) | (with_reducible refine Ext.alloc ?_ _) | ((with_reducible refine Ext.setCell ?_ ?_ _); rotate_left; focus (first | (simp; done) | (simp; omega) | omega)) | assumption | (with_reducible refine Ext.trans ?_ (by assumption))))
  obtain ⟨q8, hq8⟩ : ∃ q8, q8 = W.heap.size := ⟨_, rfl⟩
  have HV8 := Lib.hid (show VarAt wb q8 25 (.slice (some ⟨g, 0, none⟩) 1 1) from by rw [hwb, hq8]; exact VarAt.new _ _ _)
  rw [← hwb, ← hq8]
  have h85 : q8 ≠ q5 := by omega
  have h87 : q8 ≠ q7 := by omega
  have hx0b : Ext B0 wb := hx.trans hxb
  have c8 := HV8.out.cell
  have hlt8 := HV8.out.lt
  have hsb := hxb.le
  clear hwb hq8
  have HChg := Lib.hid (fun w' (h : Ext wb w') => changes_single bs 47 #[.pointer (some ⟨p1, 0, none⟩), .pointer (some ⟨p2, 0, none⟩), .pointer (some ⟨p3, 0, none⟩), .pointer (some ⟨q8, 0, none⟩), .pointer (some ⟨q5, 0, none⟩), .pointer (some ⟨p6, 0, none⟩), .pointer (some ⟨q7, 0, none⟩)] (some ⟨g, 0, none⟩) 1 1 [x]
    (fun _ W' => (∃ v : Int, VarAt W' q5 2 (.int .i64 v)) ∧ VarAt W' q7 2 (.int .i64 0) ∧ Two q5 q7 wb W') w' (by have := HBs.out; omega) (Nat.le_refl _) (by omega)
    (fun _ W' hi => (HF.out.ext hxb).two hi.2.2 (fun y hy => by cases hy; exact ⟨hg5, hg7⟩))
    (fun _ W' W'' hi hxx => ⟨by obtain ⟨v, hv⟩ := hi.1; exact ⟨v, hv.ext hxx⟩, hi.2.1.ext hxx, hi.2.2.ext hxx⟩)
    (fun _ _ => rfl)
    (fun j W' ta tn tc hj hi hti hta hhi => by
      have hm := gl_mem hj
      obtain ⟨y, hy1, hy2, hy3⟩ := eachTo_mem hm
      have hl1 : tn = 1 := by have h1 := hti.len; rw [hy3] at h1; simpa using h1.symm
      subst hl1
      rw [hy3] at hti
      have hle := h.le
      refine (undet2 HEnv.out HOK.out q5 q7 q8 (some ⟨g, 0, none⟩) 1 1 [x] ta 1 tc [(y : Int)] W' (hx0b.two hi.2.2 hq5 hq7) hi.1 hi.2.1 (HV8.out.two hi.2.2 h85 h87) ((HF.out.ext hxb).two hi.2.2 (fun y hy => by cases hy; exact ⟨hg5, hg7⟩)) hti
        (fun y hy => by cases hy; exact ⟨hg5, hg7⟩) (fun z hz => by have := hta z hz; omega) hq5 hq7 h57 h85 h87
        (fun d hd => by simp at hd; have := HBs.out; omega) (fun d hd => by simp at hd; have := HBs.out; omega) hpl hpl
        (fun s hs hne => HZ.out x y hx0 hx1 (by omega) (by omega) (Ne.symm hy2) s hs hne)).mono fun e w'' ⟨h1, h2, h3, h4⟩ => ⟨h1, ⟨h2, h3, hi.2.2.trans h4⟩, h4.keepB (by omega) (by omega) hhi⟩)
    ⟨by obtain ⟨v, hv⟩ := H5.out; exact ⟨v, (hv.ext hxb).ext h⟩, (H7.out.ext hxb).ext h, Two.of_ext h⟩)
  go_wp2
  (refine wp_region_upl 7 wb (by repeat (first | (with_reducible exact Ext.refl _) | (with_reducible refine Ext.drewN ?_ _) | (with_reducible refine Ext.drew ?_) | (with_reducible refine Ext.alloc ?_ _) | ((with_reducible refine Ext.setCell ?_ ?_ _); rotate_left; focus (first | (simp; done) | (simp; omega) | omega)) | assumption | (with_reducible refine Ext.trans ?_ (by assumption)))) rfl (by kernel_rfl) (by kernel_rfl) (seqB_of (by kernel_rfl)) (lastB_of (by kernel_rfl)) ?_; simp only [List.take_succ_cons, List.take_zero, List.drop_succ_cons, List.drop_zero]; (repeat (first | (refine mix_q rfl ?_; go_big_quiet_step (fail); refine wpQuiet_nil ?_; show wpMix _ _ _ _ _ _ _) | (refine mix_s rfl ?_; go_wp2_with (fail); first | refine ⟨up_of (by repeat (first | (with_reducible exact Ext.refl _) | (with_reducible refine Ext.drewN ?_ _) | (with_reducible refine Ext.drew ?_) | (with_reducible refine Ext.alloc ?_ _) | ((with_reducible refine Ext.setCell ?_ ?_ _); rotate_left; focus (first | (simp; done) | (simp; omega) | omega)) | assumption | (with_reducible refine Ext.trans ?_ (by assumption)))), ?_⟩ | refine ⟨rfl, rfl, up_of (by repeat (first | (with_reducible exact Ext.refl _) | (with_reducible refine Ext.drewN ?_ _) | (with_reducible refine Ext.drew ?_) | (with_reducible refine Ext.alloc ?_ _) | ((with_reducible refine Ext.setCell ?_ ?_ _); rotate_left; focus (first | (simp; done) | (simp; omega) | omega)) | assumption | (with_reducible refine Ext.trans ?_ (by assumption)))), ?_⟩))); refine mix_nil ?_)
  go_wp2_with ((with_reducible refine (HChg.out _ (by repeat (first | (with_reducible exact Ext.refl _) | (with_reducible assumption) | (with_reducible refine Ext.drewN ?_ _) | (with_reducible refine Ext.drew ?_) | (with_reducible refine Ext.alloc ?_ _) | ((with_reducible refine Ext.setCell ?_ ?_ _); rotate_left; focus (first | (simp; done) | (simp; omega) | omega)) | (with_reducible refine Ext.trans ?_ (by with_reducible assumption))))).mono ?_); rintro e w6 ⟨rfl, h56, h76, ht6⟩)
  go_ret
  exact ⟨rfl, h56, h76, (Two.of_ext hxb).trans ht6⟩
end Go.Proofs.Ytccoopnoakhedaa

/- Walks: undetected single errors at a place, and of a chain, in the program. -/
namespace Go.Proofs.Ytccoopnoakhedaa
set_option maxRecDepth 100000
open Go.RowKit

/-- no errors are undetected; so many in all -/
def RetBad (w : World) (e : Ending) (w' : World) : Prop := ∃ v : Int, e = .returned (.tuple #[.int .i64 0, .int .i64 v]) ∧ Ext w w'
def CutU (D : Ch) (S pl n' : Nat) (wb : World) (s9 s10 : Value) (wx : World) : Prop :=
  ∃ (g9 g10 : Nat) (ba : Option Addr) (bc : Nat) (ga : Option Addr) (gc : Nat) (F : Nat → Nat → Int) (G C : Nat → Nat), s9 = .pointer (some ⟨g9, 0, none⟩) ∧ s10 = .pointer (some ⟨g10, 0, none⟩) ∧ VarAt wx g9 25 (.slice ba S bc) ∧ VarAt wx g10 54 (.slice ga S gc) ∧
    Ints wx ba S bc (begL D S pl) ∧ Grid wx wb.heap.size 25 2 ga S gc S F G C ∧ (∀ s, s < S → ∀ t, t < S → F s t = bothS D n' (n' - (pl + 1)) s t) ∧ Ext wb wx
theorem KeepB.setB {lo hi : Nat} {w w' : World} (h : KeepB lo hi w w') (p : Addr) (u : Value) (hp : p.block < lo ∨ hi ≤ p.block) : KeepB lo hi w (w'.setCell p u) := fun x h1 h2 =>
  (Below.heap_setCell _ _ _ _ (by omega)).trans (h x h1 h2)
theorem KeepB.allB {lo hi : Nat} {w w' : World} (h : KeepB lo hi w w') (o : Obj) (hp : hi ≤ w'.heap.size) : KeepB lo hi w (w'.alloc o) := fun x h1 h2 =>
  (Below.block ((Ext.refl w').alloc o) x (by omega)).trans (h x h1 h2)
theorem VarAt.newN {w : World} {q : Nat} {T : TypeId} {v : Value} (hq : q = w.heap.size) : VarAt (w.alloc (.cells #[v] T)) q T v := hq ▸ VarAt.new w T v
theorem cutU_of {D : Ch} {S pl n' : Nat} {wb w6 w7 wx : World} {g9 g10 : Nat} {ba : Option Addr} {bc : Nat} {ga : Option Addr} {gc : Nat} {F : Nat → Nat → Int} {G C : Nat → Nat} {B6 B7 : Nat} (hO : Own w6 B6 2 ba S bc (I (begL D S pl))) (h67 : Ext w6 w7)
    (hG : Grid w7 B7 25 2 ga S gc S F G C) (hF : ∀ s, s < S → ∀ t, t < S → F s t = bothS D n' (n' - (pl + 1)) s t) (_h6 : wb.heap.size ≤ B6) (h7 : wb.heap.size ≤ B7) (k6 : KeepB B6 w6.heap.size w7 wx) (k7 : KeepB B7 w7.heap.size w7 wx)
    (v9 : VarAt wx g9 25 (.slice ba S bc)) (v10 : VarAt wx g10 54 (.slice ga S gc)) (hE : Ext wb wx) : CutU D S pl n' wb (.pointer (some ⟨g9, 0, none⟩)) (.pointer (some ⟨g10, 0, none⟩)) wx :=
  ⟨g9, g10, ba, bc, ga, gc, F, G, C, rfl, rfl, v9, v10, (Own.keepB hO ((KeepB.ext h67 (Nat.le_refl _)).trans k6)).ints, Grid.mono ⟨Own.keepB hG.outer k7, fun k hk => Own.keepB (hG.row k hk) k7, hG.inj⟩ h7, hF, hE⟩
theorem touch_extU {w w' : World} (h : Touch w.heap.size w w') : Ext w w' := ⟨h.os, h.tape, h.output, h.size, fun k hk => h.block k hk (by omega)⟩
def CutV (w0 : World) (s11 s12 : Value) (wx : World) : Prop :=
  ∃ (q7 q5 : Nat), s11 = .pointer (some ⟨q7, 0, none⟩) ∧ s12 = .pointer (some ⟨q5, 0, none⟩) ∧ w0.heap.size ≤ q7 ∧ w0.heap.size ≤ q5 ∧ q5 ≠ q7 ∧ VarAt wx q7 2 (.int .i64 0) ∧ VarAt wx q5 2 (.int .i64 0) ∧ Ext w0 wx
set_option maxHeartbeats 8000000 in
theorem impl_undetAt {D : Ch} {q S pl : Nat} {a : Option Addr} {n c : Nat} {a' : Option Addr} {n' c' : Nat} (w : World) (hv : ChAt w q D a n c a' n' c') (hok : OkCh D) (hS : D.states = (S : Int)) (hpl : pl + 1 ≤ n')
    (hz : ∀ x y : Int, 0 ≤ x → x < D.base → 0 ≤ y → y < D.base → x ≠ y → ∀ s : Nat, s < S → gi (begL D S pl) s ≠ 0 → bothS D n' (n' - (pl + 1)) (runS D pl s [x]) (runS D pl s [y]) = 0) :
    Calls Try.prog 21 #[.pointer (some ⟨q, 0, none⟩), .int .i64 0, .int .i64 pl] w (RetBad w) := by
  have HV := Lib.hid hv
  have HOK := Lib.hid hok
  have HZ := Lib.hid hz
  have HS := Lib.hid hS
  have HP := Lib.hid hv.ps.len
  have hb36 := hok.b36
  have hb2 := hok.b2
  have p20 := hok.p20
  rw [HP.out] at p20
  obtain ⟨bs, hbs⟩ := Int.eq_ofNat_of_zero_le (show 0 ≤ D.base by omega)
  have HBs := Lib.hid hbs
  have k0 := hv.c0
  simp only [hbs] at k0
  have HSt := Lib.hid (show D.states.toNat = S by omega)
  have hqw : q < w.heap.size := World.block_lt_of_cell? w ⟨q, 0, none⟩ (hv.c0 w (Ext.refl _))
  have hbs36 : 2 ≤ bs ∧ bs ≤ 36 := by omega
  clear hv hok hz hS hbs
  go_enter Try.func21, Try.ntmps21
  go_wp2_with (go_at_call 41; refine (impl_errLen0 _).mono ?_; rintro e w' ⟨rfl, rfl⟩)
  obtain ⟨p2, hp2⟩ : ∃ p, p = w.heap.size := ⟨_, rfl⟩
  obtain ⟨p4, hp4⟩ : ∃ p, p = w.heap.size + 1 := ⟨_, rfl⟩
  obtain ⟨p3, hp3⟩ : ∃ p, p = w.heap.size + 1 + 1 := ⟨_, rfl⟩
  obtain ⟨wb, hwb⟩ : ∃ W, W = ((w.alloc (.cells #[.pointer (some ⟨q, 0, none⟩)] 76)).alloc (.cells #[.int .i64 0] 2)).alloc (.cells #[.int .i64 pl] 3) := ⟨_, rfl⟩
  have hxb : Ext w wb := by rw [hwb]; exact (by repeat (first | (with_reducible exact Ext.refl _) | (with_reducible refine Ext.drewN ?_ _) | (with_reducible refine Ext.drew ?_) | (with_reducible refine Ext.alloc ?_ _) | ((with_reducible refine Ext.setCell ?_ ?_ _); rotate_left; focus (first | (simp; done) | (simp; omega) | omega)) | assumption | (with_reducible refine Ext.trans ?_ (by assumption))))
  have HV2 := Lib.hid (show VarAt wb p2 76 (.pointer (some ⟨q, 0, none⟩)) from by rw [hwb, hp2]; exact ((VarAt.new w _ _).ext ((Ext.refl _).alloc _)).ext ((Ext.refl _).alloc _))
  have HV4 := Lib.hid (show VarAt wb p4 2 (.int .i64 0) from by
    rw [hwb, hp4]
    have h := VarAt.new (w.alloc (.cells #[.pointer (some ⟨q, 0, none⟩)] 76)) 2 (.int .i64 0)
    rw [show (w.alloc (.cells #[.pointer (some ⟨q, 0, none⟩)] 76)).heap.size = w.heap.size + 1 by simp] at h
    exact h.ext ((Ext.refl _).alloc _))
  have HV3 := Lib.hid (show VarAt wb p3 3 (.int .i64 pl) from by
    rw [hwb, hp3]
    have h := VarAt.new ((w.alloc (.cells #[.pointer (some ⟨q, 0, none⟩)] 76)).alloc (.cells #[.int .i64 0] 2)) 3 (.int .i64 pl)
    rw [show ((w.alloc (.cells #[.pointer (some ⟨q, 0, none⟩)] 76)).alloc (.cells #[.int .i64 0] 2)).heap.size = w.heap.size + 1 + 1 by simp] at h
    exact h)
  rw [← hwb, ← hp3, ← hp4, ← hp2]
  clear hwb hp2 hp3 hp4
  have cb2 : ∀ w', Ext wb w' → w'.cell? ⟨p2, 0, none⟩ = some (.pointer (some ⟨q, 0, none⟩)) := fun w' h => (HV2.out.ext h).cell
  have cb3 : ∀ w', Ext wb w' → w'.cell? ⟨p3, 0, none⟩ = some (.int .i64 pl) := fun w' h => (HV3.out.ext h).cell
  have HBe := Lib.hid (fun w' (h : Ext wb w') => impl_begins D q a n c a' n' c' pl w' (HV.out.ext (hxb.trans h)) HOK.out (by omega))
  have HBo := Lib.hid (fun w' (h : Ext wb w') => show Calls Try.prog 43 #[.pointer (some ⟨q, 0, none⟩), .int .i64 ((pl : Int) + 1)] w' (RetBoth D (n' - (pl + 1)) w') from impl_both D q a n c a' n' c' (pl + 1) w' (HV.out.ext (hxb.trans h)) HOK.out (by omega))
  rw [HSt.out] at HBe
  have hpl21 : pl ≤ 20 := by omega
  go_upto_region 2 with fail
  go_cut [9, 10] from 13 to 32 (fun s9 s10 wx => CutU D S pl n' wb s9 s10 wx)
  case first =>
    have hwp : IntKind.i64.wrap ((pl : Int) + 1) = (pl : Int) + 1 := by unfold IntKind.wrap; simp [IntKind.bits, IntKind.signed]; omega
    go_region_held3 (fun w' => Ext wb w') ((exact (by repeat (first | (with_reducible exact Ext.refl _) | (with_reducible assumption) | (with_reducible refine Ext.drewN ?_ _) | (with_reducible refine Ext.drew ?_) | (with_reducible refine Ext.alloc ?_ _) | ((with_reducible refine Ext.setCell ?_ ?_ _); rotate_left; focus (first | (simp; done) | (simp; omega) | omega)) | (with_reducible refine Ext.trans ?_ (by with_reducible assumption)))))) ((first | (go_at_call 42; (with_reducible refine (HBe.out _ (by repeat (first | (with_reducible exact Ext.refl _) | (with_reducible assumption) | (with_reducible refine Ext.drewN ?_ _) | (with_reducible refine Ext.drew ?_) | (with_reducible refine Ext.alloc ?_ _) | ((with_reducible refine Ext.setCell ?_ ?_ _); rotate_left; focus (first | (simp; done) | (simp; omega) | omega)) | (with_reducible refine Ext.trans ?_ (by with_reducible assumption))))).mono ?_); rintro e w6 ⟨ba, bc, rfl, ho6, hy6⟩; rw [I_len, begL_len] at ho6 ⊢; have hx6 : Ext wb w6 := Ext.trans (by repeat (first | (with_reducible exact Ext.refl _) | (with_reducible assumption) | (with_reducible refine Ext.drewN ?_ _) | (with_reducible refine Ext.drew ?_) | (with_reducible refine Ext.alloc ?_ _) | ((with_reducible refine Ext.setCell ?_ ?_ _); rotate_left; focus (first | (simp; done) | (simp; omega) | omega)) | (with_reducible refine Ext.trans ?_ (by with_reducible assumption)))) hy6; have HO6 := Lib.hid ho6; obtain ⟨hc6, hf6⟩ := bcell hy6; have hsz6 := hy6.le; (try simp at hsz6); (try (have hlt61 : wb.heap.size < w6.heap.size := by omega)); (try (have hlt62 : wb.heap.size + 1 < w6.heap.size := by omega)); clear ho6) | (go_at_call 43; (with_reducible refine (HBo.out _ (by repeat (first | (with_reducible exact Ext.refl _) | (with_reducible assumption) | (with_reducible refine Ext.drewN ?_ _) | (with_reducible refine Ext.drew ?_) | (with_reducible refine Ext.alloc ?_ _) | ((with_reducible refine Ext.setCell ?_ ?_ _); rotate_left; focus (first | (simp; done) | (simp; omega) | omega)) | (with_reducible refine Ext.trans ?_ (by with_reducible assumption))))).mono ?_); rintro e w7 ⟨ga, gc, F, G, C, rfl, hg7, hf7, hy7⟩; have hx7 : Ext wb w7 := Ext.trans (by repeat (first | (with_reducible exact Ext.refl _) | (with_reducible assumption) | (with_reducible refine Ext.drewN ?_ _) | (with_reducible refine Ext.drew ?_) | (with_reducible refine Ext.alloc ?_ _) | ((with_reducible refine Ext.setCell ?_ ?_ _); rotate_left; focus (first | (simp; done) | (simp; omega) | omega)) | (with_reducible refine Ext.trans ?_ (by with_reducible assumption)))) hy7; rw [HSt.out] at hg7 hf7 ⊢; rw [HP.out] at hf7; have HG7 := Lib.hid hg7; have HF7 := Lib.hid hf7; obtain ⟨hc7, hf7'⟩ := bcell hy7; have hsz7 := hy7.le; (try simp at hsz7); (try (have hlt71 : wb.heap.size < w7.heap.size := by omega)); (try (have hlt72 : wb.heap.size + 1 < w7.heap.size := by omega)); (try (have hlt73 : w6.heap.size < w7.heap.size := by omega)); (try (have hlt74 : w6.heap.size + 1 < w7.heap.size := by omega)); clear hg7 hf7)))
    all_goals (go_wp2_with fail; go_meet)
    all_goals (with_reducible refine cutU_of HO6.out (Ext.trans ?_ hy7) HG7.out HF7.out ?_ ?_ ?_ ?_ ?_ ?_ ?_)
    any_goals assumption
    any_goals (first | with_reducible exact Nat.le_refl _ | omega | (simp <;> omega))
    all_goals repeat' (first | with_reducible exact Ext.refl _ | with_reducible refine Ext.alloc ?_ _ | with_reducible refine Ext.drew ?_ | with_reducible exact KeepB.refl _ _ _ | (with_reducible refine KeepB.setB ?_ _ _ ?_; rotate_left; (focus (simp <;> omega))) | (with_reducible refine KeepB.allB ?_ _ ?_; rotate_left; (focus (first | with_reducible exact Nat.le_refl _ | omega | (simp <;> omega)))) | (with_reducible refine VarAt.newN ?_; first | with_reducible rfl | (simp; done)) | with_reducible refine VarAt.set (v := .slice none 0 0) ?_ _ | (with_reducible refine VarAt.other ?_ _ ?_; rotate_left; (focus (simp <;> omega))) | with_reducible refine VarAt.ext ?_ hy7 | with_reducible refine VarAt.ext ?_ hy6 | with_reducible refine VarAt.ext ?_ ((Ext.refl _).alloc _) | with_reducible refine VarAt.ext ?_ (Ext.drew (Ext.refl _)))
  case rest =>
    rename World => wo
    obtain ⟨g9, g10, ba, bc, ga, gc, F, G, C, rfl, rfl, v9, v10, hbi, hgr, hF, hxc⟩ := hcut
    have HV9 := Lib.hid v9
    have HV10 := Lib.hid v10
    have HBi := Lib.hid hbi
    have HGr := Lib.hid hgr
    have HF := Lib.hid hF
    clear v9 v10 hbi hgr hF
    go_upto_region 3 with fail
    go_cut [11, 12] from 13 to 32 (fun s11 s12 wx => CutV wo s11 s12 wx)
    case first =>
      go_wp2_with fail
      all_goals go_meet
      refine ⟨_, _, rfl, rfl, Nat.le_refl _, Nat.le_succ _, by omega, (VarAt.new wo _ _).ext ((Ext.refl _).alloc _), VarAt.newN (by simp), (by repeat (first | (with_reducible exact Ext.refl _) | (with_reducible refine Ext.drewN ?_ _) | (with_reducible refine Ext.drew ?_) | (with_reducible refine Ext.alloc ?_ _) | ((with_reducible refine Ext.setCell ?_ ?_ _); rotate_left; focus (first | (simp; done) | (simp; omega) | omega)) | assumption | (with_reducible refine Ext.trans ?_ (by assumption))))⟩
    case rest =>
      obtain ⟨q7, q5, rfl, rfl, h7, h5, h57, v7, v5, hxd⟩ := hcut
      rename World => wd
      have hq7 := v7.lt
      have hq5 := v5.lt
      have HEnv : Hid (Env D q S pl 0 a n c a' n' c' g9 p2 p3 g10 ba bc ga gc F G C wb.heap.size wo) := Lib.hid ⟨HV.out.ext (hxb.trans hxc), HV9.out, HV2.out.ext hxc, HV3.out.ext hxc, HV10.out, HBi.out, HGr.out, HS.out⟩
      have HZ2 := Lib.hid (show ∀ x y : Int, 0 ≤ x → x < bs → 0 ≤ y → y < bs → x ≠ y → ∀ s : Nat, s < S → gi (begL D S pl) s ≠ 0 → F (runS D pl s [x]).toNat (runS D pl s [y]).toNat = 0 from fun x y x0 x1 y0 y1 hxy s hs hg => by
        have hb := HBs.out
        have hS := HS.out
        have hp := HP.out
        have r1 := runS_bd HOK.out [x] pl s (by intro z hz; simp only [List.mem_singleton] at hz; subst hz; omega) (by omega) (by simp only [List.length_singleton]; omega) (by omega) (by omega)
        have r2 := runS_bd HOK.out [y] pl s (by intro z hz; simp only [List.mem_singleton] at hz; subst hz; omega) (by omega) (by simp only [List.length_singleton]; omega) (by omega) (by omega)
        rw [HF.out _ (by omega) _ (by omega), Int.toNat_of_nonneg r1.1, Int.toNat_of_nonneg r2.1]
        exact HZ.out x y x0 (by omega) y0 (by omega) hxy s hs hg)
      have hpl1 : pl + 1 ≤ D.places.length := by rw [HP.out]; exact hpl
      have HT := Lib.hid (impl_tuples bs 1 45 #[.pointer (some ⟨p4, 0, none⟩), .pointer (some ⟨p2, 0, none⟩), .pointer (some ⟨g9, 0, none⟩), .pointer (some ⟨p3, 0, none⟩), .pointer (some ⟨q5, 0, none⟩), .pointer (some ⟨g10, 0, none⟩), .pointer (some ⟨q7, 0, none⟩)]
        (fun _ W => Ext wo W ∧ (∃ v : Int, VarAt W q5 2 (.int .i64 v)) ∧ VarAt W q7 2 (.int .i64 0)) (fun _ => False) wd (by omega) (by omega) (by omega) (fun _ _ => rfl)
        (fun W ht => ⟨hxd.trans (touch_extU ht), ⟨0, v5.ext (touch_extU ht)⟩, v7.ext (touch_extU ht)⟩)
        (fun t W W' h ht => ⟨⟨ht.os.trans h.1.os, ht.tape.trans h.1.tape, ht.output.trans h.1.output, Nat.le_trans h.1.size ht.size, fun k hk => (ht.block k (Nat.lt_of_lt_of_le hk h.1.size) (by omega)).trans (h.1.block k hk)⟩,
          h.2.1.elim fun v hv => ⟨v, (ht.block _ hv.lt (by omega)).trans hv⟩, (ht.block _ h.2.2.lt (by omega)).trans h.2.2⟩)
        (fun t W ht h ho => by
          have htt : tupAt bs 1 t = [(t : Int)] := by simp [tupAt]
          have ht2 : t < bs := by simpa using ht
          have hlt := ho.lt.2
          rw [htt] at ho
          refine (undet1 HEnv.out HOK.out p4 (HV4.out.ext hxc) q5 q7 wd.heap.size bs HBs.out t (by omega) (by omega) W h.1 h.2.1 h.2.2 ho.ints (by omega) (by omega) h5 h7 h57 hpl1 HZ2.out).mono ?_
          rintro e W' ⟨rfl, k5, k7, hk⟩
          exact .inl ⟨rfl, ⟨Ext.two h.1 hk h5 h7, k5, k7⟩, hk.block _ hlt (by omega) (by omega)⟩))
      rw [show ((1 : Nat) : Int) = 1 from rfl] at HT
      have HX := Lib.hid (hxb.trans hxc)
      have kp : wd.cell? ⟨p2, 0, none⟩ = some (.pointer (some ⟨q, 0, none⟩)) := cb2 _ (hxc.trans hxd)
      have kq : wd.cell? ⟨q, 0, none⟩ = some (.int .i64 bs) := k0 _ ((hxb.trans hxc).trans hxd)
      clear v5 v7 cb2 cb3 k0 hxb hxc hxd
      go_wp2_with (refine HT.out.mono ?_; rintro e w8 ⟨rfl, ⟨hx8, ⟨v, hv8⟩, hw8⟩ | hf⟩)
      have e5 := hv8.cell
      have e7 := hw8.cell
      go_quiet (fail)
      go_wp2_with fail
      refine bodyPost_ret (v := .tuple #[.int .i64 0, .int .i64 v]) (by simp [results, Try.results21, go_sem]) rfl ⟨v, rfl, (HX.out.trans hx8).drewN _⟩
end Go.Proofs.Ytccoopnoakhedaa
