/- Walks: the mirror of a weighting, its multiples; equal weightings. -/
import Derived.Test.YtgnlabdikmbbgaaGreatDoorWtX
import Derived.Test.YtgnlabdikmbbgaaGreatDoorTurn
import Derived.Test.YtgnlabdikmbbgaaGreatDoorUndI
import Derived.Deep.CutRange
namespace Go.Proofs.YtgnlabdikmbbgaaGreatDoor
set_option maxRecDepth 100000
open Go.RowKit

set_option maxHeartbeats 1000000 in
theorem laws_nums (a a' : Option Addr) (n c c' : Nat) (l : List Int) (w : World) (hv : Ints w a n c l) (hv' : Ints w a' n c' l) (hn : n ≤ 1048576) :
    Calls Tryz.prog 49 #[.slice a n c, .slice a' n c'] w (Ret (.bool true) w) := by
  obtain ⟨b, off, hix, hcell⟩ := hv.ix (P := Tryz.prog) 24 2 und_int64s cell_int64
  obtain ⟨b', off', hix', hcell'⟩ := hv'.ix (P := Tryz.prog) 24 2 und_int64s cell_int64
  clear hv hv'
  go_enter Tryz.func49, Tryz.ntmps49
  go_wp2_with fail
  go_loopw [5] (fun v5 wr => ∃ k : Nat, k ≤ n ∧ v5 = .int .i64 k ∧ Ext w wr) (fun v5 _ => n - (intOf v5).toNat)
  case atStart => exact ⟨0, Nat.zero_le _, rfl, Ext.refl _⟩
  case round =>
    obtain ⟨k, hk, rfl, hx⟩ := hrel
    by_cases hlt : k < n
    · go_wp2
      (refine wp_region_from wr (by repeat (first | (with_reducible exact Ext.refl _) | (with_reducible refine Ext.drewN ?_ _) | (with_reducible refine Ext.drew ?_) | (with_reducible refine Ext.alloc ?_ _) | ((with_reducible refine Ext.setCell ?_ ?_ _); rotate_left; focus (first | (simp; done) | (simp; omega) | omega)) | assumption | (with_reducible refine Ext.trans ?_ (by assumption)))) (by kernel_rfl) (by kernel_rfl) (by kernel_rfl) ?_; (repeat (first | (refine mix_q rfl ?_; go_big_quiet_step (fail); refine wpQuiet_nil ?_; show wpMix _ _ _ _ _ _ _) | (refine mix_s rfl ?_; go_wp2_with (fail); first | refine ⟨up_of (by repeat (first | (with_reducible exact Ext.refl _) | (with_reducible refine Ext.drewN ?_ _) | (with_reducible refine Ext.drew ?_) | (with_reducible refine Ext.alloc ?_ _) | ((with_reducible refine Ext.setCell ?_ ?_ _); rotate_left; focus (first | (simp; done) | (simp; omega) | omega)) | assumption | (with_reducible refine Ext.trans ?_ (by assumption)))), ?_⟩ | refine ⟨rfl, rfl, up_of (by repeat (first | (with_reducible exact Ext.refl _) | (with_reducible refine Ext.drewN ?_ _) | (with_reducible refine Ext.drew ?_) | (with_reducible refine Ext.alloc ?_ _) | ((with_reducible refine Ext.setCell ?_ ?_ _); rotate_left; focus (first | (simp; done) | (simp; omega) | omega)) | assumption | (with_reducible refine Ext.trans ?_ (by assumption)))), ?_⟩))); refine mix_nil ?_)
      go_wp2
      exact ⟨⟨k + 1, by omega, by go_num, (by repeat (first | (with_reducible exact Ext.refl _) | (with_reducible assumption) | (with_reducible refine Ext.drewN ?_ _) | (with_reducible refine Ext.drew ?_) | (with_reducible refine Ext.alloc ?_ _) | ((with_reducible refine Ext.setCell ?_ ?_ _); rotate_left; focus (first | (simp; done) | (simp; omega) | omega)) | (with_reducible refine Ext.trans ?_ (by with_reducible assumption))))⟩, by simp [intOf]; omega⟩
    · go_wp2
      go_ret
      exact ⟨rfl, hx⟩
set_option maxHeartbeats 1000000 in
theorem impl_gcdS (a b : Nat) (w : World) (ha : a ≤ 1000000) (hb : b ≤ 1000000) : Calls Tryz.prog 44 #[.int .i64 a, .int .i64 b] w (Ret (.int .i64 (Nat.gcd a b)) w) := by
  go_enter Tryz.func44, Tryz.ntmps44
  go_wp2_with fail
  go_loopw [0, 1] (fun v0 v1 wr => ∃ (x y : Nat), v0 = .int .i64 x ∧ v1 = .int .i64 y ∧ Nat.gcd x y = Nat.gcd a b ∧ x ≤ 1000000 ∧ y ≤ 1000000 ∧ Ext w wr) (fun _ v1 _ => (intOf v1).toNat)
  case atStart => exact ⟨a, b, rfl, rfl, rfl, ha, hb, Ext.refl _⟩
  case round =>
    obtain ⟨x, y, rfl, rfl, hg, hx, hy, hxr⟩ := hrel
    by_cases h0 : 0 < y
    · have HG := Lib.hid hg
      have hlt := Nat.mod_lt x h0
      have hm : (x : Int).tmod (y : Int) = (x : Int) % (y : Int) := Int.tmod_eq_emod_of_nonneg (by omega)
      have hne : ((y : Int) != 0) = true := by simp; omega
      have HM := Lib.hid hm
      clear hg
      go_wp2
      (refine wp_region_from wr (by repeat (first | (with_reducible exact Ext.refl _) | (with_reducible refine Ext.drewN ?_ _) | (with_reducible refine Ext.drew ?_) | (with_reducible refine Ext.alloc ?_ _) | ((with_reducible refine Ext.setCell ?_ ?_ _); rotate_left; focus (first | (simp; done) | (simp; omega) | omega)) | assumption | (with_reducible refine Ext.trans ?_ (by assumption)))) (by kernel_rfl) (by kernel_rfl) (by kernel_rfl) ?_; (repeat (first | (refine mix_q rfl ?_; go_big_quiet_step (fail); refine wpQuiet_nil ?_; show wpMix _ _ _ _ _ _ _) | (refine mix_s rfl ?_; go_wp2_with (fail); first | refine ⟨up_of (by repeat (first | (with_reducible exact Ext.refl _) | (with_reducible refine Ext.drewN ?_ _) | (with_reducible refine Ext.drew ?_) | (with_reducible refine Ext.alloc ?_ _) | ((with_reducible refine Ext.setCell ?_ ?_ _); rotate_left; focus (first | (simp; done) | (simp; omega) | omega)) | assumption | (with_reducible refine Ext.trans ?_ (by assumption)))), ?_⟩ | refine ⟨rfl, rfl, up_of (by repeat (first | (with_reducible exact Ext.refl _) | (with_reducible refine Ext.drewN ?_ _) | (with_reducible refine Ext.drew ?_) | (with_reducible refine Ext.alloc ?_ _) | ((with_reducible refine Ext.setCell ?_ ?_ _); rotate_left; focus (first | (simp; done) | (simp; omega) | omega)) | assumption | (with_reducible refine Ext.trans ?_ (by assumption)))), ?_⟩))); refine mix_nil ?_)
      go_wp2
      have he : ((x : Int) % (y : Int)) = ((x % y : Nat) : Int) := (Int.natCast_emod x y).symm
      try rw [HM.out]
      rw [he]
      exact ⟨⟨y, x % y, rfl, rfl, by rw [← HG.out, Nat.gcd_comm x y, Nat.gcd_rec y x, Nat.gcd_comm], hy, by omega, (by repeat (first | (with_reducible exact Ext.refl _) | (with_reducible assumption) | (with_reducible refine Ext.drewN ?_ _) | (with_reducible refine Ext.drew ?_) | (with_reducible refine Ext.alloc ?_ _) | ((with_reducible refine Ext.setCell ?_ ?_ _); rotate_left; focus (first | (simp; done) | (simp; omega) | omega)) | (with_reducible refine Ext.trans ?_ (by with_reducible assumption))))⟩, by simp only [intOf]; omega⟩
    · obtain rfl : y = 0 := by omega
      have HG := Lib.hid hg
      clear hg
      go_wp2
      go_ret
      exact ⟨ri (by rw [← HG.out, Nat.gcd_zero_right]), hxr⟩
set_option maxHeartbeats 1000000 in
theorem laws_wts (X : Wt) (a a' : Option Addr) (n c c' : Nat) (w : World) (hv : Ints w a n c X.weights) (hv' : Ints w a' n c' X.weights) (hn : n ≤ 1048576) :
    Calls Tryz.prog 19 #[.agg #[.int .i64 X.base, .int .i64 X.modulus, .int .i64 X.target, .slice a n c], .agg #[.int .i64 X.base, .int .i64 X.modulus, .int .i64 X.target, .slice a' n c']] w (Ret (.bool true) w) := by
  have HN := Lib.hid (fun W (h : Ext w W) => laws_nums a a' n c c' X.weights W (hv.ext h) (hv'.ext h) hn)
  have s0 : (X.base == X.base) = true := beq_self_eq_true _
  have s1 : (X.modulus == X.modulus) = true := beq_self_eq_true _
  have s2 : (X.target == X.target) = true := beq_self_eq_true _
  clear hv hv'
  go_enter Tryz.func19, Tryz.ntmps19
  go_wp2_with (go_at_call 49; (with_reducible refine (HN.out _ (by repeat (first | (with_reducible exact Ext.refl _) | (with_reducible assumption) | (with_reducible refine Ext.drewN ?_ _) | (with_reducible refine Ext.drew ?_) | (with_reducible refine Ext.alloc ?_ _) | ((with_reducible refine Ext.setCell ?_ ?_ _); rotate_left; focus (first | (simp; done) | (simp; omega) | omega)) | (with_reducible refine Ext.trans ?_ (by with_reducible assumption))))).mono ?_); rintro e w1 ⟨rfl, hy1⟩; have hx1 : Ext w w1 := Ext.trans (by repeat (first | (with_reducible exact Ext.refl _) | (with_reducible assumption) | (with_reducible refine Ext.drewN ?_ _) | (with_reducible refine Ext.drew ?_) | (with_reducible refine Ext.alloc ?_ _) | ((with_reducible refine Ext.setCell ?_ ?_ _); rotate_left; focus (first | (simp; done) | (simp; omega) | omega)) | (with_reducible refine Ext.trans ?_ (by with_reducible assumption)))) hy1; clear hy1)
  go_ret
  exact ⟨rfl, hx1⟩
theorem SAt.mk {B : Nat} {a : Option Addr} {w w' : World} {g : Nat} {T : TypeId} {cs : Array Value} (h : SAt w g T cs) (hm : Mk B a w w') (hne : ∀ x, a = some x → x.block ≠ g) : SAt w' g T cs := (hm.block g h.lt hne).trans h
def mirX (X : Wt) : Wt := ⟨X.base, X.modulus, X.target, X.weights.reverse⟩
set_option maxHeartbeats 4000000 in
theorem impl_MirrorS (X : Wt) (a : Option Addr) (n c : Nat) (w : World) (hw : Ints w a n c X.weights) (hval : validB X = true) (h1 : 1 ≤ n) (hn : n ≤ 20) :
    Calls Tryz.prog 11 #[.agg #[.int .i64 X.base, .int .i64 X.modulus, .int .i64 X.target, .slice a n c]] w (RetWtT (mirX X) w) := by
  have HV := Lib.hid (fun W (h : Ext w W) => impl_valid X a n c W (hw.ext h))
  rw [hval] at HV
  have HC := Lib.hid (fun W (h : Ext w W) => clone_ints a n c X.weights W (hw.ext h) (by omega))
  have HL := Lib.hid hw.len
  clear hw hval
  go_enter Tryz.func11, Tryz.ntmps11
  go_upto_region 1 with fail
  obtain ⟨q, hq⟩ : ∃ q, q = w.heap.size := ⟨_, rfl⟩
  obtain ⟨w2, hw2⟩ : ∃ W, W = (w.alloc (.cells #[.int .i64 X.base, .int .i64 X.modulus, .int .i64 X.target, .slice a n c] 26)).alloc (.cells #[.int .i64 0, .int .i64 0, .int .i64 0, .slice none 0 0] 26) := ⟨_, rfl⟩
  have hx2 : Ext w w2 := by rw [hw2]; exact (by repeat (first | (with_reducible exact Ext.refl _) | (with_reducible refine Ext.drewN ?_ _) | (with_reducible refine Ext.drew ?_) | (with_reducible refine Ext.alloc ?_ _) | ((with_reducible refine Ext.setCell ?_ ?_ _); rotate_left; focus (first | (simp; done) | (simp; omega) | omega)) | assumption | (with_reducible refine Ext.trans ?_ (by assumption))))
  have HA := Lib.hid (show SAt w2 q 26 #[.int .i64 X.base, .int .i64 X.modulus, .int .i64 X.target, .slice a n c] by rw [hw2, hq]; exact (SAt.new' w _ _ rfl).alloc _)
  have HZ := Lib.hid (show SAt w2 (q + 1) 26 #[.int .i64 0, .int .i64 0, .int .i64 0, .slice none 0 0] by rw [hw2, hq]; exact SAt.new' _ _ _ (by simp))
  rw [← hw2, ← hq]
  have hqw : w.heap.size ≤ q := by omega
  clear hw2 hq
  have a0 := HA.out.cell 0 (by simp)
  have a1 := HA.out.cell 1 (by simp)
  have a2 := HA.out.cell 2 (by simp)
  have a3 := HA.out.cell 3 (by simp)
  simp only [List.getElem_toArray, List.getElem_cons_succ, List.getElem_cons_zero] at a0 a1 a2 a3
  go_upto_region 3 with (go_at_call 35; (with_reducible refine (HV.out _ hx2).mono ?_); rintro e w3 ⟨rfl, hy3⟩; have hx3 : Ext w w3 := hx2.trans hy3; have HA3 := Lib.hid (HA.out.ext hy3); have HZ3 := Lib.hid (HZ.out.ext hy3); clear hy3)
  have b3 := HA3.out.cell 3 (by simp)
  simp only [List.getElem_toArray, List.getElem_cons_succ, List.getElem_cons_zero] at b3
  have hlt3 := HA3.out.lt
  have hlz3 := HZ3.out.lt
  clear a0 a1 a2 a3
  go_upto_region 4 with (go_at_call 39; (with_reducible refine (HC.out _ hx3).mono ?_); rintro e w4 ⟨a', c', rfl, ho4, hy4, _⟩; rw [I_len, HL.out] at ho4 ⊢; have hx4 : Ext w w4 := hx3.trans hy4; have HA4 := Lib.hid (HA3.out.ext hy4); have HZ4 := Lib.hid (HZ3.out.ext hy4); have HO4 := Lib.hid ho4; have d3 := HA4.out.cell 3 (by simp); have fr4 := fun j => HA4.out.frozen j; have hlt4 := HA4.out.lt; have hB4 := hy4.le; (try simp only [List.getElem_toArray, List.getElem_cons_succ, List.getElem_cons_zero] at d3); clear ho4 hy4)
  obtain ⟨w5, hw5⟩ : ∃ W, W = w4.setCell ⟨q, 3, none⟩ (.slice a' n c') := ⟨_, rfl⟩
  have HA5 := Lib.hid (show SAt w5 q 26 #[.int .i64 X.base, .int .i64 X.modulus, .int .i64 X.target, .slice a' n c'] by rw [hw5]; exact HA4.out.set 3 _)
  have HZ5 := Lib.hid (show SAt w5 (q + 1) 26 #[.int .i64 0, .int .i64 0, .int .i64 0, .slice none 0 0] by rw [hw5]; exact HZ4.out.other _ (by simp only; omega))
  have HO5 := Lib.hid (show Own w5 w3.heap.size 2 a' n c' (I X.weights) by rw [hw5]; exact HO4.out.setBelow hlt3 _)
  have hx5 : Ext w w5 := by rw [hw5]; exact Ext.setCell hx4 hqw _
  have hB5 : w3.heap.size ≤ w5.heap.size := by rw [hw5]; simpa using hB4
  rw [← hw5]
  clear hw5 d3 fr4 hlt4 b3
  have e3 := HA5.out.cell 3 (by simp)
  simp only [List.getElem_toArray, List.getElem_cons_succ, List.getElem_cons_zero] at e3
  have HRv := Lib.hid (reverse_ints a' n c' X.weights w3.heap.size w5 HO5.out hB5 (by omega))
  have hne : ∀ x, a' = some x → x.block ≠ q := fun x hx => by have := (HO5.out.blk x hx).1; omega
  have hne2 : ∀ x, a' = some x → x.block ≠ q + 1 := fun x hx => by have := (HO5.out.blk x hx).1; omega
  have hx35 : w.heap.size ≤ w3.heap.size := hx3.le
  go_wp2_with (go_at_call 40; (with_reducible refine HRv.out.mono ?_); rintro e w6 ⟨rfl, hm6, ho6⟩; have HA6 := Lib.hid (HA5.out.mk hm6 hne); have HZ6 := Lib.hid (HZ5.out.mk hm6 hne2); have HO6 := Lib.hid ho6; have hx6 : Ext w w6 := hm6.to hx5 hx35; have a0 := HA6.out.cell 0 (by simp); have a1 := HA6.out.cell 1 (by simp); have a2 := HA6.out.cell 2 (by simp); have a3 := HA6.out.cell 3 (by simp); have z0 := HZ6.out.cell 0 (by simp); have z1 := HZ6.out.cell 1 (by simp); have z2 := HZ6.out.cell 2 (by simp); have z3 := HZ6.out.cell 3 (by simp); have fr := fun j => HZ6.out.frozen j; have hltz := HZ6.out.lt; (try simp only [List.getElem_toArray, List.getElem_cons_succ, List.getElem_cons_zero] at a0 a1 a2 a3 z0 z1 z2 z3))
  refine bodyPost_ret (v := .tuple #[.agg #[.int .i64 X.base, .int .i64 X.modulus, .int .i64 X.target, .slice a' n c'], .bool true]) ?_ rfl ?_
  · simp [results, Tryz.results11, go_sem, z0, z1, z2, z3]
  · have hW6 := HO6.out
    refine ⟨a', n, c', rfl, Own.ints (B := w3.heap.size) (E := 2) ?_, ?_⟩
    · show Own _ w3.heap.size 2 a' n c' (I X.weights.reverse)
      repeat (first | with_reducible exact hW6 | (with_reducible refine Own.setBelow ?_ ?_ _; rotate_left; (focus exact hlz3)))
    · repeat (first | with_reducible exact hx6 | with_reducible refine Ext.setCell ?_ (Nat.le_trans hqw (Nat.le_succ q)) _)
def scaX (X : Wt) (by' : Int) : Wt := ⟨X.base, X.modulus, X.target * by' % X.modulus, X.weights.map fun x => x * by' % X.modulus⟩
/-- the first k weights times a number -/
def scaL (m b : Int) (l : List Int) (k : Nat) : List Int := ((l.take k).map fun x => x * b % m) ++ l.drop k
theorem scaL_len (m b : Int) (l : List Int) (k : Nat) : (scaL m b l k).length = l.length := by simp [scaL]; omega
theorem scaL_gi {m b : Int} {l : List Int} {k : Nat} (h : k < l.length) : gi (scaL m b l k) k = gi l k := by
  unfold scaL gi
  rw [List.getD_eq_getElem?_getD, List.getElem?_append_right (by simp; omega)]
  simp [List.getD_eq_getElem?_getD]
  congr 2; omega
theorem scaL_set {m b : Int} {l : List Int} {k : Nat} (h : k < l.length) : (scaL m b l k).set k (gi l k * b % m) = scaL m b l (k + 1) := by
  unfold scaL
  rw [List.set_append_right _ _ (by simp; omega), take_gi h, List.map_append, List.append_assoc]
  congr 1
  have : k - ((l.take k).map fun x => x * b % m).length = 0 := by simp; omega
  rw [this, List.drop_eq_getElem_cons h, List.set_cons_zero, gi_get h]
  rfl
theorem scaL_zero (m b : Int) (l : List Int) : scaL m b l 0 = l := by simp [scaL]
theorem scaL_full {m b : Int} {l : List Int} {k : Nat} (h : l.length ≤ k) : scaL m b l k = l.map fun x => x * b % m := by
  unfold scaL
  rw [List.take_of_length_le h, List.drop_eq_nil_of_le h, List.append_nil]
/-- no weighting, and false -/
def RetWtF (w : World) (e : Ending) (w' : World) : Prop :=
  e = .returned (.tuple #[.agg #[.int .i64 0, .int .i64 0, .int .i64 0, .slice none 0 0], .bool false]) ∧ Ext w w'
theorem ownY_some {w : World} {B : Nat} {E : TypeId} {a : Option Addr} {n c : Nat} {vs : List Value} (h : Own w B E a n c vs) (hn : 0 < n) : ∃ g, a = some ⟨g, 0, none⟩ := by
  rcases h.2 with h2 | ⟨g, cap, cur, hv, _⟩
  · omega
  · simp only [Value.slice.injEq] at hv; exact ⟨g, hv.1⟩
/-- where the orders meet: the weights are copied, the target is turned -/
def CutS (q : Nat) (X : Wt) (mn : Nat) (tb : Int) (n B : Nat) (w : World) (v : Value) (wx : World) : Prop :=
  ∃ (a' : Option Addr) (c' : Nat), v = .slice a' n c' ∧ SAt wx q 26 #[.int .i64 X.base, .int .i64 mn, .int .i64 tb, .slice a' n c'] ∧ SAt wx (q + 1) 26 #[.int .i64 0, .int .i64 0, .int .i64 0, .slice none 0 0] ∧ Own wx B 2 a' n c' (I X.weights) ∧ Ext w wx
set_option maxHeartbeats 4000000 in
theorem impl_ScaleS (X : Wt) (bn mn : Nat) (a : Option Addr) (n c : Nat) (w : World) (hw : Ints w a n c X.weights) (hval : validB X = true) (hm : X.modulus = (mn : Int)) (hb1 : 1 ≤ bn) (hb2 : bn < mn) (hm36 : mn ≤ 36) (h1 : 1 ≤ n) (hn : n ≤ 20) (ht : 0 ≤ X.target ∧ X.target < mn) (hws : ∀ x ∈ X.weights, 0 ≤ x ∧ x < (mn : Int)) :
    Calls Tryz.prog 15 #[.agg #[.int .i64 X.base, .int .i64 X.modulus, .int .i64 X.target, .slice a n c], .int .i64 bn] w (fun e w' => (Nat.gcd bn mn = 1 → RetWtT (scaX X bn) w e w') ∧ (Nat.gcd bn mn ≠ 1 → RetWtF w e w')) := by
  have HV := Lib.hid (fun W (h : Ext w W) => impl_valid X a n c W (hw.ext h))
  rw [hval] at HV
  have HC := Lib.hid (fun W (h : Ext w W) => clone_ints a n c X.weights W (hw.ext h) (by omega))
  have HL := Lib.hid hw.len
  have HIn := Lib.hid (fun W => impl_in (bn : Int) 1 ((mn : Int) - 1) W)
  rw [show inB (bn : Int) 1 ((mn : Int) - 1) = true from inB_t.2 (by omega)] at HIn
  have HG := Lib.hid (fun W => impl_gcdS bn mn W (by omega) (by omega))
  have HM := Lib.hid hm
  have HWs := Lib.hid hws
  generalize hgd : Nat.gcd bn mn = gd at HG ⊢
  clear hw hval hws hgd
  rw [hm] at HV ⊢
  clear hm
  go_enter Tryz.func15, Tryz.ntmps15
  go_upto_region 1 with fail
  obtain ⟨q, hq⟩ : ∃ q, q = w.heap.size := ⟨_, rfl⟩
  obtain ⟨w2, hw2⟩ : ∃ W, W = (w.alloc (.cells #[.int .i64 X.base, .int .i64 mn, .int .i64 X.target, .slice a n c] 26)).alloc (.cells #[.int .i64 0, .int .i64 0, .int .i64 0, .slice none 0 0] 26) := ⟨_, rfl⟩
  have hx2 : Ext w w2 := by rw [hw2]; exact (by repeat (first | (with_reducible exact Ext.refl _) | (with_reducible refine Ext.drewN ?_ _) | (with_reducible refine Ext.drew ?_) | (with_reducible refine Ext.alloc ?_ _) | ((with_reducible refine Ext.setCell ?_ ?_ _); rotate_left; focus (first | (simp; done) | (simp; omega) | omega)) | assumption | (with_reducible refine Ext.trans ?_ (by assumption))))
  have HA := Lib.hid (show SAt w2 q 26 #[.int .i64 X.base, .int .i64 mn, .int .i64 X.target, .slice a n c] by rw [hw2, hq]; exact (SAt.new' w _ _ rfl).alloc _)
  have HZ := Lib.hid (show SAt w2 (q + 1) 26 #[.int .i64 0, .int .i64 0, .int .i64 0, .slice none 0 0] by rw [hw2, hq]; exact SAt.new' _ _ _ (by simp))
  rw [← hw2, ← hq]
  have hqw : w.heap.size ≤ q := by omega
  clear hw2 hq
  have hk : ∀ i (h : i < 4) w', Ext w2 w' → w'.cell? ⟨q, i, none⟩ = some ((#[.int .i64 X.base, .int .i64 mn, .int .i64 X.target, .slice a n c] : Array Value)[i]'h) := fun i h w' hx => hx.cell (HA.out.cell i h)
  have a0 := hk 0 (by simp)
  have a1 := hk 1 (by simp)
  have a2 := hk 2 (by simp)
  have a3 := hk 3 (by simp)
  simp only [List.getElem_toArray, List.getElem_cons_succ, List.getElem_cons_zero] at a0 a1 a2 a3
  have h22 : Ext w2 w2 := Ext.refl _
  clear hk
  by_cases hg1 : gd = 1
  rotate_left
  · have hg2 : ((gd : Int) != 1) = true := by simp; omega
    go_wp2_with (first | (go_at_call 35; (with_reducible refine (HV.out _ (hx2.trans (by repeat (first | (with_reducible exact Ext.refl _) | (with_reducible assumption) | (with_reducible refine Ext.drewN ?_ _) | (with_reducible refine Ext.drew ?_) | (with_reducible refine Ext.alloc ?_ _) | ((with_reducible refine Ext.setCell ?_ ?_ _); rotate_left; focus (first | (simp; done) | (simp; omega) | omega)) | (with_reducible refine Ext.trans ?_ (by with_reducible assumption)))))).mono ?_); rintro e w3 ⟨rfl, hy3⟩; have hx3 : Ext w2 w3 := Ext.trans (by repeat (first | (with_reducible exact Ext.refl _) | (with_reducible assumption) | (with_reducible refine Ext.drewN ?_ _) | (with_reducible refine Ext.drew ?_) | (with_reducible refine Ext.alloc ?_ _) | ((with_reducible refine Ext.setCell ?_ ?_ _); rotate_left; focus (first | (simp; done) | (simp; omega) | omega)) | (with_reducible refine Ext.trans ?_ (by with_reducible assumption)))) hy3; clear hy3) | (go_at_call 43; (with_reducible refine (HIn.out _).mono ?_); rintro e w4 ⟨rfl, rfl⟩) | (go_at_call 44; (with_reducible refine (HG.out _).mono ?_); rintro e w5 ⟨rfl, hy5⟩; have hx5 : Ext w2 w5 := hx3.trans (Ext.trans (by repeat (first | (with_reducible exact Ext.refl _) | (with_reducible assumption) | (with_reducible refine Ext.drewN ?_ _) | (with_reducible refine Ext.drew ?_) | (with_reducible refine Ext.alloc ?_ _) | ((with_reducible refine Ext.setCell ?_ ?_ _); rotate_left; focus (first | (simp; done) | (simp; omega) | omega)) | (with_reducible refine Ext.trans ?_ (by with_reducible assumption)))) hy5); have HZ5 := Lib.hid (HZ.out.ext hx5); have z0 := HZ5.out.cell 0 (by simp); have z1 := HZ5.out.cell 1 (by simp); have z2 := HZ5.out.cell 2 (by simp); have z3 := HZ5.out.cell 3 (by simp); have fr := fun j => HZ5.out.frozen j; have hltz := HZ5.out.lt; (try simp only [List.getElem_toArray, List.getElem_cons_succ, List.getElem_cons_zero] at z0 z1 z2 z3); clear hy5))
    refine bodyPost_ret (v := .tuple #[.agg #[.int .i64 0, .int .i64 0, .int .i64 0, .slice none 0 0], .bool false]) ?_ rfl ?_
    · simp [results, Tryz.results15, go_sem, z0, z1, z2, z3]
    · have hx25 : Ext w w5 := hx2.trans hx5
      refine ⟨fun h => absurd h hg1, fun _ => ⟨rfl, ?_⟩⟩
      repeat (first | with_reducible exact hx25 | with_reducible refine Ext.setCell ?_ (Nat.le_trans hqw (Nat.le_succ q)) _)
  subst hg1
  have htb := mul_bd (a := 36) (b := 36) ht.1 (by omega) (show (0 : Int) ≤ (bn : Int) by omega) (by omega)
  have htm : (X.target * (bn : Int)).tmod (mn : Int) = X.target * (bn : Int) % (mn : Int) := Int.tmod_eq_emod_of_nonneg htb.1
  have htw : IntKind.i64.wrap (X.target * (bn : Int)) = X.target * (bn : Int) := by unfold IntKind.wrap; simp [IntKind.bits, IntKind.signed]; omega
  go_upto_region 3 with (first | (go_at_call 35; (with_reducible refine (HV.out _ (hx2.trans (by repeat (first | (with_reducible exact Ext.refl _) | (with_reducible assumption) | (with_reducible refine Ext.drewN ?_ _) | (with_reducible refine Ext.drew ?_) | (with_reducible refine Ext.alloc ?_ _) | ((with_reducible refine Ext.setCell ?_ ?_ _); rotate_left; focus (first | (simp; done) | (simp; omega) | omega)) | (with_reducible refine Ext.trans ?_ (by with_reducible assumption)))))).mono ?_); rintro e w3 ⟨rfl, hy3⟩; have hx3 : Ext w2 w3 := Ext.trans (by repeat (first | (with_reducible exact Ext.refl _) | (with_reducible assumption) | (with_reducible refine Ext.drewN ?_ _) | (with_reducible refine Ext.drew ?_) | (with_reducible refine Ext.alloc ?_ _) | ((with_reducible refine Ext.setCell ?_ ?_ _); rotate_left; focus (first | (simp; done) | (simp; omega) | omega)) | (with_reducible refine Ext.trans ?_ (by with_reducible assumption)))) hy3; clear hy3) | (go_at_call 43; (with_reducible refine (HIn.out _).mono ?_); rintro e w4 ⟨rfl, rfl⟩) | (go_at_call 44; (with_reducible refine (HG.out _).mono ?_); rintro e w5 ⟨rfl, hy5⟩; have hx5 : Ext w2 w5 := hx3.trans (Ext.trans (by repeat (first | (with_reducible exact Ext.refl _) | (with_reducible assumption) | (with_reducible refine Ext.drewN ?_ _) | (with_reducible refine Ext.drew ?_) | (with_reducible refine Ext.alloc ?_ _) | ((with_reducible refine Ext.setCell ?_ ?_ _); rotate_left; focus (first | (simp; done) | (simp; omega) | omega)) | (with_reducible refine Ext.trans ?_ (by with_reducible assumption)))) hy5); clear hy5))
  have HA5 := Lib.hid (HA.out.ext hx5)
  have HZ5 := Lib.hid (HZ.out.ext hx5)
  have hx05 : Ext w w5 := hx2.trans hx5
  have hlq5 := HA5.out.lt
  have hlz5 := HZ5.out.lt
  have hB2 := hx5.le
  have b1 := HA5.out.cell 1 (by simp)
  have b2 := HA5.out.cell 2 (by simp)
  have b3 := HA5.out.cell 3 (by simp)
  have f5 := fun j => HA5.out.frozen j
  have hmn0 : ¬ mn = 0 := by omega
  simp only [List.getElem_toArray, List.getElem_cons_succ, List.getElem_cons_zero] at b1 b2 b3
  clear a0 a1 a2 a3 HA HZ
  obtain ⟨tb, htb'⟩ : ∃ tb, tb = X.target * (bn : Int) % (mn : Int) := ⟨_, rfl⟩
  have HTb := Lib.hid htb'
  have hq15 : q + 1 ≠ q := by omega
  go_cut [35] from 26 to 37 (fun s35 wx => CutS q X mn tb n w5.heap.size w s35 wx)
  case first =>
    go_region_law (first | (go_simp; go_at_call 39; (with_reducible refine (HC.out _ (hx05.trans (by repeat (first | (with_reducible exact Ext.refl _) | (with_reducible assumption) | (with_reducible refine Ext.drewN ?_ _) | (with_reducible refine Ext.drew ?_) | (with_reducible refine Ext.alloc ?_ _) | ((with_reducible refine Ext.setCell ?_ ?_ _); rotate_left; focus (first | (simp; done) | (simp; omega) | omega)) | (with_reducible refine Ext.trans ?_ (by with_reducible assumption)))))).mono ?_); rintro e w6 ⟨a', c', rfl, ho6, hy6, _⟩; rw [I_len, HL.out] at ho6 ⊢; have hx6 : Ext w5 w6 := Ext.trans (by repeat (first | (with_reducible exact Ext.refl _) | (with_reducible assumption) | (with_reducible refine Ext.drewN ?_ _) | (with_reducible refine Ext.drew ?_) | (with_reducible refine Ext.alloc ?_ _) | ((with_reducible refine Ext.setCell ?_ ?_ _); rotate_left; focus (first | (simp; done) | (simp; omega) | omega)) | (with_reducible refine Ext.trans ?_ (by with_reducible assumption)))) hy6; have HO6 := Lib.hid (ho6.mono (show w5.heap.size ≤ _ from Ext.le (by repeat (first | (with_reducible exact Ext.refl _) | (with_reducible assumption) | (with_reducible refine Ext.drewN ?_ _) | (with_reducible refine Ext.drew ?_) | (with_reducible refine Ext.alloc ?_ _) | ((with_reducible refine Ext.setCell ?_ ?_ _); rotate_left; focus (first | (simp; done) | (simp; omega) | omega)) | (with_reducible refine Ext.trans ?_ (by with_reducible assumption)))))); have HA6 := Lib.hid (HA5.out.ext hx6); have c1 := HA6.out.cell 1 (by simp); have c2 := HA6.out.cell 2 (by simp); have c3 := HA6.out.cell 3 (by simp); have f6 := fun j => HA6.out.frozen j; have l6 := HA6.out.lt; (try simp only [List.getElem_toArray, List.getElem_cons_succ, List.getElem_cons_zero] at c1 c2 c3); clear ho6 hy6))
    all_goals (go_wp2_with fail; go_meet)
    all_goals rw [← htb']
    all_goals exact ⟨a', c', rfl, (HA6.out.set 2 _).set 3 _, ((HZ5.out.ext hx6).other _ (by simp only; omega)).other _ (by simp only; omega), (HO6.out.setBelow hlq5 _).setBelow hlq5 _, Ext.setCell (Ext.setCell (hx05.trans hx6) hqw _) hqw _⟩
  case rest =>
    clear b1 b2 b3 f5 htb' htm htw htb
    rename World => wx
    obtain ⟨a', c', rfl, hA, hZ, hO, hx⟩ := hcut
    have c3 := hA.cell 3 (by simp)
    simp only [List.getElem_toArray, List.getElem_cons_succ, List.getElem_cons_zero] at c3
    obtain ⟨g, rfl⟩ := ownY_some hO (by omega)
    have HAx := Lib.hid hA
    have HZx := Lib.hid hZ
    have HOx := Lib.hid (show Own wx w5.heap.size 2 (some ⟨g, 0, none⟩) n c' (I (scaL mn bn X.weights 0)) by rw [scaL_zero]; exact hO)
    have hgq : w5.heap.size ≤ g := hO.lt.1
    have hgw : w.heap.size ≤ g := Nat.le_trans hx05.le hgq
    clear hA hZ hO
    go_wp2
    go_loopw [41] (fun v41 wr => ∃ (k : Nat), k ≤ n ∧ v41 = .int .i64 k ∧ Hid (Own wr w5.heap.size 2 (some ⟨g, 0, none⟩) n c' (I (scaL mn bn X.weights k))) ∧ Hid (SAt wr q 26 #[.int .i64 X.base, .int .i64 mn, .int .i64 tb, .slice (some ⟨g, 0, none⟩) n c']) ∧ Hid (SAt wr (q + 1) 26 #[.int .i64 0, .int .i64 0, .int .i64 0, .slice none 0 0]) ∧ Ext w wr) (fun v41 _ => n - (intOf v41).toNat)
    case atStart => exact ⟨0, Nat.zero_le _, rfl, HOx.out, HAx.out, HZx.out, hx⟩
    case round =>
      clear HOx HAx HZx hx c3
      obtain ⟨k, hk, rfl, HO, HA, HZ, hx⟩ := hrel
      by_cases hlt : k < n
      · obtain ⟨f1, f2, f4⟩ := own_oneJ HO.out (P := Tryz.prog) 24 und_int64s cell_int64 k hlt (x := (k : Int)) rfl
        have hkl : k < X.weights.length := by rw [HL.out]; exact hlt
        have HS := Lib.hid (scaL_set (m := (mn : Int)) (b := (bn : Int)) (l := X.weights) (k := k) hkl)
        rw [scaL_gi hkl] at f2
        have hbd := HWs.out (gi X.weights k) (gi_mem hkl)
        have hpb := mul_bd (a := 36) (b := 36) hbd.1 (by omega) (show (0 : Int) ≤ (bn : Int) by omega) (by omega)
        have hptm : (gi X.weights k * (bn : Int)).tmod (mn : Int) = gi X.weights k * (bn : Int) % (mn : Int) := Int.tmod_eq_emod_of_nonneg hpb.1
        have hpw : IntKind.i64.wrap (gi X.weights k * (bn : Int)) = gi X.weights k * (bn : Int) := by unfold IntKind.wrap; simp [IntKind.bits, IntKind.signed]; omega
        have hgl := HO.out.lt.2
        have d1 : ∀ w', Ext wr w' → w'.cell? ⟨q, 1, none⟩ = some (.int .i64 mn) := fun w' h => h.cell (HA.out.cell 1 (by simp))
        have d3 : ∀ w', Ext wr w' → w'.cell? ⟨q, 3, none⟩ = some (.slice (some ⟨g, 0, none⟩) n c') := fun w' h => h.cell (HA.out.cell 3 (by simp))
        have d33 := d3 wr (Ext.refl _)
        have hrr : Ext wr wr := Ext.refl _
        have hqg : q ≠ g := by omega
        have hzg : q + 1 ≠ g := by omega
        clear hbd hpb
        generalize gi X.weights k = x at *
        go_wp2
        (refine wp_region_upl 14 wr (by repeat (first | (with_reducible exact Ext.refl _) | (with_reducible refine Ext.drewN ?_ _) | (with_reducible refine Ext.drew ?_) | (with_reducible refine Ext.alloc ?_ _) | ((with_reducible refine Ext.setCell ?_ ?_ _); rotate_left; focus (first | (simp; done) | (simp; omega) | omega)) | assumption | (with_reducible refine Ext.trans ?_ (by assumption)))) rfl (by kernel_rfl) (by kernel_rfl) (seqB_of (by kernel_rfl)) (lastB_of (by kernel_rfl)) ?_; simp only [List.take_succ_cons, List.take_zero, List.drop_succ_cons, List.drop_zero]; (repeat (first | (refine mix_q rfl ?_; go_big_quiet_step (fail); refine wpQuiet_nil ?_; show wpMix _ _ _ _ _ _ _) | (refine mix_s rfl ?_; go_wp2_with (fail); first | refine ⟨up_of (by repeat (first | (with_reducible exact Ext.refl _) | (with_reducible refine Ext.drewN ?_ _) | (with_reducible refine Ext.drew ?_) | (with_reducible refine Ext.alloc ?_ _) | ((with_reducible refine Ext.setCell ?_ ?_ _); rotate_left; focus (first | (simp; done) | (simp; omega) | omega)) | assumption | (with_reducible refine Ext.trans ?_ (by assumption)))), ?_⟩ | refine ⟨rfl, rfl, up_of (by repeat (first | (with_reducible exact Ext.refl _) | (with_reducible refine Ext.drewN ?_ _) | (with_reducible refine Ext.drew ?_) | (with_reducible refine Ext.alloc ?_ _) | ((with_reducible refine Ext.setCell ?_ ?_ _); rotate_left; focus (first | (simp; done) | (simp; omega) | omega)) | assumption | (with_reducible refine Ext.trans ?_ (by assumption)))), ?_⟩))); refine mix_nil ?_)
        go_wp2
        refine ⟨⟨k + 1, by omega, by go_num, ?_, (HA.out.other (p := ⟨g, k, none⟩) _ hqg).drew, (HZ.out.other (p := ⟨g, k, none⟩) _ hzg).drew, (Ext.setCell hx hgw _).drew⟩, by simp [intOf]; omega⟩
        have h9 := HO.out.set k (.int .i64 (x * (bn : Int) % (mn : Int)))
        rw [I_set, HS.out] at h9
        exact h9
      · obtain rfl : k = n := by omega
        have hO := HO.out
        rw [scaL_full (by rw [HL.out]; exact Nat.le_refl _)] at hO
        have a0 := HA.out.cell 0 (by simp)
        have a1 := HA.out.cell 1 (by simp)
        have a2 := HA.out.cell 2 (by simp)
        have a3 := HA.out.cell 3 (by simp)
        have z0 := HZ.out.cell 0 (by simp)
        have z1 := HZ.out.cell 1 (by simp)
        have z2 := HZ.out.cell 2 (by simp)
        have z3 := HZ.out.cell 3 (by simp)
        have fr := fun j => HZ.out.frozen j
        have hltz := HZ.out.lt
        simp only [List.getElem_toArray, List.getElem_cons_succ, List.getElem_cons_zero] at a0 a1 a2 a3 z0 z1 z2 z3
        go_wp2
        refine bodyPost_ret (v := .tuple #[.agg #[.int .i64 X.base, .int .i64 mn, .int .i64 tb, .slice (some ⟨g, 0, none⟩) k c'], .bool true]) ?_ rfl ?_
        · simp [results, Tryz.results15, go_sem, z0, z1, z2, z3]
        · refine ⟨some ⟨g, 0, none⟩, k, c', ?_, Own.ints (B := w5.heap.size) (E := 2) ?_, ?_⟩
          · unfold scaX; rw [HM.out, HTb.out]
          · show Own _ w5.heap.size 2 (some ⟨g, 0, none⟩) k c' (I (X.weights.map fun x => x * (bn : Int) % X.modulus))
            rw [HM.out]
            repeat (first | with_reducible exact hO | (with_reducible refine Own.setBelow ?_ ?_ _; rotate_left; (focus exact hlz5)))
          · repeat (first | with_reducible exact hx | with_reducible refine Ext.setCell ?_ (Nat.le_trans hqw (Nat.le_succ q)) _)
end Go.Proofs.YtgnlabdikmbbgaaGreatDoor
