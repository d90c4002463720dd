/- Walks: the lightest word of a pair. -/
import Derived.Test.YtlpbflmgkopklaaPair
import Derived.Test.YtlpbflmgkopklaaLm2
namespace Go.Proofs.Ytlpbflmgkopklaa
set_option maxRecDepth 100000
open Go.RowKit

theorem impl_oneIfP (b : Bool) (w : World) : Calls Try.prog 77 #[.bool b] w (Same (.int .i64 (if b then 1 else 0)) w) := by
  cases b
  · go_enter Try.func77, Try.ntmps77
    go_wp2_with fail
    go_ret
    exact ⟨rfl, rfl⟩
  · go_enter Try.func77, Try.ntmps77
    go_wp2_with fail
    go_ret
    exact ⟨rfl, rfl⟩
/-- the trial of lightest -/
def LightPost (m n : Nat) (one two d : List Int) (z : Int) (p7 : Nat) (W : World) (e : Ending) (W' : World) : Prop :=
  e = .returned (.bool true) ∧ ∃ q, ((decide (0 < nz d n) && (decide (nz d n < z) && ofP m one two d n)) = true ∧ W' = (W.drewN q).setCell ⟨p7, 0, none⟩ (.int .i64 (nz d n))) ∨ ((decide (0 < nz d n) && (decide (nz d n < z) && ofP m one two d n)) = false ∧ W' = W.drewN q)
set_option maxHeartbeats 2000000 in
theorem light1 (p7 p3 p4 p5 g m n : Nat) (z : Int) (a1 a2 : Option Addr) (c1 c2 : Nat) (one two d : List Int) (W : World) (h7 : VarAt W p7 2 (.int .i64 z)) (h3 : VarAt W p3 2 (.int .i64 m)) (h4 : VarAt W p4 22 (.slice a1 n c1)) (h5 : VarAt W p5 22 (.slice a2 n c2))
    (h1 : Ints W a1 n c1 one) (h2 : Ints W a2 n c2 two) (hd : Ints W (some ⟨g, 0, none⟩) n n d) (hn : n ≤ 20) (hm : 1 ≤ m) (hm2 : m ≤ 36) (s1 : Small one) (s2 : Small two) (s3 : Small d) :
    Calls Try.prog 76 (#[.slice (some ⟨g, 0, none⟩) n n] ++ #[.pointer (some ⟨p7, 0, none⟩), .pointer (some ⟨p3, 0, none⟩), .pointer (some ⟨p4, 0, none⟩), .pointer (some ⟨p5, 0, none⟩)]) W (LightPost m n one two d z p7 W) := by
  have HOf := Lib.hid (fun W' (h : Ext W W') => impl_ofPair m n a1 a2 (some ⟨g, 0, none⟩) c1 c2 n one two d W' (h1.ext h) (h2.ext h) (hd.ext h) hn hm hm2 s1 s2 s3)
  have k3 : ∀ w', Ext W w' → w'.cell? ⟨p3, 0, none⟩ = some (.int .i64 m) := fun w' h => (h3.ext h).cell
  have k4 : ∀ w', Ext W w' → w'.cell? ⟨p4, 0, none⟩ = some (.slice a1 n c1) := fun w' h => (h4.ext h).cell
  have k5 : ∀ w', Ext W w' → w'.cell? ⟨p5, 0, none⟩ = some (.slice a2 n c2) := fun w' h => (h5.ext h).cell
  have k7 : ∀ w', Ext W w' → w'.cell? ⟨p7, 0, none⟩ = some (.int .i64 z) := fun w' h => (h7.ext h).cell
  have f7 : ∀ w', Ext W w' → w'.frozen? ⟨p7, 0, none⟩ = false := fun w' h => (h7.ext h).frozen
  have l7 : ∀ w', Ext W w' → p7 < w'.heap.size := fun w' h => (h7.ext h).lt
  have HD := Lib.hid hd
  clear h7 h3 h4 h5 h1 h2 hd s1 s2 s3
  go_enter Try.func76, Try.ntmps76
  go_wp2_with fail
  go_loop [7, 9, 12] (fun s7 _ s12 => ∃ (k : Nat) (x : Int), k ≤ n ∧ s12 = .int .i64 k ∧ s7 = .int .i64 x ∧ 0 ≤ x ∧ x ≤ k ∧ Hid (x = nz d k)) (fun _ _ s12 => n - (intOf s12).toNat)
  case atStart => exact ⟨0, 0, Nat.zero_le _, rfl, rfl, by omega, by omega, rfl⟩
  case round =>
    obtain ⟨k, x, hk, rfl, rfl, hx0, hx1, HX⟩ := hrel
    by_cases hlt : k < n
    · obtain ⟨b3, o3, i3, e3⟩ := HD.out.at 22 2 und_int64s cell_int64 k hlt .i64
      have HN := Lib.hid (show nz d (k + 1) = x + (if (d.getD k 0 != 0) then 1 else 0) by
        rw [nz_step, HX.out]
        show nz d k + (if d.getD k 0 = 0 then 0 else 1) = nz d k + (if (d.getD k 0 != 0) = true then 1 else 0)
        by_cases h : d.getD k 0 = 0
        · rw [h]; rfl
        · rw [if_neg h, if_pos (by simpa using h)])
      generalize d.getD k 0 = y at *
      by_cases hy : y = 0
      · subst hy
        have HN2 := Lib.hid (show nz d (k + 1) = x + 0 from HN.out)
        go_wp2_with (go_at_call 77; refine (impl_oneIfP _ _).mono ?_; rintro e w' ⟨rfl, rfl⟩)
        exact ⟨⟨k + 1, x + 0, by omega, by go_num, by first | rfl | (simp; done), by omega, by omega, HN2.out.symm⟩, by simp [intOf]; omega⟩
      · have hyb : (y != 0) = true := by simpa using hy
        have HN2 := Lib.hid (show nz d (k + 1) = x + 1 by rw [HN.out, hyb]; rfl)
        clear hy
        go_wp2_with (go_at_call 77; refine (impl_oneIfP _ _).mono ?_; rintro e w' ⟨rfl, rfl⟩)
        exact ⟨⟨k + 1, x + 1, by omega, by go_num, by first | rfl | (simp [hyb]; done), by omega, by omega, HN2.out.symm⟩, by simp [intOf]; omega⟩
    · obtain rfl : n = k := by omega
      clear HD
      by_cases hp : 0 < x
      rotate_left
      · have HR := Lib.hid (show (decide (0 < nz d n) && (decide (nz d n < z) && ofP m one two d n)) = false by rw [← HX.out, decide_eq_false hp]; rfl)
        go_wp2_with fail
        go_ret
        exact ⟨rfl, 0, .inr ⟨HR.out, rfl⟩⟩
      by_cases hz : x < z
      rotate_left
      · have HR := Lib.hid (show (decide (0 < nz d n) && (decide (nz d n < z) && ofP m one two d n)) = false by rw [← HX.out, decide_eq_false hz]; simp)
        go_wp2_with fail
        go_ret
        exact ⟨rfl, 0, .inr ⟨HR.out, rfl⟩⟩
      obtain ⟨y, hy⟩ : ∃ y, y = ofP m one two d n := ⟨_, rfl⟩
      have HR := Lib.hid (show (decide (0 < nz d n) && (decide (nz d n < z) && ofP m one two d n)) = y by rw [← HX.out, decide_eq_true hp, decide_eq_true hz, hy]; rfl)
      rw [← hy] at HOf
      clear hy
      cases y
      · go_wp2_with ((with_reducible refine (HOf.out _ (by repeat (first | (with_reducible exact Ext.refl _) | (with_reducible assumption) | (with_reducible refine Ext.drewN ?_ _) | (with_reducible refine Ext.drew ?_) | (with_reducible refine Ext.alloc ?_ _) | ((with_reducible refine Ext.setCell ?_ ?_ _); rotate_left; focus (first | (simp; done) | (simp; omega) | omega)) | (with_reducible refine Ext.trans ?_ (by with_reducible assumption))))).mono ?_); rintro e w9 ⟨rfl, q, rfl⟩)
        go_ret
        exact ⟨rfl, q, .inr ⟨HR.out, rfl⟩⟩
      · go_wp2_with ((with_reducible refine (HOf.out _ (by repeat (first | (with_reducible exact Ext.refl _) | (with_reducible assumption) | (with_reducible refine Ext.drewN ?_ _) | (with_reducible refine Ext.drew ?_) | (with_reducible refine Ext.alloc ?_ _) | ((with_reducible refine Ext.setCell ?_ ?_ _); rotate_left; focus (first | (simp; done) | (simp; omega) | omega)) | (with_reducible refine Ext.trans ?_ (by with_reducible assumption))))).mono ?_); rintro e w9 ⟨rfl, q, rfl⟩)
        go_ret
        exact ⟨rfl, q, .inl ⟨HR.out, by rw [← HX.out]⟩⟩
set_option maxHeartbeats 4000000 in
theorem impl_lightest (m n : Nat) (a1 a2 : Option Addr) (c1 c2 : Nat) (one two : List Int) (w : World) (h1 : Ints w a1 n c1 one) (h2 : Ints w a2 n c2 two) (hn : n ≤ 20) (hm : 1 ≤ m) (hm2 : m ≤ 36) (s1 : Small one) (s2 : Small two) :
    Calls Try.prog 47 #[.int .i64 m, .slice a1 n c1, .slice a2 n c2] w (Ret (.int .i64 (farI (apF m n one two (m ^ n)))) w) := by
  obtain ⟨wb, hwb⟩ : ∃ wb, wb = ((w.alloc (.cells #[.int .i64 m] 2)).alloc (.cells #[.slice a1 n c1] 22)).alloc (.cells #[.slice a2 n c2] 22) := ⟨_, rfl⟩
  have hxb : Ext w wb := by rw [hwb]; exact (by repeat (first | (with_reducible exact Ext.refl _) | (with_reducible refine Ext.drewN ?_ _) | (with_reducible refine Ext.drew ?_) | (with_reducible refine Ext.alloc ?_ _) | ((with_reducible refine Ext.setCell ?_ ?_ _); rotate_left; focus (first | (simp; done) | (simp; omega) | omega)) | assumption | (with_reducible refine Ext.trans ?_ (by assumption))))
  have hbs : wb.heap.size = w.heap.size + 3 := by rw [hwb]; simp
  have HP3 := Lib.hid (show VarAt wb w.heap.size 2 (.int .i64 m) by rw [hwb]; exact ((VarAt.new w _ _).ext ((Ext.refl _).alloc _)).ext ((Ext.refl _).alloc _))
  have HP4 := Lib.hid (show VarAt wb (w.heap.size + 1) 22 (.slice a1 n c1) by
    rw [hwb]
    have h := VarAt.new (w.alloc (.cells #[.int .i64 m] 2)) 22 (.slice a1 n c1)
    rw [show (w.alloc (.cells #[.int .i64 m] 2)).heap.size = w.heap.size + 1 by simp] at h
    exact h.ext ((Ext.refl _).alloc _))
  have HP5 := Lib.hid (show VarAt wb (w.heap.size + 1 + 1) 22 (.slice a2 n c2) by
    rw [hwb]
    have h := VarAt.new ((w.alloc (.cells #[.int .i64 m] 2)).alloc (.cells #[.slice a1 n c1] 22)) 22 (.slice a2 n c2)
    rwa [show ((w.alloc (.cells #[.int .i64 m] 2)).alloc (.cells #[.slice a1 n c1] 22)).heap.size = w.heap.size + 1 + 1 by simp] at h)
  have k3 : wb.cell? ⟨w.heap.size, 0, none⟩ = some (.int .i64 m) := HP3.out.cell
  have k4 : wb.cell? ⟨w.heap.size + 1, 0, none⟩ = some (.slice a1 n c1) := HP4.out.cell
  obtain ⟨wS, hwS⟩ : ∃ wS, wS = wb.alloc (.cells #[.int .i64 1099511627776] 2) := ⟨_, rfl⟩
  have hxS : Ext wb wS := by rw [hwS]; exact (by repeat (first | (with_reducible exact Ext.refl _) | (with_reducible refine Ext.drewN ?_ _) | (with_reducible refine Ext.drew ?_) | (with_reducible refine Ext.alloc ?_ _) | ((with_reducible refine Ext.setCell ?_ ?_ _); rotate_left; focus (first | (simp; done) | (simp; omega) | omega)) | assumption | (with_reducible refine Ext.trans ?_ (by assumption))))
  have hSs : wS.heap.size = wb.heap.size + 1 := by rw [hwS]; simp
  have q3 : wS.cell? ⟨w.heap.size, 0, none⟩ = some (.int .i64 m) := (HP3.out.ext hxS).cell
  have q4 : wS.cell? ⟨w.heap.size + 1, 0, none⟩ = some (.slice a1 n c1) := (HP4.out.ext hxS).cell
  have hb3 : w.heap.size + 1 + 1 + 1 = wb.heap.size := by omega
  have HP7 := Lib.hid (show VarAt wS (w.heap.size + 1 + 1 + 1) 2 (.int .i64 (farI (apF m n one two 0))) by rw [show farI (apF m n one two 0) = 1099511627776 by simp [apF, farI], hwS, hb3]; exact VarAt.new wb _ _)
  have HT := Lib.hid (impl_tuples m n 76 #[.pointer (some ⟨w.heap.size + 1 + 1 + 1, 0, none⟩), .pointer (some ⟨w.heap.size, 0, none⟩), .pointer (some ⟨w.heap.size + 1, 0, none⟩), .pointer (some ⟨w.heap.size + 1 + 1, 0, none⟩)]
    (fun t W => Ext wb W ∧ VarAt W (w.heap.size + 1 + 1 + 1) 2 (.int .i64 (farI (apF m n one two t)))) (fun _ => False) wS (by omega) (by omega) (by omega) (fun _ _ => rfl)
    (fun W ht => ⟨hxS.trans (touch_ext ht), HP7.out.ext (touch_ext ht)⟩)
    (fun t W W' h ht => ⟨⟨ht.os.trans h.1.os, ht.tape.trans h.1.tape, ht.output.trans h.1.output, Nat.le_trans h.1.size ht.size, fun k hk => (ht.block k (Nat.lt_of_lt_of_le hk h.1.size) (by omega)).trans (h.1.block k hk)⟩, (ht.block _ h.2.lt (by omega)).trans h.2⟩)
    (fun t W ht h ho => by
      have hxW := hxb.trans h.1
      refine (light1 (w.heap.size + 1 + 1 + 1) w.heap.size (w.heap.size + 1) (w.heap.size + 1 + 1) wS.heap.size m n (farI (apF m n one two t)) a1 a2 c1 c2 one two (tupAt m n t) W h.2 (HP3.out.ext h.1) (HP4.out.ext h.1) (HP5.out.ext h.1) (h1.ext hxW) (h2.ext hxW) ho.ints hn hm hm2 s1 s2 (tup_small (by omega) hm2 ht)).mono ?_
      rintro e W' ⟨rfl, q, hu⟩
      left
      have hlt := ho.lt.2
      have hcond : (decide (0 < nz (tupAt m n t) n) && (decide (nz (tupAt m n t) n < farI (apF m n one two t)) && ofP m one two (tupAt m n t) n)) = (decide (0 < nz (tupAt m n t) n) && ofP m one two (tupAt m n t) n && (decide (apF m n one two t = 0) || decide (nz (tupAt m n t) n < apF m n one two t))) := by
        have h := apF_far (m := m) (n := n) (one := one) (two := two) (t := t) (by omega)
        rw [← Bool.and_assoc, h]
        cases ofP m one two (tupAt m n t) n <;> simp
      rw [hcond] at hu
      rcases hu with ⟨hu, rfl⟩ | ⟨hu, rfl⟩
      · have e : apF m n one two (t + 1) = nz (tupAt m n t) n := by rw [apF, if_pos hu]
        have hpos : 0 < nz (tupAt m n t) n := by simp only [Bool.and_eq_true, decide_eq_true_eq] at hu; exact hu.1.1
        have ef : farI (apF m n one two (t + 1)) = nz (tupAt m n t) n := by rw [e]; unfold farI; rw [if_neg (by omega)]
        refine ⟨rfl, ⟨(h.1.drewN q).setCell (by show wb.heap.size ≤ w.heap.size + 1 + 1 + 1; omega) _, by rw [ef]; exact (h.2.ext ((Ext.refl W).drewN q)).set _⟩, ?_⟩
        exact Below.heap_setCell _ _ _ _ (show wS.heap.size ≠ w.heap.size + 1 + 1 + 1 by omega)
      · have e : apF m n one two (t + 1) = apF m n one two t := by rw [apF, if_neg (by rw [hu]; simp)]
        exact ⟨rfl, ⟨h.1.drewN q, by rw [e]; exact h.2.ext ((Ext.refl W).drewN q)⟩, rfl⟩))
  have HWb := Lib.hid hwb
  have HWs := Lib.hid hwS
  clear h1 h2 hwb hwS hb3 hbs hSs
  go_enter Try.func47, Try.ntmps47
  go_wp2_with fail
  rw [← HWb.out, ← HWs.out]
  refine HT.out.mono ?_
  rintro e w2 ⟨rfl, hf | hf⟩
  · have hx2 := hf.1
    have hcell := hf.2.cell
    generalize farI (apF m n one two (m ^ n)) = z at *
    go_wp2_with fail
    go_ret
    exact ⟨rfl, hxb.trans hx2⟩
  · exact hf.elim
end Go.Proofs.Ytlpbflmgkopklaa
