/- Plain, walks: words of a pair of sums; the least number of symbols but 0 of such a word. -/
import Derived.Test.YtaiieodllhoelaaDraw
import Derived.Test.YtaiieodllhoelaaCor
import Derived.Test.YtaiieodllhoelaaMix2
import Derived.Test.YtaiieodllhoelaaNext
import Derived.Test.YtaiieodllhoelaaSAt
namespace Go.Proofs.Ytaiieodllhoelaa
set_option maxRecDepth 100000
open Go.RowKit

/-- how many numbers are not 0 -/
def nz (x : List Int) (k : Nat) : Int := S k fun i => if gi x i = 0 then 0 else 1
theorem nz_bd (x : List Int) (k : Nat) : 0 ≤ nz x k ∧ nz x k ≤ k := by
  have := S_bd (n := k) (f := fun i => if gi x i = 0 then 0 else 1) (c := 1) fun i _ => by split <;> omega
  unfold nz; omega
theorem nz_step (x : List Int) (k : Nat) : nz x (k + 1) = nz x k + if gi x k = 0 then 0 else 1 := rfl
/-- the least number of symbols but 0 of the first t words; 0 without one -/
def apF (m n : Nat) (one two : List Int) : Nat → Int
  | 0 => 0
  | t + 1 => if (decide (0 < nz (tupAt m n t) n) && ofP m one two (tupAt m n t) n && (decide (apF m n one two t = 0) || decide (nz (tupAt m n t) n < apF m n one two t))) = true then nz (tupAt m n t) n else apF m n one two t
theorem apF_bd (m n : Nat) (one two : List Int) : ∀ t, 0 ≤ apF m n one two t ∧ apF m n one two t ≤ n
  | 0 => by simp [apF]
  | t + 1 => by
    have h1 := apF_bd m n one two t
    have h2 := nz_bd (tupAt m n t) n
    rw [apF]
    split <;> omega
def farI (z : Int) : Int := if z = 0 then 1099511627776 else z
theorem apF_far {m n : Nat} {one two : List Int} {t : Nat} (hn : n ≤ 1000) : (decide (0 < nz (tupAt m n t) n) && (decide (nz (tupAt m n t) n < farI (apF m n one two t)))) = (decide (0 < nz (tupAt m n t) n) && (decide (apF m n one two t = 0) || decide (nz (tupAt m n t) n < apF m n one two t))) := by
  have h1 := apF_bd m n one two t
  have h2 := nz_bd (tupAt m n t) n
  rw [Bool.eq_iff_iff]
  unfold farI
  split <;> simp [*] <;> omega
theorem zero_tup {m : Nat} (hm : 0 < m) : ∀ {n t : Nat}, t < m ^ n → (∀ x ∈ tupAt m n t, x = 0) → t = 0
  | 0, t, ht, _ => by simpa using ht
  | n + 1, t, ht, h => by
    have hp : 0 < m ^ n := Nat.pow_pos hm
    have h1 := h _ (List.mem_cons_self ..)
    have h2 := zero_tup hm (Nat.mod_lt t hp) (fun x hx => h x (List.mem_cons_of_mem _ hx))
    have h3 := Nat.div_add_mod t (m ^ n)
    have h4 : t / m ^ n = 0 := by exact_mod_cast h1
    rw [h4, h2] at h3
    omega
theorem nz_zero {x : List Int} {n : Nat} (hl : x.length = n) (h : ¬ 0 < nz x n) : ∀ y ∈ x, y = 0 := fun y hy => by
  obtain ⟨i, hi, rfl⟩ := List.mem_iff_getElem.1 hy
  rcases Decidable.em (gi x i = 0) with e | e
  · rw [← gi_get hi]; exact e
  · have := S_one (n := n) (f := fun i => if gi x i = 0 then 0 else 1) (fun i _ => by split <;> omega) (k := i) (by omega)
    simp only [if_neg e] at this
    unfold nz at h
    omega
theorem nz_pos {m n t : Nat} (hm : 0 < m) (ht : t < m ^ n) (h0 : 0 < t) : 0 < nz (tupAt m n t) n := by
  rcases Decidable.em (0 < nz (tupAt m n t) n) with h | h
  · exact h
  · have := zero_tup hm ht (nz_zero (tupAt_len m n t) h); omega
theorem tup_small {m n t : Nat} (hm : 0 < m) (hm36 : m ≤ 36) (ht : t < m ^ n) : Small (tupAt m n t) := fun x hx => by have := tupAt_bd hm ht x hx; omega
end Go.Proofs.Ytaiieodllhoelaa

/- Walks: the lightest word of a pair. -/
namespace Go.Proofs.Ytaiieodllhoelaa
set_option maxRecDepth 100000
open Go.RowKit

theorem Touch.cell {g : Nat} {w w' : World} (h : Touch g w w') {p : Addr} {v : Value} (hp : w.cell? p = some v) (hg : p.block ≠ g) : w'.cell? p = some v :=
  (World.cell?_of_block (w := w) (h.block p.block (World.block_lt_of_cell? _ _ hp) hg)).trans hp
theorem Touch.frozen {g : Nat} {w w' : World} (h : Touch g w w') {p : Addr} (hp : p.block < w.heap.size) (hg : p.block ≠ g) : w'.frozen? p = w.frozen? p :=
  World.frozen?_of_block (w := w) (h.block p.block hp hg)
theorem Own.touch {w w' : World} {B : Nat} {E : TypeId} {a : Option Addr} {n c g : Nat} {vs : List Value} (h : Own w B E a n c vs) (ht : Touch g w w') (hB : g < B) : Own w' B E a n c vs := by
  refine ⟨h.1, ?_⟩
  rcases h.2 with h2 | ⟨g', cap, cur, hv, hB', hg, r⟩
  · exact .inl h2
  · exact .inr ⟨g', cap, cur, hv, hB', by rw [ht.block g' (Array.getElem?_eq_some_iff.1 hg).1 (by omega)]; exact hg, r⟩
def BestIs (wr : World) (g : Nat) (o : Option (List Int)) (sa : Option Addr) (sn sc : Nat) : Prop :=
  match o with
  | none => sa = none ∧ sn = 0 ∧ sc = 0
  | some l => sa ≠ none ∧ sn = l.length ∧ Own wr (g + 1) 2 sa sn sc (I l)

theorem BestIs.touch {wr wr' : World} {g : Nat} {o : Option (List Int)} {sa : Option Addr} {sn sc : Nat} (h : BestIs wr g o sa sn sc) (ht : Touch g wr wr') : BestIs wr' g o sa sn sc := by
  cases o with
  | none => exact h
  | some l => exact ⟨h.1, h.2.1, h.2.2.touch ht (by omega)⟩
theorem BestIs.ext {wr wr' : World} {g : Nat} {o : Option (List Int)} {sa : Option Addr} {sn sc : Nat} (h : BestIs wr g o sa sn sc) (ht : Ext wr wr') : BestIs wr' g o sa sn sc := by
  cases o with
  | none => exact h
  | some l => exact ⟨h.1, h.2.1, h.2.2.ext ht⟩
theorem BestIs.set {wr : World} {g : Nat} {o : Option (List Int)} {sa : Option Addr} {sn sc : Nat} (h : BestIs wr g o sa sn sc) {p : Addr} (hp : p.block < g + 1) (u : Value) : BestIs (wr.setCell p u) g o sa sn sc := by
  cases o with
  | none => exact h
  | some l => exact ⟨h.1, h.2.1, h.2.2.setBelow hp u⟩

theorem touch_ext {w w' : World} (h : Touch w.heap.size w w') : Ext w w' := ⟨h.os, h.tape, h.output, h.size, fun k hk => h.block k hk (by omega)⟩
theorem ext_touch {w w1 w2 : World} (hx : Ext w w1) (h : Touch w.heap.size w1 w2) : Ext w w2 :=
  ⟨h.os.trans hx.os, h.tape.trans hx.tape, h.output.trans hx.output, Nat.le_trans hx.size h.size, fun k hk => (h.block k (Nat.lt_of_lt_of_le hk hx.size) (by omega)).trans (hx.block k hk)⟩

theorem impl_oneIfP (b : Bool) (w : World) : Calls Try.prog 153 #[.bool b] w (Same (.int .i64 (if b then 1 else 0)) w) := by
  cases b
  · go_enter Try.func153, Try.ntmps153
    go_wp2_with fail
    go_ret
    exact ⟨rfl, rfl⟩
  · go_enter Try.func153, Try.ntmps153
    go_wp2_with fail
    go_ret
    exact ⟨rfl, rfl⟩
/-- the trial of lightest -/
def LightPost (m n : Nat) (one two d : List Int) (z : Int) (p7 : Nat) (W : World) (e : Ending) (W' : World) : Prop :=
  e = .returned (.bool true) ∧ ∃ q, ((decide (0 < nz d n) && (decide (nz d n < z) && ofP m one two d n)) = true ∧ W' = (W.drewN q).setCell ⟨p7, 0, none⟩ (.int .i64 (nz d n))) ∨ ((decide (0 < nz d n) && (decide (nz d n < z) && ofP m one two d n)) = false ∧ W' = W.drewN q)
set_option maxHeartbeats 2000000 in
theorem light1 (p7 p3 p4 p5 g m n : Nat) (z : Int) (a1 a2 : Option Addr) (c1 c2 : Nat) (one two d : List Int) (W : World) (h7 : VarAt W p7 2 (.int .i64 z)) (h3 : VarAt W p3 2 (.int .i64 m)) (h4 : VarAt W p4 25 (.slice a1 n c1)) (h5 : VarAt W p5 25 (.slice a2 n c2))
    (h1 : Ints W a1 n c1 one) (h2 : Ints W a2 n c2 two) (hd : Ints W (some ⟨g, 0, none⟩) n n d) (hn : n ≤ 20) (hm : 1 ≤ m) (hm2 : m ≤ 36) (s1 : Small one) (s2 : Small two) (s3 : Small d) :
    Calls Try.prog 152 (#[.slice (some ⟨g, 0, none⟩) n n] ++ #[.pointer (some ⟨p7, 0, none⟩), .pointer (some ⟨p3, 0, none⟩), .pointer (some ⟨p4, 0, none⟩), .pointer (some ⟨p5, 0, none⟩)]) W (LightPost m n one two d z p7 W) := by
  have HOf := Lib.hid (fun W' (h : Ext W W') => impl_ofPair m n a1 a2 (some ⟨g, 0, none⟩) c1 c2 n one two d W' (h1.ext h) (h2.ext h) (hd.ext h) hn hm hm2 s1 s2 s3)
  have k3 : ∀ w', Ext W w' → w'.cell? ⟨p3, 0, none⟩ = some (.int .i64 m) := fun w' h => (h3.ext h).cell
  have k4 : ∀ w', Ext W w' → w'.cell? ⟨p4, 0, none⟩ = some (.slice a1 n c1) := fun w' h => (h4.ext h).cell
  have k5 : ∀ w', Ext W w' → w'.cell? ⟨p5, 0, none⟩ = some (.slice a2 n c2) := fun w' h => (h5.ext h).cell
  have k7 : ∀ w', Ext W w' → w'.cell? ⟨p7, 0, none⟩ = some (.int .i64 z) := fun w' h => (h7.ext h).cell
  have f7 : ∀ w', Ext W w' → w'.frozen? ⟨p7, 0, none⟩ = false := fun w' h => (h7.ext h).frozen
  have l7 : ∀ w', Ext W w' → p7 < w'.heap.size := fun w' h => (h7.ext h).lt
  have HD := Lib.hid hd
  clear h7 h3 h4 h5 h1 h2 hd s1 s2 s3
  go_enter Try.func152, Try.ntmps152
  go_wp2_with fail
  go_loop [7, 9, 12] (fun s7 _ s12 => ∃ (k : Nat) (x : Int), k ≤ n ∧ s12 = .int .i64 k ∧ s7 = .int .i64 x ∧ 0 ≤ x ∧ x ≤ k ∧ Hid (x = nz d k)) (fun _ _ s12 => n - (intOf s12).toNat)
  case atStart => exact ⟨0, 0, Nat.zero_le _, rfl, rfl, by omega, by omega, rfl⟩
  case round =>
    obtain ⟨k, x, hk, rfl, rfl, hx0, hx1, HX⟩ := hrel
    by_cases hlt : k < n
    · obtain ⟨b3, o3, i3, e3⟩ := HD.out.at 25 2 und_int64s cell_int64 k hlt .i64
      have HN := Lib.hid (show nz d (k + 1) = x + (if (d.getD k 0 != 0) then 1 else 0) by
        rw [nz_step, HX.out]
        show nz d k + (if d.getD k 0 = 0 then 0 else 1) = nz d k + (if (d.getD k 0 != 0) = true then 1 else 0)
        by_cases h : d.getD k 0 = 0
        · rw [h]; rfl
        · rw [if_neg h, if_pos (by simpa using h)])
      generalize d.getD k 0 = y at *
      by_cases hy : y = 0
      · subst hy
        have HN2 := Lib.hid (show nz d (k + 1) = x + 0 from HN.out)
        go_wp2_with (go_at_call 153; refine (impl_oneIfP _ _).mono ?_; rintro e w' ⟨rfl, rfl⟩)
        exact ⟨⟨k + 1, x + 0, by omega, by go_num, by first | rfl | (simp; done), by omega, by omega, HN2.out.symm⟩, by simp [intOf]; omega⟩
      · have hyb : (y != 0) = true := by simpa using hy
        have HN2 := Lib.hid (show nz d (k + 1) = x + 1 by rw [HN.out, hyb]; rfl)
        clear hy
        go_wp2_with (go_at_call 153; refine (impl_oneIfP _ _).mono ?_; rintro e w' ⟨rfl, rfl⟩)
        exact ⟨⟨k + 1, x + 1, by omega, by go_num, by first | rfl | (simp [hyb]; done), by omega, by omega, HN2.out.symm⟩, by simp [intOf]; omega⟩
    · obtain rfl : n = k := by omega
      clear HD
      by_cases hp : 0 < x
      rotate_left
      · have HR := Lib.hid (show (decide (0 < nz d n) && (decide (nz d n < z) && ofP m one two d n)) = false by rw [← HX.out, decide_eq_false hp]; rfl)
        go_wp2_with fail
        go_ret
        exact ⟨rfl, 0, .inr ⟨HR.out, rfl⟩⟩
      by_cases hz : x < z
      rotate_left
      · have HR := Lib.hid (show (decide (0 < nz d n) && (decide (nz d n < z) && ofP m one two d n)) = false by rw [← HX.out, decide_eq_false hz]; simp)
        go_wp2_with fail
        go_ret
        exact ⟨rfl, 0, .inr ⟨HR.out, rfl⟩⟩
      obtain ⟨y, hy⟩ : ∃ y, y = ofP m one two d n := ⟨_, rfl⟩
      have HR := Lib.hid (show (decide (0 < nz d n) && (decide (nz d n < z) && ofP m one two d n)) = y by rw [← HX.out, decide_eq_true hp, decide_eq_true hz, hy]; rfl)
      rw [← hy] at HOf
      clear hy
      cases y
      · go_wp2_with ((with_reducible refine (HOf.out _ (by repeat (first | (with_reducible exact Ext.refl _) | (with_reducible assumption) | (with_reducible refine Ext.drewN ?_ _) | (with_reducible refine Ext.drew ?_) | (with_reducible refine Ext.alloc ?_ _) | ((with_reducible refine Ext.setCell ?_ ?_ _); rotate_left; focus (first | (simp; done) | (simp; omega) | omega)) | (with_reducible refine Ext.trans ?_ (by with_reducible assumption))))).mono ?_); rintro e w9 ⟨rfl, q, rfl⟩)
        go_ret
        exact ⟨rfl, q, .inr ⟨HR.out, rfl⟩⟩
      · go_wp2_with ((with_reducible refine (HOf.out _ (by repeat (first | (with_reducible exact Ext.refl _) | (with_reducible assumption) | (with_reducible refine Ext.drewN ?_ _) | (with_reducible refine Ext.drew ?_) | (with_reducible refine Ext.alloc ?_ _) | ((with_reducible refine Ext.setCell ?_ ?_ _); rotate_left; focus (first | (simp; done) | (simp; omega) | omega)) | (with_reducible refine Ext.trans ?_ (by with_reducible assumption))))).mono ?_); rintro e w9 ⟨rfl, q, rfl⟩)
        go_ret
        exact ⟨rfl, q, .inl ⟨HR.out, by rw [← HX.out]⟩⟩
set_option maxHeartbeats 4000000 in
theorem impl_lightest (m n : Nat) (a1 a2 : Option Addr) (c1 c2 : Nat) (one two : List Int) (w : World) (h1 : Ints w a1 n c1 one) (h2 : Ints w a2 n c2 two) (hn : n ≤ 20) (hm : 1 ≤ m) (hm2 : m ≤ 36) (s1 : Small one) (s2 : Small two) :
    Calls Try.prog 108 #[.int .i64 m, .slice a1 n c1, .slice a2 n c2] w (Ret (.int .i64 (farI (apF m n one two (m ^ n)))) w) := by
  obtain ⟨wb, hwb⟩ : ∃ wb, wb = ((w.alloc (.cells #[.int .i64 m] 2)).alloc (.cells #[.slice a1 n c1] 25)).alloc (.cells #[.slice a2 n c2] 25) := ⟨_, rfl⟩
  have hxb : Ext w wb := by rw [hwb]; exact (by repeat (first | (with_reducible exact Ext.refl _) | (with_reducible refine Ext.drewN ?_ _) | (with_reducible refine Ext.drew ?_) | (with_reducible refine Ext.alloc ?_ _) | ((with_reducible refine Ext.setCell ?_ ?_ _); rotate_left; focus (first | (simp; done) | (simp; omega) | omega)) | assumption | (with_reducible refine Ext.trans ?_ (by assumption))))
  have hbs : wb.heap.size = w.heap.size + 3 := by rw [hwb]; simp
  have HP3 := Lib.hid (show VarAt wb w.heap.size 2 (.int .i64 m) by rw [hwb]; exact ((VarAt.new w _ _).ext ((Ext.refl _).alloc _)).ext ((Ext.refl _).alloc _))
  have HP4 := Lib.hid (show VarAt wb (w.heap.size + 1) 25 (.slice a1 n c1) by
    rw [hwb]
    have h := VarAt.new (w.alloc (.cells #[.int .i64 m] 2)) 25 (.slice a1 n c1)
    rw [show (w.alloc (.cells #[.int .i64 m] 2)).heap.size = w.heap.size + 1 by simp] at h
    exact h.ext ((Ext.refl _).alloc _))
  have HP5 := Lib.hid (show VarAt wb (w.heap.size + 1 + 1) 25 (.slice a2 n c2) by
    rw [hwb]
    have h := VarAt.new ((w.alloc (.cells #[.int .i64 m] 2)).alloc (.cells #[.slice a1 n c1] 25)) 25 (.slice a2 n c2)
    rwa [show ((w.alloc (.cells #[.int .i64 m] 2)).alloc (.cells #[.slice a1 n c1] 25)).heap.size = w.heap.size + 1 + 1 by simp] at h)
  have k3 : wb.cell? ⟨w.heap.size, 0, none⟩ = some (.int .i64 m) := HP3.out.cell
  have k4 : wb.cell? ⟨w.heap.size + 1, 0, none⟩ = some (.slice a1 n c1) := HP4.out.cell
  obtain ⟨wS, hwS⟩ : ∃ wS, wS = wb.alloc (.cells #[.int .i64 1099511627776] 2) := ⟨_, rfl⟩
  have hxS : Ext wb wS := by rw [hwS]; exact (by repeat (first | (with_reducible exact Ext.refl _) | (with_reducible refine Ext.drewN ?_ _) | (with_reducible refine Ext.drew ?_) | (with_reducible refine Ext.alloc ?_ _) | ((with_reducible refine Ext.setCell ?_ ?_ _); rotate_left; focus (first | (simp; done) | (simp; omega) | omega)) | assumption | (with_reducible refine Ext.trans ?_ (by assumption))))
  have hSs : wS.heap.size = wb.heap.size + 1 := by rw [hwS]; simp
  have q3 : wS.cell? ⟨w.heap.size, 0, none⟩ = some (.int .i64 m) := (HP3.out.ext hxS).cell
  have q4 : wS.cell? ⟨w.heap.size + 1, 0, none⟩ = some (.slice a1 n c1) := (HP4.out.ext hxS).cell
  have hb3 : w.heap.size + 1 + 1 + 1 = wb.heap.size := by omega
  have HP7 := Lib.hid (show VarAt wS (w.heap.size + 1 + 1 + 1) 2 (.int .i64 (farI (apF m n one two 0))) by rw [show farI (apF m n one two 0) = 1099511627776 by simp [apF, farI], hwS, hb3]; exact VarAt.new wb _ _)
  have HT := Lib.hid (impl_tuples m n 152 #[.pointer (some ⟨w.heap.size + 1 + 1 + 1, 0, none⟩), .pointer (some ⟨w.heap.size, 0, none⟩), .pointer (some ⟨w.heap.size + 1, 0, none⟩), .pointer (some ⟨w.heap.size + 1 + 1, 0, none⟩)]
    (fun t W => Ext wb W ∧ VarAt W (w.heap.size + 1 + 1 + 1) 2 (.int .i64 (farI (apF m n one two t)))) (fun _ => False) wS (by omega) (by omega) (by omega) (fun _ _ => rfl)
    (fun W ht => ⟨hxS.trans (touch_ext ht), HP7.out.ext (touch_ext ht)⟩)
    (fun t W W' h ht => ⟨⟨ht.os.trans h.1.os, ht.tape.trans h.1.tape, ht.output.trans h.1.output, Nat.le_trans h.1.size ht.size, fun k hk => (ht.block k (Nat.lt_of_lt_of_le hk h.1.size) (by omega)).trans (h.1.block k hk)⟩, (ht.block _ h.2.lt (by omega)).trans h.2⟩)
    (fun t W ht h ho => by
      have hxW := hxb.trans h.1
      refine (light1 (w.heap.size + 1 + 1 + 1) w.heap.size (w.heap.size + 1) (w.heap.size + 1 + 1) wS.heap.size m n (farI (apF m n one two t)) a1 a2 c1 c2 one two (tupAt m n t) W h.2 (HP3.out.ext h.1) (HP4.out.ext h.1) (HP5.out.ext h.1) (h1.ext hxW) (h2.ext hxW) ho.ints hn hm hm2 s1 s2 (tup_small (by omega) hm2 ht)).mono ?_
      rintro e W' ⟨rfl, q, hu⟩
      left
      have hlt := ho.lt.2
      have hcond : (decide (0 < nz (tupAt m n t) n) && (decide (nz (tupAt m n t) n < farI (apF m n one two t)) && ofP m one two (tupAt m n t) n)) = (decide (0 < nz (tupAt m n t) n) && ofP m one two (tupAt m n t) n && (decide (apF m n one two t = 0) || decide (nz (tupAt m n t) n < apF m n one two t))) := by
        have h := apF_far (m := m) (n := n) (one := one) (two := two) (t := t) (by omega)
        rw [← Bool.and_assoc, h]
        cases ofP m one two (tupAt m n t) n <;> simp
      rw [hcond] at hu
      rcases hu with ⟨hu, rfl⟩ | ⟨hu, rfl⟩
      · have e : apF m n one two (t + 1) = nz (tupAt m n t) n := by rw [apF, if_pos hu]
        have hpos : 0 < nz (tupAt m n t) n := by simp only [Bool.and_eq_true, decide_eq_true_eq] at hu; exact hu.1.1
        have ef : farI (apF m n one two (t + 1)) = nz (tupAt m n t) n := by rw [e]; unfold farI; rw [if_neg (by omega)]
        refine ⟨rfl, ⟨(h.1.drewN q).setCell (by show wb.heap.size ≤ w.heap.size + 1 + 1 + 1; omega) _, by rw [ef]; exact (h.2.ext ((Ext.refl W).drewN q)).set _⟩, ?_⟩
        exact Below.heap_setCell _ _ _ _ (show wS.heap.size ≠ w.heap.size + 1 + 1 + 1 by omega)
      · have e : apF m n one two (t + 1) = apF m n one two t := by rw [apF, if_neg (by rw [hu]; simp)]
        exact ⟨rfl, ⟨h.1.drewN q, by rw [e]; exact h.2.ext ((Ext.refl W).drewN q)⟩, rfl⟩))
  have HWb := Lib.hid hwb
  have HWs := Lib.hid hwS
  clear h1 h2 hwb hwS hb3 hbs hSs
  go_enter Try.func108, Try.ntmps108
  go_wp2_with fail
  rw [← HWb.out, ← HWs.out]
  refine HT.out.mono ?_
  rintro e w2 ⟨rfl, hf | hf⟩
  · have hx2 := hf.1
    have hcell := hf.2.cell
    generalize farI (apF m n one two (m ^ n)) = z at *
    go_wp2_with fail
    go_ret
    exact ⟨rfl, hxb.trans hx2⟩
  · exact hf.elim
end Go.Proofs.Ytaiieodllhoelaa

/- Walks: BestPair of the program. -/
namespace Go.Proofs.Ytaiieodllhoelaa
set_option maxRecDepth 100000
open Go.RowKit

/-- the best pair of the first t lists: the list, how far apart its words are -/
def bpF (m np : Nat) : Nat → Option (List Int) × Int
  | 0 => (none, 0)
  | t + 1 => if (bpF m np t).2 < apF m np ((tupAt m (2 * np) t).take np) ((tupAt m (2 * np) t).drop np) (m ^ np) then (some (tupAt m (2 * np) t), apF m np ((tupAt m (2 * np) t).take np) ((tupAt m (2 * np) t).drop np) (m ^ np)) else bpF m np t
theorem bpF_bd (m np : Nat) : ∀ t, 0 ≤ (bpF m np t).2 ∧ (bpF m np t).2 ≤ np ∧ ((bpF m np t).1 = none ↔ (bpF m np t).2 = 0)
  | 0 => by simp [bpF]
  | t + 1 => by
    have h1 := bpF_bd m np t
    have h2 := apF_bd m np ((tupAt m (2 * np) t).take np) ((tupAt m (2 * np) t).drop np) (m ^ np)
    rw [bpF]
    split
    · refine ⟨h2.1, h2.2, ?_⟩
      simp only [reduceCtorEq, false_iff]
      omega
    · exact h1
theorem bpF_len (m np : Nat) : ∀ t {l : List Int}, (bpF m np t).1 = some l → l.length = 2 * np
  | 0, l, h => by cases h
  | t + 1, l, h => by
    rw [bpF] at h
    split at h
    · cases h; exact tupAt_len _ _ _
    · exact bpF_len m np t h
/-- the trial of BestPair -/
def BpPost (l : List Int) (z mo : Int) (p8 p9 : Nat) (W : World) (e : Ending) (W' : World) : Prop :=
  e = .returned (.bool true) ∧ ((mo < z ∧ ∃ W2 sa sc, Ext W W2 ∧ W' = (W2.setCell ⟨p8, 0, none⟩ (.slice sa l.length sc)).setCell ⟨p9, 0, none⟩ (.int .i64 z) ∧ Own W2 W.heap.size 2 sa l.length sc (I l) ∧ sa ≠ none) ∨ (¬ mo < z ∧ Ext W W'))
set_option maxHeartbeats 4000000 in
theorem bp1 (p2 p3 p8 p9 g m np N : Nat) (mo : Int) (sa : Option Addr) (sn sc : Nat) (l : List Int) (W : World) (h2 : VarAt W p2 2 (.int .i64 m)) (h3 : VarAt W p3 2 (.int .i64 np)) (h8 : VarAt W p8 25 (.slice sa sn sc)) (h9 : VarAt W p9 2 (.int .i64 mo))
    (hl : Ints W (some ⟨g, 0, none⟩) N N l) (hN : N = 2 * np) (hn : np ≤ 6) (hm : 1 ≤ m) (hm2 : m ≤ 36) (hs : Small l) (hmo : 0 ≤ mo ∧ mo ≤ np) :
    Calls Try.prog 107 (#[.slice (some ⟨g, 0, none⟩) N N] ++ #[.pointer (some ⟨p2, 0, none⟩), .pointer (some ⟨p3, 0, none⟩), .pointer (some ⟨p9, 0, none⟩), .pointer (some ⟨p8, 0, none⟩)]) W (BpPost l (apF m np (l.take np) (l.drop np) (m ^ np)) mo p8 p9 W) := by
  have hln := hl.len
  have k2 : ∀ w', Ext W w' → w'.cell? ⟨p2, 0, none⟩ = some (.int .i64 m) := fun w' h => (h2.ext h).cell
  have k3 : ∀ w', Ext W w' → w'.cell? ⟨p3, 0, none⟩ = some (.int .i64 np) := fun w' h => (h3.ext h).cell
  have k9 : ∀ w', Ext W w' → w'.cell? ⟨p9, 0, none⟩ = some (.int .i64 mo) := fun w' h => (h9.ext h).cell
  have H8 := Lib.hid h8
  have H9 := Lib.hid h9
  obtain ⟨a1, r1, i1⟩ := hl.pre (P := Try.prog) 25 2 und_int64s cell_int64 elem_int64s np (by omega)
  obtain ⟨a2, r2, i2⟩ := hl.suf (P := Try.prog) 25 2 und_int64s cell_int64 elem_int64s np (by omega)
  rw [show N - np = np by omega] at r2 i2
  have HLi := Lib.hid (fun W' (h : Ext W W') => impl_lightest m np a1 a2 N np (l.take np) (l.drop np) W' (i1.ext h) (i2.ext h) (by omega) hm hm2 (hs.take np) (fun x hx => hs x (List.mem_of_mem_drop hx)))
  have HCl := Lib.hid (fun W' (h : Ext W W') => clone_ints (some ⟨g, 0, none⟩) N N l W' (hl.ext h) (by omega))
  have hzb := apF_bd m np (l.take np) (l.drop np) (m ^ np)
  generalize apF m np (l.take np) (l.drop np) (m ^ np) = z at *
  have hfar : farI z = if z = 0 then 1099511627776 else z := rfl
  have HFar := Lib.hid hfar
  have HNN := Lib.hid hN
  have hN20 : N < 1000 := by omega
  have hnN : np ≤ N := by omega
  clear h2 h3 h8 h9 hl i1 i2 hs hfar hN
  by_cases hz0 : z = 0
  · have HF := Lib.hid (HFar.out.trans (if_pos hz0))
    have hnl : ¬ mo < z := by omega
    rw [HF.out] at HLi
    clear hz0
    go_enter Try.func107, Try.ntmps107
    go_wp2_with fail
    (refine wp_region_from W (by repeat (first | (with_reducible exact Ext.refl _) | (with_reducible refine Ext.drewN ?_ _) | (with_reducible refine Ext.drew ?_) | (with_reducible refine Ext.alloc ?_ _) | ((with_reducible refine Ext.setCell ?_ ?_ _); rotate_left; focus (first | (simp; done) | (simp; omega) | omega)) | assumption | (with_reducible refine Ext.trans ?_ (by assumption)))) (by kernel_rfl) (by kernel_rfl) (seqB_of (by kernel_rfl)) ?_; (repeat (first | (refine mix_q rfl ?_; go_big_quiet_step (fail); refine wpQuiet_nil ?_; show wpMix _ _ _ _ _ _ _) | (refine mix_s rfl ?_; go_wp2_with (((with_reducible refine (HLi.out _ (by repeat (first | (with_reducible exact Ext.refl _) | (with_reducible refine Ext.drewN ?_ _) | (with_reducible refine Ext.drew ?_) | (with_reducible refine Ext.alloc ?_ _) | ((with_reducible refine Ext.setCell ?_ ?_ _); rotate_left; focus (first | (simp; done) | (simp; omega) | omega)) | assumption | (with_reducible refine Ext.trans ?_ (by assumption))))).mono ?_); rintro e w1 ⟨rfl, hy1⟩; have hxw1 : Ext W w1 := Ext.trans (by repeat (first | (with_reducible exact Ext.refl _) | (with_reducible refine Ext.drewN ?_ _) | (with_reducible refine Ext.drew ?_) | (with_reducible refine Ext.alloc ?_ _) | ((with_reducible refine Ext.setCell ?_ ?_ _); rotate_left; focus (first | (simp; done) | (simp; omega) | omega)) | assumption | (with_reducible refine Ext.trans ?_ (by assumption)))) hy1; have hz1 := hy1; clear hy1)); first | refine ⟨up_of (by repeat (first | (with_reducible exact Ext.refl _) | (with_reducible refine Ext.drewN ?_ _) | (with_reducible refine Ext.drew ?_) | (with_reducible refine Ext.alloc ?_ _) | ((with_reducible refine Ext.setCell ?_ ?_ _); rotate_left; focus (first | (simp; done) | (simp; omega) | omega)) | assumption | (with_reducible refine Ext.trans ?_ (by assumption)))), ?_⟩ | refine ⟨rfl, rfl, up_of (by repeat (first | (with_reducible exact Ext.refl _) | (with_reducible refine Ext.drewN ?_ _) | (with_reducible refine Ext.drew ?_) | (with_reducible refine Ext.alloc ?_ _) | ((with_reducible refine Ext.setCell ?_ ?_ _); rotate_left; focus (first | (simp; done) | (simp; omega) | omega)) | assumption | (with_reducible refine Ext.trans ?_ (by assumption)))), ?_⟩))); refine mix_nil ?_)
    go_wp2_with fail
    go_ret
    exact ⟨rfl, .inr ⟨Int.not_lt.2 hnl, hxw1⟩⟩
  have HF := Lib.hid (HFar.out.trans (if_neg hz0))
  rw [HF.out] at HLi
  by_cases hlt : mo < z
  · go_enter Try.func107, Try.ntmps107
    go_wp2_with fail
    (refine wp_region_from W (by repeat (first | (with_reducible exact Ext.refl _) | (with_reducible refine Ext.drewN ?_ _) | (with_reducible refine Ext.drew ?_) | (with_reducible refine Ext.alloc ?_ _) | ((with_reducible refine Ext.setCell ?_ ?_ _); rotate_left; focus (first | (simp; done) | (simp; omega) | omega)) | assumption | (with_reducible refine Ext.trans ?_ (by assumption)))) (by kernel_rfl) (by kernel_rfl) (seqB_of (by kernel_rfl)) ?_; (repeat (first | (refine mix_q rfl ?_; go_big_quiet_step (fail); refine wpQuiet_nil ?_; show wpMix _ _ _ _ _ _ _) | (refine mix_s rfl ?_; go_wp2_with (((with_reducible refine (HLi.out _ (by repeat (first | (with_reducible exact Ext.refl _) | (with_reducible refine Ext.drewN ?_ _) | (with_reducible refine Ext.drew ?_) | (with_reducible refine Ext.alloc ?_ _) | ((with_reducible refine Ext.setCell ?_ ?_ _); rotate_left; focus (first | (simp; done) | (simp; omega) | omega)) | assumption | (with_reducible refine Ext.trans ?_ (by assumption))))).mono ?_); rintro e w1 ⟨rfl, hy1⟩; have hxw1 : Ext W w1 := Ext.trans (by repeat (first | (with_reducible exact Ext.refl _) | (with_reducible refine Ext.drewN ?_ _) | (with_reducible refine Ext.drew ?_) | (with_reducible refine Ext.alloc ?_ _) | ((with_reducible refine Ext.setCell ?_ ?_ _); rotate_left; focus (first | (simp; done) | (simp; omega) | omega)) | assumption | (with_reducible refine Ext.trans ?_ (by assumption)))) hy1; have hz1 := hy1; clear hy1)); first | refine ⟨up_of (by repeat (first | (with_reducible exact Ext.refl _) | (with_reducible refine Ext.drewN ?_ _) | (with_reducible refine Ext.drew ?_) | (with_reducible refine Ext.alloc ?_ _) | ((with_reducible refine Ext.setCell ?_ ?_ _); rotate_left; focus (first | (simp; done) | (simp; omega) | omega)) | assumption | (with_reducible refine Ext.trans ?_ (by assumption)))), ?_⟩ | refine ⟨rfl, rfl, up_of (by repeat (first | (with_reducible exact Ext.refl _) | (with_reducible refine Ext.drewN ?_ _) | (with_reducible refine Ext.drew ?_) | (with_reducible refine Ext.alloc ?_ _) | ((with_reducible refine Ext.setCell ?_ ?_ _); rotate_left; focus (first | (simp; done) | (simp; omega) | omega)) | assumption | (with_reducible refine Ext.trans ?_ (by assumption)))), ?_⟩))); refine mix_nil ?_)
    go_wp2_with ((with_reducible refine (HCl.out _ (by repeat (first | (with_reducible exact Ext.refl _) | (with_reducible assumption) | (with_reducible refine Ext.drewN ?_ _) | (with_reducible refine Ext.drew ?_) | (with_reducible refine Ext.alloc ?_ _) | ((with_reducible refine Ext.setCell ?_ ?_ _); rotate_left; focus (first | (simp; done) | (simp; omega) | omega)) | (with_reducible refine Ext.trans ?_ (by with_reducible assumption))))).mono ?_); rintro e W2 ⟨sa, sc, rfl, ho2, hy, hnn⟩; rw [I_len, hln] at ho2 ⊢; have hx2 : Ext W W2 := Ext.trans (by repeat (first | (with_reducible exact Ext.refl _) | (with_reducible assumption) | (with_reducible refine Ext.drewN ?_ _) | (with_reducible refine Ext.drew ?_) | (with_reducible refine Ext.alloc ?_ _) | ((with_reducible refine Ext.setCell ?_ ?_ _); rotate_left; focus (first | (simp; done) | (simp; omega) | omega)) | (with_reducible refine Ext.trans ?_ (by with_reducible assumption)))) hy; have HO2 := Lib.hid (ho2.mono hxw1.le); have HNn := Lib.hid (show sa ≠ none from fun h => by have := hnn.1 h; cases this); have hv := H8.out.ext hx2; have d1 := hv.cell; have d2 := hv.frozen; have d3 := hv.lt; have hv9 := H9.out.ext hx2; have g1 := hv9.cell; have g2 := hv9.frozen; have g3 := hv9.lt; have hpp : p8 ≠ p9 := hv.ne hv9 (by decide); have hpp2 : p9 ≠ p8 := hpp.symm; clear hy ho2 hnn hv hv9)
    go_ret
    exact ⟨rfl, .inl ⟨hlt, W2, sa, sc, hx2, by rw [hln], by rw [hln]; exact HO2.out, HNn.out⟩⟩
  · go_enter Try.func107, Try.ntmps107
    go_wp2_with fail
    (refine wp_region_from W (by repeat (first | (with_reducible exact Ext.refl _) | (with_reducible refine Ext.drewN ?_ _) | (with_reducible refine Ext.drew ?_) | (with_reducible refine Ext.alloc ?_ _) | ((with_reducible refine Ext.setCell ?_ ?_ _); rotate_left; focus (first | (simp; done) | (simp; omega) | omega)) | assumption | (with_reducible refine Ext.trans ?_ (by assumption)))) (by kernel_rfl) (by kernel_rfl) (seqB_of (by kernel_rfl)) ?_; (repeat (first | (refine mix_q rfl ?_; go_big_quiet_step (fail); refine wpQuiet_nil ?_; show wpMix _ _ _ _ _ _ _) | (refine mix_s rfl ?_; go_wp2_with (((with_reducible refine (HLi.out _ (by repeat (first | (with_reducible exact Ext.refl _) | (with_reducible refine Ext.drewN ?_ _) | (with_reducible refine Ext.drew ?_) | (with_reducible refine Ext.alloc ?_ _) | ((with_reducible refine Ext.setCell ?_ ?_ _); rotate_left; focus (first | (simp; done) | (simp; omega) | omega)) | assumption | (with_reducible refine Ext.trans ?_ (by assumption))))).mono ?_); rintro e w1 ⟨rfl, hy1⟩; have hxw1 : Ext W w1 := Ext.trans (by repeat (first | (with_reducible exact Ext.refl _) | (with_reducible refine Ext.drewN ?_ _) | (with_reducible refine Ext.drew ?_) | (with_reducible refine Ext.alloc ?_ _) | ((with_reducible refine Ext.setCell ?_ ?_ _); rotate_left; focus (first | (simp; done) | (simp; omega) | omega)) | assumption | (with_reducible refine Ext.trans ?_ (by assumption)))) hy1; have hz1 := hy1; clear hy1)); first | refine ⟨up_of (by repeat (first | (with_reducible exact Ext.refl _) | (with_reducible refine Ext.drewN ?_ _) | (with_reducible refine Ext.drew ?_) | (with_reducible refine Ext.alloc ?_ _) | ((with_reducible refine Ext.setCell ?_ ?_ _); rotate_left; focus (first | (simp; done) | (simp; omega) | omega)) | assumption | (with_reducible refine Ext.trans ?_ (by assumption)))), ?_⟩ | refine ⟨rfl, rfl, up_of (by repeat (first | (with_reducible exact Ext.refl _) | (with_reducible refine Ext.drewN ?_ _) | (with_reducible refine Ext.drew ?_) | (with_reducible refine Ext.alloc ?_ _) | ((with_reducible refine Ext.setCell ?_ ?_ _); rotate_left; focus (first | (simp; done) | (simp; omega) | omega)) | assumption | (with_reducible refine Ext.trans ?_ (by assumption)))), ?_⟩))); refine mix_nil ?_)
    go_wp2_with fail
    go_ret
    exact ⟨rfl, .inr ⟨Int.not_lt.2 hlt, hxw1⟩⟩
/-- bases of pairs -/
def pairBs (b : Int) : Bool := b == 2 || b == 3 || b == 5
theorem pairBs_t {b : Int} (h : pairBs b = true) : b = 2 ∨ b = 3 ∨ b = 5 := by
  unfold pairBs at h
  simp only [Bool.or_eq_true, beq_iff_eq] at h
  omega
theorem impl_pairBaseS (b : Int) (w : World) : Calls Try.prog 97 #[.int .i64 b] w (Same (.bool (pairBs b)) w) := by
  by_cases h2 : b = 2
  · subst h2
    go_enter Try.func97, Try.ntmps97
    go_wp2_with fail
    go_ret
    exact ⟨rfl, rfl⟩
  by_cases h3 : b = 3
  · subst h3
    go_enter Try.func97, Try.ntmps97
    go_wp2_with fail
    go_ret
    exact ⟨rfl, rfl⟩
  have hp : pairBs b = (b == 5) := by
    unfold pairBs
    rw [show (b == 2) = false from by simpa using h2, show (b == 3) = false from by simpa using h3]
    rfl
  have e2 : (b == 2) = false := by simpa using h2
  have e3 : (b == 3) = false := by simpa using h3
  clear h2 h3
  rw [hp]
  go_enter Try.func97, Try.ntmps97
  go_wp2_with fail
  go_ret
  exact ⟨rb (by first | rfl | simp [e2, e3]), rfl⟩
def bpOk (base places : Int) : Bool := pairBs base && (inB places 1 6 && decide (base ^ (2 * places.toNat) ≤ 20000))
def bpO (base places : Int) : Option (List Int) × Int := if bpOk base places = true then bpF base.toNat places.toNat (base.toNat ^ (2 * places.toNat)) else (none, 0)
def bpL1 (base places : Int) : List Int := ((bpO base places).1.getD []).take places.toNat
def bpL2 (base places : Int) : List Int := ((bpO base places).1.getD []).drop places.toNat
def bpZ (base places : Int) : Int := (bpO base places).2
def bpB (base places : Int) : Bool := (bpO base places).1.isSome
/-- two fresh lists of numbers, a number, a bool -/
def RetLLNB (R1 R2 : List Int) (z : Int) (ok : Bool) (w : World) (e : Ending) (w' : World) : Prop :=
  ∃ a0 n0 c0 a1 n1 c1, e = .returned (.tuple #[.slice a0 n0 c0, .slice a1 n1 c1, .int .i64 z, .bool ok]) ∧ Ext w w' ∧ Own w' w.heap.size 2 a0 n0 c0 (I R1) ∧ Own w' w.heap.size 2 a1 n1 c1 (I R2) ∧ (∀ g g', a0 = some g → a1 = some g' → g.block ≠ g'.block)
theorem bp_retN {base places : Int} {w w' : World} (h : (bpO base places).1 = none) (hx : Ext w w') :
    RetLLNB (bpL1 base places) (bpL2 base places) (bpZ base places) (bpB base places) w (.returned (.tuple #[.slice none 0 0, .slice none 0 0, .int .i64 0, .bool false])) w' := by
  have hz : (bpO base places).2 = 0 := by
    unfold bpO at h ⊢
    split
    · rename_i hk
      rw [if_pos hk] at h
      exact ((bpF_bd _ _ _).2.2).1 h
    · rfl
  have h1 : bpL1 base places = [] := by unfold bpL1; rw [h]; simp
  have h2 : bpL2 base places = [] := by unfold bpL2; rw [h]; simp
  have h3 : bpZ base places = 0 := hz
  have h4 : bpB base places = false := by unfold bpB; rw [h]; rfl
  rw [h1, h2, h3, h4]
  exact ⟨none, 0, 0, none, 0, 0, rfl, hx, Own.nil _ _ _, Own.nil _ _ _, fun g g' h => by cases h⟩
theorem bpO_no {base places : Int} (h : bpOk base places = false) : (bpO base places).1 = none := by unfold bpO; rw [h]; rfl
set_option maxHeartbeats 4000000 in
theorem impl_BP (base places : Int) (w : World) :
    Calls Try.prog 50 #[.int .i64 base, .int .i64 places] w (RetLLNB (bpL1 base places) (bpL2 base places) (bpZ base places) (bpB base places) w) := by
  have qT : ∀ (w : World) a n c, (binOp .eql 25 (.slice a n c) (.slice none 0 0)).run Try.prog w = .ok (.bool a.isNone) w := fun w a n c => Lib.run_eql_slice_nil w 25 2 a n c 0 0 und_int64s
  have HBa := Lib.hid (fun W => impl_pairBaseS base W)
  have HIn := Lib.hid (fun W => impl_in places 1 6 W)
  cases hb : pairBs base
  · rw [hb] at HBa
    have HO := Lib.hid (bpO_no (show bpOk base places = false by unfold bpOk; rw [hb]; rfl))
    clear hb
    go_enter Try.func50, Try.ntmps50
    go_wp2_with ((with_reducible refine (HBa.out _).mono ?_); rintro e w' ⟨rfl, rfl⟩)
    refine bodyPost_ret (v := .tuple #[.slice none 0 0, .slice none 0 0, .int .i64 0, .bool false]) (by simp [results, Try.results50, go_sem]) rfl ?_
    exact bp_retN HO.out (by repeat (first | (with_reducible exact Ext.refl _) | (with_reducible assumption) | (with_reducible refine Ext.drewN ?_ _) | (with_reducible refine Ext.drew ?_) | (with_reducible refine Ext.alloc ?_ _) | ((with_reducible refine Ext.setCell ?_ ?_ _); rotate_left; focus (first | (simp; done) | (simp; omega) | omega)) | (with_reducible refine Ext.trans ?_ (by with_reducible assumption))))
  rw [hb] at HBa
  cases hp : inB places 1 6
  · rw [hp] at HIn
    have HO := Lib.hid (bpO_no (show bpOk base places = false by unfold bpOk; rw [hp]; simp))
    clear hb hp
    go_enter Try.func50, Try.ntmps50
    go_wp2_with (first | ((with_reducible refine (HBa.out _).mono ?_); rintro e w' ⟨rfl, rfl⟩) | ((with_reducible refine (HIn.out _).mono ?_); rintro e w' ⟨rfl, rfl⟩))
    refine bodyPost_ret (v := .tuple #[.slice none 0 0, .slice none 0 0, .int .i64 0, .bool false]) (by simp [results, Try.results50, go_sem]) rfl ?_
    exact bp_retN HO.out (by repeat (first | (with_reducible exact Ext.refl _) | (with_reducible assumption) | (with_reducible refine Ext.drewN ?_ _) | (with_reducible refine Ext.drew ?_) | (with_reducible refine Ext.alloc ?_ _) | ((with_reducible refine Ext.setCell ?_ ?_ _); rotate_left; focus (first | (simp; done) | (simp; omega) | omega)) | (with_reducible refine Ext.trans ?_ (by with_reducible assumption))))
  rw [hp] at HIn
  obtain ⟨p1, p2⟩ := inB_t.1 hp
  have hb3 := pairBs_t hb
  obtain ⟨np, rfl⟩ := Int.eq_ofNat_of_zero_le (show 0 ≤ places by omega)
  obtain ⟨m, rfl⟩ := Int.eq_ofNat_of_zero_le (show 0 ≤ base by omega)
  have hm2 : 2 ≤ m := by omega
  have hm5 : m ≤ 5 := by omega
  have HPw := Lib.hid (show ∀ W, Calls Try.prog 70 #[.int .i64 m, .int .i64 (2 * (np : Int)), .int .i64 20000] W (Same (.bool (decide ((m : Int) ^ (2 * np) ≤ 20000))) W) from fun W => by
    have h := impl_power m 20000 (2 * np) W (by omega) (by omega) (by omega) (by omega) (by omega)
    rwa [show ((2 * np : Nat) : Int) = 2 * (np : Int) by omega] at h)
  cases hpw : decide ((m : Int) ^ (2 * np) ≤ 20000)
  · rw [hpw] at HPw
    have HO := Lib.hid (bpO_no (show bpOk m np = false by unfold bpOk; rw [Int.toNat_natCast, hpw]; simp))
    clear hb hp hpw hb3
    go_enter Try.func50, Try.ntmps50
    go_wp2_with (first | ((with_reducible refine (HBa.out _).mono ?_); rintro e w' ⟨rfl, rfl⟩) | ((with_reducible refine (HIn.out _).mono ?_); rintro e w' ⟨rfl, rfl⟩) | ((with_reducible refine (HPw.out _).mono ?_); rintro e w' ⟨rfl, rfl⟩))
    refine bodyPost_ret (v := .tuple #[.slice none 0 0, .slice none 0 0, .int .i64 0, .bool false]) (by simp [results, Try.results50, go_sem]) rfl ?_
    exact bp_retN HO.out (by repeat (first | (with_reducible exact Ext.refl _) | (with_reducible assumption) | (with_reducible refine Ext.drewN ?_ _) | (with_reducible refine Ext.drew ?_) | (with_reducible refine Ext.alloc ?_ _) | ((with_reducible refine Ext.setCell ?_ ?_ _); rotate_left; focus (first | (simp; done) | (simp; omega) | omega)) | (with_reducible refine Ext.trans ?_ (by with_reducible assumption))))
  rw [hpw] at HPw
  have HO := Lib.hid (show bpO m np = bpF m np (m ^ (2 * np)) by unfold bpO bpOk; rw [Int.toNat_natCast, Int.toNat_natCast, hpw, hb, hp]; rfl)
  clear hb hp hpw hb3
  have hxb : Ext w ((w.alloc (.cells #[.int .i64 m] 2)).alloc (.cells #[.int .i64 np] 2)) := (by repeat (first | (with_reducible exact Ext.refl _) | (with_reducible refine Ext.drewN ?_ _) | (with_reducible refine Ext.drew ?_) | (with_reducible refine Ext.alloc ?_ _) | ((with_reducible refine Ext.setCell ?_ ?_ _); rotate_left; focus (first | (simp; done) | (simp; omega) | omega)) | assumption | (with_reducible refine Ext.trans ?_ (by assumption))))
  obtain ⟨wb, hwb⟩ : ∃ wb, wb = (w.alloc (.cells #[.int .i64 m] 2)).alloc (.cells #[.int .i64 np] 2) := ⟨_, rfl⟩
  rw [← hwb] at hxb
  have hbs : wb.heap.size = w.heap.size + 1 + 1 := by rw [hwb]; simp
  have HP2 := Lib.hid (show VarAt wb w.heap.size 2 (.int .i64 m) by rw [hwb]; exact (VarAt.new w _ _).ext ((Ext.refl _).alloc _))
  have HP3 := Lib.hid (show VarAt wb (w.heap.size + 1) 2 (.int .i64 np) by
    rw [hwb]
    have h := VarAt.new (w.alloc (.cells #[.int .i64 m] 2)) 2 (.int .i64 np)
    rwa [show (w.alloc (.cells #[.int .i64 m] 2)).heap.size = w.heap.size + 1 by simp] at h)
  obtain ⟨wS, hwS⟩ : ∃ wS, wS = (wb.alloc (.cells #[.slice none 0 0] 25)).alloc (.cells #[.int .i64 0] 2) := ⟨_, rfl⟩
  have hxS : Ext wb wS := by rw [hwS]; exact (by repeat (first | (with_reducible exact Ext.refl _) | (with_reducible refine Ext.drewN ?_ _) | (with_reducible refine Ext.drew ?_) | (with_reducible refine Ext.alloc ?_ _) | ((with_reducible refine Ext.setCell ?_ ?_ _); rotate_left; focus (first | (simp; done) | (simp; omega) | omega)) | assumption | (with_reducible refine Ext.trans ?_ (by assumption))))
  have hSs : wS.heap.size = w.heap.size + 1 + 1 + 1 + 1 := by rw [hwS]; simp [hbs]
  have H8 := Lib.hid (show VarAt wS (w.heap.size + 1 + 1) 25 (.slice none 0 0) by rw [hwS, ← hbs]; exact (VarAt.new wb _ _).ext ((Ext.refl _).alloc _))
  have H9 := Lib.hid (show VarAt wS (w.heap.size + 1 + 1 + 1) 2 (.int .i64 0) by
    rw [hwS, ← hbs]
    have h := VarAt.new (wb.alloc (.cells #[.slice none 0 0] 25)) 2 (.int .i64 0)
    rwa [show (wb.alloc (.cells #[.slice none 0 0] 25)).heap.size = wb.heap.size + 1 by simp] at h)
  have HT := Lib.hid (impl_tuples m (2 * np) 107 #[.pointer (some ⟨w.heap.size, 0, none⟩), .pointer (some ⟨w.heap.size + 1, 0, none⟩), .pointer (some ⟨w.heap.size + 1 + 1 + 1, 0, none⟩), .pointer (some ⟨w.heap.size + 1 + 1, 0, none⟩)]
    (fun t W => Ext wb W ∧ VarAt W (w.heap.size + 1 + 1 + 1) 2 (.int .i64 (bpF m np t).2) ∧ ∃ sa sn sc, VarAt W (w.heap.size + 1 + 1) 25 (.slice sa sn sc) ∧ BestIs W wS.heap.size (bpF m np t).1 sa sn sc) (fun _ => False) wS (by omega) (by omega) (by omega) (fun _ _ => rfl)
    (fun W ht => ⟨hxS.trans (touch_ext ht), H9.out.ext (touch_ext ht), none, 0, 0, H8.out.ext (touch_ext ht), rfl, rfl, rfl⟩)
    (fun t W W' h ht => ⟨⟨ht.os.trans h.1.os, ht.tape.trans h.1.tape, ht.output.trans h.1.output, Nat.le_trans h.1.size ht.size, fun k hk => (ht.block k (Nat.lt_of_lt_of_le hk h.1.size) (by omega)).trans (h.1.block k hk)⟩, (ht.block _ h.2.1.lt (by omega)).trans h.2.1, by
      obtain ⟨sa, sn, sc, h8, hbi⟩ := h.2.2
      exact ⟨sa, sn, sc, (ht.block _ h8.lt (by omega)).trans h8, hbi.touch ht⟩⟩)
    (fun t W ht h ho => by
      obtain ⟨hxW, h9, sa, sn, sc, h8, hbi⟩ := h
      have hbd := bpF_bd m np t
      refine (bp1 w.heap.size (w.heap.size + 1) (w.heap.size + 1 + 1) (w.heap.size + 1 + 1 + 1) wS.heap.size m np (2 * np) (bpF m np t).2 sa sn sc (tupAt m (2 * np) t) W (HP2.out.ext hxW) (HP3.out.ext hxW) h8 h9 ho.ints rfl (by omega) (by omega) (by omega) (tup_small (by omega) (by omega) ht) ⟨hbd.1, hbd.2.1⟩).mono ?_
      rintro e W' ⟨rfl, hu⟩
      left
      have hlt := ho.lt.2
      rcases hu with ⟨hu, W2, sa2, sc2, hx2, rfl, ho2, hn2⟩ | ⟨hu, hx2⟩
      · have e : bpF m np (t + 1) = (some (tupAt m (2 * np) t), apF m np ((tupAt m (2 * np) t).take np) ((tupAt m (2 * np) t).drop np) (m ^ np)) := by rw [bpF, if_pos hu]
        refine ⟨rfl, ⟨((hxW.trans hx2).setCell (by show wb.heap.size ≤ w.heap.size + 1 + 1; omega) _).setCell (by show wb.heap.size ≤ w.heap.size + 1 + 1 + 1; omega) _, ?_, sa2, (tupAt m (2 * np) t).length, sc2, ?_, ?_⟩, ?_⟩
        · rw [e]
          exact ((h9.ext hx2).other _ (show w.heap.size + 1 + 1 + 1 ≠ w.heap.size + 1 + 1 by omega)).set _
        · exact ((h8.ext hx2).set _).other _ (show w.heap.size + 1 + 1 ≠ w.heap.size + 1 + 1 + 1 by omega)
        · rw [e]
          exact ⟨hn2, rfl, ((ho2.mono (show wS.heap.size + 1 ≤ W.heap.size by omega)).setBelow (show w.heap.size + 1 + 1 < wS.heap.size + 1 by omega) _).setBelow (show w.heap.size + 1 + 1 + 1 < wS.heap.size + 1 by omega) _⟩
        · rw [Below.heap_setCell _ _ _ _ (show wS.heap.size ≠ w.heap.size + 1 + 1 + 1 by omega), Below.heap_setCell _ _ _ _ (show wS.heap.size ≠ w.heap.size + 1 + 1 by omega)]
          exact hx2.block _ hlt
      · have e : bpF m np (t + 1) = bpF m np t := by rw [bpF, if_neg hu]
        exact ⟨rfl, ⟨hxW.trans hx2, by rw [e]; exact h9.ext hx2, sa, sn, sc, h8.ext hx2, by rw [e]; exact hbi.ext hx2⟩, hx2.block _ hlt⟩))
  have q2 : wS.cell? ⟨w.heap.size, 0, none⟩ = some (.int .i64 m) := (HP2.out.ext hxS).cell
  have q3 : wS.cell? ⟨w.heap.size + 1, 0, none⟩ = some (.int .i64 np) := (HP3.out.ext hxS).cell
  have hct : ((2 * np : Nat) : Int) = 2 * (np : Int) := by omega
  rw [hct] at HT
  have hwSs : w.heap.size ≤ wS.heap.size := by omega
  have HWb := Lib.hid hwb
  have HWs := Lib.hid hwS
  have hbn := bpF_bd m np (m ^ (2 * np))
  have HLn := Lib.hid (fun l => bpF_len m np (m ^ (2 * np)) (l := l))
  clear hwb hwS hbs hSs hct
  go_enter Try.func50, Try.ntmps50
  go_wp2_with (first | ((with_reducible refine (HBa.out _).mono ?_); rintro e w' ⟨rfl, rfl⟩) | ((with_reducible refine (HIn.out _).mono ?_); rintro e w' ⟨rfl, rfl⟩) | ((with_reducible refine (HPw.out _).mono ?_); rintro e w' ⟨rfl, rfl⟩))
  rw [← HWb.out, ← HWs.out]
  refine HT.out.mono ?_
  rintro e w2 ⟨rfl, hf | hf⟩
  · obtain ⟨hx2, h9, sa, sn, sc, h8, hbi⟩ := hf
    have hxw2 : Ext w w2 := hxb.trans hx2
    have c8 : ∀ w', Ext w2 w' → w'.cell? ⟨w.heap.size + 1 + 1, 0, none⟩ = some (.slice sa sn sc) := fun w' h => (h8.ext h).cell
    have c9 : ∀ w', Ext w2 w' → w'.cell? ⟨w.heap.size + 1 + 1 + 1, 0, none⟩ = some (.int .i64 (bpF m np (m ^ (2 * np))).2) := fun w' h => (h9.ext h).cell
    have c3 : ∀ w', Ext w2 w' → w'.cell? ⟨w.heap.size + 1, 0, none⟩ = some (.int .i64 np) := fun w' h => ((HP3.out.ext hx2).ext h).cell
    have h2e : Ext w2 w2 := Ext.refl _
    have d8 := c8 w2 h2e
    have d9 := c9 w2 h2e
    have d3 := c3 w2 h2e
    obtain ⟨bo, bz, hbo⟩ : ∃ bo bz, bpF m np (m ^ (2 * np)) = (bo, bz) := ⟨_, _, rfl⟩
    rw [hbo] at hbi c9 d9 HO hbn
    simp only at c9 hbn d9
    have HLo := Lib.hid (fun l (h : bo = some l) => HLn.out l (by rw [hbo]; exact h))
    clear hbo h8 h9 q2 q3 hx2
    cases bo with
    | none =>
      obtain ⟨rfl, rfl, rfl⟩ := hbi
      go_wp2_with fail
      refine bodyPost_ret (v := .tuple #[.slice none 0 0, .slice none 0 0, .int .i64 0, .bool false]) (by simp [results, Try.results50, go_sem]) rfl ?_
      exact bp_retN (by rw [HO.out]) hxw2
    | some l =>
      obtain ⟨hn, rfl, ho⟩ := hbi
      have hll := HLo.out l rfl
      obtain ⟨g', rfl⟩ := Option.ne_none_iff_exists'.1 hn
      have hl := ho.ints
      obtain ⟨a1, r1, i1⟩ := hl.pre (P := Try.prog) 25 2 und_int64s cell_int64 elem_int64s np (by omega)
      obtain ⟨a2, r2, i2⟩ := hl.suf (P := Try.prog) 25 2 und_int64s cell_int64 elem_int64s np (by omega)
      have hl1 : (l.take np).length = np := i1.len
      have hl2 : (l.drop np).length = np := by rw [i2.len]; omega
      obtain ⟨nl, hnl⟩ : ∃ nl, nl = l.length := ⟨_, rfl⟩
      rw [← hnl] at r1 r2 i2
      have hnn : nl - np = np := by omega
      rw [hnn] at r2 i2
      have HC1 := Lib.hid (fun W' (h : Ext w2 W') => clone_ints a1 np sc (l.take np) W' (i1.ext h) (by omega))
      have HC2 := Lib.hid (fun W' (h : Ext w2 W') => clone_ints a2 np (sc - np) (l.drop np) W' (i2.ext h) (by omega))
      have HR1 := Lib.hid (show bpL1 m np = l.take np by unfold bpL1; rw [HO.out]; rfl)
      have HR2 := Lib.hid (show bpL2 m np = l.drop np by unfold bpL2; rw [HO.out]; rfl)
      have HR3 := Lib.hid (show bpZ m np = bz by unfold bpZ; rw [HO.out])
      have HR4 := Lib.hid (show bpB m np = true by unfold bpB; rw [HO.out]; rfl)
      rw [← hnl] at c8 d8
      clear i1 i2 hl ho hll hn HLo HLn hnn hnl
      go_wp2_with fail
      (refine wp_region_from w2 (by repeat (first | (with_reducible exact Ext.refl _) | (with_reducible refine Ext.drewN ?_ _) | (with_reducible refine Ext.drew ?_) | (with_reducible refine Ext.alloc ?_ _) | ((with_reducible refine Ext.setCell ?_ ?_ _); rotate_left; focus (first | (simp; done) | (simp; omega) | omega)) | assumption | (with_reducible refine Ext.trans ?_ (by assumption)))) (by kernel_rfl) (by kernel_rfl) (seqB_of (by kernel_rfl)) ?_; (repeat (first | (refine mix_q rfl ?_; go_big_quiet_step (fail); refine wpQuiet_nil ?_; show wpMix _ _ _ _ _ _ _) | (refine mix_s rfl ?_; go_wp2_with ((first | ((with_reducible refine (HC1.out _ (by repeat (first | (with_reducible exact Ext.refl _) | (with_reducible refine Ext.drewN ?_ _) | (with_reducible refine Ext.drew ?_) | (with_reducible refine Ext.alloc ?_ _) | ((with_reducible refine Ext.setCell ?_ ?_ _); rotate_left; focus (first | (simp; done) | (simp; omega) | omega)) | assumption | (with_reducible refine Ext.trans ?_ (by assumption))))).mono ?_); rintro e w3 ⟨b1, d1, rfl, ho3, hy3, -⟩; rw [I_len, hl1] at ho3 ⊢; have hx3 : Ext w2 w3 := Ext.trans (by repeat (first | (with_reducible exact Ext.refl _) | (with_reducible refine Ext.drewN ?_ _) | (with_reducible refine Ext.drew ?_) | (with_reducible refine Ext.alloc ?_ _) | ((with_reducible refine Ext.setCell ?_ ?_ _); rotate_left; focus (first | (simp; done) | (simp; omega) | omega)) | assumption | (with_reducible refine Ext.trans ?_ (by assumption)))) hy3; have HO3 := Lib.hid (ho3.mono (Ext.le (show Ext w2 _ from (by repeat (first | (with_reducible exact Ext.refl _) | (with_reducible refine Ext.drewN ?_ _) | (with_reducible refine Ext.drew ?_) | (with_reducible refine Ext.alloc ?_ _) | ((with_reducible refine Ext.setCell ?_ ?_ _); rotate_left; focus (first | (simp; done) | (simp; omega) | omega)) | assumption | (with_reducible refine Ext.trans ?_ (by assumption))))))); clear ho3 hy3) | ((with_reducible refine (HC2.out _ (by repeat (first | (with_reducible exact Ext.refl _) | (with_reducible refine Ext.drewN ?_ _) | (with_reducible refine Ext.drew ?_) | (with_reducible refine Ext.alloc ?_ _) | ((with_reducible refine Ext.setCell ?_ ?_ _); rotate_left; focus (first | (simp; done) | (simp; omega) | omega)) | assumption | (with_reducible refine Ext.trans ?_ (by assumption))))).mono ?_); rintro e w4 ⟨b2, d2, rfl, ho4, hy4, -⟩; rw [I_len, hl2] at ho4 ⊢; have hx34 : Ext w3 w4 := Ext.trans (by repeat (first | (with_reducible exact Ext.refl _) | (with_reducible refine Ext.drewN ?_ _) | (with_reducible refine Ext.drew ?_) | (with_reducible refine Ext.alloc ?_ _) | ((with_reducible refine Ext.setCell ?_ ?_ _); rotate_left; focus (first | (simp; done) | (simp; omega) | omega)) | assumption | (with_reducible refine Ext.trans ?_ (by assumption)))) hy4; have hx4 : Ext w2 w4 := hx3.trans hx34; have HO4 := Lib.hid (ho4.mono (Ext.le (show Ext w3 _ from (by repeat (first | (with_reducible exact Ext.refl _) | (with_reducible refine Ext.drewN ?_ _) | (with_reducible refine Ext.drew ?_) | (with_reducible refine Ext.alloc ?_ _) | ((with_reducible refine Ext.setCell ?_ ?_ _); rotate_left; focus (first | (simp; done) | (simp; omega) | omega)) | assumption | (with_reducible refine Ext.trans ?_ (by assumption))))))); clear ho4 hy4))); first | refine ⟨up_of (by repeat (first | (with_reducible exact Ext.refl _) | (with_reducible refine Ext.drewN ?_ _) | (with_reducible refine Ext.drew ?_) | (with_reducible refine Ext.alloc ?_ _) | ((with_reducible refine Ext.setCell ?_ ?_ _); rotate_left; focus (first | (simp; done) | (simp; omega) | omega)) | assumption | (with_reducible refine Ext.trans ?_ (by assumption)))), ?_⟩ | refine ⟨rfl, rfl, up_of (by repeat (first | (with_reducible exact Ext.refl _) | (with_reducible refine Ext.drewN ?_ _) | (with_reducible refine Ext.drew ?_) | (with_reducible refine Ext.alloc ?_ _) | ((with_reducible refine Ext.setCell ?_ ?_ _); rotate_left; focus (first | (simp; done) | (simp; omega) | omega)) | assumption | (with_reducible refine Ext.trans ?_ (by assumption)))), ?_⟩))); refine mix_nil ?_)
      go_wp2_with fail
      refine bodyPost_ret (v := .tuple #[.slice b1 np d1, .slice b2 np d2, .int .i64 bz, .bool true]) (by simp [results, Try.results50, go_sem]) rfl ?_
      rw [HR1.out, HR2.out, HR3.out, HR4.out]
      exact ⟨b1, np, d1, b2, np, d2, rfl, hxw2.trans hx4, (HO3.out.ext hx34).mono hxw2.le, HO4.out.mono (hxw2.trans hx3).le, own_ne HO3.out HO4.out (Nat.le_refl _)⟩
  · exact hf.elim
end Go.Proofs.Ytaiieodllhoelaa

/- Walks: how far apart a pair's words are, in the reference. -/
namespace Go.Proofs.Ytaiieodllhoelaa
set_option maxRecDepth 100000
open Go.RowKit

theorem nz_rep (n : Nat) : nz (List.replicate n 0) n = 0 := by
  unfold nz
  refine (S_congr (g := fun _ => 0) fun i hi => ?_).trans (S_zero n)
  rw [if_pos]
  simp [gi, List.getD_eq_getElem?_getD, hi]
theorem apF_one (m n : Nat) (one two : List Int) : apF m n one two 1 = 0 := by
  have h : nz (tupAt m n 0) n = 0 := by rw [tupAt_zero]; exact nz_rep n
  rw [apF, h, if_neg (by simp)]
  rfl
theorem apF_next {m n t : Nat} {one two : List Int} (hm : 0 < m) (ht : t < m ^ n) (h0 : 0 < t) : apF m n one two (t + 1) = if (ofP m one two (tupAt m n t) n && (decide (apF m n one two t = 0) || decide (nz (tupAt m n t) n < apF m n one two t))) = true then nz (tupAt m n t) n else apF m n one two t := by
  rw [apF, decide_eq_true (nz_pos hm ht h0), Bool.true_and]
set_option maxHeartbeats 4000000 in
theorem spec_apart (m n : Nat) (a1 a2 : Option Addr) (c1 c2 : Nat) (one two : List Int) (w : World) (h1 : Ints w a1 n c1 one) (h2 : Ints w a2 n c2 two) (hn : n ≤ 20) (hm : 1 ≤ m) (hm2 : m ≤ 36) (s1 : Small one) (s2 : Small two) :
    Calls Try.prog 112 #[.int .i64 m, .slice a1 n c1, .slice a2 n c2] w (Ret (.int .i64 (apF m n one two (m ^ n))) w) := by
  have H1 := Lib.hid h1
  have H2 := Lib.hid h2
  have HS1 := Lib.hid (fun k (hk : k < n) => s1.at k (by rw [h1.len]; exact hk))
  have HS2 := Lib.hid (fun k (hk : k < n) => s2.at k (by rw [h2.len]; exact hk))
  have HB1 := Lib.hid (fun (d : List Int) (hd : Small d) (hl : d.length = n) k (hk : k ≤ n) => dt_bd hd s1 k (by omega) (by rw [h1.len]; exact hk))
  have HB2 := Lib.hid (fun (d : List Int) (hd : Small d) (hl : d.length = n) k (hk : k ≤ n) => dt_bd hd s2 k (by omega) (by rw [h2.len]; exact hk))
  have hNp : 0 < m ^ n := Nat.pow_pos (by omega)
  obtain ⟨N, hN⟩ : ∃ N, N = m ^ n := ⟨_, rfl⟩
  have HN := Lib.hid hN
  have hNN : 0 < N := by omega
  have hA0 := apF_one m n one two
  have HA0 := Lib.hid hA0
  clear h1 h2 s1 s2 hA0 hNp
  go_enter Try.func112, Try.ntmps112
  rw [← hN]
  clear hN
  go_wp2_with (at_make; refine law_make _ rfl _ _ 25 rfl 2 (.int .i64 0) 8 und_int64s info_int64 rfl _ _ n rfl rfl (by omega) (by unfold maxLen; omega) ?_; intro w1 hown hx hsz)
  have HO0 := Lib.hid (show Own w1 w.heap.size 2 (some ⟨w.heap.size, 0, none⟩) n n (I (tupAt m n 0)) by rw [tupAt_zero, I_replicate]; exact hown)
  clear hown hsz
  go_loopg [8, 9, 10, 11, 12] N (fun gk s8 _ _ _ _ wr => ∃ (t : Nat) (z : Int), t < N ∧ gk = N - t ∧ s8 = .int .i64 z ∧ 0 ≤ z ∧ z ≤ n ∧ Hid (z = apF m n one two (t + 1)) ∧ Hid (Own wr w.heap.size 2 (some ⟨w.heap.size, 0, none⟩) n n (I (tupAt m n t))) ∧ Ext w wr)
  case atStart => exact ⟨0, 0, hNN, rfl, rfl, by omega, by omega, HA0.out.symm, HO0, hx⟩
  case round =>
    obtain ⟨t, z, ht, rfl, rfl, hz0, hzn, HZ, HO, hxr⟩ := hrel
    obtain ⟨wr0, rfl⟩ : ∃ x, x = wr := ⟨_, rfl⟩
    have htN : t < m ^ n := by rw [← HN.out]; exact ht
    have HNx := Lib.hid (spec_nextT m n t w.heap.size w.heap.size n wr0 hm (by omega) (by omega) htN HO.out)
    have htw := HO.out.lt
    rw [← HN.out] at htN
    by_cases hlt : t + 1 < N
    · have hdl : decide (t + 1 < m ^ n) = true := by rw [← HN.out]; exact decide_eq_true hlt
      have hml : (t + 1) % m ^ n = t + 1 := by rw [← HN.out]; exact Nat.mod_eq_of_lt hlt
      have HD := Lib.hid hdl
      have HM := Lib.hid hml
      clear hdl hml
      go_wp2_with ((with_reducible refine HNx.out.mono ?_); rintro e w7 ⟨rfl, ht7, ho7⟩; rw [HM.out] at ho7; rw [HD.out]; have hx7 : Ext w w7 := ext_touch hxr ht7; have HO7 := Lib.hid ho7; clear ht7 ho7)
      have hsd := tup_small (m := m) (n := n) (t := t + 1) (by omega) hm2 (by rw [← HN.out]; exact hlt)
      have hsl := tupAt_len m n (t + 1)
      have HDB := Lib.hid (fun k (hk : k < n) => hsd.at k (by rw [hsl]; exact hk))
      have HX1 := Lib.hid (HB1.out _ hsd hsl)
      have HX2 := Lib.hid (HB2.out _ hsd hsl)
      have HAn := Lib.hid (apF_next (m := m) (n := n) (t := t + 1) (one := one) (two := two) (by omega) (by rw [← HN.out]; exact hlt) (by omega))
      have HNz := Lib.hid (fun k => nz_bd (tupAt m n (t + 1)) k)
      rw [← HZ.out] at HAn
      clear hsd hsl
      have HID := Lib.hid HO7.out.ints
      generalize hd : tupAt m n (t + 1) = d at *
      go_loopw [9, 10, 11, 12] (fun s9 s10 s11 s12 wr => ∃ (k : Nat) (x y f : Int), k ≤ n ∧ s12 = .int .i64 k ∧ s9 = .int .i64 x ∧ s10 = .int .i64 y ∧ s11 = .int .i64 f ∧ Hid (x = dt d one k) ∧ Hid (y = dt d two k) ∧ Hid (f = nz d k) ∧ ∃ q, wr = w7.drewN q) (fun _ _ _ s12 _ => n - (intOf s12).toNat)
      case atStart => exact ⟨0, 0, 0, 0, Nat.zero_le _, rfl, rfl, rfl, rfl, rfl, rfl, rfl, 0, rfl⟩
      case round =>
        obtain ⟨k, x, y, f, hk, rfl, rfl, rfl, rfl, HX, HY, HF, q, rfl⟩ := hrel
        have hx := HX1.out k hk
        have hy := HX2.out k hk
        have hf := HNz.out k
        rw [← HX.out] at hx
        rw [← HY.out] at hy
        rw [← HF.out] at hf
        by_cases hkn : k < n
        · obtain ⟨b1, o1, i1, e1⟩ := (H1.out.ext hx7).at 25 2 und_int64s cell_int64 k hkn .i64
          obtain ⟨b2, o2, i2, e2⟩ := (H2.out.ext hx7).at 25 2 und_int64s cell_int64 k hkn .i64
          obtain ⟨b3, o3, i3, e3⟩ := HID.out.at 25 2 und_int64s cell_int64 k hkn .i64
          have hdk := HDB.out k hkn
          have ho := HS1.out k hkn
          have htk := HS2.out k hkn
          have HNX := Lib.hid (show dt d one (k + 1) = x + one.getD k 0 * d.getD k 0 by rw [HX.out, Int.mul_comm (one.getD k 0)]; rfl)
          have HNY := Lib.hid (show dt d two (k + 1) = y + two.getD k 0 * d.getD k 0 by rw [HY.out, Int.mul_comm (two.getD k 0)]; rfl)
          have HNF := Lib.hid (show nz d (k + 1) = f + (if d.getD k 0 = 0 then 0 else 1) by rw [HF.out]; rfl)
          generalize one.getD k 0 = u at *
          generalize two.getD k 0 = v at *
          generalize d.getD k 0 = s at *
          have hus := mul_bd ho.1 ho.2 hdk.1 hdk.2
          have hvs := mul_bd htk.1 htk.2 hdk.1 hdk.2
          by_cases hs0 : 0 < s
          · have HNF1 := Lib.hid (show nz d (k + 1) = f + 1 by rw [HNF.out, if_neg (by omega)])
            go_wp2
            go_quiet (fail)
            go_wp2
            go_quiet (fail)
            go_wp2
            exact ⟨⟨k + 1, _, _, _, by omega, by go_num, rfl, rfl, rfl, HNX.out.symm, HNY.out.symm, HNF1.out.symm, (by first | exact ⟨_, rfl⟩ | exact ⟨_, World.drewN_drewN _ _ _⟩)⟩, by simp [intOf]; omega⟩
          · have HNF1 := Lib.hid (show nz d (k + 1) = f by rw [HNF.out, if_pos (by omega), Int.add_zero])
            go_wp2
            go_quiet (fail)
            go_wp2
            go_quiet (fail)
            go_wp2
            exact ⟨⟨k + 1, _, _, f, by omega, by go_num, rfl, rfl, rfl, HNX.out.symm, HNY.out.symm, HNF1.out.symm, (by first | exact ⟨_, rfl⟩ | exact ⟨_, World.drewN_drewN _ _ _⟩)⟩, by simp [intOf]; omega⟩
        · obtain rfl : n = k := by omega
          have hhx := hit_tmod x m
          have hhy := hit_tmod y m
          have ex : x.tmod m = x % m := Int.tmod_eq_emod_of_nonneg hx.1
          have ey : y.tmod m = y % m := Int.tmod_eq_emod_of_nonneg hy.1
          rw [ex] at hhx
          rw [ey] at hhy
          rw [show ofP m one two d n = (hit x m && hit y m) by rw [ofP, HX.out, HY.out], ← HF.out] at HAn
          clear ex ey HX HY
          have HO8 := Lib.hid (fun q => Own.ext HO7.out ((Ext.refl w7).drewN q))
          have hx8 : ∀ q, Ext w (w7.drewN q) := fun q => hx7.drewN q
          have hmz : (m : Int) ≠ 0 := by omega
          have no : (hit x m && hit y m && (decide (z = 0) || decide (f < z))) = false → apF m n one two (t + 1 + 1) = z := fun h => by rw [HAn.out, if_neg (by rw [h]; simp)]
          have yes : (hit x m && hit y m && (decide (z = 0) || decide (f < z))) = true → apF m n one two (t + 1 + 1) = f := fun h => by rw [HAn.out, if_pos h]
          cases hbx : hit x m
          · have HRn := Lib.hid (no (by rw [hbx]; rfl))
            rw [hbx] at hhx
            clear no yes hbx hhy
            go_wp2
            go_roundg (N - (t + 1))
            case measure => omega
            case rel => exact ⟨t + 1, z, hlt, rfl, rfl, hz0, hzn, HRn.out.symm, by rw [hd]; exact HO8.out _, hx8 _⟩
          rw [hbx] at hhx
          cases hby : hit y m
          · have HRn := Lib.hid (no (by rw [hby]; simp))
            rw [hby] at hhy
            clear no yes hbx hby
            go_wp2
            go_roundg (N - (t + 1))
            case measure => omega
            case rel => exact ⟨t + 1, z, hlt, rfl, rfl, hz0, hzn, HRn.out.symm, by rw [hd]; exact HO8.out _, hx8 _⟩
          rw [hby] at hhy
          by_cases hz : z = 0
          · have HRy := Lib.hid (yes (by rw [hbx, hby, decide_eq_true hz]; rfl))
            clear no yes hbx hby HZ HAn
            subst hz
            go_wp2
            go_roundg (N - (t + 1))
            case measure => omega
            case rel => exact ⟨t + 1, f, hlt, rfl, rfl, hf.1, hf.2, HRy.out.symm, by rw [hd]; exact HO8.out _, hx8 _⟩
          by_cases hfz : f < z
          · have HRy := Lib.hid (yes (by rw [hbx, hby, decide_eq_true hfz]; simp))
            clear no yes hbx hby
            go_wp2
            go_roundg (N - (t + 1))
            case measure => omega
            case rel => exact ⟨t + 1, f, hlt, rfl, rfl, hf.1, hf.2, HRy.out.symm, by rw [hd]; exact HO8.out _, hx8 _⟩
          · have HRn := Lib.hid (no (by rw [decide_eq_false hz, decide_eq_false hfz]; simp))
            clear no yes hbx hby
            go_wp2
            go_roundg (N - (t + 1))
            case measure => omega
            case rel => exact ⟨t + 1, z, hlt, rfl, rfl, hz0, hzn, HRn.out.symm, by rw [hd]; exact HO8.out _, hx8 _⟩
    · obtain rfl : N = t + 1 := by omega
      have HD := Lib.hid (show decide (t + 1 < m ^ n) = false by rw [← HN.out]; simp)
      go_wp2_with ((with_reducible refine HNx.out.mono ?_); rintro e w7 ⟨rfl, ht7, ho7⟩; rw [HD.out]; have hx7 : Ext w w7 := ext_touch hxr ht7; clear ht7 ho7)
      go_ret
      exact ⟨by rw [← HZ.out]; rfl, hx7⟩
end Go.Proofs.Ytaiieodllhoelaa

/- Walks: BestPair of the reference. -/
namespace Go.Proofs.Ytaiieodllhoelaa
set_option maxRecDepth 100000
open Go.RowKit

theorem pairBs_no {base : Int} (h : pairBs base = false) : (base != 2) = true ∧ (base != 3) = true ∧ (base != 5) = true := by
  unfold pairBs at h
  simp only [Bool.or_eq_false_iff] at h
  exact ⟨by rw [bne, h.1.1]; rfl, by rw [bne, h.1.2]; rfl, by rw [bne, h.2]; rfl⟩
theorem bp_len (base places : Int) : ((bpO base places).1.getD []).length ≤ 12 := by
  cases h : bpOk base places
  · rw [bpO_no h]; simp
  · have ho : bpO base places = bpF base.toNat places.toNat (base.toNat ^ (2 * places.toNat)) := by unfold bpO; rw [h]; rfl
    rw [ho]
    cases hl : (bpF base.toNat places.toNat (base.toNat ^ (2 * places.toNat))).1 with
    | none => simp
    | some l =>
      have h1 := bpF_len _ _ _ hl
      unfold bpOk at h
      simp only [Bool.and_eq_true] at h
      obtain ⟨p1, p2⟩ := inB_t.1 h.2.1
      show l.length ≤ 12
      omega
theorem bp_len1 (base places : Int) : (bpL1 base places).length ≤ 1048576 := by have := bp_len base places; unfold bpL1; rw [List.length_take]; omega
theorem bp_len2 (base places : Int) : (bpL2 base places).length ≤ 1048576 := by have := bp_len base places; unfold bpL2; rw [List.length_drop]; omega
set_option maxHeartbeats 8000000 in
theorem spec_BP (base places : Int) (w : World) :
    Calls Try.prog 51 #[.int .i64 base, .int .i64 places] w (RetLLNB (bpL1 base places) (bpL2 base places) (bpZ base places) (bpB base places) w) := by
  have HIn := Lib.hid (fun W => spec_in places 1 6 W)
  cases hb : pairBs base
  · have HO := Lib.hid (bpO_no (show bpOk base places = false by unfold bpOk; rw [hb]; rfl))
    obtain ⟨e2, e3, e5⟩ := pairBs_no hb
    clear hb
    go_enter Try.func51, Try.ntmps51
    go_wp2_with fail
    refine bodyPost_ret (v := .tuple #[.slice none 0 0, .slice none 0 0, .int .i64 0, .bool false]) (by simp [results, Try.results51, go_sem]) rfl ?_
    exact bp_retN HO.out (by repeat (first | (with_reducible exact Ext.refl _) | (with_reducible assumption) | (with_reducible refine Ext.drewN ?_ _) | (with_reducible refine Ext.drew ?_) | (with_reducible refine Ext.alloc ?_ _) | ((with_reducible refine Ext.setCell ?_ ?_ _); rotate_left; focus (first | (simp; done) | (simp; omega) | omega)) | (with_reducible refine Ext.trans ?_ (by with_reducible assumption))))
  have hb3 := pairBs_t hb
  cases hp : inB places 1 6
  · rw [hp] at HIn
    have HO := Lib.hid (bpO_no (show bpOk base places = false by unfold bpOk; rw [hp]; simp))
    clear hp hb
    rcases hb3 with hb3 | hb3 | hb3
    · have e2 : (base != 2) = false := by rw [hb3]; rfl
      clear hb3
      go_enter Try.func51, Try.ntmps51
      go_wp2_with ((with_reducible refine (HIn.out _).mono ?_); rintro e w' ⟨rfl, rfl⟩)
      refine bodyPost_ret (v := .tuple #[.slice none 0 0, .slice none 0 0, .int .i64 0, .bool false]) (by simp [results, Try.results51, go_sem]) rfl ?_
      exact bp_retN HO.out (by repeat (first | (with_reducible exact Ext.refl _) | (with_reducible assumption) | (with_reducible refine Ext.drewN ?_ _) | (with_reducible refine Ext.drew ?_) | (with_reducible refine Ext.alloc ?_ _) | ((with_reducible refine Ext.setCell ?_ ?_ _); rotate_left; focus (first | (simp; done) | (simp; omega) | omega)) | (with_reducible refine Ext.trans ?_ (by with_reducible assumption))))
    · have e2 : (base != 2) = true := by rw [hb3]; rfl
      have e3 : (base != 3) = false := by rw [hb3]; rfl
      clear hb3
      go_enter Try.func51, Try.ntmps51
      go_wp2_with ((with_reducible refine (HIn.out _).mono ?_); rintro e w' ⟨rfl, rfl⟩)
      refine bodyPost_ret (v := .tuple #[.slice none 0 0, .slice none 0 0, .int .i64 0, .bool false]) (by simp [results, Try.results51, go_sem]) rfl ?_
      exact bp_retN HO.out (by repeat (first | (with_reducible exact Ext.refl _) | (with_reducible assumption) | (with_reducible refine Ext.drewN ?_ _) | (with_reducible refine Ext.drew ?_) | (with_reducible refine Ext.alloc ?_ _) | ((with_reducible refine Ext.setCell ?_ ?_ _); rotate_left; focus (first | (simp; done) | (simp; omega) | omega)) | (with_reducible refine Ext.trans ?_ (by with_reducible assumption))))
    · have e2 : (base != 2) = true := by rw [hb3]; rfl
      have e3 : (base != 3) = true := by rw [hb3]; rfl
      have e5 : (base != 5) = false := by rw [hb3]; rfl
      clear hb3
      go_enter Try.func51, Try.ntmps51
      go_wp2_with ((with_reducible refine (HIn.out _).mono ?_); rintro e w' ⟨rfl, rfl⟩)
      refine bodyPost_ret (v := .tuple #[.slice none 0 0, .slice none 0 0, .int .i64 0, .bool false]) (by simp [results, Try.results51, go_sem]) rfl ?_
      exact bp_retN HO.out (by repeat (first | (with_reducible exact Ext.refl _) | (with_reducible assumption) | (with_reducible refine Ext.drewN ?_ _) | (with_reducible refine Ext.drew ?_) | (with_reducible refine Ext.alloc ?_ _) | ((with_reducible refine Ext.setCell ?_ ?_ _); rotate_left; focus (first | (simp; done) | (simp; omega) | omega)) | (with_reducible refine Ext.trans ?_ (by with_reducible assumption))))
  rw [hp] at HIn
  obtain ⟨p1, p2⟩ := inB_t.1 hp
  obtain ⟨np, rfl⟩ := Int.eq_ofNat_of_zero_le (show 0 ≤ places by omega)
  obtain ⟨m, rfl⟩ := Int.eq_ofNat_of_zero_le (show 0 ≤ base by omega)
  have hm2 : 2 ≤ m := by omega
  have hm5 : m ≤ 5 := by omega
  obtain ⟨nN, hnN⟩ : ∃ nN, nN = 2 * np := ⟨_, rfl⟩
  have HNN := Lib.hid hnN
  have hnb : nN ≤ 12 := by omega
  have HCT := Lib.hid (show (2 * (np : Int)) = (nN : Int) by omega)
  have HFw := Lib.hid (show ∀ W, Calls Try.prog 110 #[.int .i64 m, .int .i64 (2 * (np : Int))] W (Same (.bool (decide ((m : Int) ^ nN ≤ 20000))) W) from fun W => by
    rw [HCT.out]
    exact spec_few m nN W (by omega) (by omega) (by omega))
  cases hpw : decide ((m : Int) ^ nN ≤ 20000)
  · rw [hpw] at HFw
    have HO := Lib.hid (bpO_no (show bpOk m np = false by unfold bpOk; rw [Int.toNat_natCast, ← hnN, hpw]; simp))
    clear hb hp hpw hnN
    rcases hb3 with hb3 | hb3 | hb3
    · have e2 : ((m : Int) != 2) = false := by rw [hb3]; rfl
      clear hb3
      go_enter Try.func51, Try.ntmps51
      go_wp2_with (first | ((with_reducible refine (HIn.out _).mono ?_); rintro e w' ⟨rfl, rfl⟩) | ((with_reducible refine (HFw.out _).mono ?_); rintro e w' ⟨rfl, rfl⟩))
      refine bodyPost_ret (v := .tuple #[.slice none 0 0, .slice none 0 0, .int .i64 0, .bool false]) (by simp [results, Try.results51, go_sem]) rfl ?_
      exact bp_retN HO.out (by repeat (first | (with_reducible exact Ext.refl _) | (with_reducible assumption) | (with_reducible refine Ext.drewN ?_ _) | (with_reducible refine Ext.drew ?_) | (with_reducible refine Ext.alloc ?_ _) | ((with_reducible refine Ext.setCell ?_ ?_ _); rotate_left; focus (first | (simp; done) | (simp; omega) | omega)) | (with_reducible refine Ext.trans ?_ (by with_reducible assumption))))
    · have e2 : ((m : Int) != 2) = true := by rw [hb3]; rfl
      have e3 : ((m : Int) != 3) = false := by rw [hb3]; rfl
      clear hb3
      go_enter Try.func51, Try.ntmps51
      go_wp2_with (first | ((with_reducible refine (HIn.out _).mono ?_); rintro e w' ⟨rfl, rfl⟩) | ((with_reducible refine (HFw.out _).mono ?_); rintro e w' ⟨rfl, rfl⟩))
      refine bodyPost_ret (v := .tuple #[.slice none 0 0, .slice none 0 0, .int .i64 0, .bool false]) (by simp [results, Try.results51, go_sem]) rfl ?_
      exact bp_retN HO.out (by repeat (first | (with_reducible exact Ext.refl _) | (with_reducible assumption) | (with_reducible refine Ext.drewN ?_ _) | (with_reducible refine Ext.drew ?_) | (with_reducible refine Ext.alloc ?_ _) | ((with_reducible refine Ext.setCell ?_ ?_ _); rotate_left; focus (first | (simp; done) | (simp; omega) | omega)) | (with_reducible refine Ext.trans ?_ (by with_reducible assumption))))
    · have e2 : ((m : Int) != 2) = true := by rw [hb3]; rfl
      have e3 : ((m : Int) != 3) = true := by rw [hb3]; rfl
      have e5 : ((m : Int) != 5) = false := by rw [hb3]; rfl
      clear hb3
      go_enter Try.func51, Try.ntmps51
      go_wp2_with (first | ((with_reducible refine (HIn.out _).mono ?_); rintro e w' ⟨rfl, rfl⟩) | ((with_reducible refine (HFw.out _).mono ?_); rintro e w' ⟨rfl, rfl⟩))
      refine bodyPost_ret (v := .tuple #[.slice none 0 0, .slice none 0 0, .int .i64 0, .bool false]) (by simp [results, Try.results51, go_sem]) rfl ?_
      exact bp_retN HO.out (by repeat (first | (with_reducible exact Ext.refl _) | (with_reducible assumption) | (with_reducible refine Ext.drewN ?_ _) | (with_reducible refine Ext.drew ?_) | (with_reducible refine Ext.alloc ?_ _) | ((with_reducible refine Ext.setCell ?_ ?_ _); rotate_left; focus (first | (simp; done) | (simp; omega) | omega)) | (with_reducible refine Ext.trans ?_ (by with_reducible assumption))))
  rw [hpw] at HFw
  have HO := Lib.hid (show bpO m np = bpF m np (m ^ nN) by unfold bpO bpOk; rw [Int.toNat_natCast, Int.toNat_natCast, ← hnN, hpw, hb, hp]; rfl)
  have hNp : 0 < m ^ nN := Nat.pow_pos (by omega)
  obtain ⟨N, hN⟩ : ∃ N, N = m ^ nN := ⟨_, rfl⟩
  have HN := Lib.hid hN
  have hN0 : 0 < N := by omega
  have hnn : nN - np = np := by omega
  have hnp2 : np ≤ nN := by omega
  have HBd := Lib.hid (fun t => bpF_bd m np t)
  have HLn := Lib.hid (fun t l => bpF_len m np t (l := l))
  have HFs := Lib.hid (show ∀ t, bpF m np (t + 1) = if (bpF m np t).2 < apF m np ((tupAt m nN t).take np) ((tupAt m nN t).drop np) (m ^ np) then (some (tupAt m nN t), apF m np ((tupAt m nN t).take np) ((tupAt m nN t).drop np) (m ^ np)) else bpF m np t from fun t => by rw [hnN, bpF])
  have HTs := Lib.hid (fun t (ht : t < m ^ nN) => tup_small (m := m) (n := nN) (t := t) (by omega) (by omega) ht)
  rw [← hN] at HO HTs
  have HX0 := Lib.hid (Ext.refl w)
  clear hb hp hpw hnN hN hNp
  have way : ∀ b2 b3 b5 : Bool, ((m : Int) != 2) = b2 → ((m : Int) != 3) = b3 → ((m : Int) != 5) = b5 → (b2 && (b3 && b5)) = false → Calls Try.prog 51 #[.int .i64 m, .int .i64 np] w (RetLLNB (bpL1 m np) (bpL2 m np) (bpZ m np) (bpB m np) w) := by
    clear hb3
    intro b2 b3 b5 e2 e3 e5 hbb
    have h3 : b2 = false ∨ (b2 = true ∧ b3 = false) ∨ (b2 = true ∧ b3 = true ∧ b5 = false) := by revert hbb; cases b2 <;> cases b3 <;> cases b5 <;> simp
    clear hbb
    rcases h3 with rfl | ⟨rfl, rfl⟩ | ⟨rfl, rfl, rfl⟩
    all_goals
      go_enter Try.func51, Try.ntmps51
      go_wp2_with (first | ((with_reducible refine (HIn.out _).mono ?_); rintro e w' ⟨rfl, rfl⟩) | ((with_reducible refine (HFw.out _).mono ?_); rintro e w' ⟨rfl, rfl⟩) | (at_make; refine law_make _ rfl _ _ 25 rfl 2 (.int .i64 0) 8 und_int64s info_int64 rfl _ _ nN (congrArg (Value.int .i64) HCT.out) (congrArg (Value.int .i64) HCT.out) (by omega) (by unfold maxLen; omega) ?_; intro w1 hown hx hsz))
      have HR0 := Lib.hid (show Own (w1.alloc (.cells #[] 2)) w.heap.size 2 (some ⟨w.heap.size, 0, none⟩) nN nN (I (tupAt m nN (0 % N))) by rw [Nat.zero_mod, tupAt_zero, I_replicate]; exact hown.ext ((Ext.refl _).alloc _))
      have hxr0 : Ext w (w1.alloc (.cells #[] 2)) := hx.alloc _
      have hsr0 : w.heap.size < (w1.alloc (.cells #[] 2)).heap.size := by simp [hsz]; omega
      clear hown hx hsz
      go_loopg [9, 10, 11, 12] N (fun gk s9 s10 s11 _ wr => ∃ (t : Nat) (z : Int) (sa : Option Addr) (sn sc : Nat), t ≤ N ∧ gk = N - t ∧ s9 = .slice sa sn sc ∧ s10 = .int .i64 z ∧ s11 = .bool (decide (t < N)) ∧ Hid (z = (bpF m np t).2) ∧ Hid (∀ l, (bpF m np t).1 = some l → sn = l.length ∧ Own wr (w.heap.size + 1) 2 sa sn sc (I l)) ∧ Hid (Own wr w.heap.size 2 (some ⟨w.heap.size, 0, none⟩) nN nN (I (tupAt m nN (t % N)))) ∧ Ext w wr ∧ w.heap.size < wr.heap.size)
      case atStart => exact ⟨0, 0, _, _, _, Nat.zero_le _, rfl, rfl, rfl, by rw [decide_eq_true hN0], rfl, Lib.hid (fun l h => by cases h), HR0, hxr0, hsr0⟩
      case round =>
        obtain ⟨t, z, sa, sn, sc, ht, rfl, rfl, rfl, rfl, HZ, HB, HRw, hxr, hsr⟩ := hrel
        have hzb := (HBd.out t)
        rw [← HZ.out] at hzb
        by_cases hlt : t < N
        · have hmod : t % N = t := Nat.mod_eq_of_lt hlt
          have HRw2 := Lib.hid (show Own wr w.heap.size 2 (some ⟨w.heap.size, 0, none⟩) nN nN (I (tupAt m nN t)) by have h := HRw.out; rwa [hmod] at h)
          have htN : t < m ^ nN := by rw [← HN.out]; exact hlt
          have HNx := Lib.hid (fun W (h : Ext wr W) => spec_nextT m nN t w.heap.size w.heap.size nN W (by omega) (by omega) (by omega) htN (HRw2.out.ext h))
          have HOw := Lib.hid (fun W (h : Ext wr W) => spec_own (some ⟨w.heap.size, 0, none⟩) nN nN (tupAt m nN t) W (HRw2.out.ints.ext h) (by omega))
          obtain ⟨a1, r1, i1⟩ := HRw2.out.ints.pre (P := Try.prog) 25 2 und_int64s cell_int64 elem_int64s np hnp2
          obtain ⟨a2, r2, i2⟩ := HRw2.out.ints.suf (P := Try.prog) 25 2 und_int64s cell_int64 elem_int64s np hnp2
          rw [hnn] at r2 i2
          have hts := HTs.out t hlt
          have HAp := Lib.hid (fun W (h : Ext wr W) => spec_apart m np a1 a2 nN np ((tupAt m nN t).take np) ((tupAt m nN t).drop np) W (i1.ext h) (i2.ext h) (by omega) (by omega) (by omega) (hts.take np) (fun x hx => hts x (List.mem_of_mem_drop hx)))
          have HFt := Lib.hid (HFs.out t)
          have hyb := apF_bd m np ((tupAt m nN t).take np) ((tupAt m nN t).drop np) (m ^ np)
          generalize apF m np ((tupAt m nN t).take np) ((tupAt m nN t).drop np) (m ^ np) = y at *
          rw [← HZ.out] at HFt
          rw [decide_eq_true hlt]
          clear hmod i1 i2 hts htN
          have hrr : Ext wr wr := Ext.refl _
          by_cases hzy : z < y
          · have HFy := Lib.hid (HFt.out.trans (if_pos hzy))
            go_wp2_with fail
            (refine wp_region_from wr (by repeat (first | (with_reducible exact Ext.refl _) | (with_reducible refine Ext.drewN ?_ _) | (with_reducible refine Ext.drew ?_) | (with_reducible refine Ext.alloc ?_ _) | ((with_reducible refine Ext.setCell ?_ ?_ _); rotate_left; focus (first | (simp; done) | (simp; omega) | omega)) | assumption | (with_reducible refine Ext.trans ?_ (by assumption)))) (by kernel_rfl) (by kernel_rfl) (seqB_of (by kernel_rfl)) ?_; (repeat (first | (refine mix_q rfl ?_; go_big_quiet_step (fail); refine wpQuiet_nil ?_; show wpMix _ _ _ _ _ _ _) | (refine mix_s rfl ?_; go_wp2_with (((with_reducible refine (HAp.out _ (by repeat (first | (with_reducible exact Ext.refl _) | (with_reducible refine Ext.drewN ?_ _) | (with_reducible refine Ext.drew ?_) | (with_reducible refine Ext.alloc ?_ _) | ((with_reducible refine Ext.setCell ?_ ?_ _); rotate_left; focus (first | (simp; done) | (simp; omega) | omega)) | assumption | (with_reducible refine Ext.trans ?_ (by assumption))))).mono ?_); rintro e w2 ⟨rfl, hy2⟩; have hx2 : Ext wr w2 := Ext.trans (by repeat (first | (with_reducible exact Ext.refl _) | (with_reducible refine Ext.drewN ?_ _) | (with_reducible refine Ext.drew ?_) | (with_reducible refine Ext.alloc ?_ _) | ((with_reducible refine Ext.setCell ?_ ?_ _); rotate_left; focus (first | (simp; done) | (simp; omega) | omega)) | assumption | (with_reducible refine Ext.trans ?_ (by assumption)))) hy2; clear hy2)); first | refine ⟨up_of (by repeat (first | (with_reducible exact Ext.refl _) | (with_reducible refine Ext.drewN ?_ _) | (with_reducible refine Ext.drew ?_) | (with_reducible refine Ext.alloc ?_ _) | ((with_reducible refine Ext.setCell ?_ ?_ _); rotate_left; focus (first | (simp; done) | (simp; omega) | omega)) | assumption | (with_reducible refine Ext.trans ?_ (by assumption)))), ?_⟩ | refine ⟨rfl, rfl, up_of (by repeat (first | (with_reducible exact Ext.refl _) | (with_reducible refine Ext.drewN ?_ _) | (with_reducible refine Ext.drew ?_) | (with_reducible refine Ext.alloc ?_ _) | ((with_reducible refine Ext.setCell ?_ ?_ _); rotate_left; focus (first | (simp; done) | (simp; omega) | omega)) | assumption | (with_reducible refine Ext.trans ?_ (by assumption)))), ?_⟩))); refine mix_nil ?_)
            go_wp2_with (first | (go_at_call 113; (with_reducible refine (HOw.out _ (by repeat (first | (with_reducible exact Ext.refl _) | (with_reducible assumption) | (with_reducible refine Ext.drewN ?_ _) | (with_reducible refine Ext.drew ?_) | (with_reducible refine Ext.alloc ?_ _) | ((with_reducible refine Ext.setCell ?_ ?_ _); rotate_left; focus (first | (simp; done) | (simp; omega) | omega)) | (with_reducible refine Ext.trans ?_ (by with_reducible assumption))))).mono ?_); rintro e w3 ⟨a3, c3, rfl, ho3, hy3⟩; rw [I_len, tupAt_len] at ho3 ⊢; have hx3 : Ext wr w3 := Ext.trans (by repeat (first | (with_reducible exact Ext.refl _) | (with_reducible assumption) | (with_reducible refine Ext.drewN ?_ _) | (with_reducible refine Ext.drew ?_) | (with_reducible refine Ext.alloc ?_ _) | ((with_reducible refine Ext.setCell ?_ ?_ _); rotate_left; focus (first | (simp; done) | (simp; omega) | omega)) | (with_reducible refine Ext.trans ?_ (by with_reducible assumption)))) hy3; have HO3 := Lib.hid (ho3.mono (show w.heap.size + 1 ≤ _ from Nat.le_trans (show w.heap.size + 1 ≤ wr.heap.size from hsr) (Ext.le hx2))); clear hy3 ho3) | ((with_reducible refine (HNx.out _ (by repeat (first | (with_reducible exact Ext.refl _) | (with_reducible assumption) | (with_reducible refine Ext.drewN ?_ _) | (with_reducible refine Ext.drew ?_) | (with_reducible refine Ext.alloc ?_ _) | ((with_reducible refine Ext.setCell ?_ ?_ _); rotate_left; focus (first | (simp; done) | (simp; omega) | omega)) | (with_reducible refine Ext.trans ?_ (by with_reducible assumption))))).mono ?_); rintro e w4 ⟨rfl, ht4, ho4⟩))
            go_roundg (N - (t + 1))
            case measure => omega
            case rel => exact ⟨t + 1, y, a3, nN, c3, hlt, rfl, rfl, rfl, by rw [HN.out], by rw [HFy.out]; rfl, Lib.hid (fun l hl => by
              rw [HFy.out] at hl
              cases hl
              exact ⟨(tupAt_len m nN t).symm, HO3.out.touch ht4 (Nat.lt_succ_self _)⟩), by rw [HN.out]; exact ho4, ext_touch (hxr.trans hx3) ht4, Nat.lt_of_lt_of_le hsr (Nat.le_trans hx3.le ht4.size)⟩
          · have HFy := Lib.hid (HFt.out.trans (if_neg hzy))
            go_wp2_with fail
            (refine wp_region_from wr (by repeat (first | (with_reducible exact Ext.refl _) | (with_reducible refine Ext.drewN ?_ _) | (with_reducible refine Ext.drew ?_) | (with_reducible refine Ext.alloc ?_ _) | ((with_reducible refine Ext.setCell ?_ ?_ _); rotate_left; focus (first | (simp; done) | (simp; omega) | omega)) | assumption | (with_reducible refine Ext.trans ?_ (by assumption)))) (by kernel_rfl) (by kernel_rfl) (seqB_of (by kernel_rfl)) ?_; (repeat (first | (refine mix_q rfl ?_; go_big_quiet_step (fail); refine wpQuiet_nil ?_; show wpMix _ _ _ _ _ _ _) | (refine mix_s rfl ?_; go_wp2_with (((with_reducible refine (HAp.out _ (by repeat (first | (with_reducible exact Ext.refl _) | (with_reducible refine Ext.drewN ?_ _) | (with_reducible refine Ext.drew ?_) | (with_reducible refine Ext.alloc ?_ _) | ((with_reducible refine Ext.setCell ?_ ?_ _); rotate_left; focus (first | (simp; done) | (simp; omega) | omega)) | assumption | (with_reducible refine Ext.trans ?_ (by assumption))))).mono ?_); rintro e w2 ⟨rfl, hy2⟩; have hx2 : Ext wr w2 := Ext.trans (by repeat (first | (with_reducible exact Ext.refl _) | (with_reducible refine Ext.drewN ?_ _) | (with_reducible refine Ext.drew ?_) | (with_reducible refine Ext.alloc ?_ _) | ((with_reducible refine Ext.setCell ?_ ?_ _); rotate_left; focus (first | (simp; done) | (simp; omega) | omega)) | assumption | (with_reducible refine Ext.trans ?_ (by assumption)))) hy2; clear hy2)); first | refine ⟨up_of (by repeat (first | (with_reducible exact Ext.refl _) | (with_reducible refine Ext.drewN ?_ _) | (with_reducible refine Ext.drew ?_) | (with_reducible refine Ext.alloc ?_ _) | ((with_reducible refine Ext.setCell ?_ ?_ _); rotate_left; focus (first | (simp; done) | (simp; omega) | omega)) | assumption | (with_reducible refine Ext.trans ?_ (by assumption)))), ?_⟩ | refine ⟨rfl, rfl, up_of (by repeat (first | (with_reducible exact Ext.refl _) | (with_reducible refine Ext.drewN ?_ _) | (with_reducible refine Ext.drew ?_) | (with_reducible refine Ext.alloc ?_ _) | ((with_reducible refine Ext.setCell ?_ ?_ _); rotate_left; focus (first | (simp; done) | (simp; omega) | omega)) | assumption | (with_reducible refine Ext.trans ?_ (by assumption)))), ?_⟩))); refine mix_nil ?_)
            go_wp2_with ((with_reducible refine (HNx.out _ (by repeat (first | (with_reducible exact Ext.refl _) | (with_reducible assumption) | (with_reducible refine Ext.drewN ?_ _) | (with_reducible refine Ext.drew ?_) | (with_reducible refine Ext.alloc ?_ _) | ((with_reducible refine Ext.setCell ?_ ?_ _); rotate_left; focus (first | (simp; done) | (simp; omega) | omega)) | (with_reducible refine Ext.trans ?_ (by with_reducible assumption))))).mono ?_); rintro e w4 ⟨rfl, ht4, ho4⟩)
            go_roundg (N - (t + 1))
            case measure => omega
            case rel => exact ⟨t + 1, z, sa, sn, sc, hlt, rfl, rfl, rfl, by rw [HN.out], by rw [HFy.out]; exact HZ.out, Lib.hid (fun l hl => by
              rw [HFy.out] at hl
              exact ⟨(HB.out l hl).1, ((HB.out l hl).2.ext hx2).touch ht4 (Nat.lt_succ_self _)⟩), by rw [HN.out]; exact ho4, ext_touch (hxr.trans hx2) ht4, Nat.lt_of_lt_of_le hsr (Nat.le_trans hx2.le ht4.size)⟩
        · obtain rfl : t = N := by omega
          rw [show decide (t < t) = false by simp]
          by_cases hz0 : z = 0
          · have HN1 := Lib.hid (show (bpF m np t).1 = none from (HBd.out t).2.2.2 (by rw [← HZ.out]; exact hz0))
            subst hz0
            go_wp2_with fail
            refine bodyPost_ret (v := .tuple #[.slice none 0 0, .slice none 0 0, .int .i64 0, .bool false]) (by simp [results, Try.results51, go_sem]) rfl ?_
            exact bp_retN (by rw [HO.out]; exact HN1.out) hxr
          · obtain ⟨l, hl⟩ : ∃ l, (bpF m np t).1 = some l := by
              cases h : (bpF m np t).1 with
              | none => exact absurd (by rw [HZ.out]; exact (HBd.out t).2.2.1 h) hz0
              | some l => exact ⟨l, rfl⟩
            have hll := HLn.out t l hl
            obtain ⟨hsn, ho⟩ := HB.out l hl
            rw [hll, ← HNN.out] at hsn
            subst hsn
            have hzz : (z == 0) = false := by simpa using hz0
            obtain ⟨a1, r1, i1⟩ := ho.ints.pre (P := Try.prog) 25 2 und_int64s cell_int64 elem_int64s np hnp2
            obtain ⟨a2, r2, i2⟩ := ho.ints.suf (P := Try.prog) 25 2 und_int64s cell_int64 elem_int64s np hnp2
            rw [hnn] at r2 i2
            have hl1 : (l.take np).length = np := i1.len
            have hl2 : (l.drop np).length = np := i2.len
            have HC1 := Lib.hid (fun W' (h : Ext wr W') => spec_own a1 np sc (l.take np) W' (i1.ext h) (by omega))
            have HC2 := Lib.hid (fun W' (h : Ext wr W') => spec_own a2 np (sc - np) (l.drop np) W' (i2.ext h) (by omega))
            have HR1 := Lib.hid (show bpL1 m np = l.take np by unfold bpL1; rw [HO.out, hl]; rfl)
            have HR2 := Lib.hid (show bpL2 m np = l.drop np by unfold bpL2; rw [HO.out, hl]; rfl)
            have HR3 := Lib.hid (show bpZ m np = z by unfold bpZ; rw [HO.out, HZ.out])
            have HR4 := Lib.hid (show bpB m np = true by unfold bpB; rw [HO.out, hl]; rfl)
            have hrr : Ext wr wr := Ext.refl _
            clear i1 i2 ho hll hz0 hl
            go_wp2_with fail
            (refine wp_region_from wr (by repeat (first | (with_reducible exact Ext.refl _) | (with_reducible refine Ext.drewN ?_ _) | (with_reducible refine Ext.drew ?_) | (with_reducible refine Ext.alloc ?_ _) | ((with_reducible refine Ext.setCell ?_ ?_ _); rotate_left; focus (first | (simp; done) | (simp; omega) | omega)) | assumption | (with_reducible refine Ext.trans ?_ (by assumption)))) (by kernel_rfl) (by kernel_rfl) (seqB_of (by kernel_rfl)) ?_; (repeat (first | (refine mix_q rfl ?_; go_big_quiet_step (fail); refine wpQuiet_nil ?_; show wpMix _ _ _ _ _ _ _) | (refine mix_s rfl ?_; go_wp2_with ((first | (go_at_call 113; (with_reducible refine (HC1.out _ (by repeat (first | (with_reducible exact Ext.refl _) | (with_reducible refine Ext.drewN ?_ _) | (with_reducible refine Ext.drew ?_) | (with_reducible refine Ext.alloc ?_ _) | ((with_reducible refine Ext.setCell ?_ ?_ _); rotate_left; focus (first | (simp; done) | (simp; omega) | omega)) | assumption | (with_reducible refine Ext.trans ?_ (by assumption))))).mono ?_); rintro e w3 ⟨b1, d1, rfl, ho3, hy3⟩; rw [I_len, hl1] at ho3 ⊢; have hx3 : Ext wr w3 := Ext.trans (by repeat (first | (with_reducible exact Ext.refl _) | (with_reducible refine Ext.drewN ?_ _) | (with_reducible refine Ext.drew ?_) | (with_reducible refine Ext.alloc ?_ _) | ((with_reducible refine Ext.setCell ?_ ?_ _); rotate_left; focus (first | (simp; done) | (simp; omega) | omega)) | assumption | (with_reducible refine Ext.trans ?_ (by assumption)))) hy3; have HO3 := Lib.hid (ho3.mono (Ext.le (show Ext wr _ from (by repeat (first | (with_reducible exact Ext.refl _) | (with_reducible refine Ext.drewN ?_ _) | (with_reducible refine Ext.drew ?_) | (with_reducible refine Ext.alloc ?_ _) | ((with_reducible refine Ext.setCell ?_ ?_ _); rotate_left; focus (first | (simp; done) | (simp; omega) | omega)) | assumption | (with_reducible refine Ext.trans ?_ (by assumption))))))); clear ho3 hy3) | (go_at_call 113; (with_reducible refine (HC2.out _ (by repeat (first | (with_reducible exact Ext.refl _) | (with_reducible refine Ext.drewN ?_ _) | (with_reducible refine Ext.drew ?_) | (with_reducible refine Ext.alloc ?_ _) | ((with_reducible refine Ext.setCell ?_ ?_ _); rotate_left; focus (first | (simp; done) | (simp; omega) | omega)) | assumption | (with_reducible refine Ext.trans ?_ (by assumption))))).mono ?_); rintro e w4 ⟨b2, d2, rfl, ho4, hy4⟩; rw [I_len, hl2] at ho4 ⊢; have hx34 : Ext w3 w4 := Ext.trans (by repeat (first | (with_reducible exact Ext.refl _) | (with_reducible refine Ext.drewN ?_ _) | (with_reducible refine Ext.drew ?_) | (with_reducible refine Ext.alloc ?_ _) | ((with_reducible refine Ext.setCell ?_ ?_ _); rotate_left; focus (first | (simp; done) | (simp; omega) | omega)) | assumption | (with_reducible refine Ext.trans ?_ (by assumption)))) hy4; have hx4 : Ext wr w4 := hx3.trans hx34; have HO4 := Lib.hid (ho4.mono (Ext.le (show Ext w3 _ from (by repeat (first | (with_reducible exact Ext.refl _) | (with_reducible refine Ext.drewN ?_ _) | (with_reducible refine Ext.drew ?_) | (with_reducible refine Ext.alloc ?_ _) | ((with_reducible refine Ext.setCell ?_ ?_ _); rotate_left; focus (first | (simp; done) | (simp; omega) | omega)) | assumption | (with_reducible refine Ext.trans ?_ (by assumption))))))); clear ho4 hy4))); first | refine ⟨up_of (by repeat (first | (with_reducible exact Ext.refl _) | (with_reducible refine Ext.drewN ?_ _) | (with_reducible refine Ext.drew ?_) | (with_reducible refine Ext.alloc ?_ _) | ((with_reducible refine Ext.setCell ?_ ?_ _); rotate_left; focus (first | (simp; done) | (simp; omega) | omega)) | assumption | (with_reducible refine Ext.trans ?_ (by assumption)))), ?_⟩ | refine ⟨rfl, rfl, up_of (by repeat (first | (with_reducible exact Ext.refl _) | (with_reducible refine Ext.drewN ?_ _) | (with_reducible refine Ext.drew ?_) | (with_reducible refine Ext.alloc ?_ _) | ((with_reducible refine Ext.setCell ?_ ?_ _); rotate_left; focus (first | (simp; done) | (simp; omega) | omega)) | assumption | (with_reducible refine Ext.trans ?_ (by assumption)))), ?_⟩))); refine mix_nil ?_)
            go_wp2_with fail
            refine bodyPost_ret (v := .tuple #[.slice b1 np d1, .slice b2 np d2, .int .i64 z, .bool true]) (by simp [results, Try.results51, go_sem]) rfl ?_
            rw [HR1.out, HR2.out, HR3.out, HR4.out]
            exact ⟨b1, np, d1, b2, np, d2, rfl, hxr.trans hx4, (HO3.out.ext hx34).mono hxr.le, HO4.out.mono (hxr.trans hx3).le, own_ne HO3.out HO4.out (Nat.le_refl _)⟩
  rcases hb3 with hb3 | hb3 | hb3
  · exact way _ _ _ rfl rfl rfl (by rw [hb3]; rfl)
  · exact way _ _ _ rfl rfl rfl (by rw [hb3]; rfl)
  · exact way _ _ _ rfl rfl rfl (by rw [hb3]; rfl)
end Go.Proofs.Ytaiieodllhoelaa
