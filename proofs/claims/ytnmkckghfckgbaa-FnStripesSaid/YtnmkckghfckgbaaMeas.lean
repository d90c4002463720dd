/- Walks: the nearest pattern of widths. -/
import Derived.Test.YtnmkckghfckgbaaHas
namespace Go.Proofs.Ytnmkckghfckgbaa
set_option maxRecDepth 100000
open Go.RowKit

/-- how far widths are from elements, for their sums -/
def missL (m t : Int) : List Int → List Int → Int
  | x :: xs, y :: ys => max (m * x - t * y) (-(m * x - t * y)) + missL m t xs ys
  | _, _ => 0
theorem missL_step (m t : Int) : ∀ (a b : List Int) (k : Nat), k < a.length → k < b.length → missL m t (a.take (k + 1)) (b.take (k + 1)) = missL m t (a.take k) (b.take k) + max (m * gi a k - t * gi b k) (-(m * gi a k - t * gi b k))
  | x :: xs, y :: ys, 0, _, _ => by simp [missL, gi]
  | x :: xs, y :: ys, k + 1, h1, h2 => by
    have := missL_step m t xs ys k (by simpa using h1) (by simpa using h2)
    simp only [List.take_succ_cons, missL]
    rw [this]
    simp only [gi, List.getD_cons_succ]
    omega
  | [], _, _, h, _ => by simp at h
  | _ :: _, [], _, _, h => by simp at h
/-- numbers from 0 to B -/
def Up (l : List Int) (B : Int) : Prop := ∀ x ∈ l, 0 ≤ x ∧ x ≤ B
theorem Up.gi {l : List Int} {B : Int} (h : Up l B) {k : Nat} (hk : k < l.length) : 0 ≤ gi l k ∧ gi l k ≤ B := h _ (gi_mem hk)
theorem mul_up {x y a b : Int} (h1 : 0 ≤ x) (h2 : x ≤ a) (h3 : 0 ≤ y) (h4 : y ≤ b) : 0 ≤ x * y ∧ x * y ≤ a * b :=
  ⟨Int.mul_nonneg h1 h3, Int.mul_le_mul h2 h4 h3 (Int.le_trans h1 h2)⟩
theorem missL_bd {m t : Int} {a b : List Int} (ha : Up a 1048576) (hb : Up b 1024) (hm : 0 ≤ m) (hm2 : m ≤ 1024) (ht : 0 ≤ t) (ht2 : t ≤ 16777216) : ∀ k, k ≤ a.length → k ≤ b.length → 0 ≤ missL m t (a.take k) (b.take k) ∧ missL m t (a.take k) (b.take k) ≤ 17179869184 * k := by
  intro k
  induction k with
  | zero => intro _ _; simp [missL]
  | succ k ih =>
    intro h1 h2
    have h3 := ih (by omega) (by omega)
    have h4 := ha.gi (k := k) (by omega)
    have h5 := hb.gi (k := k) (by omega)
    have h6 := mul_up hm hm2 h4.1 h4.2
    have h7 := mul_up ht ht2 h5.1 h5.2
    rw [missL_step _ _ _ _ _ (by omega) (by omega)]
    generalize m * Go.Proofs.Ytnmkckghfckgbaa.gi a k = x at *
    generalize t * Go.Proofs.Ytnmkckghfckgbaa.gi b k = y at *
    rw [show ((k + 1 : Nat) : Int) = (k : Int) + 1 by omega, Int.mul_add]
    omega
/-- the best of the first ones: which, how far, how many are as far -/
def mstep (s : Nat × Int × Int) (i : Nat) (n : Int) : Nat × Int × Int :=
  if s.2.1 < 0 ∨ n < s.2.1 then (i, n, 1) else if n = s.2.1 then (s.1, s.2.1, s.2.2 + 1) else s
def mst (f : Nat → Int) : Nat → Nat × Int × Int
  | 0 => (0, -1, 0)
  | k + 1 => mstep (mst f k) k (f k)
theorem mst_bd {f : Nat → Int} {c : Int} {n : Nat} (hc : 0 ≤ c) (h : ∀ i, i < n → 0 ≤ f i ∧ f i ≤ c) : ∀ k, k ≤ n → -1 ≤ (mst f k).2.1 ∧ (mst f k).2.1 ≤ c ∧ 0 ≤ (mst f k).2.2 ∧ (mst f k).2.2 ≤ k ∧ (mst f k).1 ≤ k := by
  intro k
  induction k with
  | zero => intro _; simp [mst]; omega
  | succ k ih =>
    intro hk
    have h1 := ih (by omega)
    have h2 := h k (by omega)
    simp only [mst, mstep]
    split
    · simp only; omega
    · split <;> (try simp only) <;> omega

set_option maxHeartbeats 1000000 in
theorem impl_miss (a b : Option Addr) (n n' c d : Nat) (l r : List Int) (m t : Int) (w : World) (hv : Ints w a n c l) (hv' : Ints w b n' d r) (ha : Up l 1048576) (hb : Up r 1024) (hn : n ≤ 1048576) (hnn : n ≤ n') (hm : 0 ≤ m) (hm2 : m ≤ 1024) (ht : 0 ≤ t) (ht2 : t ≤ 16777216) :
    Calls Try.prog 127 #[.slice a n c, .slice b n' d, .int .i64 t, .int .i64 m] w (Ret (.int .i64 (missL m t (l.take n) (r.take n))) w) := by
  have HL := Lib.hid hv.len
  have HL' := Lib.hid hv'.len
  obtain ⟨p, off, hix, hcell⟩ := hv.ix (P := Try.prog) 36 2 und_int64s cell_int64
  obtain ⟨p', off', hix', hcell'⟩ := hv'.ix (P := Try.prog) 36 2 und_int64s cell_int64
  have hsb : ∀ k, k ≤ n → 0 ≤ missL m t (l.take k) (r.take k) ∧ missL m t (l.take k) (r.take k) ≤ 17179869184 * k := fun k hk => missL_bd ha hb hm hm2 ht ht2 k (by rw [HL.out]; exact hk) (by rw [HL'.out]; omega)
  have hgb : ∀ k, k < n → 0 ≤ m * gi l k ∧ m * gi l k ≤ 1024 * 1048576 := fun k hk => by have := ha.gi (k := k) (by rw [HL.out]; exact hk); exact mul_up hm hm2 this.1 this.2
  have hgb' : ∀ k, k < n → 0 ≤ t * gi r k ∧ t * gi r k ≤ 16777216 * 1024 := fun k hk => by have := hb.gi (k := k) (by rw [HL'.out]; omega); exact mul_up ht ht2 this.1 this.2
  have Hhv := Lib.hid hv; clear hv; have Hhv' := Lib.hid hv'; clear hv'; have Hha := Lib.hid ha; clear ha; have Hhb := Lib.hid hb; clear hb; have Hhsb := Lib.hid hsb; clear hsb; have Hhgb := Lib.hid hgb; clear hgb; have Hhgb' := Lib.hid hgb'; clear hgb'
  go_enter Try.func127, Try.ntmps127
  go_wp2
  go_loopw [9, 14] (fun s i wr => ∃ k : Nat, k ≤ n ∧ i = .int .i64 k ∧ s = .int .i64 (missL m t (l.take k) (r.take k)) ∧ Ext w wr) (fun _ i _ => n - (intOf i).toNat)
  case atStart => exact ⟨0, Nat.zero_le _, rfl, rfl, Ext.refl _⟩
  case round =>
    obtain ⟨k, hk, rfl, rfl, hx⟩ := hrel
    have h1 := Hhsb.out k hk
    by_cases hlt : k < n
    · have h2 := Hhgb.out k hlt
      have h3 := Hhgb'.out k hlt
      have hs := Lib.hid (missL_step m t l r k (by rw [HL.out]; exact hlt) (by rw [HL'.out]; omega))
      have hkm : k < n' := by omega
      go_wp2_with (go_at_call 96; refine (impl_size _ _ (by omega) (by omega)).mono ?_; rintro e w' ⟨rfl, rfl⟩)
      exact ⟨⟨k + 1, by omega, by go_num, by rw [hs.out], (by repeat (first | (with_reducible exact Ext.refl _) | (with_reducible refine Ext.drewN ?_ _) | (with_reducible refine Ext.drew ?_) | (with_reducible refine Ext.alloc ?_ _) | ((with_reducible refine Ext.setCell ?_ ?_ _); rotate_left; focus (first | (simp; done) | (simp; omega) | omega)) | assumption | (with_reducible refine Ext.trans ?_ (by assumption))))⟩, by simp [intOf]; omega⟩
    · go_wp2
      go_ret
      obtain rfl : k = n := by omega
      exact ⟨rfl, hx⟩
set_option maxHeartbeats 1000000 in
theorem spec_miss (a b : Option Addr) (n n' c d : Nat) (l r : List Int) (m t : Int) (w : World) (hv : Ints w a n c l) (hv' : Ints w b n' d r) (ha : Up l 1048576) (hb : Up r 1024) (hn : n ≤ 1048576) (hnn : n ≤ n') (hm : 0 ≤ m) (hm2 : m ≤ 1024) (ht : 0 ≤ t) (ht2 : t ≤ 16777216) :
    Calls Try.prog 102 #[.slice a n c, .slice b n' d, .int .i64 m, .int .i64 t] w (Ret (.int .i64 (missL m t (l.take n) (r.take n))) w) := by
  have HL := Lib.hid hv.len
  have HL' := Lib.hid hv'.len
  obtain ⟨p, off, hix, hcell⟩ := hv.ix (P := Try.prog) 36 2 und_int64s cell_int64
  obtain ⟨p', off', hix', hcell'⟩ := hv'.ix (P := Try.prog) 36 2 und_int64s cell_int64
  have hsb : ∀ k, k ≤ n → 0 ≤ missL m t (l.take k) (r.take k) ∧ missL m t (l.take k) (r.take k) ≤ 17179869184 * k := fun k hk => missL_bd ha hb hm hm2 ht ht2 k (by rw [HL.out]; exact hk) (by rw [HL'.out]; omega)
  have hgb : ∀ k, k < n → 0 ≤ m * gi l k ∧ m * gi l k ≤ 1024 * 1048576 := fun k hk => by have := ha.gi (k := k) (by rw [HL.out]; exact hk); exact mul_up hm hm2 this.1 this.2
  have hgb' : ∀ k, k < n → 0 ≤ t * gi r k ∧ t * gi r k ≤ 16777216 * 1024 := fun k hk => by have := hb.gi (k := k) (by rw [HL'.out]; omega); exact mul_up ht ht2 this.1 this.2
  have Hhv := Lib.hid hv; clear hv; have Hhv' := Lib.hid hv'; clear hv'; have Hha := Lib.hid ha; clear ha; have Hhb := Lib.hid hb; clear hb; have Hhsb := Lib.hid hsb; clear hsb; have Hhgb := Lib.hid hgb; clear hgb; have Hhgb' := Lib.hid hgb'; clear hgb'
  go_enter Try.func102, Try.ntmps102
  go_wp2
  go_loopw [9, 10] (fun s i wr => ∃ k : Nat, k ≤ n ∧ i = .int .i64 k ∧ s = .int .i64 (missL m t (l.take k) (r.take k)) ∧ Ext w wr) (fun _ i _ => n - (intOf i).toNat)
  case atStart => exact ⟨0, Nat.zero_le _, rfl, rfl, Ext.refl _⟩
  case round =>
    obtain ⟨k, hk, rfl, rfl, hx⟩ := hrel
    have h1 := Hhsb.out k hk
    by_cases hlt : k < n
    · have h2 := Hhgb.out k hlt
      have h3 := Hhgb'.out k hlt
      have hs := Lib.hid (missL_step m t l r k (by rw [HL.out]; exact hlt) (by rw [HL'.out]; omega))
      have hkm : k < n' := by omega
      go_wp2
      (refine wp_region_up (by kernel_rfl) (by kernel_rfl) (by kernel_rfl) ?_; (repeat (first | (refine mix_q rfl ?_; go_big_quiet_step (fail); refine wpQuiet_nil ?_; show wpMix _ _ _ _ _ _ _) | (refine mix_s rfl ?_; go_wp2_with (fail); first | refine ⟨up_of (by repeat (first | (with_reducible exact Ext.refl _) | (with_reducible refine Ext.drewN ?_ _) | (with_reducible refine Ext.drew ?_) | (with_reducible refine Ext.alloc ?_ _) | ((with_reducible refine Ext.setCell ?_ ?_ _); rotate_left; focus (first | (simp; done) | (simp; omega) | omega)) | assumption | (with_reducible refine Ext.trans ?_ (by assumption)))), ?_⟩ | refine ⟨rfl, rfl, up_of (by repeat (first | (with_reducible exact Ext.refl _) | (with_reducible refine Ext.drewN ?_ _) | (with_reducible refine Ext.drew ?_) | (with_reducible refine Ext.alloc ?_ _) | ((with_reducible refine Ext.setCell ?_ ?_ _); rotate_left; focus (first | (simp; done) | (simp; omega) | omega)) | assumption | (with_reducible refine Ext.trans ?_ (by assumption)))), ?_⟩))); refine mix_nil ?_)
      go_wp2_with (go_at_call 95; refine (spec_max _ _ _).mono ?_; rintro e w' ⟨rfl, rfl⟩)
      exact ⟨⟨k + 1, by omega, by go_num, by rw [hs.out], (by repeat (first | (with_reducible exact Ext.refl _) | (with_reducible refine Ext.drewN ?_ _) | (with_reducible refine Ext.drew ?_) | (with_reducible refine Ext.alloc ?_ _) | ((with_reducible refine Ext.setCell ?_ ?_ _); rotate_left; focus (first | (simp; done) | (simp; omega) | omega)) | assumption | (with_reducible refine Ext.trans ?_ (by assumption))))⟩, by simp [intOf]; omega⟩
    · go_wp2
      go_ret
      obtain rfl : k = n := by omega
      exact ⟨rfl, hx⟩

theorem impl_asTheyAre (v : Value) (w : World) : Calls Try.prog 58 #[v] w (Same v w) := by
  go_enter Try.func58, Try.ntmps58
  go_wp2
  go_ret
  exact ⟨rfl, rfl⟩
def widthsB (D : Bc) (ws : List Int) : Bool := decide ((ws.length : Int) = (gs D.pats 0).size) && ws.all fun x => inB x 1 100000
/-- how far pattern i is -/
def farI (D : Bc) (ws : List Int) (of : List Int → List Int) (i : Nat) : Int := missL (elsL (gs D.pats 0).data.toList).sum ws.sum (of ws) (of (elsL (gs D.pats i).data.toList))
def measS (D : Bc) (ws : List Int) (of : List Int → List Int) : Nat × Int × Int := mst (farI D ws of) D.pats.length
theorem widthsB_t {D : Bc} {ws : List Int} (h : widthsB D ws = true) : ws.length = (gs D.pats 0).size ∧ ∀ x ∈ ws, 1 ≤ x ∧ x ≤ 100000 := by
  unfold widthsB at h
  simp only [Bool.and_eq_true, decide_eq_true_eq] at h
  exact ⟨by omega, fun x hx => inB_t.1 (List.all_eq_true.1 h.2 x hx)⟩
theorem sum_up {l : List Int} {B : Int} (h : Up l B) : 0 ≤ l.sum ∧ l.sum ≤ B * l.length := by
  induction l with
  | nil => simp
  | cons x xs ih =>
    have h1 := ih fun y hy => h y (List.mem_cons_of_mem _ hy)
    have h2 := h x (List.mem_cons_self ..)
    simp only [List.sum_cons, List.length_cons]
    rw [show ((xs.length + 1 : Nat) : Int) = (xs.length : Int) + 1 by omega, Int.mul_add]
    omega
theorem edges_up {l : List Int} {B : Int} (h : Up l B) : Up (edgesL l) (2 * B) := fun x hx => by
  unfold edgesL edgesTo at hx
  obtain ⟨i, hi, rfl⟩ := List.mem_map.1 hx
  rw [List.mem_range] at hi
  have h1 := h.gi (k := i) (by omega)
  have h2 := h.gi (k := i + 1) (by omega)
  omega
theorem Up.mono {l : List Int} {B B' : Int} (h : Up l B) (hB : B ≤ B') : Up l B' := fun x hx => by have := h x hx; omega
/-- what the measuring wants of a valid barcode and right widths -/
structure MeasOk (D : Bc) (ws : List Int) (n m : Nat) : Prop where
  n1 : 1 ≤ n
  n36 : n ≤ 36
  m10 : m ≤ 10
  els : ∀ k, k < n → Up (elsL (gs D.pats k).data.toList) 4
  len : ∀ k, k < n → (elsL (gs D.pats k).data.toList).length = m
  chars : ∀ k, k < n → charsB (gs D.pats k).data.toList = true
  up : Up ws 100000
  wl : ws.length = m
  m0 : 0 ≤ (elsL (gs D.pats 0).data.toList).sum ∧ (elsL (gs D.pats 0).data.toList).sum ≤ 20
  t0 : 0 ≤ ws.sum ∧ ws.sum ≤ 1000000
  size : ∀ k, k < n → (gs D.pats k).size ≤ 10
  p0 : (gs D.pats 0).size = m
theorem measOk {D : Bc} {ws : List Int} {n m : Nat} (hok : OkBc D) (hn : D.pats.length = n) (hm : ws.length = m) (hw : ws.length = (gs D.pats 0).size) (hb : ∀ x ∈ ws, 1 ≤ x ∧ x ≤ 100000) : MeasOk D ws n m := by
  subst hn
  subst hm
  have hu : Up ws 100000 := fun x hx => by have := hb x hx; omega
  have hs := sum_up hu
  have h10 := hok.s10
  refine ⟨hok.n1, hok.n36, by omega, fun k hk x hx => by have := elsL_bd (hok.chars k hk) x hx; omega, fun k hk => by rw [elsL_len, size_eq, hok.size k hk]; exact hw.symm, hok.chars, hu, rfl, ⟨?_, hok.m20⟩, ⟨hs.1, by omega⟩, fun k hk => by rw [hok.size k hk]; exact h10, hw.symm⟩
  exact (sum_up (B := 4) (fun x hx => by have := elsL_bd (hok.chars 0 (by have := hok.n1; omega)) x hx; omega)).1
def idL (l : List Int) : List Int := l
theorem far_bd {D : Bc} {ws : List Int} {n m : Nat} (h : MeasOk D ws n m) (of : List Int → List Int) (hl : ∀ l r : List Int, l.length = m → r.length = m → (of l).length = (of r).length) (hw : Up (of ws) 1048576) (he : ∀ k, k < n → Up (of (elsL (gs D.pats k).data.toList)) 1024) (h20 : (of ws).length ≤ 20) (i : Nat) (hi : i < n) :
    0 ≤ farI D ws of i ∧ farI D ws of i ≤ 343597383680 := by
  have e := hl ws (elsL (gs D.pats i).data.toList) h.wl (h.len i hi)
  have h1 := missL_bd (m := (elsL (gs D.pats 0).data.toList).sum) (t := ws.sum) hw (he i hi) h.m0.1 (by have := h.m0; omega) h.t0.1 (by have := h.t0; omega) (of ws).length (Nat.le_refl _) (by omega)
  rw [take_full (Nat.le_refl _), take_full (by omega)] at h1
  unfold farI
  omega

set_option maxHeartbeats 4000000 in
theorem impl_measure_id (D : Bc) (p : Nat) (a b : Option Addr) (n c m d : Nat) (ws : List Int) (w : World) (hv : BcAt w p D a n c) (hw : Ints w b m d ws) (hok : MeasOk D ws n m) :
    Calls Try.prog 101 #[.pointer (some ⟨p, 0, none⟩), .slice b m d, .func (.func 58) #[] #[]] w (Ret2 (.int .i64 (measS D ws idL).1) (.bool ((measS D ws idL).2.2 == 1)) w) := by
  have HL := Lib.hid hv.ps.len
  have HWl := Lib.hid hw.len
  have HWi := Lib.hid hw
  have HK := Lib.hid hok
  have hn1 := hok.n1
  have hn36 := hok.n36
  have hm10 := hok.m10
  have hpz := hok.size 0 (by omega)
  obtain ⟨c0, c1, c2, c3, hps⟩ := hv
  obtain ⟨pb, off, hix, hcell⟩ := hps.ix (P := Try.prog) 22 9 und_strings cell_string
  have HSw := Lib.hid (fun W h => impl_sum b m d ws W h (fun x hx => by have := hok.up x hx; omega) (by omega))
  have HE := Lib.hid (fun k (hk : k < n) W => impl_elements (gs D.pats k) W (by have := hok.size k hk; omega) (hok.chars k hk))
  have HS0 := Lib.hid (fun a c W h => impl_sum a m c (elsL (gs D.pats 0).data.toList) W h (fun x hx => by have := hok.els 0 (by omega) x hx; omega) (by omega))
  have HSt := Lib.hid (show measS D ws idL = mst (farI D ws idL) n by rw [measS, HL.out])
  have HM := Lib.hid (fun i (hi : i < n) a b c d W h h' => impl_miss a b m m c d (idL ws) (idL (elsL (gs D.pats i).data.toList)) (elsL (gs D.pats 0).data.toList).sum ws.sum W h h' (hok.up.mono (by omega)) ((hok.els i hi).mono (by omega)) (by omega) (Nat.le_refl _) hok.m0.1 (by have := hok.m0; omega) hok.t0.1 (by have := hok.t0; omega))
  have HMF := Lib.hid (fun i (hi : i < n) => show missL (elsL (gs D.pats 0).data.toList).sum ws.sum ((idL ws).take m) ((idL (elsL (gs D.pats i).data.toList)).take m) = farI D ws idL i by
    rw [take_full (by unfold idL; rw [HWl.out]; exact Nat.le_refl _), take_full (by unfold idL; rw [hok.len i hi]; exact Nat.le_refl _)]; rfl)
  have HBd := Lib.hid (mst_bd (f := farI D ws idL) (c := 343597383680) (n := n) (by omega) fun i hi => far_bd hok idL (fun l r h1 h2 => by unfold idL; omega) (hok.up.mono (by omega)) (fun k hi => (hok.els k hi).mono (by omega)) (by unfold idL; have := hok.wl; omega) i hi)
  have Hhps := Lib.hid hps; clear hps; have Hhw := Lib.hid hw; clear hw; have Hhok := Lib.hid hok; clear hok
  go_enter Try.func101, Try.ntmps101
  go_wp2
  have hz : 0 < n := by omega
  have hcell0 : ∀ w', Ext w w' → w'.cell? ⟨pb, off, none⟩ = some (.string (gs D.pats 0)) := fun w' h => hcell 0 w' (by omega) h
  have HE0 := Lib.hid (HE.out 0 hz)
  have HSl0 := Lib.hid (HK.out.len 0 hz)
  (refine wp_region_from w (by repeat (first | (with_reducible exact Ext.refl _) | (with_reducible refine Ext.drewN ?_ _) | (with_reducible refine Ext.drew ?_) | (with_reducible refine Ext.alloc ?_ _) | ((with_reducible refine Ext.setCell ?_ ?_ _); rotate_left; focus (first | (simp; done) | (simp; omega) | omega)) | assumption | (with_reducible refine Ext.trans ?_ (by assumption)))) (by kernel_rfl) (by kernel_rfl) (by kernel_rfl) ?_; (repeat (first | (refine mix_q rfl ?_; go_big_quiet_step (fail); refine wpQuiet_nil ?_; show wpMix _ _ _ _ _ _ _) | (refine mix_s rfl ?_; go_wp2_with (first | ((with_reducible refine (HSw.out _ (HWi.out.ext (by repeat (first | (with_reducible exact Ext.refl _) | (with_reducible refine Ext.drewN ?_ _) | (with_reducible refine Ext.drew ?_) | (with_reducible refine Ext.alloc ?_ _) | ((with_reducible refine Ext.setCell ?_ ?_ _); rotate_left; focus (first | (simp; done) | (simp; omega) | omega)) | assumption | (with_reducible refine Ext.trans ?_ (by assumption)))))).mono ?_); rintro e w' ⟨rfl, rfl⟩) | ((with_reducible refine (HE0.out _).mono ?_); rintro e w2 ⟨a2, c2, rfl, ho2, hy2⟩; rw [I_len, HSl0.out] at ho2 ⊢; have hxw2 : Ext w w2 := Ext.trans (by repeat (first | (with_reducible exact Ext.refl _) | (with_reducible refine Ext.drewN ?_ _) | (with_reducible refine Ext.drew ?_) | (with_reducible refine Ext.alloc ?_ _) | ((with_reducible refine Ext.setCell ?_ ?_ _); rotate_left; focus (first | (simp; done) | (simp; omega) | omega)) | assumption | (with_reducible refine Ext.trans ?_ (by assumption)))) hy2; have HO2 := Lib.hid ho2; clear ho2 hy2) | ((with_reducible refine (HS0.out _ _ _ HO2.out.ints).mono ?_); rintro e w' ⟨rfl, rfl⟩)); first | refine ⟨up_of (by repeat (first | (with_reducible exact Ext.refl _) | (with_reducible refine Ext.drewN ?_ _) | (with_reducible refine Ext.drew ?_) | (with_reducible refine Ext.alloc ?_ _) | ((with_reducible refine Ext.setCell ?_ ?_ _); rotate_left; focus (first | (simp; done) | (simp; omega) | omega)) | assumption | (with_reducible refine Ext.trans ?_ (by assumption)))), ?_⟩ | refine ⟨rfl, rfl, up_of (by repeat (first | (with_reducible exact Ext.refl _) | (with_reducible refine Ext.drewN ?_ _) | (with_reducible refine Ext.drew ?_) | (with_reducible refine Ext.alloc ?_ _) | ((with_reducible refine Ext.setCell ?_ ?_ _); rotate_left; focus (first | (simp; done) | (simp; omega) | omega)) | assumption | (with_reducible refine Ext.trans ?_ (by assumption)))), ?_⟩))); refine mix_nil ?_)
  clear HE0 HSl0 hcell0
  generalize hm0 : (elsL (gs D.pats 0).data.toList).sum = m0 at *
  generalize ht0 : ws.sum = t0 at *
  have Hhm0 := Lib.hid hm0; clear hm0; have Hht0 := Lib.hid ht0; clear ht0
  go_wp2
  go_loopw [10, 11, 12, 31] (fun s10 s11 s12 i wr => ∃ (k best : Nat) (least many : Int), k ≤ n ∧ i = .int .i64 k ∧ s10 = .int .i64 best ∧ s11 = .int .i64 least ∧ s12 = .int .i64 many ∧ Hid (mst (farI D ws idL) k = (best, least, many)) ∧ Ext w wr) (fun _ _ _ i _ => n - (intOf i).toNat)
  case atStart => exact ⟨0, 0, -1, 0, Nat.zero_le _, rfl, rfl, rfl, rfl, rfl, (by repeat (first | (with_reducible exact Ext.refl _) | (with_reducible refine Ext.drewN ?_ _) | (with_reducible refine Ext.drew ?_) | (with_reducible refine Ext.alloc ?_ _) | ((with_reducible refine Ext.setCell ?_ ?_ _); rotate_left; focus (first | (simp; done) | (simp; omega) | omega)) | assumption | (with_reducible refine Ext.trans ?_ (by assumption))))⟩
  case round =>
    obtain ⟨k, best, least, many, hk, rfl, rfl, rfl, rfl, HS, hx⟩ := hrel
    have hbd := HBd.out k hk
    rw [HS.out] at hbd
    simp only at hbd
    by_cases hlt : k < n
    · have HEi := Lib.hid (HE.out k hlt)
      have HSi := Lib.hid (HK.out.len k hlt)
      have HMi := Lib.hid (HM.out k hlt)
      rw [HMF.out k hlt] at HMi
      have HN := Lib.hid (show mst (farI D ws idL) (k + 1) = mstep (best, least, many) k (farI D ws idL k) by rw [mst, HS.out])
      
      generalize farI D ws idL k = f at *
      unfold mstep at HN
      simp only at HN
      go_wp2_with (first | (go_at_call 58; refine (impl_asTheyAre _ _).mono ?_; rintro e w' ⟨rfl, rfl⟩) | ((with_reducible refine (HEi.out _).mono ?_); rintro e w3 ⟨a3, c3', rfl, ho3, hy3⟩; rw [I_len, HSi.out] at ho3 ⊢; have hxw3 : Ext w w3 := Ext.trans (by repeat (first | (with_reducible exact Ext.refl _) | (with_reducible refine Ext.drewN ?_ _) | (with_reducible refine Ext.drew ?_) | (with_reducible refine Ext.alloc ?_ _) | ((with_reducible refine Ext.setCell ?_ ?_ _); rotate_left; focus (first | (simp; done) | (simp; omega) | omega)) | assumption | (with_reducible refine Ext.trans ?_ (by assumption)))) hy3; have HO3 := Lib.hid ho3; clear ho3 hy3) | ((with_reducible refine (HMi.out _ _ _ _ _ (HWi.out.ext (by repeat (first | (with_reducible exact Ext.refl _) | (with_reducible refine Ext.drewN ?_ _) | (with_reducible refine Ext.drew ?_) | (with_reducible refine Ext.alloc ?_ _) | ((with_reducible refine Ext.setCell ?_ ?_ _); rotate_left; focus (first | (simp; done) | (simp; omega) | omega)) | assumption | (with_reducible refine Ext.trans ?_ (by assumption))))) HO3.out.ints).mono ?_); rintro e w5 ⟨rfl, hy5⟩; have hxw5 : Ext w w5 := Ext.trans (by repeat (first | (with_reducible exact Ext.refl _) | (with_reducible refine Ext.drewN ?_ _) | (with_reducible refine Ext.drew ?_) | (with_reducible refine Ext.alloc ?_ _) | ((with_reducible refine Ext.setCell ?_ ?_ _); rotate_left; focus (first | (simp; done) | (simp; omega) | omega)) | assumption | (with_reducible refine Ext.trans ?_ (by assumption)))) hy5; clear hy5))
      · exact ⟨⟨k + 1, k, f, 1, by omega, by go_num, rfl, rfl, rfl, by rw [Hid, HN.out, if_pos (by omega)], (by repeat (first | (with_reducible exact Ext.refl _) | (with_reducible refine Ext.drewN ?_ _) | (with_reducible refine Ext.drew ?_) | (with_reducible refine Ext.alloc ?_ _) | ((with_reducible refine Ext.setCell ?_ ?_ _); rotate_left; focus (first | (simp; done) | (simp; omega) | omega)) | assumption | (with_reducible refine Ext.trans ?_ (by assumption))))⟩, by simp [intOf]; omega⟩
      · have he : f = least := eq_of_beq (by assumption)
        exact ⟨⟨k + 1, best, least, many + 1, by omega, by go_num, rfl, rfl, rfl, by rw [Hid, HN.out, if_neg (by omega), if_pos he], (by repeat (first | (with_reducible exact Ext.refl _) | (with_reducible refine Ext.drewN ?_ _) | (with_reducible refine Ext.drew ?_) | (with_reducible refine Ext.alloc ?_ _) | ((with_reducible refine Ext.setCell ?_ ?_ _); rotate_left; focus (first | (simp; done) | (simp; omega) | omega)) | assumption | (with_reducible refine Ext.trans ?_ (by assumption))))⟩, by simp [intOf]; omega⟩
      · have he : ¬ f = least := ne_of_beq_false (by assumption)
        exact ⟨⟨k + 1, best, least, many, by omega, by go_num, rfl, rfl, rfl, by rw [Hid, HN.out, if_neg (by omega), if_neg he], (by repeat (first | (with_reducible exact Ext.refl _) | (with_reducible refine Ext.drewN ?_ _) | (with_reducible refine Ext.drew ?_) | (with_reducible refine Ext.alloc ?_ _) | ((with_reducible refine Ext.setCell ?_ ?_ _); rotate_left; focus (first | (simp; done) | (simp; omega) | omega)) | assumption | (with_reducible refine Ext.trans ?_ (by assumption))))⟩, by simp [intOf]; omega⟩
      · exact ⟨⟨k + 1, k, f, 1, by omega, by go_num, rfl, rfl, rfl, by rw [Hid, HN.out, if_pos (by omega)], (by repeat (first | (with_reducible exact Ext.refl _) | (with_reducible refine Ext.drewN ?_ _) | (with_reducible refine Ext.drew ?_) | (with_reducible refine Ext.alloc ?_ _) | ((with_reducible refine Ext.setCell ?_ ?_ _); rotate_left; focus (first | (simp; done) | (simp; omega) | omega)) | assumption | (with_reducible refine Ext.trans ?_ (by assumption))))⟩, by simp [intOf]; omega⟩
    · obtain rfl : k = n := by omega
      go_wp2
      go_ret2
      exact ⟨by rw [HSt.out, HS.out]; rfl, (by repeat (first | (with_reducible exact Ext.refl _) | (with_reducible refine Ext.drewN ?_ _) | (with_reducible refine Ext.drew ?_) | (with_reducible refine Ext.alloc ?_ _) | ((with_reducible refine Ext.setCell ?_ ?_ _); rotate_left; focus (first | (simp; done) | (simp; omega) | omega)) | assumption | (with_reducible refine Ext.trans ?_ (by assumption))))⟩
set_option maxHeartbeats 4000000 in
theorem impl_measure_ed (D : Bc) (p : Nat) (a b : Option Addr) (n c m d : Nat) (ws : List Int) (w : World) (hv : BcAt w p D a n c) (hw : Ints w b m d ws) (hok : MeasOk D ws n m) :
    Calls Try.prog 101 #[.pointer (some ⟨p, 0, none⟩), .slice b m d, .func (.func 63) #[] #[]] w (Ret2 (.int .i64 (measS D ws edgesL).1) (.bool ((measS D ws edgesL).2.2 == 1)) w) := by
  have HL := Lib.hid hv.ps.len
  have HWl := Lib.hid hw.len
  have HWi := Lib.hid hw
  have HK := Lib.hid hok
  have hn1 := hok.n1
  have hn36 := hok.n36
  have hm10 := hok.m10
  have hpz := hok.size 0 (by omega)
  obtain ⟨c0, c1, c2, c3, hps⟩ := hv
  obtain ⟨pb, off, hix, hcell⟩ := hps.ix (P := Try.prog) 22 9 und_strings cell_string
  have HSw := Lib.hid (fun W h => impl_sum b m d ws W h (fun x hx => by have := hok.up x hx; omega) (by omega))
  have HE := Lib.hid (fun k (hk : k < n) W => impl_elements (gs D.pats k) W (by have := hok.size k hk; omega) (hok.chars k hk))
  have HS0 := Lib.hid (fun a c W h => impl_sum a m c (elsL (gs D.pats 0).data.toList) W h (fun x hx => by have := hok.els 0 (by omega) x hx; omega) (by omega))
  have HSt := Lib.hid (show measS D ws edgesL = mst (farI D ws edgesL) n by rw [measS, HL.out])
  have HOf := Lib.hid (fun W h => impl_edges b m d ws W h (fun x hx => by have := hok.up x hx; omega) (by omega))
  have HM := Lib.hid (fun i (hi : i < n) a b c d W h h' => impl_miss a b (m - 1) (m - 1) c d (edgesL ws) (edgesL (elsL (gs D.pats i).data.toList)) (elsL (gs D.pats 0).data.toList).sum ws.sum W h h' ((edges_up hok.up).mono (by omega)) ((edges_up (hok.els i hi)).mono (by omega)) (by omega) (Nat.le_refl _) hok.m0.1 (by have := hok.m0; omega) hok.t0.1 (by have := hok.t0; omega))
  have HMF := Lib.hid (fun i (hi : i < n) => show missL (elsL (gs D.pats 0).data.toList).sum ws.sum ((edgesL ws).take (m - 1)) ((edgesL (elsL (gs D.pats i).data.toList)).take (m - 1)) = farI D ws edgesL i by
    rw [take_full (by rw [edgesL_len, HWl.out]; exact Nat.le_refl _), take_full (by rw [edgesL_len, hok.len i hi]; exact Nat.le_refl _)]; rfl)
  have HBd := Lib.hid (mst_bd (f := farI D ws edgesL) (c := 343597383680) (n := n) (by omega) fun i hi => far_bd hok edgesL (fun l r h1 h2 => by rw [edgesL_len, edgesL_len]; omega) ((edges_up hok.up).mono (by omega)) (fun k hi => (edges_up (hok.els k hi)).mono (by omega)) (by rw [edgesL_len]; have := hok.wl; omega) i hi)
  have Hhps := Lib.hid hps; clear hps; have Hhw := Lib.hid hw; clear hw; have Hhok := Lib.hid hok; clear hok
  go_enter Try.func101, Try.ntmps101
  go_wp2
  have hz : 0 < n := by omega
  have hcell0 : ∀ w', Ext w w' → w'.cell? ⟨pb, off, none⟩ = some (.string (gs D.pats 0)) := fun w' h => hcell 0 w' (by omega) h
  have HE0 := Lib.hid (HE.out 0 hz)
  have HSl0 := Lib.hid (HK.out.len 0 hz)
  (refine wp_region_from w (by repeat (first | (with_reducible exact Ext.refl _) | (with_reducible refine Ext.drewN ?_ _) | (with_reducible refine Ext.drew ?_) | (with_reducible refine Ext.alloc ?_ _) | ((with_reducible refine Ext.setCell ?_ ?_ _); rotate_left; focus (first | (simp; done) | (simp; omega) | omega)) | assumption | (with_reducible refine Ext.trans ?_ (by assumption)))) (by kernel_rfl) (by kernel_rfl) (by kernel_rfl) ?_; (repeat (first | (refine mix_q rfl ?_; go_big_quiet_step (fail); refine wpQuiet_nil ?_; show wpMix _ _ _ _ _ _ _) | (refine mix_s rfl ?_; go_wp2_with (first | ((with_reducible refine (HSw.out _ (HWi.out.ext (by repeat (first | (with_reducible exact Ext.refl _) | (with_reducible refine Ext.drewN ?_ _) | (with_reducible refine Ext.drew ?_) | (with_reducible refine Ext.alloc ?_ _) | ((with_reducible refine Ext.setCell ?_ ?_ _); rotate_left; focus (first | (simp; done) | (simp; omega) | omega)) | assumption | (with_reducible refine Ext.trans ?_ (by assumption)))))).mono ?_); rintro e w' ⟨rfl, rfl⟩) | ((with_reducible refine (HE0.out _).mono ?_); rintro e w2 ⟨a2, c2, rfl, ho2, hy2⟩; rw [I_len, HSl0.out] at ho2 ⊢; have hxw2 : Ext w w2 := Ext.trans (by repeat (first | (with_reducible exact Ext.refl _) | (with_reducible refine Ext.drewN ?_ _) | (with_reducible refine Ext.drew ?_) | (with_reducible refine Ext.alloc ?_ _) | ((with_reducible refine Ext.setCell ?_ ?_ _); rotate_left; focus (first | (simp; done) | (simp; omega) | omega)) | assumption | (with_reducible refine Ext.trans ?_ (by assumption)))) hy2; have HO2 := Lib.hid ho2; clear ho2 hy2) | ((with_reducible refine (HS0.out _ _ _ HO2.out.ints).mono ?_); rintro e w' ⟨rfl, rfl⟩)); first | refine ⟨up_of (by repeat (first | (with_reducible exact Ext.refl _) | (with_reducible refine Ext.drewN ?_ _) | (with_reducible refine Ext.drew ?_) | (with_reducible refine Ext.alloc ?_ _) | ((with_reducible refine Ext.setCell ?_ ?_ _); rotate_left; focus (first | (simp; done) | (simp; omega) | omega)) | assumption | (with_reducible refine Ext.trans ?_ (by assumption)))), ?_⟩ | refine ⟨rfl, rfl, up_of (by repeat (first | (with_reducible exact Ext.refl _) | (with_reducible refine Ext.drewN ?_ _) | (with_reducible refine Ext.drew ?_) | (with_reducible refine Ext.alloc ?_ _) | ((with_reducible refine Ext.setCell ?_ ?_ _); rotate_left; focus (first | (simp; done) | (simp; omega) | omega)) | assumption | (with_reducible refine Ext.trans ?_ (by assumption)))), ?_⟩))); refine mix_nil ?_)
  clear HE0 HSl0 hcell0
  generalize hm0 : (elsL (gs D.pats 0).data.toList).sum = m0 at *
  generalize ht0 : ws.sum = t0 at *
  have Hhm0 := Lib.hid hm0; clear hm0; have Hht0 := Lib.hid ht0; clear ht0
  go_wp2
  go_loopw [10, 11, 12, 31] (fun s10 s11 s12 i wr => ∃ (k best : Nat) (least many : Int), k ≤ n ∧ i = .int .i64 k ∧ s10 = .int .i64 best ∧ s11 = .int .i64 least ∧ s12 = .int .i64 many ∧ Hid (mst (farI D ws edgesL) k = (best, least, many)) ∧ Ext w wr) (fun _ _ _ i _ => n - (intOf i).toNat)
  case atStart => exact ⟨0, 0, -1, 0, Nat.zero_le _, rfl, rfl, rfl, rfl, rfl, (by repeat (first | (with_reducible exact Ext.refl _) | (with_reducible refine Ext.drewN ?_ _) | (with_reducible refine Ext.drew ?_) | (with_reducible refine Ext.alloc ?_ _) | ((with_reducible refine Ext.setCell ?_ ?_ _); rotate_left; focus (first | (simp; done) | (simp; omega) | omega)) | assumption | (with_reducible refine Ext.trans ?_ (by assumption))))⟩
  case round =>
    obtain ⟨k, best, least, many, hk, rfl, rfl, rfl, rfl, HS, hx⟩ := hrel
    have hbd := HBd.out k hk
    rw [HS.out] at hbd
    simp only at hbd
    by_cases hlt : k < n
    · have HEi := Lib.hid (HE.out k hlt)
      have HSi := Lib.hid (HK.out.len k hlt)
      have HMi := Lib.hid (HM.out k hlt)
      rw [HMF.out k hlt] at HMi
      have HN := Lib.hid (show mst (farI D ws edgesL) (k + 1) = mstep (best, least, many) k (farI D ws edgesL k) by rw [mst, HS.out])
      have HOe := Lib.hid (fun a c W h => impl_edges a m c (elsL (gs D.pats k).data.toList) W h (fun x hx => by have := HK.out.els k hlt x hx; omega) (by omega))
      generalize farI D ws edgesL k = f at *
      unfold mstep at HN
      simp only at HN
      go_wp2_with (first | ((with_reducible refine (HOf.out _ (HWi.out.ext (by repeat (first | (with_reducible exact Ext.refl _) | (with_reducible refine Ext.drewN ?_ _) | (with_reducible refine Ext.drew ?_) | (with_reducible refine Ext.alloc ?_ _) | ((with_reducible refine Ext.setCell ?_ ?_ _); rotate_left; focus (first | (simp; done) | (simp; omega) | omega)) | assumption | (with_reducible refine Ext.trans ?_ (by assumption)))))).mono ?_); rintro e w2 ⟨a2, c2, rfl, ho2, hy2⟩; rw [I_len, edgesL_len, HWl.out] at ho2 ⊢; have hxw2 : Ext w w2 := Ext.trans (by repeat (first | (with_reducible exact Ext.refl _) | (with_reducible refine Ext.drewN ?_ _) | (with_reducible refine Ext.drew ?_) | (with_reducible refine Ext.alloc ?_ _) | ((with_reducible refine Ext.setCell ?_ ?_ _); rotate_left; focus (first | (simp; done) | (simp; omega) | omega)) | assumption | (with_reducible refine Ext.trans ?_ (by assumption)))) hy2; have HO2 := Lib.hid ho2; clear ho2 hy2) | ((with_reducible refine (HEi.out _).mono ?_); rintro e w3 ⟨a3, c3', rfl, ho3, hy3⟩; rw [I_len, HSi.out] at ho3 ⊢; have hxw3 : Ext w w3 := Ext.trans (by repeat (first | (with_reducible exact Ext.refl _) | (with_reducible refine Ext.drewN ?_ _) | (with_reducible refine Ext.drew ?_) | (with_reducible refine Ext.alloc ?_ _) | ((with_reducible refine Ext.setCell ?_ ?_ _); rotate_left; focus (first | (simp; done) | (simp; omega) | omega)) | assumption | (with_reducible refine Ext.trans ?_ (by assumption)))) hy3; have HO3 := Lib.hid ho3; have HO2' := Lib.hid (HO2.out.ints.ext hy3); clear ho3 hy3) | ((with_reducible refine (HOe.out _ _ _ HO3.out.ints).mono ?_); rintro e w4 ⟨a4, c4, rfl, ho4, hy4⟩; rw [I_len, edgesL_len, HSi.out] at ho4 ⊢; have hxw4 : Ext w w4 := Ext.trans (by repeat (first | (with_reducible exact Ext.refl _) | (with_reducible refine Ext.drewN ?_ _) | (with_reducible refine Ext.drew ?_) | (with_reducible refine Ext.alloc ?_ _) | ((with_reducible refine Ext.setCell ?_ ?_ _); rotate_left; focus (first | (simp; done) | (simp; omega) | omega)) | assumption | (with_reducible refine Ext.trans ?_ (by assumption)))) hy4; have HO2'' := Lib.hid (HO2'.out.ext hy4); have HO4 := Lib.hid ho4; clear ho4 hy4) | ((with_reducible refine (HMi.out _ _ _ _ _ (HO2''.out) HO4.out.ints).mono ?_); rintro e w5 ⟨rfl, hy5⟩; have hxw5 : Ext w w5 := Ext.trans (by repeat (first | (with_reducible exact Ext.refl _) | (with_reducible refine Ext.drewN ?_ _) | (with_reducible refine Ext.drew ?_) | (with_reducible refine Ext.alloc ?_ _) | ((with_reducible refine Ext.setCell ?_ ?_ _); rotate_left; focus (first | (simp; done) | (simp; omega) | omega)) | assumption | (with_reducible refine Ext.trans ?_ (by assumption)))) hy5; clear hy5))
      · exact ⟨⟨k + 1, k, f, 1, by omega, by go_num, rfl, rfl, rfl, by rw [Hid, HN.out, if_pos (by omega)], (by repeat (first | (with_reducible exact Ext.refl _) | (with_reducible refine Ext.drewN ?_ _) | (with_reducible refine Ext.drew ?_) | (with_reducible refine Ext.alloc ?_ _) | ((with_reducible refine Ext.setCell ?_ ?_ _); rotate_left; focus (first | (simp; done) | (simp; omega) | omega)) | assumption | (with_reducible refine Ext.trans ?_ (by assumption))))⟩, by simp [intOf]; omega⟩
      · have he : f = least := eq_of_beq (by assumption)
        exact ⟨⟨k + 1, best, least, many + 1, by omega, by go_num, rfl, rfl, rfl, by rw [Hid, HN.out, if_neg (by omega), if_pos he], (by repeat (first | (with_reducible exact Ext.refl _) | (with_reducible refine Ext.drewN ?_ _) | (with_reducible refine Ext.drew ?_) | (with_reducible refine Ext.alloc ?_ _) | ((with_reducible refine Ext.setCell ?_ ?_ _); rotate_left; focus (first | (simp; done) | (simp; omega) | omega)) | assumption | (with_reducible refine Ext.trans ?_ (by assumption))))⟩, by simp [intOf]; omega⟩
      · have he : ¬ f = least := ne_of_beq_false (by assumption)
        exact ⟨⟨k + 1, best, least, many, by omega, by go_num, rfl, rfl, rfl, by rw [Hid, HN.out, if_neg (by omega), if_neg he], (by repeat (first | (with_reducible exact Ext.refl _) | (with_reducible refine Ext.drewN ?_ _) | (with_reducible refine Ext.drew ?_) | (with_reducible refine Ext.alloc ?_ _) | ((with_reducible refine Ext.setCell ?_ ?_ _); rotate_left; focus (first | (simp; done) | (simp; omega) | omega)) | assumption | (with_reducible refine Ext.trans ?_ (by assumption))))⟩, by simp [intOf]; omega⟩
      · exact ⟨⟨k + 1, k, f, 1, by omega, by go_num, rfl, rfl, rfl, by rw [Hid, HN.out, if_pos (by omega)], (by repeat (first | (with_reducible exact Ext.refl _) | (with_reducible refine Ext.drewN ?_ _) | (with_reducible refine Ext.drew ?_) | (with_reducible refine Ext.alloc ?_ _) | ((with_reducible refine Ext.setCell ?_ ?_ _); rotate_left; focus (first | (simp; done) | (simp; omega) | omega)) | assumption | (with_reducible refine Ext.trans ?_ (by assumption))))⟩, by simp [intOf]; omega⟩
    · obtain rfl : k = n := by omega
      go_wp2
      go_ret2
      exact ⟨by rw [HSt.out, HS.out]; rfl, (by repeat (first | (with_reducible exact Ext.refl _) | (with_reducible refine Ext.drewN ?_ _) | (with_reducible refine Ext.drew ?_) | (with_reducible refine Ext.alloc ?_ _) | ((with_reducible refine Ext.setCell ?_ ?_ _); rotate_left; focus (first | (simp; done) | (simp; omega) | omega)) | assumption | (with_reducible refine Ext.trans ?_ (by assumption))))⟩
end Go.Proofs.Ytnmkckghfckgbaa
