/- The law on spread patterns: stripes that are scaled and spread, and its walk. -/
import Derived.Test.YtnmkckghfckgbaaTolL
import Derived.Test.YtnmkckghfckgbaaRead3
import Derived.Test.YtnmkckghfckgbaaStr3
namespace Go.Proofs.Ytnmkckghfckgbaa
set_option maxRecDepth 100000
open Go.RowKit

/-! ### plain -/
/-- a list made of another, number by number -/
def remTo (F : Nat → Int → Int) (l : List Int) (k : Nat) : List Int := (List.range k).map fun i => F i (gi l i)
def remL (F : Nat → Int → Int) (l : List Int) : List Int := remTo F l l.length
theorem remTo_len (F : Nat → Int → Int) (l : List Int) (k : Nat) : (remTo F l k).length = k := by simp [remTo]
theorem remL_len (F : Nat → Int → Int) (l : List Int) : (remL F l).length = l.length := remTo_len F l _
theorem remTo_step (F : Nat → Int → Int) (l : List Int) (k : Nat) : remTo F l (k + 1) = remTo F l k ++ [F k (gi l k)] := by simp [remTo, List.range_succ]
theorem remL_gi (F : Nat → Int → Int) (l : List Int) {i : Nat} (h : i < l.length) : gi (remL F l) i = F i (gi l i) := by
  rw [gi_get (by rw [remL_len]; exact h)]; simp [remL, remTo]
theorem remL_mem {F : Nat → Int → Int} {l : List Int} {x : Int} (h : x ∈ remL F l) : ∃ i, i < l.length ∧ x = F i (gi l i) := by
  unfold remL remTo at h
  obtain ⟨i, hi, rfl⟩ := List.mem_map.1 h
  exact ⟨i, List.mem_range.1 hi, rfl⟩
theorem remL_listB {F : Nat → Int → Int} {l : List Int} (h : listB l = true) (hF : ∀ i x, x ∈ l → 1 ≤ F i x ∧ F i x ≤ 100000) : listB (remL F l) = true := by
  unfold listB at h ⊢
  simp only [Bool.and_eq_true, List.all_eq_true, decide_eq_true_eq, inB_t, remL_len] at h ⊢
  refine ⟨fun x hx => ?_, h.2⟩
  obtain ⟨i, hi, rfl⟩ := remL_mem hx
  exact hF i _ (gi_mem hi)
theorem gi_ext {l r : List Int} (h : l.length = r.length) (hg : ∀ i, i < l.length → gi l i = gi r i) : l = r := by
  apply List.ext_getElem h
  intro i h1 h2
  rw [← gi_get h1, ← gi_get h2]
  exact hg i h1
def spreadF (wd : Int) (k : Nat) (x : Int) : Int := if k % 2 = 1 then x - wd else x + wd
def scaleF (b : Int) (_ : Nat) (x : Int) : Int := x * b
theorem spread_back (wd : Int) (l : List Int) : remL (spreadF (-wd)) (remL (spreadF wd) l) = l := by
  refine gi_ext (by rw [remL_len, remL_len]) fun i hi => ?_
  rw [remL_len, remL_len] at hi
  rw [remL_gi _ _ (by rw [remL_len]; exact hi), remL_gi _ _ hi]
  unfold spreadF
  split <;> omega
theorem stripes_bd4 {D : Bc} (hok : OkBc D) {ds : List Int} (hd : DigB D ds) : ∀ x ∈ stripesL D ds, 1 ≤ x ∧ x ≤ 4 := by
  have hg : ∀ x ∈ gapL D, 1 ≤ x ∧ x ≤ 4 := fun x hx => by
    unfold gapL at hx
    split at hx
    · simp at hx; have := hok.g4; omega
    · cases hx
  have h0 := elsL_bd (patB_t hok.start).1
  have h1 := elsL_bd (patB_t hok.stop).1
  intro x hx
  unfold stripesL joinL at hx
  simp only [List.mem_append] at hx
  rcases hx with ((hx | hx) | hx) | hx
  · exact h0 x hx
  · obtain ⟨y, hy, hxy⟩ := List.mem_flatten.1 hx
    obtain ⟨d, hdd, rfl⟩ := List.mem_map.1 hy
    unfold stepD at hxy
    rcases List.mem_append.1 hxy with h | h
    · exact hg x h
    · exact elsL_bd (hok.chars d.toNat (hd d hdd).2) x h
  · exact hg x hx
  · exact h1 x hx
theorem tail_parity {D : Bc} (hok : OkBc D) : D.stop.size % 2 = 1 ∧ eachN D % 2 = 0 ∧ (D.start.size + gapN D) % 2 = 0 := by
  have h := hok.tail
  unfold tailB at h
  simp only [Bool.and_eq_true, beq_iff_eq] at h
  obtain ⟨h1, h2, h3⟩ := h
  unfold eachN gapN
  by_cases hg : 0 < D.gap
  · rw [decide_eq_true hg, beq_iff_eq] at h3
    rw [if_pos hg]; omega
  · rw [decide_eq_false hg] at h3
    have : ¬ (D.start.size : Int) % 2 = 1 := fun h => by rw [h] at h3; cases h3
    rw [if_neg hg]; omega
theorem stripes_listB {D : Bc} (hok : OkBc D) {ds : List Int} (hd : DigB D ds) (hl : ds.length ≤ 20) : listB (stripesL D ds) = true := by
  have h1 := stripes_bd4 hok hd
  have h2 := stripesL_len hok hd
  have h3 := tail_parity hok
  have h4 := (patB_t hok.start).2.2.1
  have h5 := (patB_t hok.stop).2.2.1
  have h6 := hok.s10
  have h7 : eachN D ≤ 11 := by unfold eachN gapN; split <;> omega
  have h8 : gapN D ≤ 1 := by unfold gapN; split <;> omega
  have h9 : ds.length * eachN D ≤ 20 * 11 := Nat.mul_le_mul hl h7
  have h10 : (ds.length * eachN D) % 2 = 0 := by rw [Nat.mul_mod, h3.2.1]; simp
  unfold listB
  simp only [Bool.and_eq_true, List.all_eq_true, decide_eq_true_eq, inB_t]
  exact ⟨fun x hx => by have := h1 x hx; omega, by omega, by omega⟩
/-- scaled, and spread by turns -/
def sprR (by' wd : Int) : Bool → List Int → List Int
  | _, [] => []
  | b, x :: xs => (by' * x + (if b then wd else -wd)) :: sprR by' wd (!b) xs
theorem sprR_len (by' wd : Int) : ∀ (b : Bool) (l : List Int), (sprR by' wd b l).length = l.length
  | _, [] => rfl
  | b, x :: xs => by simp [sprR, sprR_len by' wd (!b) xs]
theorem sprR_gi (by' wd : Int) : ∀ (b : Bool) (l : List Int) (i : Nat), i < l.length → gi (sprR by' wd b l) i = by' * gi l i + (if (decide (i % 2 = 0)) = b then wd else -wd)
  | _, [], i, h => by simp at h
  | b, x :: xs, 0, _ => by cases b <;> simp [sprR, gi]
  | b, x :: xs, i + 1, h => by
    have h1 := sprR_gi by' wd (!b) xs i (by simpa using h)
    rw [sprR]
    show gi (sprR by' wd (!b) xs) i = by' * gi xs i + _
    rw [h1]
    have : (decide (i % 2 = 0) = !b) ↔ (decide ((i + 1) % 2 = 0) = b) := by
      rcases Nat.mod_two_eq_zero_or_one i with h2 | h2
      · rw [h2, show (i + 1) % 2 = 1 by omega]; cases b <;> simp
      · rw [h2, show (i + 1) % 2 = 0 by omega]; cases b <;> simp
    simp only [this]
theorem sprR_sum (by' wd : Int) : ∀ (b : Bool) (l : List Int), (sprR by' wd b l).sum = by' * l.sum + (if l.length % 2 = 1 then (if b then wd else -wd) else 0)
  | _, [] => by simp [sprR]
  | b, x :: xs => by
    rw [sprR, List.sum_cons, List.sum_cons, sprR_sum by' wd (!b) xs, Int.mul_add, List.length_cons]
    rcases Nat.mod_two_eq_zero_or_one xs.length with h | h
    · rw [h, show (xs.length + 1) % 2 = 1 by omega]; cases b <;> simp <;> omega
    · rw [h, show (xs.length + 1) % 2 = 0 by omega]; cases b <;> simp <;> omega
theorem sprR_snoc (by' wd x : Int) (l : List Int) : sprR by' wd true (l ++ [x]) = sprR by' wd true l ++ [by' * x + (if l.length % 2 = 0 then wd else -wd)] := by
  refine gi_ext (by simp [sprR_len]) fun i hi => ?_
  rw [sprR_len, List.length_append, List.length_singleton] at hi
  rw [sprR_gi _ _ _ _ _ (by simp; omega)]
  unfold gi
  simp only [List.getD_eq_getElem?_getD]
  by_cases h : i < l.length
  · rw [List.getElem?_append_left h, List.getElem?_append_left (by rw [sprR_len]; exact h)]
    have := sprR_gi by' wd true l i h
    unfold gi at this
    simp only [List.getD_eq_getElem?_getD] at this
    rw [this]
  · obtain rfl : i = l.length := by omega
    rw [List.getElem?_append_right (Nat.le_refl _), List.getElem?_append_right (by rw [sprR_len]; exact Nat.le_refl _), sprR_len, Nat.sub_self]
    simp
theorem sprR_edges (by' wd : Int) (l : List Int) : edgesL (sprR by' wd true l) = (edgesL l).map fun x => by' * x := by
  have hl : (edgesL (sprR by' wd true l)).length = ((edgesL l).map fun x => by' * x).length := by simp [edgesL_len, sprR_len]
  refine gi_ext hl fun i hi => ?_
  rw [edgesL_len, sprR_len] at hi
  have e1 : ∀ (r : List Int), i < r.length - 1 → gi (edgesL r) i = gi r i + gi r (i + 1) := fun r hr => by
    rw [gi_get (by rw [edgesL_len]; exact hr)]; simp [edgesL, edgesTo]
  rw [e1 _ (by rw [sprR_len]; exact hi), sprR_gi _ _ _ _ _ (by omega), sprR_gi _ _ _ _ _ (by omega)]
  have e2 : gi ((edgesL l).map fun x => by' * x) i = by' * gi (edgesL l) i := by
    rw [gi_get (by rw [List.length_map, edgesL_len]; exact hi), List.getElem_map, ← gi_get]
  rw [e2, e1 _ hi, Int.mul_add]
  rcases Nat.mod_two_eq_zero_or_one i with h | h
  · rw [h, show (i + 1) % 2 = 1 by omega]; simp; omega
  · rw [h, show (i + 1) % 2 = 0 by omega]; simp; omega
theorem el_sum_pos {D : Bc} (hok : OkBc D) : 1 ≤ (elD D 0).sum := by
  have h0 : ∀ x ∈ elD D 0, 1 ≤ x ∧ x ≤ 4 := elsL_bd (hok.chars 0 hok.n1)
  have h1 := elD_len hok (k := 0) hok.n1
  have h2 := hok.s1
  cases hq : elD D 0 with
  | nil => rw [hq] at h1; simp at h1; omega
  | cons y ys =>
    rw [hq] at h0
    have h3 := h0 y (List.mem_cons_self ..)
    have h4 := (sum_up (l := ys) (B := 4) (fun x hx => by have := h0 x (List.mem_cons_of_mem _ hx); omega)).1
    rw [List.sum_cons]; omega
theorem missL_nn : ∀ (m t : Int) (a b : List Int), 0 ≤ missL m t a b
  | _, _, [], _ => by simp [missL]
  | _, _, _ :: _, [] => by simp [missL]
  | m, t, y :: ys, z :: zs => by have := missL_nn m t ys zs; rw [missL]; omega
theorem sprR_bd {by' wd : Int} (hb : 8 ≤ by') (hb2 : by' ≤ 47) (hw : -7 ≤ wd ∧ wd ≤ 7) : ∀ (b : Bool) (l : List Int), (∀ x ∈ l, 1 ≤ x ∧ x ≤ 4) → ∀ x ∈ sprR by' wd b l, 1 ≤ x ∧ x ≤ 100000
  | _, [], _, x, hx => by simp [sprR] at hx
  | b, y :: ys, hl, x, hx => by
    rw [sprR] at hx
    rcases List.mem_cons.1 hx with rfl | hx
    · have h1 := hl y (List.mem_cons_self ..)
      have h3 : by' * 1 ≤ by' * y := Int.mul_le_mul_of_nonneg_left h1.1 (by omega)
      have h4 : by' * y ≤ by' * 4 := Int.mul_le_mul_of_nonneg_left h1.2 (by omega)
      split <;> omega
    · exact sprR_bd hb hb2 hw (!b) ys (fun z hz => hl z (List.mem_cons_of_mem _ hz)) x hx
/-- by their edges, spread patterns are measured as themselves -/
theorem spread_meas {D : Bc} (h : validBc D = true) (he : hasEdgesB D = true) {k : Nat} (hk : k < D.pats.length) {by' wd : Int} (hb : 8 ≤ by') (hb2 : by' ≤ 47) (hw : -7 ≤ wd ∧ wd ≤ 7) (hev : (gs D.pats 0).size % 2 = 0) :
    measOkB D (sprR by' wd true (elD D k)) edgesL = true ∧ measRes D (sprR by' wd true (elD D k)) edgesL = k := by
  have hok := validBc_ok h
  have hel : ∀ j, j < D.pats.length → ∀ x ∈ elD D j, 1 ≤ x ∧ x ≤ 4 := fun j hj => elsL_bd (hok.chars j hj)
  have hws := sprR_bd hb hb2 hw true (elD D k) (hel k hk)
  have hwl : (sprR by' wd true (elD D k)).length = (gs D.pats 0).size := by rw [sprR_len, elD_len hok hk]
  have hwB : widthsB D (sprR by' wd true (elD D k)) = true := by
    unfold widthsB
    simp only [Bool.and_eq_true, decide_eq_true_eq, List.all_eq_true, inB_t]
    exact ⟨by rw [hwl], hws⟩
  have hs : (elD D k).sum = (elD D 0).sum := hok.sum k hk
  have hs1 := el_sum_pos hok
  have hsum : (sprR by' wd true (elD D k)).sum = by' * (elD D 0).sum := by
    rw [sprR_sum, elD_len hok hk, if_neg (by omega), hs]; omega
  have hne : ∀ i, i < D.pats.length → i ≠ k → edgesL (elD D k) ≠ edgesL (elD D i) := fun i hi hik he2 => by
    unfold hasEdgesB at he
    simp only [Bool.and_eq_true] at he
    have hp := he.2
    unfold pairAll at hp
    simp only [List.all_eq_true, List.mem_range] at hp
    have hP : ∀ a b, a < D.pats.length → b < a → edgesL (elD D a) ≠ edgesL (elD D b) := fun a b ha hb => by
      have := hp a ha b hb
      unfold edgeP at this
      unfold elD
      simpa using this
    rcases Nat.lt_or_gt_of_ne hik with hlt | hlt
    · exact hP k i hk hlt he2
    · exact hP i k hi hlt he2.symm
  have hm := (mst_one (f := farI D (sprR by' wd true (elD D k)) edgesL) (k := k) (fun i => missL_nn _ _ _ _) D.pats.length (fun i hi hik => ?_)).2 hk
  · have h3 : ((measS D (sprR by' wd true (elD D k)) edgesL).2.2 == 1) = true := by rw [measS, hm]; rfl
    obtain ⟨r1, r2⟩ := meas_yes h hwB h3
    exact ⟨r1, by rw [r2, measS, hm]⟩
  · unfold farI
    rw [hsum, sprR_edges]
    exact exact_less hs1 (by omega) (by rw [edgesL_len, edgesL_len]; exact congrArg (· - 1) ((elD_len hok hk).trans (elD_len hok hi).symm)) (hne i hi hik)

/-! ### walks -/
/-- a list made of another, and true -/
def RetRem (l : List Int) (w : World) (e : Ending) (w' : World) : Prop := ∃ (a : Option Addr) (m c : Nat), e = .returned (.tuple #[.slice a m c, .bool true]) ∧ m = l.length ∧ Own w' w.heap.size 2 a m c (I l) ∧ Ext w w'
set_option maxHeartbeats 2000000 in
theorem impl_remade (a : Option Addr) (n c : Nat) (l : List Int) (by' : Int) (f : Nat) (caps : Array Value) (F : Nat → Int → Int) (w : World) (hv : Ints w a n c l) (hl : listB l = true) (hb : inB by' (-100000) 100000 = true) (hl2 : listB (remL F l) = true)
    (he : ∀ args w', (callFunc f args).run Try.prog w' = .ok (.enter f args) w') (hf : ∀ (k : Nat), k < n → ∀ w', Ext w w' → Calls Try.prog f (#[.int .i64 k, .int .i64 (gi l k)] ++ caps) w' (Ret (.int .i64 (F k (gi l k))) w')) :
    Calls Try.prog 73 #[.slice a n c, .int .i64 by', .func (.func f) #[] caps] w (RetRem (remL F l) w) := by
  have HL := Lib.hid hv.len
  have hn4 : n ≤ 400 := by
    unfold listB at hl
    simp only [Bool.and_eq_true, decide_eq_true_eq] at hl
    rw [← HL.out]; exact hl.2.2
  have HS1 := Lib.hid (fun W (h : Ext w W) => impl_stripesOk a n c l W (hv.ext h) (by omega))
  rw [hl] at HS1
  have HS2 := Lib.hid (fun b d W (h : Ints W b n d (remL F l)) => impl_stripesOk b n d (remL F l) W h (by omega))
  rw [hl2] at HS2
  have HI := Lib.hid (fun W => impl_in by' (-100000) 100000 W)
  rw [hb] at HI
  have HF := Lib.hid (show remTo F l n = remL F l from by rw [remL, HL.out])
  obtain ⟨b, off, hix, hcell⟩ := hv.ix (P := Try.prog) 36 2 und_int64s cell_int64
  have Hhv := Lib.hid hv; clear hv; have Hhf := Lib.hid hf; clear hf; have Hhl := Lib.hid hl; clear hl; have Hhl2 := Lib.hid hl2; clear hl2; have Hhb := Lib.hid hb; clear hb
  go_enter Try.func73, Try.ntmps73
  go_wp2_with (first | (go_at_call 78; (with_reducible refine (HS1.out _ (by repeat (first | (with_reducible exact Ext.refl _) | (with_reducible assumption) | (with_reducible refine Ext.drewN ?_ _) | (with_reducible refine Ext.drew ?_) | (with_reducible refine Ext.alloc ?_ _) | ((with_reducible refine Ext.setCell ?_ ?_ _); rotate_left; focus (first | (simp; done) | (simp; omega) | omega)) | (with_reducible refine Ext.trans ?_ (by with_reducible assumption))))).mono ?_); rintro e w1 ⟨rfl, hy1⟩; have hx1 : Ext w w1 := Ext.trans (by repeat (first | (with_reducible exact Ext.refl _) | (with_reducible assumption) | (with_reducible refine Ext.drewN ?_ _) | (with_reducible refine Ext.drew ?_) | (with_reducible refine Ext.alloc ?_ _) | ((with_reducible refine Ext.setCell ?_ ?_ _); rotate_left; focus (first | (simp; done) | (simp; omega) | omega)) | (with_reducible refine Ext.trans ?_ (by with_reducible assumption)))) hy1; clear hy1) | (go_at_call 87; refine (HI.out _).mono ?_; rintro e w' ⟨rfl, rfl⟩))
  go_loopw [8, 9, 10, 22] (fun v _ _ i wr => ∃ (k : Nat) (ad : Option Addr) (cc : Nat), k ≤ n ∧ i = .int .i64 k ∧ v = .slice ad k cc ∧ Hid (Own wr w.heap.size 2 ad k cc (I (remTo F l k))) ∧ Ext w wr) (fun _ _ _ i _ => n - (intOf i).toNat)
  case atStart => exact ⟨0, _, 0, Nat.zero_le _, rfl, rfl, (Own.lit0 _ _).mono hx1.le, hx1.trans ((Ext.refl _).alloc _)⟩
  case round =>
    obtain ⟨k, ad, cc, hk, rfl, rfl, HO, hx⟩ := hrel
    have hxr : Ext w wr := hx
    clear hx
    by_cases hlt : k < n
    · have HC := Lib.hid (Hhf.out k hlt wr hxr)
      have HN := Lib.hid (remTo_step F l k)
      go_wp2_with (first | (at_builtin; refine law_append1 _ rfl _ _ 36 rfl 2 (.int .i64 0) 8 und_int64s info_int64 rfl w.heap.size ad k cc _ _ rfl rfl rfl HO2.out hxw2.le (by omega) (by omega) ?_; intro ad' cc' w9 ho9 hb9 _; have hxw9 : Ext w w9 := Ext.below hxw2 hb9) | ((with_reducible refine HC.out.mono ?_); rintro e w2 ⟨rfl, hy2⟩; have hxw2 : Ext w w2 := hxr.trans hy2; have HO2 := Lib.hid (HO.out.ext hy2); clear hy2))
      exact ⟨⟨k + 1, ad', cc', by omega, by go_num, rfl, by rw [Hid, HN.out, I_append]; exact ho9, hxw9⟩, by simp [intOf]; omega⟩
    · obtain rfl : k = n := by omega
      have HO2 := Lib.hid HO.out
      rw [HF.out] at HO2
      go_wp2_with (go_at_call 78; (with_reducible refine (HS2.out _ _ _ HO2.out.ints).mono ?_); rintro e w3 ⟨rfl, hy3⟩)
      go_ret2
      exact ⟨ad, k, cc, rfl, by rw [remL_len, HL.out], HO2.out.ext hy3, hxr.trans hy3⟩
set_option maxHeartbeats 400000 in
theorem scale1 (q : Nat) (b x : Int) (k : Nat) (w : World) (hc : w.cell? ⟨q, 0, none⟩ = some (.int .i64 b)) (h1 : 0 ≤ x * b) (h2 : x * b ≤ 1000000000) :
    Calls Try.prog 74 (#[.int .i64 k, .int .i64 x] ++ #[.pointer (some ⟨q, 0, none⟩)]) w (Ret (.int .i64 (scaleF b k x)) w) := by
  go_enter Try.func74, Try.ntmps74
  go_wp2
  go_ret
  exact ⟨rfl, Ext.refl _⟩
set_option maxHeartbeats 1000000 in
theorem impl_Scale (a : Option Addr) (n c : Nat) (l : List Int) (b : Int) (w : World) (hv : Ints w a n c l) (hl : listB l = true) (hb : inB b (-100000) 100000 = true) (hl2 : listB (remL (scaleF b) l) = true) :
    Calls Try.prog 37 #[.slice a n c, .int .i64 b] w (RetRem (remL (scaleF b) l) w) := by
  have HL := Lib.hid hv.len
  have hbd : ∀ k, k < n → 0 ≤ gi l k * b ∧ gi l k * b ≤ 1000000000 := fun k hk => by
    unfold listB at hl2
    simp only [Bool.and_eq_true, List.all_eq_true, inB_t] at hl2
    have := hl2.1 (gi (remL (scaleF b) l) k) (gi_mem (by rw [remL_len, HL.out]; exact hk))
    rw [remL_gi _ _ (by rw [HL.out]; exact hk)] at this
    unfold scaleF at this
    omega
  have HR := Lib.hid (fun W (hx : Ext w W) (hc : ∀ W', Ext W W' → W'.cell? ⟨w.heap.size, 0, none⟩ = some (.int .i64 b)) => impl_remade a n c l b 74 #[.pointer (some ⟨w.heap.size, 0, none⟩)] (scaleF b) W (hv.ext hx) hl hb hl2 (fun _ _ => rfl) (fun k hk w' hx' => scale1 w.heap.size b (gi l k) k w' (hc w' hx') (hbd k hk).1 (hbd k hk).2))
  clear hv
  go_enter Try.func37, Try.ntmps37
  go_wp2_with (go_at_call 73; (with_reducible refine (HR.out _ (by repeat (first | (with_reducible exact Ext.refl _) | (with_reducible assumption) | (with_reducible refine Ext.drewN ?_ _) | (with_reducible refine Ext.drew ?_) | (with_reducible refine Ext.alloc ?_ _) | ((with_reducible refine Ext.setCell ?_ ?_ _); rotate_left; focus (first | (simp; done) | (simp; omega) | omega)) | (with_reducible refine Ext.trans ?_ (by with_reducible assumption)))) (fun W' h => h.cell (by go_simp))).mono ?_); rintro e w1 ⟨a1, _, c1, rfl, rfl, ho1, hy1⟩)
  go_ret2
  exact ⟨a1, _, c1, rfl, rfl, ho1.mono (by simp), (by repeat (first | (with_reducible exact Ext.refl _) | (with_reducible refine Ext.drewN ?_ _) | (with_reducible refine Ext.drew ?_) | (with_reducible refine Ext.alloc ?_ _) | ((with_reducible refine Ext.setCell ?_ ?_ _); rotate_left; focus (first | (simp; done) | (simp; omega) | omega)) | assumption | (with_reducible refine Ext.trans ?_ (by assumption))))⟩
set_option maxHeartbeats 400000 in
theorem spread1 (q : Nat) (b x : Int) (k : Nat) (w : World) (hc : w.cell? ⟨q, 0, none⟩ = some (.int .i64 b)) (h1 : -1000000 ≤ x) (h2 : x ≤ 1000000) (h3 : -1000000 ≤ b) (h4 : b ≤ 1000000) :
    Calls Try.prog 75 (#[.int .i64 k, .int .i64 x] ++ #[.pointer (some ⟨q, 0, none⟩)]) w (Ret (.int .i64 (spreadF b k x)) w) := by
  by_cases hk : k % 2 = 1
  · have hk' : (k : Int) % 2 = 1 := by omega
    have HS := Lib.hid (show spreadF b k x = x - b from if_pos hk)
    clear hk
    go_enter Try.func75, Try.ntmps75
    go_wp2
    go_ret
    exact ⟨ri HS.out.symm, Ext.refl _⟩
  · have hk' : (k : Int) % 2 = 0 := by omega
    have HS := Lib.hid (show spreadF b k x = x + b from if_neg hk)
    clear hk
    go_enter Try.func75, Try.ntmps75
    go_wp2
    go_ret
    exact ⟨ri HS.out.symm, Ext.refl _⟩
set_option maxHeartbeats 1000000 in
theorem impl_Spread (a : Option Addr) (n c : Nat) (l : List Int) (b : Int) (w : World) (hv : Ints w a n c l) (hl : listB l = true) (hb : inB b (-100000) 100000 = true) (hl2 : listB (remL (spreadF b) l) = true) :
    Calls Try.prog 38 #[.slice a n c, .int .i64 b] w (RetRem (remL (spreadF b) l) w) := by
  have HL := Lib.hid hv.len
  have hbb := inB_t.1 hb
  have hbd : ∀ k, k < n → -1000000 ≤ gi l k ∧ gi l k ≤ 1000000 := fun k hk => by
    have h := hl
    unfold listB at h
    simp only [Bool.and_eq_true, List.all_eq_true, inB_t] at h
    have := h.1 (gi l k) (gi_mem (by rw [HL.out]; exact hk))
    omega
  have HR := Lib.hid (fun W (hx : Ext w W) (hc : ∀ W', Ext W W' → W'.cell? ⟨w.heap.size, 0, none⟩ = some (.int .i64 b)) => impl_remade a n c l b 75 #[.pointer (some ⟨w.heap.size, 0, none⟩)] (spreadF b) W (hv.ext hx) hl hb hl2 (fun _ _ => rfl) (fun k hk w' hx' => spread1 w.heap.size b (gi l k) k w' (hc w' hx') (hbd k hk).1 (hbd k hk).2 (by omega) (by omega)))
  clear hv
  go_enter Try.func38, Try.ntmps38
  go_wp2_with (go_at_call 73; (with_reducible refine (HR.out _ (by repeat (first | (with_reducible exact Ext.refl _) | (with_reducible assumption) | (with_reducible refine Ext.drewN ?_ _) | (with_reducible refine Ext.drew ?_) | (with_reducible refine Ext.alloc ?_ _) | ((with_reducible refine Ext.setCell ?_ ?_ _); rotate_left; focus (first | (simp; done) | (simp; omega) | omega)) | (with_reducible refine Ext.trans ?_ (by with_reducible assumption)))) (fun W' h => h.cell (by go_simp))).mono ?_); rintro e w1 ⟨a1, _, c1, rfl, rfl, ho1, hy1⟩)
  go_ret2
  exact ⟨a1, _, c1, rfl, rfl, ho1.mono (by simp), (by repeat (first | (with_reducible exact Ext.refl _) | (with_reducible refine Ext.drewN ?_ _) | (with_reducible refine Ext.drew ?_) | (with_reducible refine Ext.alloc ?_ _) | ((with_reducible refine Ext.setCell ?_ ?_ _); rotate_left; focus (first | (simp; done) | (simp; omega) | omega)) | assumption | (with_reducible refine Ext.trans ?_ (by assumption))))⟩
def RetEd (n : Nat) (w : World) (e : Ending) (w' : World) : Prop := ∃ (a : Option Addr) (m c : Nat), e = .returned (.tuple #[.slice a m c, .bool true]) ∧ m = n ∧ Ext w w'
set_option maxHeartbeats 400000 in
theorem impl_EdgesOf (s : ByteArray) (w : World) (hp : patB s.data.toList = true) : Calls Try.prog 36 #[.string s] w (RetEd (s.size - 1) w) := by
  obtain ⟨h1, h2, h3, h4⟩ := patB_t hp
  have HW := Lib.hid (impl_widths s w (by omega))
  have HEd := Lib.hid (fun a c W h => impl_edges a s.size c (elsL s.data.toList) W h (fun x hx => by have := elsL_bd h1 x hx; omega) (by omega))
  have HP := Lib.hid hp
  have HC := Lib.hid h1
  clear hp h1
  go_enter Try.func36, Try.ntmps36
  go_wp2_with fail
  refine HW.out.mono ?_
  rintro e w1 ⟨a, n, c, rfl, hx1, ho⟩
  obtain ⟨rfl, ho2⟩ := ho HC.out
  rw [HP.out]
  rw [size_eq] at ho2 ⊢
  have HO := Lib.hid ho2
  clear ho2 ho
  go_wp2_with (go_at_call 63; (with_reducible refine (HEd.out _ _ _ HO.out.ints).mono ?_); rintro e w2 ⟨a2, c2, rfl, ho2, hy2⟩)
  go_ret2
  exact ⟨a2, _, c2, rfl, by rw [I_len, edgesL_len, elsL_len, size_eq], hx1.trans hy2⟩
set_option maxHeartbeats 1000000 in
theorem laws_r8Same (a a' : Option Addr) (n c c' : Nat) (l : List Int) (w : World) (hv : Ints w a n c l) (hv' : Ints w a' n c' l) (hn : n ≤ 4611686018427387904) :
    Calls Try.prog 39 #[.slice a n c, .slice a' n c'] w (Ret (.bool true) w) := by
  obtain ⟨b, off, hix, hcell⟩ := hv.ix (P := Try.prog) 36 2 und_int64s cell_int64
  obtain ⟨b', off', hix', hcell'⟩ := hv'.ix (P := Try.prog) 36 2 und_int64s cell_int64
  have Hhv := Lib.hid hv; clear hv; have Hhv' := Lib.hid hv'; clear hv'
  go_enter Try.func39, Try.ntmps39
  go_wp2
  go_loopw [5] (fun i wr => ∃ k : Nat, k ≤ n ∧ i = .int .i64 k ∧ Ext w wr) (fun i _ => n - (intOf i).toNat)
  case atStart => exact ⟨0, Nat.zero_le _, rfl, Ext.refl _⟩
  case round =>
    obtain ⟨k, hk, rfl, hx⟩ := hrel
    by_cases hlt : k < n
    · go_wp2
      (refine wp_region_up (by kernel_rfl) (by kernel_rfl) (by kernel_rfl) ?_; (repeat (first | (refine mix_q rfl ?_; go_big_quiet_step (fail); refine wpQuiet_nil ?_; show wpMix _ _ _ _ _ _ _) | (refine mix_s rfl ?_; go_wp2_with (fail); first | refine ⟨up_of (by repeat (first | (with_reducible exact Ext.refl _) | (with_reducible refine Ext.drewN ?_ _) | (with_reducible refine Ext.drew ?_) | (with_reducible refine Ext.alloc ?_ _) | ((with_reducible refine Ext.setCell ?_ ?_ _); rotate_left; focus (first | (simp; done) | (simp; omega) | omega)) | assumption | (with_reducible refine Ext.trans ?_ (by assumption)))), ?_⟩ | refine ⟨rfl, rfl, up_of (by repeat (first | (with_reducible exact Ext.refl _) | (with_reducible refine Ext.drewN ?_ _) | (with_reducible refine Ext.drew ?_) | (with_reducible refine Ext.alloc ?_ _) | ((with_reducible refine Ext.setCell ?_ ?_ _); rotate_left; focus (first | (simp; done) | (simp; omega) | omega)) | assumption | (with_reducible refine Ext.trans ?_ (by assumption)))), ?_⟩))); refine mix_nil ?_)
      go_wp2
      exact ⟨⟨k + 1, by omega, by go_num, (by repeat (first | (with_reducible exact Ext.refl _) | (with_reducible refine Ext.drewN ?_ _) | (with_reducible refine Ext.drew ?_) | (with_reducible refine Ext.alloc ?_ _) | ((with_reducible refine Ext.setCell ?_ ?_ _); rotate_left; focus (first | (simp; done) | (simp; omega) | omega)) | assumption | (with_reducible refine Ext.trans ?_ (by assumption))))⟩, by simp [intOf]; omega⟩
    · go_wp2
      go_ret
      exact ⟨rfl, (by repeat (first | (with_reducible exact Ext.refl _) | (with_reducible refine Ext.drewN ?_ _) | (with_reducible refine Ext.drew ?_) | (with_reducible refine Ext.alloc ?_ _) | ((with_reducible refine Ext.setCell ?_ ?_ _); rotate_left; focus (first | (simp; done) | (simp; omega) | omega)) | assumption | (with_reducible refine Ext.trans ?_ (by assumption))))⟩
end Go.Proofs.Ytnmkckghfckgbaa
