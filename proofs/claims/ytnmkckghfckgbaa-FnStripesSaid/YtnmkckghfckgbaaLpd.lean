/- Walks: the least distance of two patterns; the laws' helpers on barcodes. -/
import Derived.Test.YtnmkckghfckgbaaBcS
import Derived.Test.YtnmkckghfckgbaaStrs
namespace Go.Proofs.Ytnmkckghfckgbaa
set_option maxRecDepth 100000
open Go.RowKit

/-! ### least of all pairs -/
def prs (f : Nat → Nat → Int) (i k : Nat) : List Int := (List.range i).flatMap (fun a => (List.range a).map (f a)) ++ (List.range k).map (f i)
theorem prs_k (f : Nat → Nat → Int) (i k : Nat) : prs f i (k + 1) = prs f i k ++ [f i k] := by simp [prs, List.range_succ]
theorem prs_i (f : Nat → Nat → Int) (i : Nat) : prs f (i + 1) 0 = prs f i i := by simp [prs, List.range_succ]
def far40 : Int := 1099511627776
def minL (l : List Int) : Int := l.foldl min far40
def lowf (a x : Int) : Int := if a < 0 ∨ x < a then x else a
def lowL (l : List Int) : Int := l.foldl lowf (-1)
theorem minL_snoc (l : List Int) (x : Int) : minL (l ++ [x]) = min (minL l) x := by simp [minL]
theorem lowL_snoc (l : List Int) (x : Int) : lowL (l ++ [x]) = lowf (lowL l) x := by simp [lowL]
theorem low_min : ∀ (l : List Int) (a : Int), 0 ≤ a → (∀ x ∈ l, 0 ≤ x) → l.foldl lowf a = l.foldl min a
  | [], _, _, _ => rfl
  | x :: xs, a, ha, h => by
    have hx := h x (List.mem_cons_self ..)
    simp only [List.foldl_cons]
    have e : lowf a x = min a x := by unfold lowf; split <;> omega
    rw [e]
    exact low_min xs _ (by omega) fun y hy => h y (List.mem_cons_of_mem _ hy)
theorem lowL_eq {l : List Int} (hn : l ≠ []) (h : ∀ x ∈ l, 0 ≤ x ∧ x ≤ far40) : lowL l = minL l := by
  cases l with
  | nil => exact absurd rfl hn
  | cons x xs =>
    have hx := h x (List.mem_cons_self ..)
    unfold lowL minL
    simp only [List.foldl_cons]
    rw [show lowf (-1) x = x by unfold lowf; rw [if_pos (by omega)], show min far40 x = x by omega]
    exact low_min xs x hx.1 fun y hy => (h y (List.mem_cons_of_mem _ hy)).1
theorem prs_mem {f : Nat → Nat → Int} {i k n : Nat} {x : Int} (h : x ∈ prs f i k) (hi : i < n ∨ k = 0 ∧ i ≤ n) (hk : k ≤ i) : ∃ a b, a < n ∧ b < a ∧ x = f a b := by
  unfold prs at h
  rw [List.mem_append] at h
  rcases h with h | h
  · obtain ⟨a, ha, hx⟩ := List.mem_flatMap.1 h
    obtain ⟨b, hb, rfl⟩ := List.mem_map.1 hx
    rw [List.mem_range] at ha hb
    exact ⟨a, b, by omega, hb, rfl⟩
  · obtain ⟨b, hb, rfl⟩ := List.mem_map.1 h
    rw [List.mem_range] at hb
    exact ⟨i, b, by omega, by omega, rfl⟩
theorem minL_bd {l : List Int} (h : ∀ x ∈ l, 0 ≤ x) : 0 ≤ minL l ∧ minL l ≤ far40 := by
  have : ∀ (l : List Int) (a : Int), 0 ≤ a → a ≤ far40 → (∀ x ∈ l, 0 ≤ x) → 0 ≤ l.foldl min a ∧ l.foldl min a ≤ far40 := by
    intro l; induction l with
    | nil => intro a h1 h2 _; exact ⟨h1, h2⟩
    | cons x xs ih => intro a h1 h2 h3; have := h3 x (List.mem_cons_self ..); exact ih _ (by omega) (by omega) fun y hy => h3 y (List.mem_cons_of_mem _ hy)
  exact this l far40 (by decide) (Int.le_refl _) h
theorem lowL_bd {l : List Int} {n : Int} (hn : 0 ≤ n) (h : ∀ x ∈ l, 0 ≤ x ∧ x ≤ n) : -1 ≤ lowL l ∧ lowL l ≤ n := by
  have : ∀ (l : List Int) (a : Int), -1 ≤ a → a ≤ n → (∀ x ∈ l, 0 ≤ x ∧ x ≤ n) → -1 ≤ l.foldl lowf a ∧ l.foldl lowf a ≤ n := by
    intro l; induction l with
    | nil => intro a h1 h2 _; exact ⟨h1, h2⟩
    | cons x xs ih => intro a h1 h2 h3; have := h3 x (List.mem_cons_self ..); exact ih _ (by unfold lowf; split <;> omega) (by unfold lowf; split <;> omega) fun y hy => h3 y (List.mem_cons_of_mem _ hy)
  exact this l (-1) (Int.le_refl _) (by omega) h

/-! ### valid barcodes -/
structure OkBc (D : Bc) : Prop where
  n1 : 1 ≤ D.pats.length
  n36 : D.pats.length ≤ 36
  chars : ∀ k, k < D.pats.length → charsB (gs D.pats k).data.toList = true
  size : ∀ k, k < D.pats.length → (gs D.pats k).size = (gs D.pats 0).size
  sum : ∀ k, k < D.pats.length → (elsL (gs D.pats k).data.toList).sum = (elsL (gs D.pats 0).data.toList).sum
  s1 : 1 ≤ (gs D.pats 0).size
  s10 : (gs D.pats 0).size ≤ 10
  m20 : (elsL (gs D.pats 0).data.toList).sum ≤ 20
  start : patB D.start.data.toList = true
  stop : patB D.stop.data.toList = true
  g0 : 0 ≤ D.gap
  g4 : D.gap ≤ 4
  diff : ∀ j k, j < k → k < D.pats.length → gs D.pats j ≠ gs D.pats k
  tail : tailB D = true
theorem patB_t {p : ByteArray} (h : patB p.data.toList = true) : charsB p.data.toList = true ∧ 1 ≤ p.size ∧ p.size ≤ 10 ∧ (elsL p.data.toList).sum ≤ 20 := by
  unfold patB at h
  simp only [Bool.and_eq_true, decide_eq_true_eq, size_eq] at h
  have := inB_t.1 h.2.1
  exact ⟨h.1, by omega, by omega, h.2.2⟩
theorem validBc_ok {D : Bc} (h : validBc D = true) : OkBc D := by
  unfold validBc at h
  simp only [Bool.and_eq_true] at h
  obtain ⟨hh, ha, ht⟩ := h
  unfold headB pl at hh
  simp only [Bool.and_eq_true] at hh
  obtain ⟨h1, h2, h3, h4⟩ := hh
  have h3' := inB_t.1 h3
  have h4' := inB_t.1 h4
  have one : ∀ k, k < D.pats.length → oneB D.pats k = true := fun k hk => allB_le ha hk
  have one' : ∀ k, k < D.pats.length → patB (gs D.pats k).data.toList = true ∧ (gs D.pats k).size = (gs D.pats 0).size ∧ (elsL (gs D.pats k).data.toList).sum = (elsL (gs D.pats 0).data.toList).sum ∧ ((D.pats.take k).any fun p => (gs D.pats k).toList == p.toList) = false := fun k hk => by
    have := one k hk
    unfold oneB pl at this
    simp only [Bool.and_eq_true, decide_eq_true_eq, Bool.not_eq_true'] at this
    exact ⟨this.1, by omega, this.2.2.1, this.2.2.2⟩
  have p0 := patB_t (one' 0 (by omega)).1
  refine ⟨by omega, by omega, fun k hk => (patB_t (one' k hk).1).1, fun k hk => (one' k hk).2.1, fun k hk => (one' k hk).2.2.1, p0.2.1, p0.2.2.1, p0.2.2.2, h1, h2, h4'.1, h4'.2, fun j k hjk hk he => ?_, ht⟩
  have h5 := (one' k hk).2.2.2
  rw [any_some (p := fun p => (gs D.pats k).toList == p.toList) (j := j) (by omega) hjk (by rw [he]; simp)] at h5
  cases h5
theorem OkBc.els {D : Bc} (h : OkBc D) (k : Nat) (hk : k < D.pats.length) : Bd (elsL (gs D.pats k).data.toList) 4 := fun x hx => by have := elsL_bd (h.chars k hk) x hx; omega
theorem Bd.up {l : List Int} {B B' : Int} (h : Bd l B) (hB : B ≤ B') : Bd l B' := fun x hx => by have := h x hx; omega

def distBc (D : Bc) (i k : Nat) : Int := apartL (elsL (gs D.pats i).data.toList) (elsL (gs D.pats k).data.toList)
theorem apartL_full {l r : List Int} {n : Nat} (h : l.length = n) (h' : r.length = n) : apartL (l.take n) (r.take n) = apartL l r := by
  rw [take_full (by omega), take_full (by omega)]
theorem OkBc.dist {D : Bc} (h : OkBc D) {i k : Nat} (hi : i < D.pats.length) (hk : k < D.pats.length) : 0 ≤ distBc D i k ∧ distBc D i k ≤ 80 := by
  have e1 : (elsL (gs D.pats i).data.toList).length = (gs D.pats 0).size := by rw [elsL_len, size_eq, h.size i hi]
  have e2 : (elsL (gs D.pats k).data.toList).length = (gs D.pats 0).size := by rw [elsL_len, size_eq, h.size k hk]
  have h1 := apartL_bd (h.els i hi) (h.els k hk) (by omega) (gs D.pats 0).size (by omega) (by omega)
  rw [apartL_full e1 e2] at h1
  have := h.s10
  unfold distBc
  omega
def lpdOk (D : Bc) : Bool := validBc D && decide (2 ≤ D.pats.length)
def lpdRes (D : Bc) : Int := if lpdOk D then minL (prs (distBc D) D.pats.length 0) else 0
theorem gs_take {l : List ByteArray} {j k : Nat} (h : j < k) : gs (l.take k) j = gs l j := by
  simp [gs, List.getD_eq_getElem?_getD, h]

set_option maxHeartbeats 2000000 in
theorem impl_Lpd (D : Bc) (a : Option Addr) (n c : Nat) (w : World) (hv : Strs w a n c D.pats) (hn : n ≤ 1048576) (hs : D.start.size ≤ 1048576) (ht : D.stop.size ≤ 1048576) (hp : ∀ p ∈ D.pats, p.size ≤ 1048576) :
    Calls Try.prog 17 #[.agg #[.string D.start, .string D.stop, .slice a n c, .int .i64 D.gap]] w (Ret2 (.int .i64 (lpdRes D)) (.bool (lpdOk D)) w) := by
  have HL := Lib.hid hv.len
  have HB := Lib.hid (bc_box w D a n c 28 hv)
  have HVB := Lib.hid (fun W h => impl_ValidBarcode D a n c W h hn hs ht hp)
  clear hv
  cases hval : validBc D
  · rw [hval] at HVB
    have HO := Lib.hid (show lpdOk D = false by simp [lpdOk, hval])
    have HR := Lib.hid (show lpdRes D = 0 by simp [lpdRes, lpdOk, hval])
    clear hval
    go_enter Try.func17, Try.ntmps17
    go_wp2_with (go_at_call 45; refine (HVB.out _ HB.out.ps).mono ?_; rintro e w1 ⟨rfl, hx⟩)
    go_ret2
    exact ⟨by rw [HR.out, HO.out]; rfl, (by repeat (first | (with_reducible exact Ext.refl _) | (with_reducible refine Ext.drewN ?_ _) | (with_reducible refine Ext.drew ?_) | (with_reducible refine Ext.alloc ?_ _) | ((with_reducible refine Ext.setCell ?_ ?_ _); rotate_left; focus (first | (simp; done) | (simp; omega) | omega)) | assumption | (with_reducible refine Ext.trans ?_ (by assumption))))⟩
  rw [hval] at HVB
  have hok := validBc_ok hval
  by_cases h2 : n < 2
  · have HO := Lib.hid (show lpdOk D = false by simp only [lpdOk, HL.out]; simp; intro _; omega)
    have HR := Lib.hid (show lpdRes D = 0 by rw [lpdRes, HO.out]; rfl)
    clear hval hok
    go_enter Try.func17, Try.ntmps17
    go_wp2_with (go_at_call 45; refine (HVB.out _ HB.out.ps).mono ?_; rintro e w1 ⟨rfl, hx⟩; obtain ⟨c0, c1, c2, c3, _⟩ := HB.out)
    go_ret2
    exact ⟨by rw [HR.out, HO.out]; rfl, (by repeat (first | (with_reducible exact Ext.refl _) | (with_reducible refine Ext.drewN ?_ _) | (with_reducible refine Ext.drew ?_) | (with_reducible refine Ext.alloc ?_ _) | ((with_reducible refine Ext.setCell ?_ ?_ _); rotate_left; focus (first | (simp; done) | (simp; omega) | omega)) | assumption | (with_reducible refine Ext.trans ?_ (by assumption))))⟩
  have HO := Lib.hid (show lpdOk D = true by simp only [lpdOk, HL.out, hval]; simp; omega)
  have HR := Lib.hid (show lpdRes D = minL (prs (distBc D) n 0) by rw [lpdRes, HO.out, HL.out]; rfl)
  have h36 := hok.n36
  rw [HL.out] at h36
  have HK := Lib.hid hok
  have HP := Lib.hid (fun k (hk : k < n) => hp _ (gs_mem (l := D.pats) (k := k) (by rw [HL.out]; exact hk)))
  have HE := Lib.hid (fun k (hk : k < n) W => impl_elements (gs D.pats k) W (HP.out k hk) (hok.chars k (by rw [HL.out]; exact hk)))
  have HA := Lib.hid (fun i k (hi : i < n) (hk : k < n) a b c d W h h' => impl_apart a b (gs D.pats 0).size (gs D.pats 0).size c d (elsL (gs D.pats i).data.toList) (elsL (gs D.pats k).data.toList) W h h' ((hok.els i (by rw [HL.out]; exact hi)).up (by omega)) ((hok.els k (by rw [HL.out]; exact hk)).up (by omega)) (by have := hok.s10; omega) (Nat.le_refl _))
  have HF := Lib.hid (fun i k (hi : i < n) (hk : k < n) => apartL_full (l := elsL (gs D.pats i).data.toList) (r := elsL (gs D.pats k).data.toList) (n := (gs D.pats 0).size) (by rw [elsL_len, size_eq, hok.size i (by rw [HL.out]; exact hi)]) (by rw [elsL_len, size_eq, hok.size k (by rw [HL.out]; exact hk)]))
  have HS := Lib.hid (fun k (hk : k < n) => show (elsL (gs D.pats k).data.toList).length = (gs D.pats 0).size by rw [elsL_len, size_eq, hok.size k (by rw [HL.out]; exact hk)])
  have HMb := Lib.hid (fun i k (hi : i < n ∨ k = 0 ∧ i ≤ n) (hk : k ≤ i) => minL_bd (l := prs (distBc D) i k) fun x hx => by
    obtain ⟨a, b, ha, hb, rfl⟩ := prs_mem (n := n) hx hi hk
    exact (hok.dist (by rw [HL.out]; omega) (by rw [HL.out]; omega)).1)
  have HDb := Lib.hid (fun i k (hi : i < n) (hk : k < n) => hok.dist (i := i) (k := k) (by rw [HL.out]; exact hi) (by rw [HL.out]; exact hk))
  clear hval hok
  go_enter Try.func17, Try.ntmps17
  go_wp2_with (go_at_call 45; refine (HVB.out _ HB.out.ps).mono ?_; rintro e w1 ⟨rfl, hx⟩; have hxw : Ext w w1 := (by repeat (first | (with_reducible exact Ext.refl _) | (with_reducible refine Ext.drewN ?_ _) | (with_reducible refine Ext.drew ?_) | (with_reducible refine Ext.alloc ?_ _) | ((with_reducible refine Ext.setCell ?_ ?_ _); rotate_left; focus (first | (simp; done) | (simp; omega) | omega)) | assumption | (with_reducible refine Ext.trans ?_ (by assumption)))); obtain ⟨c0, c1, c2, c3, hps⟩ := HB.out.ext hx; clear hx)
  obtain ⟨b, off, hix, hcell⟩ := hps.ix (P := Try.prog) 22 9 und_strings cell_string
  have HPre := Lib.hid (fun k hk => hps.pre (P := Try.prog) 22 9 und_strings cell_string elem_strings k hk)
  clear hps
  generalize w.heap.size = p at *
  go_loopw [4, 21] (fun m i wr => ∃ k : Nat, k ≤ n ∧ i = .int .i64 k ∧ m = .int .i64 (minL (prs (distBc D) k 0)) ∧ Ext w1 wr) (fun _ i _ => n - (intOf i).toNat)
  case atStart => exact ⟨0, Nat.zero_le _, rfl, rfl, Ext.refl _⟩
  case round =>
    obtain ⟨k, hk, rfl, rfl, hx⟩ := hrel
    by_cases hlt : k < n
    · obtain ⟨a', hpre, hvp⟩ := HPre.out k hk
      obtain ⟨b', off', hix', hcell'⟩ := hvp.ix (P := Try.prog) 22 9 und_strings cell_string
      clear hvp
      go_wp2
      go_loopw [4, 31] (fun m i wr2 => ∃ j : Nat, j ≤ k ∧ i = .int .i64 j ∧ m = .int .i64 (minL (prs (distBc D) k j)) ∧ Ext w1 wr2) (fun _ i _ => k - (intOf i).toNat)
      case atStart => exact ⟨0, Nat.zero_le _, rfl, rfl, (by repeat (first | (with_reducible exact Ext.refl _) | (with_reducible refine Ext.drewN ?_ _) | (with_reducible refine Ext.drew ?_) | (with_reducible refine Ext.alloc ?_ _) | ((with_reducible refine Ext.setCell ?_ ?_ _); rotate_left; focus (first | (simp; done) | (simp; omega) | omega)) | assumption | (with_reducible refine Ext.trans ?_ (by assumption))))⟩
      case round =>
        rename_i wr2
        obtain ⟨j, hj, rfl, rfl, hx2⟩ := hrel
        have hmb := HMb.out k j (.inl hlt) hj
        by_cases hjk : j < k
        · have hgt : gs (D.pats.take k) j = gs D.pats j := gs_take hjk
          have HGT := Lib.hid hgt
          have hjn : j < n := by omega
          have hd := HDb.out k j hlt hjn
          rw [distBc, ← HF.out k j hlt hjn] at hd
          have hcj : ∀ w', Ext w1 w' → w'.cell? ⟨b', off' + j, none⟩ = some (.string (gs D.pats j)) := fun w' h => by rw [hcell' j w' hjk h, HGT.out]
          have HEi := Lib.hid (HE.out k hlt)
          have HEj := Lib.hid (HE.out j hjn)
          have HSi := Lib.hid (HS.out k hlt)
          have HSj := Lib.hid (HS.out j hjn)
          have HAij := Lib.hid (HA.out k j hlt hjn)
          have HFij := Lib.hid (HF.out k j hlt hjn)
          have HN := Lib.hid (minL_snoc (prs (distBc D) k j) (distBc D k j))
          rw [← prs_k] at HN
          clear hgt hcell'
          unfold far40 at hmb
          go_wp2_with (first | ((with_reducible refine (HEi.out _).mono ?_); rintro e w2 ⟨a2, c2, rfl, ho2, hy2⟩; rw [I_len, HSi.out] at ho2 ⊢; have hxw2 : Ext w1 w2 := Ext.trans (by repeat (first | (with_reducible exact Ext.refl _) | (with_reducible refine Ext.drewN ?_ _) | (with_reducible refine Ext.drew ?_) | (with_reducible refine Ext.alloc ?_ _) | ((with_reducible refine Ext.setCell ?_ ?_ _); rotate_left; focus (first | (simp; done) | (simp; omega) | omega)) | assumption | (with_reducible refine Ext.trans ?_ (by assumption)))) hy2; clear hy2; have HO2 := Lib.hid ho2; clear ho2) | ((with_reducible refine (HEj.out _).mono ?_); rintro e w3 ⟨a3, c3', rfl, ho3, hy3⟩; rw [I_len, HSj.out] at ho3 ⊢; have hxw3 : Ext w1 w3 := Ext.trans (by repeat (first | (with_reducible exact Ext.refl _) | (with_reducible refine Ext.drewN ?_ _) | (with_reducible refine Ext.drew ?_) | (with_reducible refine Ext.alloc ?_ _) | ((with_reducible refine Ext.setCell ?_ ?_ _); rotate_left; focus (first | (simp; done) | (simp; omega) | omega)) | assumption | (with_reducible refine Ext.trans ?_ (by assumption)))) hy3; have HO3 := Lib.hid ho3; have HO2' := Lib.hid (HO2.out.ints.ext hy3); clear ho3 hy3) | ((with_reducible refine (HAij.out _ _ _ _ _ HO2'.out HO3.out.ints).mono ?_); rintro e w4 ⟨rfl, hy4⟩; have hxw4 : Ext w1 w4 := Ext.trans (by repeat (first | (with_reducible exact Ext.refl _) | (with_reducible refine Ext.drewN ?_ _) | (with_reducible refine Ext.drew ?_) | (with_reducible refine Ext.alloc ?_ _) | ((with_reducible refine Ext.setCell ?_ ?_ _); rotate_left; focus (first | (simp; done) | (simp; omega) | omega)) | assumption | (with_reducible refine Ext.trans ?_ (by assumption)))) hy4; clear hy4))
          all_goals exact ⟨⟨j + 1, by omega, by go_num, by rw [HN.out, distBc, ← HFij.out]; first | rfl | (congr 1; omega), (by repeat (first | (with_reducible exact Ext.refl _) | (with_reducible refine Ext.drewN ?_ _) | (with_reducible refine Ext.drew ?_) | (with_reducible refine Ext.alloc ?_ _) | ((with_reducible refine Ext.setCell ?_ ?_ _); rotate_left; focus (first | (simp; done) | (simp; omega) | omega)) | assumption | (with_reducible refine Ext.trans ?_ (by assumption))))⟩, by simp [intOf]; omega⟩
        · obtain rfl : j = k := by omega
          go_wp2
          exact ⟨⟨j + 1, by omega, by go_num, by rw [prs_i], (by repeat (first | (with_reducible exact Ext.refl _) | (with_reducible refine Ext.drewN ?_ _) | (with_reducible refine Ext.drew ?_) | (with_reducible refine Ext.alloc ?_ _) | ((with_reducible refine Ext.setCell ?_ ?_ _); rotate_left; focus (first | (simp; done) | (simp; omega) | omega)) | assumption | (with_reducible refine Ext.trans ?_ (by assumption))))⟩, by simp [intOf]; omega⟩
    · obtain rfl : k = n := by omega
      go_wp2
      go_ret2
      exact ⟨by rw [HR.out, HO.out]; rfl, (by repeat (first | (with_reducible exact Ext.refl _) | (with_reducible refine Ext.drewN ?_ _) | (with_reducible refine Ext.drew ?_) | (with_reducible refine Ext.alloc ?_ _) | ((with_reducible refine Ext.setCell ?_ ?_ _); rotate_left; focus (first | (simp; done) | (simp; omega) | omega)) | assumption | (with_reducible refine Ext.trans ?_ (by assumption))))⟩
end Go.Proofs.Ytnmkckghfckgbaa
