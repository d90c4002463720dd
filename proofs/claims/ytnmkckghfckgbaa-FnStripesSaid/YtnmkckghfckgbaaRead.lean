/- The word of stripes: what is read, plainly. -/
import Derived.Test.YtnmkckghfckgbaaPart
namespace Go.Proofs.Ytnmkckghfckgbaa
set_option maxRecDepth 100000
open Go.RowKit

/-- the patterns with some elements -/
def matchTo (D : Bc) (part : List Int) (k : Nat) : List Int := ((List.range k).filter fun j => decide (part = elsL (gs D.pats j).data.toList)).map fun (j : Nat) => (j : Int)
def matchL (D : Bc) (part : List Int) : List Int := matchTo D part D.pats.length
def digsTo (D : Bc) (l : List Int) (i : Nat) : List Int := ((List.range i).map fun j => matchL D (partL D l j)).flatten
def digsR (D : Bc) (l : List Int) : List Int := digsTo D l (if cutB D l.length then cutN D l.length else 0)
def readB (D : Bc) (l : List Int) : Bool := cutB D l.length && decide (stripesL D (digsR D l) = l)
def readT (D : Bc) (l : List Int) : ByteArray := if readB D l then textOf (digsR D l) else .empty

theorem matchTo_zero (D : Bc) (part : List Int) : matchTo D part 0 = [] := rfl
theorem matchTo_step (D : Bc) (part : List Int) (k : Nat) : matchTo D part (k + 1) = matchTo D part k ++ (if part = elsL (gs D.pats k).data.toList then [(k : Int)] else []) := by
  unfold matchTo
  rw [List.range_succ, List.filter_append, List.map_append]
  congr 1
  by_cases h : part = elsL (gs D.pats k).data.toList <;> simp [List.filter, h]
theorem digsTo_step (D : Bc) (l : List Int) (i : Nat) : digsTo D l (i + 1) = digsTo D l i ++ matchL D (partL D l i) := by
  unfold digsTo
  rw [List.range_succ, List.map_append, List.flatten_append]
  simp

theorem elC_inj {c d : UInt8} (h : elC c = elC d) : c = d := by
  unfold elC at h
  have : c.toNat = d.toNat := by omega
  exact UInt8.toNat_inj.1 this
theorem elsL_inj {p q : List UInt8} (h : elsL p = elsL q) : p = q := by
  induction p generalizing q with
  | nil => cases q with
    | nil => rfl
    | cons d ds => simp [elsL] at h
  | cons c cs ih => cases q with
    | nil => simp [elsL] at h
    | cons d ds =>
      simp only [elsL, List.map_cons, List.cons.injEq] at h
      rw [elC_inj h.1, ih h.2]
theorem ba_of_list {p q : ByteArray} (h : p.data.toList = q.data.toList) : p = q := by
  cases p; cases q; simp only at h; congr 1; exact Array.toList_inj.1 h

/-- if pattern k has the elements, no other one has -/
theorem matchTo_lt {D : Bc} (hok : OkBc D) {part : List Int} {k : Nat} (hk : k < D.pats.length) (h : part = elsL (gs D.pats k).data.toList) : ∀ j, j ≤ k → matchTo D part j = [] := by
  intro j
  induction j with
  | zero => intro _; rfl
  | succ j ih =>
    intro hj
    rw [matchTo_step, ih (by omega), if_neg, List.nil_append]
    intro h2
    rw [h] at h2
    exact hok.diff j k (by omega) hk (ba_of_list (elsL_inj h2)).symm
theorem matchTo_ge {D : Bc} (hok : OkBc D) {part : List Int} {k : Nat} (hk : k < D.pats.length) (h : part = elsL (gs D.pats k).data.toList) : ∀ j, k < j → j ≤ D.pats.length → matchTo D part j = [(k : Int)] := by
  intro j
  induction j with
  | zero => omega
  | succ j ih =>
    intro h1 h2
    rw [matchTo_step]
    by_cases hjk : j = k
    · subst hjk
      rw [matchTo_lt hok hk h j (Nat.le_refl _), if_pos h, List.nil_append]
    · rw [ih (by omega) (by omega), if_neg, List.append_nil]
      intro h3
      rw [h] at h3
      exact hok.diff k j (by omega) (by omega) (ba_of_list (elsL_inj h3))
theorem matchTo_none {D : Bc} {part : List Int} {n : Nat} (h : ∀ k, k < n → part ≠ elsL (gs D.pats k).data.toList) : matchTo D part n = [] := by
  induction n with
  | zero => rfl
  | succ n ih => rw [matchTo_step, ih (fun k hk => h k (by omega)), if_neg (h n (by omega))]; rfl
/-- a part is one pattern's, or none's -/
theorem matchL_cases {D : Bc} (hok : OkBc D) (part : List Int) : (∃ k, k < D.pats.length ∧ part = elsL (gs D.pats k).data.toList ∧ matchL D part = [(k : Int)]) ∨ ((∀ k, k < D.pats.length → part ≠ elsL (gs D.pats k).data.toList) ∧ matchL D part = []) := by
  by_cases h : ∃ k, k < D.pats.length ∧ part = elsL (gs D.pats k).data.toList
  · obtain ⟨k, hk, h⟩ := h
    exact .inl ⟨k, hk, h, matchTo_ge hok hk h _ hk (Nat.le_refl _)⟩
  · have h' : ∀ k, k < D.pats.length → part ≠ elsL (gs D.pats k).data.toList := fun k hk he => h ⟨k, hk, he⟩
    exact .inr ⟨h', matchTo_none h'⟩
theorem matchTo_bd {D : Bc} (hok : OkBc D) (part : List Int) {j : Nat} (hj : j ≤ D.pats.length) : (matchTo D part j).length ≤ 1 ∧ ∀ d ∈ matchTo D part j, 0 ≤ d ∧ d.toNat < D.pats.length := by
  constructor
  · by_cases h : ∃ k, k < D.pats.length ∧ part = elsL (gs D.pats k).data.toList
    · obtain ⟨k, hk, h⟩ := h
      by_cases hjk : k < j
      · rw [matchTo_ge hok hk h j hjk hj]; simp
      · rw [matchTo_lt hok hk h j (by omega)]; simp
    · rw [matchTo_none (fun k hk he => h ⟨k, by omega, he⟩)]; simp
  · intro d hd
    unfold matchTo at hd
    obtain ⟨k, hk, rfl⟩ := List.mem_map.1 hd
    have := List.mem_range.1 (List.mem_filter.1 hk).1
    omega
theorem digsTo_bd {D : Bc} (hok : OkBc D) (l : List Int) (i : Nat) : (digsTo D l i).length ≤ i ∧ DigB D (digsTo D l i) := by
  induction i with
  | zero => exact ⟨by simp [digsTo], by simp [digsTo, DigB]⟩
  | succ i ih =>
    have h := matchTo_bd hok (partL D l i) (Nat.le_refl D.pats.length)
    rw [digsTo_step]
    refine ⟨by rw [List.length_append]; unfold matchL; omega, fun d hd => ?_⟩
    rcases List.mem_append.1 hd with hd | hd
    · exact ih.2 d hd
    · exact h.2 d hd
theorem stripesL_len {D : Bc} (hok : OkBc D) {ds : List Int} (hd : DigB D ds) : (stripesL D ds).length = D.start.size + ds.length * eachN D + gapN D + D.stop.size := by
  have hg : (gapL D).length = gapN D := by unfold gapL gapN; split <;> simp
  have h1 : ∀ ds : List Int, DigB D ds → ((ds.map (stepD D)).flatten).length = ds.length * eachN D := by
    intro ds
    induction ds with
    | nil => simp
    | cons d ds ih =>
      intro hd
      have h2 := ih fun x hx => hd x (List.mem_cons_of_mem _ hx)
      have h3 := hd d (List.mem_cons_self ..)
      have h4 := hok.size d.toNat h3.2
      simp only [List.map_cons, List.flatten_cons, List.length_append, List.length_cons, stepD, elsL_len, size_eq, h2, hg, Nat.succ_mul, eachN]
      omega
  unfold stripesL joinL
  simp only [List.length_append, elsL_len, size_eq, h1 ds hd, hg]
theorem digsTo_less {D : Bc} (hok : OkBc D) (l : List Int) {i : Nat} (hm : matchL D (partL D l i) = []) : ∀ n, i < n → (digsTo D l n).length < n := by
  intro n
  induction n with
  | zero => omega
  | succ n ih =>
    intro h
    rw [digsTo_step, List.length_append]
    have h2 := (matchTo_bd hok (partL D l n) (Nat.le_refl D.pats.length)).1
    by_cases hin : i = n
    · subst hin
      rw [hm]
      have := (digsTo_bd hok l i).1
      simp only [List.length_nil]
      omega
    · have := ih (by omega)
      unfold matchL
      omega
/-- a part that is no pattern's: nothing is read -/
theorem readB_no {D : Bc} (hok : OkBc D) {l : List Int} {i : Nat} (hi : i < cutN D l.length) (hm : matchL D (partL D l i) = []) : readB D l = false := by
  unfold readB
  cases hc : cutB D l.length
  · rfl
  rw [Bool.true_and, decide_eq_false_iff_not]
  intro he
  have h1 := (digsTo_bd hok l (cutN D l.length)).2
  have h2 := digsTo_less hok l hm _ hi
  have h3 := stripesL_len hok h1
  have h4 := (cut_yes hc hok.s1).1
  have h5 : digsR D l = digsTo D l (cutN D l.length) := by unfold digsR; rw [hc]; rfl
  rw [← h5, he, h5] at h3
  unfold atN at h4
  have h6 : 1 ≤ eachN D := by unfold eachN; have := hok.s1; omega
  have h7 : (digsTo D l (cutN D l.length)).length * eachN D + eachN D ≤ cutN D l.length * eachN D := by
    rw [← Nat.succ_mul]; exact Nat.mul_le_mul_right _ h2
  omega
theorem readB_cut {D : Bc} {l : List Int} (h : cutB D l.length = false) : readB D l = false := by unfold readB; rw [h]; rfl
theorem readB_yes {D : Bc} {l : List Int} (h : cutB D l.length = true) : readB D l = decide (stripesL D (digsTo D l (cutN D l.length)) = l) := by unfold readB digsR; rw [h]; rfl
set_option maxHeartbeats 2000000 in
theorem spec_l08Read (D : Bc) (p : Nat) (a : Option Addr) (n c : Nat) (b : Option Addr) (m d : Nat) (l : List Int) (w : World) (hv : BcAt w p D a n c) (hok : OkBc D) (hi : Ints w b m d l) (hm : m ≤ 1048576) :
    Calls Try.prog 77 #[.pointer (some ⟨p, 0, none⟩), .slice b m d] w (Ret2 (.string (readT D l)) (.bool (readB D l)) w) := by
  have HN := Lib.hid hv.ps.len
  have HL := Lib.hid hi.len
  have HV := Lib.hid hv
  have HI := Lib.hid hi
  obtain ⟨q0, q1, q2, q3, hps⟩ := hv
  obtain ⟨pb1, poff, hpix, hpcell⟩ := hps.ix (P := Try.prog) 22 9 und_strings cell_string
  have s10 := hok.s10
  have s1 := hok.s1
  have n36 := hok.n36
  rw [HN.out] at n36
  have HEk := Lib.hid (fun k (hk : k < n) W => spec_elements (gs D.pats k) W (by have := hok.size k (by rw [HN.out]; exact hk); omega) (hok.chars k (by rw [HN.out]; exact hk)))
  have HSz := Lib.hid (fun k (hk : k < n) => hok.size k (by rw [HN.out]; exact hk))
  have HC := Lib.hid (spec_l08Cut D p a n c b m d l w HV.out hok hi hm)
  have HOK := Lib.hid hok
  clear hi hps hok
  obtain ⟨N, hN⟩ : ∃ N : Nat, N = (if cutB D m then cutN D m else 0) := ⟨_, rfl⟩
  have hNi : (if cutB D m then (cutN D m : Int) else 0) = (N : Int) := by rw [hN]; split <;> rfl
  rw [hNi] at HC
  have hN20 : N ≤ 20 := by
    rw [hN]; split
    · rename_i h; exact (cut_yes h s1).2
    · omega
  have HAt := Lib.hid (fun i (hi : i < N) => show atN D i + gapN D + (gs D.pats 0).size ≤ m by
    rw [hN] at hi
    split at hi
    · rename_i h
      have h1 := (cut_yes h s1).1
      have h2 : atN D (i + 1) ≤ atN D (cutN D m) := by unfold atN; exact Nat.add_le_add_left (Nat.mul_le_mul_right _ hi) _
      rw [atN_succ] at h2
      unfold eachN at h2
      omega
    · omega)
  have HR := Lib.hid (show digsR D l = digsTo D l N by unfold digsR; rw [HL.out, hN])
  have HhN := Lib.hid hN
  clear hN hNi
  obtain ⟨cb, hcb⟩ : ∃ cb, cb = cutB D m := ⟨_, rfl⟩
  rw [← hcb] at HC
  rw [← hcb] at HhN
  have HCB := Lib.hid hcb.symm
  clear hcb
  go_enter Try.func77, Try.ntmps77
  go_wp2_with (refine HC.out.mono ?_; rintro e w1 ⟨rfl, hx1⟩)
  have hxw1 : Ext w w1 := hx1
  go_loopw [8, 9, 10, 11] (fun v i _ _ wr => ∃ (j : Nat) (ad : Option Addr) (kk cc : Nat), j ≤ N ∧ i = .int .i64 j ∧ v = .slice ad kk cc ∧ kk = (digsTo D l j).length ∧ Own wr w.heap.size 2 ad kk cc (I (digsTo D l j)) ∧ Ext w wr) (fun _ i _ _ _ => N - (intOf i).toNat)
  case atStart => exact ⟨0, _, 0, 0, Nat.zero_le _, rfl, rfl, rfl, (Own.lit0 w1 _).mono hxw1.le, hxw1.alloc _⟩
  case round =>
    obtain ⟨j, ad, kk, cc, hj, rfl, rfl, hkk, ho, hx⟩ := hrel
    have Hho := Lib.hid ho; clear ho; have Hhkk := Lib.hid hkk; clear hkk
    by_cases hlt : j < N
    · have HP := Lib.hid (spec_l08Part D p a n c b m d l j w wr (HV.out.ext hx) HOK.out HI.out hm (by omega) (HAt.out j hlt))
      have HST := Lib.hid (digsTo_step D l j)
      have hkb : kk ≤ 20 := by have := (digsTo_bd HOK.out l j).1; have := Hhkk.out; omega
      have HMb := Lib.hid (fun k (hk : k ≤ n) => (matchTo_bd HOK.out (partL D l j) (j := k) (by rw [HN.out]; exact hk)).1)
      have hpl : (partL D l j).length ≤ 10 := by unfold partL; have := List.length_take_le (gs D.pats 0).size (l.drop (atN D j + gapN D)); omega
      generalize partL D l j = part at *
      go_wp2_with (refine HP.out.mono ?_; rintro e w2 ⟨a2, c2, rfl, hx2, hi2⟩)
      have hxw2 : Ext w w2 := hx.trans hx2
      have HI2 := Lib.hid hi2
      have HO2 := Lib.hid (Hho.out.ext hx2)
      clear hi2
      go_loopw [8, 11] (fun v i wq => ∃ (k : Nat) (ad : Option Addr) (kq cc : Nat), k ≤ n ∧ i = .int .i64 k ∧ v = .slice ad kq cc ∧ kq = kk + (matchTo D part k).length ∧ Own wq w.heap.size 2 ad kq cc (I (digsTo D l j ++ matchTo D part k)) ∧ Ext w wq) (fun _ i _ => n - (intOf i).toNat)
      case atStart => exact ⟨0, ad, kk, cc, Nat.zero_le _, rfl, rfl, rfl, by rw [matchTo_zero, List.append_nil]; exact HO2.out, hxw2⟩
      case round =>
        obtain ⟨k, ad3, kq, cc3, hk, rfl, rfl, hkq, ho3, hx3⟩ := hrel
        have Hho3 := Lib.hid ho3; clear ho3; have Hhkq := Lib.hid hkq; clear hkq
        have hxw3 := hx3
        by_cases hkn : k < n
        · have HEi := Lib.hid (HEk.out k hkn)
          have HMs := Lib.hid (matchTo_step D part k)
          have hkq2 : kq ≤ 21 := by have := HMb.out k (by omega); have := Hhkq.out; omega
          by_cases hp : part = elsL (gs D.pats k).data.toList
          · have hdec : decide (part = elsL (gs D.pats k).data.toList) = true := by simpa using hp
            rw [if_pos hp] at HMs
            have Hhdec := Lib.hid hdec; clear hdec
            clear hp
            go_wp2_with (first | ((with_reducible refine (HEi.out _).mono ?_); rintro e w4 ⟨a4, c4, rfl, ho4, hy4⟩; have hxw4 : Ext w w4 := Ext.trans (by repeat (first | (with_reducible exact Ext.refl _) | (with_reducible refine Ext.drewN ?_ _) | (with_reducible refine Ext.drew ?_) | (with_reducible refine Ext.alloc ?_ _) | ((with_reducible refine Ext.setCell ?_ ?_ _); rotate_left; focus (first | (simp; done) | (simp; omega) | omega)) | assumption | (with_reducible refine Ext.trans ?_ (by assumption)))) hy4; have HO4 := Lib.hid ho4; have HI4 := Lib.hid (HI2.out.ext (hx3.trans (Ext.trans (Ext.refl _) hy4))); have HX4 := Lib.hid (show Ext wr w4 from Ext.trans (by repeat (first | (with_reducible exact Ext.refl _) | (with_reducible refine Ext.drewN ?_ _) | (with_reducible refine Ext.drew ?_) | (with_reducible refine Ext.alloc ?_ _) | ((with_reducible refine Ext.setCell ?_ ?_ _); rotate_left; focus (first | (simp; done) | (simp; omega) | omega)) | assumption | (with_reducible refine Ext.trans ?_ (by assumption)))) hy4); have HO3 := Lib.hid (Hho3.out.ext HX4.out); clear ho4 hy4) | ((with_reducible refine (spec_same a2 a4 _ _ c2 c4 part _ _ HI4.out HO4.out.ints (by omega)).mono ?_); rw [Hhdec.out]; rintro e w5 ⟨rfl, hy5⟩; have hxw5 : Ext w w5 := Ext.trans (by repeat (first | (with_reducible exact Ext.refl _) | (with_reducible refine Ext.drewN ?_ _) | (with_reducible refine Ext.drew ?_) | (with_reducible refine Ext.alloc ?_ _) | ((with_reducible refine Ext.setCell ?_ ?_ _); rotate_left; focus (first | (simp; done) | (simp; omega) | omega)) | assumption | (with_reducible refine Ext.trans ?_ (by assumption)))) hy5; have HX5 := Lib.hid (show Ext wr w5 from Ext.trans HX4.out (Ext.trans (by repeat (first | (with_reducible exact Ext.refl _) | (with_reducible refine Ext.drewN ?_ _) | (with_reducible refine Ext.drew ?_) | (with_reducible refine Ext.alloc ?_ _) | ((with_reducible refine Ext.setCell ?_ ?_ _); rotate_left; focus (first | (simp; done) | (simp; omega) | omega)) | assumption | (with_reducible refine Ext.trans ?_ (by assumption)))) hy5)); have HO5 := Lib.hid (Hho3.out.ext HX5.out); clear hy5) | (at_builtin; refine law_append1 w5 rfl _ _ 36 rfl 2 (.int .i64 0) 8 und_int64s info_int64 rfl w.heap.size ad3 kq cc3 _ _ rfl rfl rfl HO5.out hxw5.le (by omega) (by omega) ?_; intro ad6 c6 w6 ho6 hb6 _; have hxw6 : Ext w w6 := Ext.below hxw5 hb6))
            refine ⟨⟨k + 1, ad6, _, c6, by omega, by go_num, rfl, ?_, ?_, hxw6⟩, by simp [intOf]; omega⟩
            · have := Hhkq.out
              rw [HMs.out, List.length_append, List.length_singleton]
              omega
            · rw [HMs.out, ← List.append_assoc, I_append]
              exact ho6
          · have hdec : decide (part = elsL (gs D.pats k).data.toList) = false := by simpa using hp
            rw [if_neg hp, List.append_nil] at HMs
            have Hhdec := Lib.hid hdec; clear hdec
            clear hp
            go_wp2_with (first | ((with_reducible refine (HEi.out _).mono ?_); rintro e w4 ⟨a4, c4, rfl, ho4, hy4⟩; have hxw4 : Ext w w4 := Ext.trans (by repeat (first | (with_reducible exact Ext.refl _) | (with_reducible refine Ext.drewN ?_ _) | (with_reducible refine Ext.drew ?_) | (with_reducible refine Ext.alloc ?_ _) | ((with_reducible refine Ext.setCell ?_ ?_ _); rotate_left; focus (first | (simp; done) | (simp; omega) | omega)) | assumption | (with_reducible refine Ext.trans ?_ (by assumption)))) hy4; have HO4 := Lib.hid ho4; have HI4 := Lib.hid (HI2.out.ext (hx3.trans (Ext.trans (Ext.refl _) hy4))); have HX4 := Lib.hid (show Ext wr w4 from Ext.trans (by repeat (first | (with_reducible exact Ext.refl _) | (with_reducible refine Ext.drewN ?_ _) | (with_reducible refine Ext.drew ?_) | (with_reducible refine Ext.alloc ?_ _) | ((with_reducible refine Ext.setCell ?_ ?_ _); rotate_left; focus (first | (simp; done) | (simp; omega) | omega)) | assumption | (with_reducible refine Ext.trans ?_ (by assumption)))) hy4); have HO3 := Lib.hid (Hho3.out.ext HX4.out); clear ho4 hy4) | ((with_reducible refine (spec_same a2 a4 _ _ c2 c4 part _ _ HI4.out HO4.out.ints (by omega)).mono ?_); rw [Hhdec.out]; rintro e w5 ⟨rfl, hy5⟩; have hxw5 : Ext w w5 := Ext.trans (by repeat (first | (with_reducible exact Ext.refl _) | (with_reducible refine Ext.drewN ?_ _) | (with_reducible refine Ext.drew ?_) | (with_reducible refine Ext.alloc ?_ _) | ((with_reducible refine Ext.setCell ?_ ?_ _); rotate_left; focus (first | (simp; done) | (simp; omega) | omega)) | assumption | (with_reducible refine Ext.trans ?_ (by assumption)))) hy5; have HX5 := Lib.hid (show Ext wr w5 from Ext.trans HX4.out (Ext.trans (by repeat (first | (with_reducible exact Ext.refl _) | (with_reducible refine Ext.drewN ?_ _) | (with_reducible refine Ext.drew ?_) | (with_reducible refine Ext.alloc ?_ _) | ((with_reducible refine Ext.setCell ?_ ?_ _); rotate_left; focus (first | (simp; done) | (simp; omega) | omega)) | assumption | (with_reducible refine Ext.trans ?_ (by assumption)))) hy5)); have HO5 := Lib.hid (Hho3.out.ext HX5.out); clear hy5))
            refine ⟨⟨k + 1, ad3, _, cc3, by omega, by go_num, rfl, ?_, ?_, hx3.trans HX5.out⟩, by simp [intOf]; omega⟩
            · rw [HMs.out]; exact Hhkq.out
            · rw [HMs.out]; exact HO5.out
        · have hkn' : k = n := by omega
          subst hkn'
          have HML := Lib.hid (show matchL D part = matchTo D part k by unfold matchL; rw [HN.out])
          go_wp2
          refine ⟨⟨j + 1, ad3, kq, cc3, by omega, by go_num, rfl, ?_, ?_, hx3⟩, by simp [intOf]; omega⟩
          · have := Hhkq.out
            have := Hhkk.out
            rw [HST.out, HML.out, List.length_append]
            omega
          · rw [HST.out, HML.out]; exact Hho3.out
    · have hjN : j = N := by omega
      subst hjN
      obtain ⟨hdl, hdb⟩ := digsTo_bd HOK.out l j
      have hd36 : Dig36 (digsTo D l j) := fun x hx => by have := hdb x hx; have := HOK.out.n36; omega
      have hkb : kk ≤ 20 := by have := Hhkk.out; omega
      cases cb
      · have HF := Lib.hid (readB_cut (l := l) (D := D) (by rw [HL.out]; exact HCB.out))
        have Hhd36 := Lib.hid hd36; clear hd36; have Hhdb := Lib.hid hdb; clear hdb; have Hhdl := Lib.hid hdl; clear hdl
        go_wp2
        go_ret2
        exact ⟨by rw [readT, HF.out]; rfl, hx⟩
      · have hjN : j = cutN D m := by have := HhN.out; simpa using this
        have HF := Lib.hid (show readB D l = decide (stripesL D (digsTo D l j) = l) by rw [readB_yes (by rw [HL.out]; exact HCB.out), HL.out, hjN])
        have Hhd36 := Lib.hid hd36; clear hd36; have Hhdb := Lib.hid hdb; clear hdb; have Hhdl := Lib.hid hdl; clear hdl; have HhjN := Lib.hid hjN; clear hjN
        have hsl : (stripesL D (digsTo D l j)).length ≤ 1048576 := by
          have h1 := joinL_len HOK.out Hhdb.out
          have h2 := (patB_t HOK.out.stop).2.2.1
          have h3 := gapL_len D
          have h4 := Hhdl.out
          simp only [stripesL, List.length_append, elsL_len, size_eq]
          omega
        have Hhsl := Lib.hid hsl; clear hsl
        by_cases heq : stripesL D (digsTo D l j) = l
        · have hdec : decide (stripesL D (digsTo D l j) = l) = true := by simpa using heq
          have hrd : digsR D l = digsTo D l j := HR.out
          rw [hdec] at HF
          have Hhdec := Lib.hid hdec; clear hdec; have Hheq := Lib.hid heq; clear heq; have Hhrd := Lib.hid hrd; clear hrd
          go_wp2_with (first | ((with_reducible refine (spec_l08Stripes D p a n c ad kk cc _ _ (HV.out.ext hx) HOK.out Hhdb.out Hho.out.ints (by omega)).mono ?_); rintro e w4 ⟨a4, c4, rfl, ho4, hy4⟩; have hxw4 : Ext w w4 := Ext.trans hx hy4; have HO4 := Lib.hid ho4; have HO3 := Lib.hid (Hho.out.ext hy4); clear ho4 hy4) | ((with_reducible refine (spec_same a4 b _ m c4 d _ l _ HO4.out.ints (HI.out.ext hxw4) (by have := Hhsl.out; rw [I_len]; omega)).mono ?_); rw [Hhdec.out]; rintro e w5 ⟨rfl, hy5⟩; have hxw5 : Ext w w5 := Ext.trans hxw4 hy5; have HO5 := Lib.hid (HO3.out.ext hy5); clear hy5) | ((with_reducible refine (spec_from ad kk cc _ _ HO5.out.ints Hhd36.out (by omega)).mono ?_); rintro e w6 ⟨rfl, hy6⟩; have hxw6 : Ext w w6 := Ext.trans hxw5 hy6))
          go_ret2
          exact ⟨by rw [readT, HF.out, if_pos rfl, Hhrd.out]; rfl, hxw6⟩
        · have hdec : decide (stripesL D (digsTo D l j) = l) = false := by simpa using heq
          rw [hdec] at HF
          have Hhdec := Lib.hid hdec; clear hdec; have Hheq := Lib.hid heq; clear heq
          go_wp2_with (first | ((with_reducible refine (spec_l08Stripes D p a n c ad kk cc _ _ (HV.out.ext hx) HOK.out Hhdb.out Hho.out.ints (by omega)).mono ?_); rintro e w4 ⟨a4, c4, rfl, ho4, hy4⟩; have hxw4 : Ext w w4 := Ext.trans hx hy4; have HO4 := Lib.hid ho4; have HO3 := Lib.hid (Hho.out.ext hy4); clear ho4 hy4) | ((with_reducible refine (spec_same a4 b _ m c4 d _ l _ HO4.out.ints (HI.out.ext hxw4) (by have := Hhsl.out; rw [I_len]; omega)).mono ?_); rw [Hhdec.out]; rintro e w5 ⟨rfl, hy5⟩; have hxw5 : Ext w w5 := Ext.trans hxw4 hy5; have HO5 := Lib.hid (HO3.out.ext hy5); clear hy5))
          go_ret2
          exact ⟨by rw [readT, HF.out]; rfl, hxw5⟩
end Go.Proofs.Ytnmkckghfckgbaa
