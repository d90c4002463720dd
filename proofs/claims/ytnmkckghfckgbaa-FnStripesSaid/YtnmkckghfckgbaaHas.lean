/- Walks: whether patterns have different edges. -/
import Derived.Test.YtnmkckghfckgbaaEdges
namespace Go.Proofs.Ytnmkckghfckgbaa
set_option maxRecDepth 100000
open Go.RowKit

/-- of every number below n and every lesser one -/
def pairAll (p : Nat → Nat → Bool) (n : Nat) : Bool := (List.range n).all fun i => (List.range i).all fun k => p i k
def PairsTo (p : Nat → Nat → Bool) (i j : Nat) : Prop := (∀ a b, b < a → a < i → p a b = true) ∧ ∀ b, b < j → p i b = true
theorem PairsTo.zero (p : Nat → Nat → Bool) : PairsTo p 0 0 := ⟨fun _ _ _ h => by omega, fun _ h => by omega⟩
theorem PairsTo.step {p : Nat → Nat → Bool} {i j : Nat} (h : PairsTo p i j) (hp : p i j = true) : PairsTo p i (j + 1) :=
  ⟨h.1, fun b hb => by by_cases e : b = j; subst e; exact hp; exact h.2 b (by omega)⟩
theorem PairsTo.next {p : Nat → Nat → Bool} {i : Nat} (h : PairsTo p i i) : PairsTo p (i + 1) 0 :=
  ⟨fun a b hab ha => by by_cases e : a = i; subst e; exact h.2 b hab; exact h.1 a b hab (by omega), fun _ h => by omega⟩
theorem PairsTo.all {p : Nat → Nat → Bool} {n : Nat} (h : PairsTo p n 0) : pairAll p n = true := by
  unfold pairAll
  rw [List.all_eq_true]; intro i hi; rw [List.all_eq_true]; intro k hk
  exact h.1 i k (List.mem_range.1 hk) (List.mem_range.1 hi)
theorem pairAll_no {p : Nat → Nat → Bool} {n i j : Nat} (hi : i < n) (hj : j < i) (h : p i j = false) : pairAll p n = false := by
  unfold pairAll
  rw [List.all_eq_false]; refine ⟨i, List.mem_range.2 hi, ?_⟩
  have : ((List.range i).all fun k => p i k) = false := by rw [List.all_eq_false]; exact ⟨j, List.mem_range.2 hj, by rw [h]; simp⟩
  rw [this]; simp
def edgeP (D : Bc) (i k : Nat) : Bool := !decide (edgesL (elsL (gs D.pats i).data.toList) = edgesL (elsL (gs D.pats k).data.toList))
def hasEdgesB (D : Bc) : Bool := validBc D && pairAll (edgeP D) D.pats.length
theorem edgesL_len (l : List Int) : (edgesL l).length = l.length - 1 := by simp [edgesL, edgesTo_len]

set_option maxHeartbeats 2000000 in
theorem impl_HasEdges (D : Bc) (a : Option Addr) (n c : Nat) (w : World) (hv : Strs w a n c D.pats) (hn : n ≤ 1048576) (hs : D.start.size ≤ 1048576) (ht : D.stop.size ≤ 1048576) (hp : ∀ p ∈ D.pats, p.size ≤ 1048576) :
    Calls Try.prog 25 #[.agg #[.string D.start, .string D.stop, .slice a n c, .int .i64 D.gap]] w (Ret (.bool (hasEdgesB D)) w) := by
  have HL := Lib.hid hv.len
  have HB := Lib.hid (bc_box w D a n c 28 hv)
  have HVB := Lib.hid (fun W h => impl_ValidBarcode D a n c W h hn hs ht hp)
  clear hv
  cases hval : validBc D
  · rw [hval] at HVB
    have HO := Lib.hid (show hasEdgesB D = false by simp [hasEdgesB, hval])
    clear hval
    go_enter Try.func25, Try.ntmps25
    go_wp2_with (go_at_call 45; refine (HVB.out _ HB.out.ps).mono ?_; rintro e w1 ⟨rfl, hx⟩)
    go_ret
    exact ⟨rb HO.out.symm, (by repeat (first | (with_reducible exact Ext.refl _) | (with_reducible refine Ext.drewN ?_ _) | (with_reducible refine Ext.drew ?_) | (with_reducible refine Ext.alloc ?_ _) | ((with_reducible refine Ext.setCell ?_ ?_ _); rotate_left; focus (first | (simp; done) | (simp; omega) | omega)) | assumption | (with_reducible refine Ext.trans ?_ (by assumption))))⟩
  rw [hval] at HVB
  have hok := validBc_ok hval
  have HR := Lib.hid (show hasEdgesB D = pairAll (edgeP D) n by rw [hasEdgesB, hval, HL.out]; rfl)
  have h36 := hok.n36
  rw [HL.out] at h36
  have HP := Lib.hid (fun k (hk : k < n) => hp _ (gs_mem (l := D.pats) (k := k) (by rw [HL.out]; exact hk)))
  have HE := Lib.hid (fun k (hk : k < n) W => impl_elements (gs D.pats k) W (HP.out k hk) (hok.chars k (by rw [HL.out]; exact hk)))
  have HS := Lib.hid (fun k (hk : k < n) => show (elsL (gs D.pats k).data.toList).length = (gs D.pats 0).size by rw [elsL_len, size_eq, hok.size k (by rw [HL.out]; exact hk)])
  have HEd := Lib.hid (fun k (hk : k < n) a c W h => impl_edges a (gs D.pats 0).size c (elsL (gs D.pats k).data.toList) W h ((hok.els k (by rw [HL.out]; exact hk)).up (by omega)) (by have := hok.s10; omega))
  have HEq := Lib.hid (fun i k a b c d W h h' => equal_ints a b ((gs D.pats 0).size - 1) ((gs D.pats 0).size - 1) c d (edgesL (elsL (gs D.pats i).data.toList)) (edgesL (elsL (gs D.pats k).data.toList)) W h h' (by have := hok.s10; omega))
  clear hval hok
  go_enter Try.func25, Try.ntmps25
  go_wp2_with (go_at_call 45; refine (HVB.out _ HB.out.ps).mono ?_; rintro e w1 ⟨rfl, hx⟩; have hxw : Ext w w1 := (by repeat (first | (with_reducible exact Ext.refl _) | (with_reducible refine Ext.drewN ?_ _) | (with_reducible refine Ext.drew ?_) | (with_reducible refine Ext.alloc ?_ _) | ((with_reducible refine Ext.setCell ?_ ?_ _); rotate_left; focus (first | (simp; done) | (simp; omega) | omega)) | assumption | (with_reducible refine Ext.trans ?_ (by assumption)))); obtain ⟨c0, c1, c2, c3, hps⟩ := HB.out.ext hx; clear hx)
  obtain ⟨b, off, hix, hcell⟩ := hps.ix (P := Try.prog) 22 9 und_strings cell_string
  have HPre := Lib.hid (fun k hk => hps.pre (P := Try.prog) 22 9 und_strings cell_string elem_strings k hk)
  clear hps
  generalize w.heap.size = p at *
  go_loopw [13] (fun i wr => ∃ k : Nat, k ≤ n ∧ i = .int .i64 k ∧ PairsTo (edgeP D) k 0 ∧ Ext w1 wr) (fun i _ => n - (intOf i).toNat)
  case atStart => exact ⟨0, Nat.zero_le _, rfl, PairsTo.zero _, Ext.refl _⟩
  case round =>
    obtain ⟨k, hk, rfl, hpt, hx⟩ := hrel
    have Hhpt := Lib.hid hpt; clear hpt
    by_cases hlt : k < n
    · obtain ⟨a', hpre, hvp⟩ := HPre.out k hk
      obtain ⟨b', off', hix', hcell'⟩ := hvp.ix (P := Try.prog) 22 9 und_strings cell_string
      clear hvp
      go_wp2
      go_loopw [23] (fun i wr2 => ∃ j : Nat, j ≤ k ∧ i = .int .i64 j ∧ PairsTo (edgeP D) k j ∧ Ext w1 wr2) (fun i _ => k - (intOf i).toNat)
      case atStart => exact ⟨0, Nat.zero_le _, rfl, Hhpt.out, (by repeat (first | (with_reducible exact Ext.refl _) | (with_reducible refine Ext.drewN ?_ _) | (with_reducible refine Ext.drew ?_) | (with_reducible refine Ext.alloc ?_ _) | ((with_reducible refine Ext.setCell ?_ ?_ _); rotate_left; focus (first | (simp; done) | (simp; omega) | omega)) | assumption | (with_reducible refine Ext.trans ?_ (by assumption))))⟩
      case round =>
        obtain ⟨j, hj, rfl, hpj, hx2⟩ := hrel
        have Hhpj := Lib.hid hpj; clear hpj
        by_cases hjk : j < k
        · have HGT := Lib.hid (gs_take (l := D.pats) hjk)
          have hjn : j < n := by omega
          have hcj : ∀ w', Ext w1 w' → w'.cell? ⟨b', off' + j, none⟩ = some (.string (gs D.pats j)) := fun w' h => by rw [hcell' j w' hjk h, HGT.out]
          have HEi := Lib.hid (HE.out k hlt)
          have HEj := Lib.hid (HE.out j hjn)
          have HSi := Lib.hid (HS.out k hlt)
          have HSj := Lib.hid (HS.out j hjn)
          have HDi := Lib.hid (HEd.out k hlt)
          have HDj := Lib.hid (HEd.out j hjn)
          have HQ := Lib.hid (HEq.out k j)
          have HNo := Lib.hid (fun h => pairAll_no (p := edgeP D) (n := n) hlt hjk h)
          clear hcell'
          have go : ∀ r, edgeP D k j = !r → True := fun _ _ => trivial
          clear go
          have HEP := Lib.hid (show edgeP D k j = !decide (edgesL (elsL (gs D.pats k).data.toList) = edgesL (elsL (gs D.pats j).data.toList)) from rfl)
          go_wp2_with (first | ((with_reducible refine (HEi.out _).mono ?_); rintro e w2 ⟨a2, c2, rfl, ho2, hy2⟩; rw [I_len, HSi.out] at ho2 ⊢; have hxw2 : Ext w1 w2 := Ext.trans (by repeat (first | (with_reducible exact Ext.refl _) | (with_reducible refine Ext.drewN ?_ _) | (with_reducible refine Ext.drew ?_) | (with_reducible refine Ext.alloc ?_ _) | ((with_reducible refine Ext.setCell ?_ ?_ _); rotate_left; focus (first | (simp; done) | (simp; omega) | omega)) | assumption | (with_reducible refine Ext.trans ?_ (by assumption)))) hy2; clear hy2; have HO2 := Lib.hid ho2; clear ho2) | ((with_reducible refine (HDi.out _ _ _ HO2.out.ints).mono ?_); rintro e w3 ⟨a3, c3', rfl, ho3, hy3⟩; rw [I_len, edgesL_len, HSi.out] at ho3 ⊢; have hxw3 : Ext w1 w3 := Ext.trans (by repeat (first | (with_reducible exact Ext.refl _) | (with_reducible refine Ext.drewN ?_ _) | (with_reducible refine Ext.drew ?_) | (with_reducible refine Ext.alloc ?_ _) | ((with_reducible refine Ext.setCell ?_ ?_ _); rotate_left; focus (first | (simp; done) | (simp; omega) | omega)) | assumption | (with_reducible refine Ext.trans ?_ (by assumption)))) hy3; have HO3 := Lib.hid ho3; clear ho3 hy3) | ((with_reducible refine (HEj.out _).mono ?_); rintro e w4 ⟨a4, c4, rfl, ho4, hy4⟩; rw [I_len, HSj.out] at ho4 ⊢; have hxw4 : Ext w1 w4 := Ext.trans (by repeat (first | (with_reducible exact Ext.refl _) | (with_reducible refine Ext.drewN ?_ _) | (with_reducible refine Ext.drew ?_) | (with_reducible refine Ext.alloc ?_ _) | ((with_reducible refine Ext.setCell ?_ ?_ _); rotate_left; focus (first | (simp; done) | (simp; omega) | omega)) | assumption | (with_reducible refine Ext.trans ?_ (by assumption)))) hy4; have HO3' := Lib.hid (HO3.out.ints.ext hy4); have HO4 := Lib.hid ho4; clear ho4 hy4) | ((with_reducible refine (HDj.out _ _ _ HO4.out.ints).mono ?_); rintro e w5 ⟨a5, c5, rfl, ho5, hy5⟩; rw [I_len, edgesL_len, HSj.out] at ho5 ⊢; have hxw5 : Ext w1 w5 := Ext.trans (by repeat (first | (with_reducible exact Ext.refl _) | (with_reducible refine Ext.drewN ?_ _) | (with_reducible refine Ext.drew ?_) | (with_reducible refine Ext.alloc ?_ _) | ((with_reducible refine Ext.setCell ?_ ?_ _); rotate_left; focus (first | (simp; done) | (simp; omega) | omega)) | assumption | (with_reducible refine Ext.trans ?_ (by assumption)))) hy5; have HO3'' := Lib.hid (HO3'.out.ext hy5); have HO5 := Lib.hid ho5; clear ho5 hy5) | ((with_reducible refine (HQ.out _ _ _ _ _ HO3''.out HO5.out.ints).mono ?_); rintro e w6 ⟨rfl, hy6⟩; have hxw6 : Ext w1 w6 := Ext.trans (by repeat (first | (with_reducible exact Ext.refl _) | (with_reducible refine Ext.drewN ?_ _) | (with_reducible refine Ext.drew ?_) | (with_reducible refine Ext.alloc ?_ _) | ((with_reducible refine Ext.setCell ?_ ?_ _); rotate_left; focus (first | (simp; done) | (simp; omega) | omega)) | assumption | (with_reducible refine Ext.trans ?_ (by assumption)))) hy6; clear hy6))
          · have hd : edgesL (elsL (gs D.pats k).data.toList) = edgesL (elsL (gs D.pats j).data.toList) := by first | assumption | (simpa using ‹decide _ = true›)
            go_ret
            exact ⟨rb (by rw [HR.out, HNo.out (by rw [HEP.out]; simpa using hd)]), (by repeat (first | (with_reducible exact Ext.refl _) | (with_reducible refine Ext.drewN ?_ _) | (with_reducible refine Ext.drew ?_) | (with_reducible refine Ext.alloc ?_ _) | ((with_reducible refine Ext.setCell ?_ ?_ _); rotate_left; focus (first | (simp; done) | (simp; omega) | omega)) | assumption | (with_reducible refine Ext.trans ?_ (by assumption))))⟩
          · have hd : ¬ edgesL (elsL (gs D.pats k).data.toList) = edgesL (elsL (gs D.pats j).data.toList) := by first | assumption | (simpa using ‹decide _ = false›)
            exact ⟨⟨j + 1, by omega, by go_num, Hhpj.out.step (by rw [HEP.out]; simpa using hd), (by repeat (first | (with_reducible exact Ext.refl _) | (with_reducible refine Ext.drewN ?_ _) | (with_reducible refine Ext.drew ?_) | (with_reducible refine Ext.alloc ?_ _) | ((with_reducible refine Ext.setCell ?_ ?_ _); rotate_left; focus (first | (simp; done) | (simp; omega) | omega)) | assumption | (with_reducible refine Ext.trans ?_ (by assumption))))⟩, by simp [intOf]; omega⟩
        · obtain rfl : j = k := by omega
          go_wp2
          exact ⟨⟨j + 1, by omega, by go_num, Hhpj.out.next, (by repeat (first | (with_reducible exact Ext.refl _) | (with_reducible refine Ext.drewN ?_ _) | (with_reducible refine Ext.drew ?_) | (with_reducible refine Ext.alloc ?_ _) | ((with_reducible refine Ext.setCell ?_ ?_ _); rotate_left; focus (first | (simp; done) | (simp; omega) | omega)) | assumption | (with_reducible refine Ext.trans ?_ (by assumption))))⟩, by simp [intOf]; omega⟩
    · obtain rfl : k = n := by omega
      go_wp2
      go_ret
      exact ⟨rb (by rw [HR.out, Hhpt.out.all]), (by repeat (first | (with_reducible exact Ext.refl _) | (with_reducible refine Ext.drewN ?_ _) | (with_reducible refine Ext.drew ?_) | (with_reducible refine Ext.alloc ?_ _) | ((with_reducible refine Ext.setCell ?_ ?_ _); rotate_left; focus (first | (simp; done) | (simp; omega) | omega)) | assumption | (with_reducible refine Ext.trans ?_ (by assumption))))⟩
set_option maxHeartbeats 4000000 in
theorem spec_HasEdges (D : Bc) (a : Option Addr) (n c : Nat) (w : World) (hv : Strs w a n c D.pats) (hn : n ≤ 1048576) (hs : D.start.size ≤ 1048576) (ht : D.stop.size ≤ 1048576) (hp : ∀ p ∈ D.pats, p.size ≤ 1048576) :
    Calls Try.prog 24 #[.agg #[.string D.start, .string D.stop, .slice a n c, .int .i64 D.gap]] w (Ret (.bool (hasEdgesB D)) w) := by
  have HL := Lib.hid hv.len
  have HB := Lib.hid (bc_box w D a n c 28 hv)
  have HVB := Lib.hid (spec_l08Is D w.heap.size a n c _ HB.out hn hs ht hp)
  clear hv
  cases hval : validBc D
  · rw [hval] at HVB
    have HO := Lib.hid (show hasEdgesB D = false by simp [hasEdgesB, hval])
    clear hval
    go_enter Try.func24, Try.ntmps24
    go_wp2_with (refine HVB.out.mono ?_; rintro e w1 ⟨rfl, hx⟩)
    go_ret
    exact ⟨rb HO.out.symm, (by repeat (first | (with_reducible exact Ext.refl _) | (with_reducible refine Ext.drewN ?_ _) | (with_reducible refine Ext.drew ?_) | (with_reducible refine Ext.alloc ?_ _) | ((with_reducible refine Ext.setCell ?_ ?_ _); rotate_left; focus (first | (simp; done) | (simp; omega) | omega)) | assumption | (with_reducible refine Ext.trans ?_ (by assumption))))⟩
  rw [hval] at HVB
  have hok := validBc_ok hval
  have HR := Lib.hid (show hasEdgesB D = pairAll (edgeP D) n by rw [hasEdgesB, hval, HL.out]; rfl)
  have h36 := hok.n36
  rw [HL.out] at h36
  have HP := Lib.hid (fun k (hk : k < n) => hp _ (gs_mem (l := D.pats) (k := k) (by rw [HL.out]; exact hk)))
  have HE := Lib.hid (fun k (hk : k < n) W => spec_elements (gs D.pats k) W (HP.out k hk) (hok.chars k (by rw [HL.out]; exact hk)))
  have HS := Lib.hid (fun k (hk : k < n) => show (elsL (gs D.pats k).data.toList).length = (gs D.pats 0).size by rw [elsL_len, size_eq, hok.size k (by rw [HL.out]; exact hk)])
  have HEd := Lib.hid (fun k (hk : k < n) a c W h => spec_l08Edges a (gs D.pats 0).size c (elsL (gs D.pats k).data.toList) W h ((hok.els k (by rw [HL.out]; exact hk)).up (by omega)) (by have := hok.s10; omega))
  have HEq := Lib.hid (fun i k a b c d W h h' => spec_same a b ((gs D.pats 0).size - 1) ((gs D.pats 0).size - 1) c d (edgesL (elsL (gs D.pats i).data.toList)) (edgesL (elsL (gs D.pats k).data.toList)) W h h' (by have := hok.s10; omega))
  clear hval hok
  go_enter Try.func24, Try.ntmps24
  go_wp2_with (refine HVB.out.mono ?_; rintro e w1 ⟨rfl, hx⟩; have hxw : Ext w w1 := (by repeat (first | (with_reducible exact Ext.refl _) | (with_reducible refine Ext.drewN ?_ _) | (with_reducible refine Ext.drew ?_) | (with_reducible refine Ext.alloc ?_ _) | ((with_reducible refine Ext.setCell ?_ ?_ _); rotate_left; focus (first | (simp; done) | (simp; omega) | omega)) | assumption | (with_reducible refine Ext.trans ?_ (by assumption)))); obtain ⟨c0, c1, c2, c3, hps⟩ := HB.out.ext hx; clear hx)
  obtain ⟨b, off, hix, hcell⟩ := hps.ix (P := Try.prog) 22 9 und_strings cell_string
  clear hps
  generalize w.heap.size = p at *
  go_loopw [3] (fun i wr => ∃ k : Nat, k ≤ n ∧ i = .int .i64 k ∧ PairsTo (edgeP D) k 0 ∧ Ext w1 wr) (fun i _ => n - (intOf i).toNat)
  case atStart => exact ⟨0, Nat.zero_le _, rfl, PairsTo.zero _, Ext.refl _⟩
  case round =>
    obtain ⟨k, hk, rfl, hpt, hx⟩ := hrel
    have Hhpt := Lib.hid hpt; clear hpt
    by_cases hlt : k < n
    · go_wp2
      go_loopw [4] (fun i wr2 => ∃ j : Nat, j ≤ k ∧ i = .int .i64 j ∧ PairsTo (edgeP D) k j ∧ Ext w1 wr2) (fun i _ => k - (intOf i).toNat)
      case atStart => exact ⟨0, Nat.zero_le _, rfl, Hhpt.out, (by repeat (first | (with_reducible exact Ext.refl _) | (with_reducible refine Ext.drewN ?_ _) | (with_reducible refine Ext.drew ?_) | (with_reducible refine Ext.alloc ?_ _) | ((with_reducible refine Ext.setCell ?_ ?_ _); rotate_left; focus (first | (simp; done) | (simp; omega) | omega)) | assumption | (with_reducible refine Ext.trans ?_ (by assumption))))⟩
      case round =>
        obtain ⟨j, hj, rfl, hpj, hx2⟩ := hrel
        have Hhpj := Lib.hid hpj; clear hpj
        by_cases hjk : j < k
        · have hjn : j < n := by omega
          have HEi := Lib.hid (HE.out k hlt)
          have HEj := Lib.hid (HE.out j hjn)
          have HSi := Lib.hid (HS.out k hlt)
          have HSj := Lib.hid (HS.out j hjn)
          have HDi := Lib.hid (HEd.out k hlt)
          have HDj := Lib.hid (HEd.out j hjn)
          have HQ := Lib.hid (HEq.out k j)
          have HNo := Lib.hid (fun h => pairAll_no (p := edgeP D) (n := n) hlt hjk h)
          have HEP := Lib.hid (show edgeP D k j = !decide (edgesL (elsL (gs D.pats k).data.toList) = edgesL (elsL (gs D.pats j).data.toList)) from rfl)
          go_wp2
          (refine wp_region_from w1 (by repeat (first | (with_reducible exact Ext.refl _) | (with_reducible refine Ext.drewN ?_ _) | (with_reducible refine Ext.drew ?_) | (with_reducible refine Ext.alloc ?_ _) | ((with_reducible refine Ext.setCell ?_ ?_ _); rotate_left; focus (first | (simp; done) | (simp; omega) | omega)) | assumption | (with_reducible refine Ext.trans ?_ (by assumption)))) (by kernel_rfl) (by kernel_rfl) (by kernel_rfl) ?_; (repeat (first | (refine mix_q rfl ?_; go_big_quiet_step (fail); refine wpQuiet_nil ?_; show wpMix _ _ _ _ _ _ _) | (refine mix_s rfl ?_; go_wp2_with (first | ((with_reducible refine (HEi.out _).mono ?_); rintro e w2 ⟨a2, c2, rfl, ho2, hy2⟩; rw [I_len, HSi.out] at ho2 ⊢; have hxw2 : Ext w1 w2 := Ext.trans (by repeat (first | (with_reducible exact Ext.refl _) | (with_reducible refine Ext.drewN ?_ _) | (with_reducible refine Ext.drew ?_) | (with_reducible refine Ext.alloc ?_ _) | ((with_reducible refine Ext.setCell ?_ ?_ _); rotate_left; focus (first | (simp; done) | (simp; omega) | omega)) | assumption | (with_reducible refine Ext.trans ?_ (by assumption)))) hy2; clear hy2; have HO2 := Lib.hid ho2; clear ho2) | ((with_reducible refine (HDi.out _ _ _ HO2.out.ints).mono ?_); rintro e w3 ⟨a3, c3', rfl, ho3, hy3⟩; rw [I_len, edgesL_len, HSi.out] at ho3 ⊢; have hxw3 : Ext w1 w3 := Ext.trans (by repeat (first | (with_reducible exact Ext.refl _) | (with_reducible refine Ext.drewN ?_ _) | (with_reducible refine Ext.drew ?_) | (with_reducible refine Ext.alloc ?_ _) | ((with_reducible refine Ext.setCell ?_ ?_ _); rotate_left; focus (first | (simp; done) | (simp; omega) | omega)) | assumption | (with_reducible refine Ext.trans ?_ (by assumption)))) hy3; have HO3 := Lib.hid ho3; clear ho3 hy3) | ((with_reducible refine (HEj.out _).mono ?_); rintro e w4 ⟨a4, c4, rfl, ho4, hy4⟩; rw [I_len, HSj.out] at ho4 ⊢; have hxw4 : Ext w1 w4 := Ext.trans (by repeat (first | (with_reducible exact Ext.refl _) | (with_reducible refine Ext.drewN ?_ _) | (with_reducible refine Ext.drew ?_) | (with_reducible refine Ext.alloc ?_ _) | ((with_reducible refine Ext.setCell ?_ ?_ _); rotate_left; focus (first | (simp; done) | (simp; omega) | omega)) | assumption | (with_reducible refine Ext.trans ?_ (by assumption)))) hy4; have HO3' := Lib.hid (HO3.out.ints.ext hy4); have HO4 := Lib.hid ho4; clear ho4 hy4) | ((with_reducible refine (HDj.out _ _ _ HO4.out.ints).mono ?_); rintro e w5 ⟨a5, c5, rfl, ho5, hy5⟩; rw [I_len, edgesL_len, HSj.out] at ho5 ⊢; have hxw5 : Ext w1 w5 := Ext.trans (by repeat (first | (with_reducible exact Ext.refl _) | (with_reducible refine Ext.drewN ?_ _) | (with_reducible refine Ext.drew ?_) | (with_reducible refine Ext.alloc ?_ _) | ((with_reducible refine Ext.setCell ?_ ?_ _); rotate_left; focus (first | (simp; done) | (simp; omega) | omega)) | assumption | (with_reducible refine Ext.trans ?_ (by assumption)))) hy5; have HO3'' := Lib.hid (HO3'.out.ext hy5); have HO5 := Lib.hid ho5; clear ho5 hy5) | ((with_reducible refine (HQ.out _ _ _ _ _ HO3''.out HO5.out.ints).mono ?_); rintro e w6 ⟨rfl, hy6⟩; have hxw6 : Ext w1 w6 := Ext.trans (by repeat (first | (with_reducible exact Ext.refl _) | (with_reducible refine Ext.drewN ?_ _) | (with_reducible refine Ext.drew ?_) | (with_reducible refine Ext.alloc ?_ _) | ((with_reducible refine Ext.setCell ?_ ?_ _); rotate_left; focus (first | (simp; done) | (simp; omega) | omega)) | assumption | (with_reducible refine Ext.trans ?_ (by assumption)))) hy6; clear hy6)); first | refine ⟨up_of (by repeat (first | (with_reducible exact Ext.refl _) | (with_reducible refine Ext.drewN ?_ _) | (with_reducible refine Ext.drew ?_) | (with_reducible refine Ext.alloc ?_ _) | ((with_reducible refine Ext.setCell ?_ ?_ _); rotate_left; focus (first | (simp; done) | (simp; omega) | omega)) | assumption | (with_reducible refine Ext.trans ?_ (by assumption)))), ?_⟩ | refine ⟨rfl, rfl, up_of (by repeat (first | (with_reducible exact Ext.refl _) | (with_reducible refine Ext.drewN ?_ _) | (with_reducible refine Ext.drew ?_) | (with_reducible refine Ext.alloc ?_ _) | ((with_reducible refine Ext.setCell ?_ ?_ _); rotate_left; focus (first | (simp; done) | (simp; omega) | omega)) | assumption | (with_reducible refine Ext.trans ?_ (by assumption)))), ?_⟩))); refine mix_nil ?_)
          go_wp2
          · have hd : edgesL (elsL (gs D.pats k).data.toList) = edgesL (elsL (gs D.pats j).data.toList) := by first | assumption | (simpa using ‹decide _ = true›)
            go_ret
            exact ⟨rb (by rw [HR.out, HNo.out (by rw [HEP.out]; simpa using hd)]), (by repeat (first | (with_reducible exact Ext.refl _) | (with_reducible refine Ext.drewN ?_ _) | (with_reducible refine Ext.drew ?_) | (with_reducible refine Ext.alloc ?_ _) | ((with_reducible refine Ext.setCell ?_ ?_ _); rotate_left; focus (first | (simp; done) | (simp; omega) | omega)) | assumption | (with_reducible refine Ext.trans ?_ (by assumption))))⟩
          · have hd : ¬ edgesL (elsL (gs D.pats k).data.toList) = edgesL (elsL (gs D.pats j).data.toList) := by first | assumption | (simpa using ‹decide _ = false›)
            exact ⟨⟨j + 1, by omega, by go_num, Hhpj.out.step (by rw [HEP.out]; simpa using hd), (by repeat (first | (with_reducible exact Ext.refl _) | (with_reducible refine Ext.drewN ?_ _) | (with_reducible refine Ext.drew ?_) | (with_reducible refine Ext.alloc ?_ _) | ((with_reducible refine Ext.setCell ?_ ?_ _); rotate_left; focus (first | (simp; done) | (simp; omega) | omega)) | assumption | (with_reducible refine Ext.trans ?_ (by assumption))))⟩, by simp [intOf]; omega⟩
        · obtain rfl : j = k := by omega
          go_wp2
          exact ⟨⟨j + 1, by omega, by go_num, Hhpj.out.next, (by repeat (first | (with_reducible exact Ext.refl _) | (with_reducible refine Ext.drewN ?_ _) | (with_reducible refine Ext.drew ?_) | (with_reducible refine Ext.alloc ?_ _) | ((with_reducible refine Ext.setCell ?_ ?_ _); rotate_left; focus (first | (simp; done) | (simp; omega) | omega)) | assumption | (with_reducible refine Ext.trans ?_ (by assumption))))⟩, by simp [intOf]; omega⟩
    · obtain rfl : k = n := by omega
      go_wp2
      go_ret
      exact ⟨rb (by rw [HR.out, Hhpt.out.all]), (by repeat (first | (with_reducible exact Ext.refl _) | (with_reducible refine Ext.drewN ?_ _) | (with_reducible refine Ext.drew ?_) | (with_reducible refine Ext.alloc ?_ _) | ((with_reducible refine Ext.setCell ?_ ?_ _); rotate_left; focus (first | (simp; done) | (simp; omega) | omega)) | assumption | (with_reducible refine Ext.trans ?_ (by assumption))))⟩
end Go.Proofs.Ytnmkckghfckgbaa
