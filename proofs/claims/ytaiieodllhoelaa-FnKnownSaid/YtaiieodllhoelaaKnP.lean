/- Plain: what a law says of the well known chains. Conditions: none. -/
import Derived.Test.YtaiieodllhoelaaKnQ
import Derived.Test.YtaiieodllhoelaaPerO
import Derived.Test.YtaiieodllhoelaaChS
namespace Go.Proofs.Ytaiieodllhoelaa
set_option maxRecDepth 100000
open Go.RowKit

theorem one_range : ∀ (b d0 : Nat), d0 < b → ((List.range b).filter fun d => decide (d = d0)).length = 1
  | 0, _, h => by omega
  | b + 1, d0, h => by
    rw [List.range_succ, List.filter_append, List.length_append]
    by_cases hb : d0 = b
    · subst hb
      rw [List.filter_eq_nil_iff.2 (fun x hx => by have := List.mem_range.1 hx; simp; omega)]
      simp
    · rw [one_range b d0 (by omega)]
      have : ¬ b = d0 := fun h => hb h.symm
      simp [this]
theorem set_last {ds : List Int} {n : Nat} (hl : ds.length = n) (hn : 1 ≤ n) (d : Int) : ds.set (n - 1) d = ds.take (n - 1) ++ [d] := by
  rw [List.set_eq_take_append_cons_drop, if_pos (by omega), List.drop_eq_nil_of_le (by omega)]
theorem reach_all {D : Ch} {n : Nat} {R : Nat → Int → Prop} (hok : OkCh D) (hn : D.places.length = n) (h : OneOne D n R) {ds : List Int} (hd : DigC D ds) (hl : ds.length ≤ n) : ∀ k, k ≤ ds.length → R k (runS D 0 D.start (ds.take k))
  | 0, _ => by simpa [runS] using h.h0
  | k + 1, hk => by
    rw [runS_step D (by omega), Int.zero_add]
    have hb := runS_bd hok (ds.take k) 0 D.start (hd.take k) (by omega) (by rw [List.length_take]; omega) hok.st0 hok.st1
    have hg := hd.at (k := k) (by omega)
    exact h.hR k _ _ (by omega) hb.1 hb.2 (reach_all hok hn h hd hl k (by omega)) hg.1 hg.2
theorem csL_one {D : Ch} {n : Nat} (h : KnGood D n) {ds : List Int} (hd : DigC D ds) (hl : ds.length = n) : (csL D ds (n - 1) D.base.toNat).length = 1 := by
  have hok := validCh_ok h.val
  obtain ⟨R, h1, h2⟩ := h.one
  have hn1 : 1 ≤ n := by have := hok.p1; rw [h.len] at this; exact this
  have hb2 := hok.b2
  have hr := reach_all hok h.len h1 hd (by omega) (n - 1) (by omega)
  have hbd := runS_bd hok (ds.take (n - 1)) 0 D.start (hd.take _) (by omega) (by rw [List.length_take, h.len]; omega) hok.st0 hok.st1
  generalize hx : runS D 0 D.start (ds.take (n - 1)) = x at *
  obtain ⟨d, d0, d1, hd2⟩ := h2 x hbd.1 hbd.2 hr
  obtain ⟨d, rfl⟩ := Int.eq_ofNat_of_zero_le d0
  have hrun : ∀ e : Int, runS D 0 D.start (ds.set (n - 1) e) = nextS D ((n - 1 : Nat) : Int) x e := fun e => by
    rw [set_last hl hn1, runS_snoc, hx, List.length_take, Nat.min_eq_left (by omega), Int.zero_add]
  unfold csL
  rw [List.length_map]
  refine Eq.trans ?_ (one_range D.base.toNat d (by omega))
  congr 1
  refine List.filter_congr fun e he => ?_
  have he2 := List.mem_range.1 he
  unfold csHit
  rw [hrun]
  by_cases hed : e = d
  · subst hed
    simp [hd2]
  · have : ¬ nextS D ((n - 1 : Nat) : Int) x (e : Int) = D.fin := fun hf => hed (by
      have := h1.hd (n - 1) x e d (by omega) hbd.1 hbd.2 hr (by omega) (by omega) (by omega) (by omega) (hf.trans hd2.symm)
      omega)
    simp [hed, this]
theorem pe_places (X : Wt) : (addCh X.base X.base X.target (peL X)).places.length = X.weights.length := by rw [addCh_places, peL, List.length_map]
theorem wt_places (X : Wt) : (wtCh X).places.length = X.weights.length := by unfold wtCh; rw [addCh_places, List.length_map]
theorem pe_chk {X : Wt} (h : validB X = true) (hm : X.modulus = X.base) (s : ByteArray) : chkB (addCh X.base X.base X.target (peL X)) s = chkB (wtCh X) s := by
  have hA := addCh_valid (peL_ok h hm)
  have hB : validCh (wtCh X) = true := addCh_valid (validB_addOk h)
  have hoA := validCh_ok hA
  have hoB := validCh_ok hB
  have hw : wordCh (addCh X.base X.base X.target (peL X)) s = wordCh (wtCh X) s := by
    unfold wordCh; rw [pe_places, wt_places]; rfl
  have hrun : runOk (addCh X.base X.base X.target (peL X)) s = runOk (wtCh X) s := by unfold runOk; rw [hA, hB, hw]
  unfold chkB
  rw [hrun]
  cases hr : runOk (wtCh X) s
  · rfl
  have hwd : wordCh (wtCh X) s = true := by unfold runOk at hr; simp only [Bool.and_eq_true] at hr; exact hr.2
  obtain ⟨hd, hl, _⟩ := wordCh_t hwd
  have hdl := digC_len s
  rw [wt_places] at hl
  have hall : ∀ k, k ≤ (digC s).length → runS (addCh X.base X.base X.target (peL X)) 0 0 ((digC s).take k) = runS (wtCh X) 0 0 ((digC s).take k) := by
    intro k
    induction k with
    | zero => intro _; rfl
    | succ k ih =>
      intro hk
      rw [runS_step _ (by omega), runS_step _ (by omega), ih (by omega), Int.zero_add]
      have hb := runS_bd hoB ((digC s).take k) 0 0 (hd.take k) (by omega) (by rw [List.length_take, wt_places]; omega) (by omega) (by have := hoB.s1; omega)
      have hg := hd.at (k := k) (by omega)
      generalize runS (wtCh X) 0 0 ((digC s).take k) = x at *
      generalize gi (digC s) k = d at *
      obtain ⟨x, rfl⟩ := Int.eq_ofNat_of_zero_le hb.1
      obtain ⟨d, rfl⟩ := Int.eq_ofNat_of_zero_le hg.1
      exact pe_next h hm (by omega) (by rw [← hm]; exact hb.2) hg.2
  have h1 := hall _ (Nat.le_refl _)
  rw [List.take_length] at h1
  have h2 : runEnd (addCh X.base X.base X.target (peL X)) s = runEnd (wtCh X) s := h1
  rw [h2]
  rfl
theorem ord_gcdB : ([10, 2, 3, 5, 7, 11] : List Nat).all (fun b => (List.range b).all fun (x : Nat) => ordB ((wgL b x).map (· % (b : Int))) == decide (Nat.gcd x b = 1)) = true := by decide +kernel
theorem ord_gcd {b x : Nat} (hb : b ∈ ([10, 2, 3, 5, 7, 11] : List Nat)) (hx : x < b) : ordB ((wgL b x).map (· % (b : Int))) = decide (Nat.gcd x b = 1) := by
  have h := List.all_eq_true.1 (List.all_eq_true.1 ord_gcdB b hb) x (List.mem_range.2 hx)
  exact eq_of_beq h
end Go.Proofs.Ytaiieodllhoelaa
