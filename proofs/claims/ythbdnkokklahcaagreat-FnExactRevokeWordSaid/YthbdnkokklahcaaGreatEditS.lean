/- Walks: edit distances, in the reference. -/
import Derived.Test.YthbdnkokklahcaaGreatEditM
import Derived.Test.YthbdnkokklahcaaGreatChV
import Derived.Test.YthbdnkokklahcaaGreatMix3
namespace Go.Proofs.YthbdnkokklahcaaGreat
set_option maxRecDepth 100000
open Go.RowKit

def fl (H : Nat → Int) (n : Nat) : List Int := (List.range n).map H
theorem fl_len (H : Nat → Int) (n : Nat) : (fl H n).length = n := by simp [fl]
theorem fl_getD {H : Nat → Int} {n k : Nat} (h : k < n) : (I (fl H n)).getD k undef = .int .i64 (H k) := by rw [I_getD _ _ (by rw [fl_len]; exact h)]; simp [fl, h]
def updL (H : Nat → Int) (x : Nat) (v : Int) : Nat → Int := fun y => if y = x then v else H y
theorem fl_upd {H : Nat → Int} {n x : Nat} {v : Int} : (fl H n).set x v = fl (updL H x v) n := by
  apply List.ext_getElem
  · simp [fl]
  · intro k h1 h2
    simp only [fl, List.getElem_map, List.getElem_range, List.getElem_set, updL]
    by_cases e : x = k
    · subst e; simp
    · rw [if_neg e, if_neg (fun h => e h.symm)]
theorem idx_ne {N i k j y : Nat} (hy : y < N) (hk : k < N) (h : ¬ (j = i ∧ y = k)) : j * N + y ≠ i * N + k := by
  intro he
  rcases Nat.lt_trichotomy j i with h1 | h1 | h1
  · have := Nat.mul_le_mul_right N (show j + 1 ≤ i from h1)
    rw [Nat.succ_mul] at this
    omega
  · subst h1; exact h ⟨rfl, by omega⟩
  · have := Nat.mul_le_mul_right N (show i + 1 ≤ j from h1)
    rw [Nat.succ_mul] at this
    omega
theorem idx_lt {N n i k : Nat} (hi : i ≤ n) (hk : k < N) : i * N + k < (n + 1) * N := by
  have := Nat.mul_le_mul_right N hi
  rw [Nat.succ_mul]
  omega
theorem own_fl_set {w : World} {B g tot x : Nat} {E : TypeId} {H : Nat → Int} {v : Int} (h : Own w B E (some ⟨g, 0, none⟩) tot tot (I (fl H tot))) : Own (w.setCell ⟨g, x, none⟩ (.int .i64 v)) B E (some ⟨g, 0, none⟩) tot tot (I (fl (updL H x v) tot)) := by
  have := h.set x (.int .i64 v)
  rwa [I_set, fl_upd] at this
/-- what lies behind (i, k) is reckoned -/
def FlatE (a b : ByteArray) (i hi : Nat) (H : Nat → Int) : Prop := (∀ j, i < j → j ≤ a.size → ∀ y, y ≤ b.size → H (j * (b.size + 1) + y) = ((cst a b j y : Nat) : Int)) ∧ ∀ y, hi ≤ y → y ≤ b.size → H (i * (b.size + 1) + y) = ((cst a b i y : Nat) : Int)
theorem FlatE.step {a b : ByteArray} {i k : Nat} {v : Int} {H : Nat → Int} (h : FlatE a b i (k + 1) H) (hk : k ≤ b.size) (hv : v = ((cst a b i k : Nat) : Int)) : FlatE a b i k (updL H (i * (b.size + 1) + k) v) := by
  refine ⟨fun j h1 h2 y hy => ?_, fun y h1 h2 => ?_⟩
  · unfold updL; rw [if_neg (idx_ne (by omega) (by omega) (by omega))]; exact h.1 j h1 h2 y hy
  · unfold updL
    by_cases e : y = k
    · subst e; rw [if_pos rfl, hv]
    · rw [if_neg (idx_ne (by omega) (by omega) (by omega))]; exact h.2 y (by omega) h2
theorem FlatE.step' {a b : ByteArray} {i k P0 : Nat} {v : Int} {H : Nat → Int} (h : FlatE a b i (k + 1) H) (hP : P0 = i * (b.size + 1)) (hk : k ≤ b.size) (hv : v = ((cst a b i k : Nat) : Int)) : FlatE a b i k (updL H (P0 + k) v) := by
  subst hP; exact h.step hk hv
def FlatR (a b : ByteArray) (lo : Nat) (H : Nat → Int) : Prop := ∀ j, lo ≤ j → j ≤ a.size → ∀ y, y ≤ b.size → H (j * (b.size + 1) + y) = ((cst a b j y : Nat) : Int)
theorem FlatE.down {a b : ByteArray} {i : Nat} {H : Nat → Int} (h : FlatE a b i 0 H) : FlatR a b i H := fun j h1 h3 y hy => by
  rcases Nat.eq_or_lt_of_le h1 with rfl | h1
  · exact h.2 y (Nat.zero_le _) hy
  · exact h.1 j h1 h3 y hy
def RetFlat (a b : ByteArray) (tot : Nat) (w : World) (e : Ending) (w' : World) : Prop :=
  ∃ g H, e = .returned (.slice (some ⟨g, 0, none⟩) tot tot) ∧ Own w' w.heap.size 2 (some ⟨g, 0, none⟩) tot tot (I (fl H tot)) ∧ FlatR a b 0 H ∧ Ext w w'
set_option maxHeartbeats 8000000 in
theorem spec_l06Costs (a b : ByteArray) (tot : Nat) (w : World) (ha : a.size ≤ 64) (hb : b.size ≤ 64) (htot : (a.size + 1) * (b.size + 1) = tot) :
    Calls Tryz.prog 68 #[.string a, .string b, .bool false] w (RetFlat a b tot w) := by
  have hp : tot ≤ 65 * 65 := by rw [← htot]; exact Nat.mul_le_mul (by omega) (by omega)
  have HT := Lib.hid (show ((a.size : Int) + 1) * ((b.size : Int) + 1) = (tot : Int) by rw [← htot, Int.natCast_mul]; rfl)
  have ht0 : 0 ≤ ((a.size : Int) + 1) * ((b.size : Int) + 1) := by rw [HT.out]; omega
  have ht1 : ((a.size : Int) + 1) * ((b.size : Int) + 1) ≤ 4225 := by rw [HT.out]; omega
  have HIx := Lib.hid (fun i k (hi : i ≤ a.size) (hk : k < b.size + 1) => show i * (b.size + 1) + k < tot by rw [← htot]; exact idx_lt hi hk)
  clear htot
  go_enter Tryz.func68, Tryz.ntmps68
  go_wp2_with (at_make; refine law_make _ rfl _ _ 23 rfl 2 (.int .i64 0) 8 und_int64s info_int64 rfl .i64 .i64 tot (show Value.int .i64 (((a.size : Int) + 1) * ((b.size : Int) + 1)) = .int .i64 (tot : Int) from by rw [HT.out]) (show Value.int .i64 (((a.size : Int) + 1) * ((b.size : Int) + 1)) = .int .i64 (tot : Int) from by rw [HT.out]) (by omega) (by unfold maxLen; omega) ?_; intro w1 hown hx hsz)
  obtain ⟨g, hg⟩ : ∃ g, g = w.heap.size := ⟨_, rfl⟩
  rw [← hg] at hown ⊢
  have hgw : w.heap.size ≤ g := by omega
  have Hhown := Lib.hid hown; clear hown; have Hhg := Lib.hid hg; clear hg
  clear hsz ht0 ht1
  go_loopw [9] (fun v wr => ∃ (lo : Nat) (z : Int) (H : Nat → Int), lo ≤ a.size + 1 ∧ z + 1 = lo ∧ v = .int .i64 z ∧ Own wr w.heap.size 2 (some ⟨g, 0, none⟩) tot tot (I (fl H tot)) ∧ FlatR a b lo H ∧ Ext w wr) (fun v _ => (intOf v + 1).toNat)
  case atStart => exact ⟨a.size + 1, a.size, fun _ => 0, Nat.le_refl _, by omega, rfl, (by rw [show fl (fun _ => 0) tot = List.replicate tot 0 by simp [fl, List.map_const'], I_replicate]; exact Hhown.out.mono (by rw [Hhg.out]; exact Nat.le_refl _)), (fun j h1 h2 => by omega), hx⟩
  case round =>
    obtain ⟨lo, z, H, hlo, hz, rfl, ho, hfr, hxr⟩ := hrel
    have Hho := Lib.hid ho; clear ho; have Hhfr := Lib.hid hfr; clear hfr
    have hxq : Ext w wr := hxr
    by_cases h0 : 0 ≤ z
    · obtain ⟨i, rfl⟩ := Int.eq_ofNat_of_zero_le h0
      obtain rfl : lo = i + 1 := by omega
      have hin : i ≤ a.size := by omega
      clear hz h0
      obtain ⟨P0, hP0⟩ : ∃ P0, P0 = i * (b.size + 1) := ⟨_, rfl⟩
      have e0 : (i : Int) * ((b.size : Int) + 1) = (P0 : Int) := by rw [hP0, Int.natCast_mul]; rfl
      have HP0 := Lib.hid hP0
      clear hP0
      go_wp2
      go_loopw [10] (fun v wr => ∃ (hi : Nat) (z : Int) (H : Nat → Int), hi ≤ b.size + 1 ∧ z + 1 = hi ∧ v = .int .i64 z ∧ Own wr w.heap.size 2 (some ⟨g, 0, none⟩) tot tot (I (fl H tot)) ∧ FlatE a b i hi H ∧ Ext w wr) (fun v _ => (intOf v + 1).toNat)
      case atStart => exact ⟨b.size + 1, b.size, H, Nat.le_refl _, by omega, rfl, Hho.out, ⟨fun j h1 h2 => Hhfr.out j h1 h2, fun y h1 h2 => by omega⟩, hxr⟩
      case round =>
        obtain ⟨hi, z, H, hhi, hz, rfl, ho, hfe, hxr⟩ := hrel
        have Hho := Lib.hid ho; clear ho; have Hhfe := Lib.hid hfe; clear hfe
        have hxq : Ext w wr := hxr
        by_cases h0 : 0 ≤ z
        · obtain ⟨k, rfl⟩ := Int.eq_ofNat_of_zero_le h0
          obtain rfl : hi = k + 1 := by omega
          have hkm : k ≤ b.size := by omega
          clear hz h0
          have l0 : P0 + k < tot := by rw [HP0.out]; exact HIx.out i k hin (by omega)
          obtain ⟨s1, s2, s3⟩ := Hho.out.at (P := Tryz.prog) 23 und_int64s cell_int64 (P0 + k) l0 .i64
          rw [fl_getD l0] at s2
          have s1' : ∀ w', (Instr.indexAt 23 (.slice (some ⟨g, 0, none⟩) tot tot) (.int .i64 ((P0 : Int) + k))).run Tryz.prog w' = .ok (.pointer (some ⟨g, P0 + k, none⟩)) w' := s1
          clear s1
          by_cases hi1 : i < a.size
          · by_cases hk1 : k < b.size
            · obtain ⟨P1, hP1⟩ : ∃ P1, P1 = (i + 1) * (b.size + 1) := ⟨_, rfl⟩
              have e1 : ((i : Int) + 1) * ((b.size : Int) + 1) = (P1 : Int) := by rw [hP1, Int.natCast_mul]; rfl
              have HP1 := Lib.hid hP1
              have l1 : P1 + (k + 1) < tot := by rw [hP1]; exact HIx.out (i + 1) (k + 1) (by omega) (by omega)
              have v1 : H (P1 + k + 1) = ((cst a b (i + 1) (k + 1) : Nat) : Int) := by rw [hP1]; exact Hhfe.out.1 (i + 1) (by omega) (by omega) (k + 1) (by omega)
              have v2 : H (P1 + k) = ((cst a b (i + 1) k : Nat) : Int) := by rw [hP1]; exact Hhfe.out.1 (i + 1) (by omega) (by omega) k (by omega)
              have v3 : H (P0 + k + 1) = ((cst a b i (k + 1) : Nat) : Int) := by rw [HP0.out]; exact Hhfe.out.2 (k + 1) (by omega) (by omega)
              obtain ⟨w1l, w1u⟩ : 0 ≤ H (P1 + k + 1) ∧ H (P1 + k + 1) ≤ 128 := by rw [v1]; have := cst_le a b (i + 1) (k + 1); omega
              obtain ⟨w2l, w2u⟩ : 0 ≤ H (P1 + k) ∧ H (P1 + k) ≤ 128 := by rw [v2]; have := cst_le a b (i + 1) k; omega
              obtain ⟨w3l, w3u⟩ : 0 ≤ H (P0 + k + 1) ∧ H (P0 + k + 1) ≤ 128 := by rw [v3]; have := cst_le a b i (k + 1); omega
              have HV1 := Lib.hid v1
              have HV2 := Lib.hid v2
              have HV3 := Lib.hid v3
              have HC := Lib.hid (cst_step a b hi1 hk1)
              obtain ⟨r1, r2, _⟩ := Hho.out.at (P := Tryz.prog) 23 und_int64s cell_int64 (P1 + k + 1) (by omega) .i64
              obtain ⟨r3, r4, _⟩ := Hho.out.at (P := Tryz.prog) 23 und_int64s cell_int64 (P1 + k) (by omega) .i64
              obtain ⟨r5, r6, _⟩ := Hho.out.at (P := Tryz.prog) 23 und_int64s cell_int64 (P0 + k + 1) (by have := HIx.out i (k + 1) (by omega) (by omega); rw [← HP0.out] at this; omega) .i64
              rw [fl_getD (by omega)] at r2 r4
              rw [fl_getD (by have := HIx.out i (k + 1) (by omega) (by omega); rw [← HP0.out] at this; omega)] at r6
              have r1' : ∀ w', (Instr.indexAt 23 (.slice (some ⟨g, 0, none⟩) tot tot) (.int .i64 ((P1 : Int) + k + 1))).run Tryz.prog w' = .ok (.pointer (some ⟨g, P1 + k + 1, none⟩)) w' := r1
              have r3' : ∀ w', (Instr.indexAt 23 (.slice (some ⟨g, 0, none⟩) tot tot) (.int .i64 ((P1 : Int) + k))).run Tryz.prog w' = .ok (.pointer (some ⟨g, P1 + k, none⟩)) w' := r3
              have r5' : ∀ w', (Instr.indexAt 23 (.slice (some ⟨g, 0, none⟩) tot tot) (.int .i64 ((P0 : Int) + k + 1))).run Tryz.prog w' = .ok (.pointer (some ⟨g, P0 + k + 1, none⟩)) w' := r5
              clear r1 r3 r5 hP1 v1 v2 v3
              by_cases hab : a[i] = b[k]
              · have hbb : ((a[i].toNat : Int) != (b[k].toNat : Int)) = false := by rw [hab]; simp
                rw [if_pos hab] at HC
                clear hab
                go_wp2
                (refine wp_region_from wr (by repeat (first | (with_reducible exact Ext.refl _) | (with_reducible refine Ext.drewN ?_ _) | (with_reducible refine Ext.drew ?_) | (with_reducible refine Ext.alloc ?_ _) | ((with_reducible refine Ext.setCell ?_ ?_ _); rotate_left; focus (first | (simp; done) | (simp; omega) | omega)) | assumption | (with_reducible refine Ext.trans ?_ (by assumption)))) (by kernel_rfl) (by kernel_rfl) (by kernel_rfl) ?_; (repeat (first | (refine mix_q rfl ?_; go_big_quiet_step (fail); refine wpQuiet_nil ?_; show wpMix _ _ _ _ _ _ _) | (refine mix_s rfl ?_; go_wp2_with (fail); first | refine ⟨up_of (by repeat (first | (with_reducible exact Ext.refl _) | (with_reducible refine Ext.drewN ?_ _) | (with_reducible refine Ext.drew ?_) | (with_reducible refine Ext.alloc ?_ _) | ((with_reducible refine Ext.setCell ?_ ?_ _); rotate_left; focus (first | (simp; done) | (simp; omega) | omega)) | assumption | (with_reducible refine Ext.trans ?_ (by assumption)))), ?_⟩ | refine ⟨rfl, rfl, up_of (by repeat (first | (with_reducible exact Ext.refl _) | (with_reducible refine Ext.drewN ?_ _) | (with_reducible refine Ext.drew ?_) | (with_reducible refine Ext.alloc ?_ _) | ((with_reducible refine Ext.setCell ?_ ?_ _); rotate_left; focus (first | (simp; done) | (simp; omega) | omega)) | assumption | (with_reducible refine Ext.trans ?_ (by assumption)))), ?_⟩))); refine mix_nil ?_)
                go_wp2_with (go_at_call 64; refine (spec_min _ _ _).mono ?_; rintro e w' ⟨rfl, rfl⟩)
                all_goals ((refine wp_region_from wr (by repeat (first | (with_reducible exact Ext.refl _) | (with_reducible refine Ext.drewN ?_ _) | (with_reducible refine Ext.drew ?_) | (with_reducible refine Ext.alloc ?_ _) | ((with_reducible refine Ext.setCell ?_ ?_ _); rotate_left; focus (first | (simp; done) | (simp; omega) | omega)) | assumption | (with_reducible refine Ext.trans ?_ (by assumption)))) (by kernel_rfl) (by kernel_rfl) (seqB_of (by kernel_rfl)) ?_; (repeat (first | (refine mix_q rfl ?_; go_big_quiet_step (fail); refine wpQuiet_nil ?_; show wpMix _ _ _ _ _ _ _) | (refine mix_s rfl ?_; go_wp2_with (fail); first | refine ⟨up_of (by repeat (first | (with_reducible exact Ext.refl _) | (with_reducible refine Ext.drewN ?_ _) | (with_reducible refine Ext.drew ?_) | (with_reducible refine Ext.alloc ?_ _) | ((with_reducible refine Ext.setCell ?_ ?_ _); rotate_left; focus (first | (simp; done) | (simp; omega) | omega)) | assumption | (with_reducible refine Ext.trans ?_ (by assumption)))), ?_⟩ | refine ⟨rfl, rfl, up_of (by repeat (first | (with_reducible exact Ext.refl _) | (with_reducible refine Ext.drewN ?_ _) | (with_reducible refine Ext.drew ?_) | (with_reducible refine Ext.alloc ?_ _) | ((with_reducible refine Ext.setCell ?_ ?_ _); rotate_left; focus (first | (simp; done) | (simp; omega) | omega)) | assumption | (with_reducible refine Ext.trans ?_ (by assumption)))), ?_⟩))); refine mix_nil ?_); go_wp2)
                all_goals (
                  refine ⟨⟨k, (k : Int) - 1, updL H (P0 + k) ?vx1, by omega, by omega, rfl, ?ownx1, ?fex1, ?extx1⟩, by simp [intOf]⟩
                  case ownx1 => first | exact own_fl_set Hho.out | exact (own_fl_set Hho.out).drew | exact (own_fl_set Hho.out).drew.drew | exact own_fl_set Hho.out.drew
                  case fex1 =>
                    refine FlatE.step' Hhfe.out HP0.out hkm ?_
                    have c0 := HC.out; have c1 := HV1.out; have c2 := HV2.out; have c3 := HV3.out
                    first | omega | (split <;> omega) | (split <;> (try split) <;> omega) | (split <;> (try split) <;> (try split) <;> omega)
                  case extx1 => first | exact Ext.setCell hxq hgw _ | exact (Ext.setCell hxq hgw _).drew | exact (Ext.setCell hxq hgw _).drew.drew)
              · have hbb : ((a[i].toNat : Int) != (b[k].toNat : Int)) = true := by simpa using (fun h => hab (UInt8.toNat_inj.1 (by omega)))
                rw [if_neg hab] at HC
                clear hab
                go_wp2
                (refine wp_region_from wr (by repeat (first | (with_reducible exact Ext.refl _) | (with_reducible refine Ext.drewN ?_ _) | (with_reducible refine Ext.drew ?_) | (with_reducible refine Ext.alloc ?_ _) | ((with_reducible refine Ext.setCell ?_ ?_ _); rotate_left; focus (first | (simp; done) | (simp; omega) | omega)) | assumption | (with_reducible refine Ext.trans ?_ (by assumption)))) (by kernel_rfl) (by kernel_rfl) (by kernel_rfl) ?_; (repeat (first | (refine mix_q rfl ?_; go_big_quiet_step (fail); refine wpQuiet_nil ?_; show wpMix _ _ _ _ _ _ _) | (refine mix_s rfl ?_; go_wp2_with (fail); first | refine ⟨up_of (by repeat (first | (with_reducible exact Ext.refl _) | (with_reducible refine Ext.drewN ?_ _) | (with_reducible refine Ext.drew ?_) | (with_reducible refine Ext.alloc ?_ _) | ((with_reducible refine Ext.setCell ?_ ?_ _); rotate_left; focus (first | (simp; done) | (simp; omega) | omega)) | assumption | (with_reducible refine Ext.trans ?_ (by assumption)))), ?_⟩ | refine ⟨rfl, rfl, up_of (by repeat (first | (with_reducible exact Ext.refl _) | (with_reducible refine Ext.drewN ?_ _) | (with_reducible refine Ext.drew ?_) | (with_reducible refine Ext.alloc ?_ _) | ((with_reducible refine Ext.setCell ?_ ?_ _); rotate_left; focus (first | (simp; done) | (simp; omega) | omega)) | assumption | (with_reducible refine Ext.trans ?_ (by assumption)))), ?_⟩))); refine mix_nil ?_)
                go_wp2_with (go_at_call 64; refine (spec_min _ _ _).mono ?_; rintro e w' ⟨rfl, rfl⟩)
                all_goals ((refine wp_region_from wr (by repeat (first | (with_reducible exact Ext.refl _) | (with_reducible refine Ext.drewN ?_ _) | (with_reducible refine Ext.drew ?_) | (with_reducible refine Ext.alloc ?_ _) | ((with_reducible refine Ext.setCell ?_ ?_ _); rotate_left; focus (first | (simp; done) | (simp; omega) | omega)) | assumption | (with_reducible refine Ext.trans ?_ (by assumption)))) (by kernel_rfl) (by kernel_rfl) (seqB_of (by kernel_rfl)) ?_; (repeat (first | (refine mix_q rfl ?_; go_big_quiet_step (fail); refine wpQuiet_nil ?_; show wpMix _ _ _ _ _ _ _) | (refine mix_s rfl ?_; go_wp2_with (fail); first | refine ⟨up_of (by repeat (first | (with_reducible exact Ext.refl _) | (with_reducible refine Ext.drewN ?_ _) | (with_reducible refine Ext.drew ?_) | (with_reducible refine Ext.alloc ?_ _) | ((with_reducible refine Ext.setCell ?_ ?_ _); rotate_left; focus (first | (simp; done) | (simp; omega) | omega)) | assumption | (with_reducible refine Ext.trans ?_ (by assumption)))), ?_⟩ | refine ⟨rfl, rfl, up_of (by repeat (first | (with_reducible exact Ext.refl _) | (with_reducible refine Ext.drewN ?_ _) | (with_reducible refine Ext.drew ?_) | (with_reducible refine Ext.alloc ?_ _) | ((with_reducible refine Ext.setCell ?_ ?_ _); rotate_left; focus (first | (simp; done) | (simp; omega) | omega)) | assumption | (with_reducible refine Ext.trans ?_ (by assumption)))), ?_⟩))); refine mix_nil ?_); go_wp2)
                all_goals (
                  refine ⟨⟨k, (k : Int) - 1, updL H (P0 + k) ?vx2, by omega, by omega, rfl, ?ownx2, ?fex2, ?extx2⟩, by simp [intOf]⟩
                  case ownx2 => first | exact own_fl_set Hho.out | exact (own_fl_set Hho.out).drew | exact (own_fl_set Hho.out).drew.drew | exact own_fl_set Hho.out.drew
                  case fex2 =>
                    refine FlatE.step' Hhfe.out HP0.out hkm ?_
                    have c0 := HC.out; have c1 := HV1.out; have c2 := HV2.out; have c3 := HV3.out
                    first | omega | (split <;> omega) | (split <;> (try split) <;> omega) | (split <;> (try split) <;> (try split) <;> omega)
                  case extx2 => first | exact Ext.setCell hxq hgw _ | exact (Ext.setCell hxq hgw _).drew | exact (Ext.setCell hxq hgw _).drew.drew)
            · have hk2 : k = b.size := by omega
              have HC := Lib.hid (cst_end2 a b i (k := k) (by omega))
              have Hhk2 := Lib.hid hk2; clear hk2
              go_wp2
              all_goals ((refine wp_region_from wr (by repeat (first | (with_reducible exact Ext.refl _) | (with_reducible refine Ext.drewN ?_ _) | (with_reducible refine Ext.drew ?_) | (with_reducible refine Ext.alloc ?_ _) | ((with_reducible refine Ext.setCell ?_ ?_ _); rotate_left; focus (first | (simp; done) | (simp; omega) | omega)) | assumption | (with_reducible refine Ext.trans ?_ (by assumption)))) (by kernel_rfl) (by kernel_rfl) (seqB_of (by kernel_rfl)) ?_; (repeat (first | (refine mix_q rfl ?_; go_big_quiet_step (fail); refine wpQuiet_nil ?_; show wpMix _ _ _ _ _ _ _) | (refine mix_s rfl ?_; go_wp2_with (fail); first | refine ⟨up_of (by repeat (first | (with_reducible exact Ext.refl _) | (with_reducible refine Ext.drewN ?_ _) | (with_reducible refine Ext.drew ?_) | (with_reducible refine Ext.alloc ?_ _) | ((with_reducible refine Ext.setCell ?_ ?_ _); rotate_left; focus (first | (simp; done) | (simp; omega) | omega)) | assumption | (with_reducible refine Ext.trans ?_ (by assumption)))), ?_⟩ | refine ⟨rfl, rfl, up_of (by repeat (first | (with_reducible exact Ext.refl _) | (with_reducible refine Ext.drewN ?_ _) | (with_reducible refine Ext.drew ?_) | (with_reducible refine Ext.alloc ?_ _) | ((with_reducible refine Ext.setCell ?_ ?_ _); rotate_left; focus (first | (simp; done) | (simp; omega) | omega)) | assumption | (with_reducible refine Ext.trans ?_ (by assumption)))), ?_⟩))); refine mix_nil ?_); go_wp2)
              all_goals (
                refine ⟨⟨k, (k : Int) - 1, updL H (P0 + k) ?vx3, by omega, by omega, rfl, ?ownx3, ?fex3, ?extx3⟩, by simp [intOf]⟩
                case ownx3 => first | exact own_fl_set Hho.out | exact (own_fl_set Hho.out).drew | exact (own_fl_set Hho.out).drew.drew | exact own_fl_set Hho.out.drew
                case fex3 =>
                  refine FlatE.step' Hhfe.out HP0.out hkm ?_
                  have c0 := HC.out; have c1 := Hhk2.out
                  first | omega | (split <;> omega) | (split <;> (try split) <;> omega) | (split <;> (try split) <;> (try split) <;> omega)
                case extx3 => first | exact Ext.setCell hxq hgw _ | exact (Ext.setCell hxq hgw _).drew | exact (Ext.setCell hxq hgw _).drew.drew)
          · have hi2 : i = a.size := by omega
            have HC := Lib.hid (cst_end1 a b (i := i) k (by omega))
            have Hhi2 := Lib.hid hi2; clear hi2
            go_wp2
            all_goals ((refine wp_region_from wr (by repeat (first | (with_reducible exact Ext.refl _) | (with_reducible refine Ext.drewN ?_ _) | (with_reducible refine Ext.drew ?_) | (with_reducible refine Ext.alloc ?_ _) | ((with_reducible refine Ext.setCell ?_ ?_ _); rotate_left; focus (first | (simp; done) | (simp; omega) | omega)) | assumption | (with_reducible refine Ext.trans ?_ (by assumption)))) (by kernel_rfl) (by kernel_rfl) (seqB_of (by kernel_rfl)) ?_; (repeat (first | (refine mix_q rfl ?_; go_big_quiet_step (fail); refine wpQuiet_nil ?_; show wpMix _ _ _ _ _ _ _) | (refine mix_s rfl ?_; go_wp2_with (fail); first | refine ⟨up_of (by repeat (first | (with_reducible exact Ext.refl _) | (with_reducible refine Ext.drewN ?_ _) | (with_reducible refine Ext.drew ?_) | (with_reducible refine Ext.alloc ?_ _) | ((with_reducible refine Ext.setCell ?_ ?_ _); rotate_left; focus (first | (simp; done) | (simp; omega) | omega)) | assumption | (with_reducible refine Ext.trans ?_ (by assumption)))), ?_⟩ | refine ⟨rfl, rfl, up_of (by repeat (first | (with_reducible exact Ext.refl _) | (with_reducible refine Ext.drewN ?_ _) | (with_reducible refine Ext.drew ?_) | (with_reducible refine Ext.alloc ?_ _) | ((with_reducible refine Ext.setCell ?_ ?_ _); rotate_left; focus (first | (simp; done) | (simp; omega) | omega)) | assumption | (with_reducible refine Ext.trans ?_ (by assumption)))), ?_⟩))); refine mix_nil ?_); go_wp2)
            all_goals (
              refine ⟨⟨k, (k : Int) - 1, updL H (P0 + k) ?vx4, by omega, by omega, rfl, ?ownx4, ?fex4, ?extx4⟩, by simp [intOf]⟩
              case ownx4 => first | exact own_fl_set Hho.out | exact (own_fl_set Hho.out).drew | exact (own_fl_set Hho.out).drew.drew | exact own_fl_set Hho.out.drew
              case fex4 =>
                refine FlatE.step' Hhfe.out HP0.out hkm ?_
                have c0 := HC.out; have c1 := Hhi2.out
                first | omega | (split <;> omega) | (split <;> (try split) <;> omega) | (split <;> (try split) <;> (try split) <;> omega)
              case extx4 => first | exact Ext.setCell hxq hgw _ | exact (Ext.setCell hxq hgw _).drew | exact (Ext.setCell hxq hgw _).drew.drew)
        · have hi0 : hi = 0 := by omega
          subst hi0
          have HD := Lib.hid (Hhfe.out.down)
          have h2 : z < 0 := by omega
          have HZ := Lib.hid hz
          clear hz
          go_wp2
          exact ⟨⟨i, (i : Int) - 1, H, by omega, by omega, rfl, Hho.out, HD.out, hxr⟩, by simp [intOf]⟩
    · have hl0 : lo = 0 := by omega
      subst hl0
      have h2 : z < 0 := by omega
      have HZ := Lib.hid hz
      clear hz
      go_wp2
      go_ret
      exact ⟨g, H, rfl, Hho.out, Hhfr.out, hxr⟩
set_option maxHeartbeats 1000000 in
theorem spec_l10Far (a b : ByteArray) (w : World) (ha : a.size ≤ 64) (hb : b.size ≤ 64) :
    Calls Tryz.prog 42 #[.string a, .string b] w (Ret (.int .i64 (distS a b)) w) := by
  obtain ⟨tot, htot⟩ : ∃ t, (a.size + 1) * (b.size + 1) = t := ⟨_, rfl⟩
  have ht0 : 0 < tot := by rw [← htot]; exact Nat.mul_pos (by omega) (by omega)
  have HC := Lib.hid (spec_l06Costs a b tot w ha hb htot)
  clear htot
  go_enter Tryz.func42, Tryz.ntmps42
  go_wp2_with fail
  refine HC.out.mono ?_
  rintro e w1 ⟨g, H, rfl, ho, hfr, hx⟩
  obtain ⟨r1, r2, _⟩ := ho.at (P := Tryz.prog) 23 und_int64s cell_int64 0 ht0 .i64
  rw [fl_getD ht0] at r2
  have HD := Lib.hid (show H 0 = ((distS a b : Nat) : Int) by have := hfr 0 (Nat.le_refl _) (Nat.zero_le _) 0 (Nat.zero_le _); simpa [distS] using this)
  have r1' : ∀ w', (Instr.indexAt 23 (.slice (some ⟨g, 0, none⟩) tot tot) (.int .i64 0)).run Tryz.prog w' = .ok (.pointer (some ⟨g, 0, none⟩)) w' := r1
  clear r1 ho hfr
  go_wp2
  go_ret
  exact ⟨ri HD.out, hx⟩
end Go.Proofs.YthbdnkokklahcaaGreat
