/- Walks: the well known chain with two moduli, by what the call that makes it returns; weights whose multiples are taken as remainders. -/
import Derived.Test.YtaiieodllhoelaaKnE
namespace Go.Proofs.Ytaiieodllhoelaa
set_option maxRecDepth 100000
open Go.RowKit

set_option maxHeartbeats 4000000 in
theorem impl_Known4 (n : Nat) (w : World) (h0 : 2 ≤ n) (h1 : n ≤ 6) (HLu' : ∀ W, Calls Try.prog 131 #[.int .i64 n] W (RetChO (hybCh n) W)) : Calls Try.prog 62 #[.int .i64 4, .int .i64 n] w (RetChB (hybCh n) w) := by
  have HPw := Lib.hid (fun W => impl_power 10 1000000000000000 n W (by omega) (by omega) (by omega) (by omega) (by omega))
  rw [show decide ((10 : Int) ^ n ≤ 1000000000000000) = true from decide_eq_true (by have := (luh_ok (n := n) (by omega) (by omega)).pw; rwa [luhL_len] at this)] at HPw
  have HIn := Lib.hid (fun W => impl_in (n : Int) 1 20 W)
  rw [show inB (n : Int) 1 20 = true from inB_t.2 (by omega)] at HIn
  have HKb := Lib.hid (fun W => impl_knownBase 4 (by omega) (by omega) W)
  rw [show knB 4 = 10 from rfl] at HKb
  have HLu := Lib.hid HLu'
  clear HLu'
  go_enter Try.func62, Try.ntmps62
  go_wp2_with (first | ((with_reducible refine (HKb.out _).mono ?_); rintro e w1 ⟨rfl, rfl⟩) | ((with_reducible refine (HIn.out _).mono ?_); rintro e w1 ⟨rfl, rfl⟩) | ((with_reducible refine (HPw.out _).mono ?_); rintro e w1 ⟨rfl, rfl⟩))
  obtain ⟨g, hg⟩ : ∃ g, g = w.heap.size := ⟨_, rfl⟩
  obtain ⟨wz, hwz⟩ : ∃ W, W = (w.alloc (.cells #[.int .i64 0, .int .i64 0, .int .i64 0, .int .i64 0, .slice none 0 0, .slice none 0 0] 27)).alloc (.cells #[.int .i64 10, .int .i64 10, .int .i64 0, .slice none 0 0] 72) := ⟨_, rfl⟩
  have hxz : Ext w wz := by rw [hwz]; exact (by repeat (first | (with_reducible exact Ext.refl _) | (with_reducible refine Ext.drewN ?_ _) | (with_reducible refine Ext.drew ?_) | (with_reducible refine Ext.alloc ?_ _) | ((with_reducible refine Ext.setCell ?_ ?_ _); rotate_left; focus (first | (simp; done) | (simp; omega) | omega)) | assumption | (with_reducible refine Ext.trans ?_ (by assumption))))
  have HZ := Lib.hid (show SAt wz g 27 #[.int .i64 0, .int .i64 0, .int .i64 0, .int .i64 0, .slice none 0 0, .slice none 0 0] from by rw [hwz, hg]; exact (SAt.new' w #[.int .i64 0, .int .i64 0, .int .i64 0, .int .i64 0, .slice none 0 0, .slice none 0 0] 27 rfl).alloc _)
  have hgw : w.heap.size ≤ g := by omega
  have hgz : g < wz.heap.size := HZ.out.lt
  rw [← hwz, ← hg]
  clear hwz hg
  go_wp2_with ((with_reducible refine (HLu.out _).mono ?_); rintro e w8 ⟨a8, x8, d8, b8, y8, g8, rfl, hch, hy8⟩; have hx8 : Ext w w8 := Ext.trans hxz hy8; have HCh := Lib.hid hch; have HZ8 := Lib.hid (HZ.out.ext hy8); have z0 := HZ8.out.cell 0 (by simp); have z1 := HZ8.out.cell 1 (by simp); have z2 := HZ8.out.cell 2 (by simp); have z3 := HZ8.out.cell 3 (by simp); have z4 := HZ8.out.cell 4 (by simp); have z5 := HZ8.out.cell 5 (by simp); have fr := fun j => HZ8.out.frozen j; have hltz := HZ8.out.lt; (try simp only [List.getElem_toArray, List.getElem_cons_succ, List.getElem_cons_zero] at z0 z1 z2 z3 z4 z5); clear hch)
  generalize hDD : hybCh n = DD at *
  refine bodyPost_ret (v := .tuple #[.agg #[.int .i64 DD.base, .int .i64 DD.states, .int .i64 DD.start, .int .i64 DD.fin, .slice a8 x8 d8, .slice b8 y8 g8], .bool true]) ?_ rfl ?_
  · simp [results, Try.results62, go_sem, z0, z1, z2, z3, z4, z5]
  · refine ⟨a8, x8, d8, b8, y8, g8, rfl, HCh.out _ ?_, ?_⟩
    · repeat (first | with_reducible exact KeepB.refl _ _ _ | (with_reducible refine KeepB.setB ?_ _ _ (Or.inl ?_); rotate_left; (focus (simp <;> omega))))
    · repeat (first | with_reducible exact hx8 | with_reducible refine Ext.setCell ?_ hgw _)
/-- the lists of the permuting chain of a weighting -/
def peL (X : Wt) : List (List Int) := X.weights.map fun x => (wgL X.base.toNat x).map (· % X.base)
theorem peL_gl {X : Wt} {p : Nat} (h : p < X.weights.length) : gl (peL X) p = (wgL X.base.toNat (gi X.weights p)).map (· % X.base) := by
  rw [gl_get (by rw [peL, List.length_map]; exact h)]
  simp only [peL, List.getElem_map, gi_get h]
theorem peL_ok {X : Wt} (h : validB X = true) (hm : X.modulus = X.base) : AddOk X.base X.base X.target (peL X) := by
  have h0 := validB_addOk h
  rw [hm] at h0
  have hb := h0.b2
  refine ⟨h0.b2, h0.b36, h0.m1, h0.m36, h0.t0, h0.t1, ?_, ?_, ?_, ?_, ?_⟩
  · have := h0.n1; rw [List.length_map] at this; rw [peL, List.length_map]; exact this
  · have := h0.n20; rw [List.length_map] at this; rw [peL, List.length_map]; exact this
  · have := h0.pw; rw [List.length_map] at this; rw [peL, List.length_map]; exact this
  · intro l hl
    obtain ⟨x, hx, rfl⟩ := List.mem_map.1 hl
    rw [List.length_map, wgL_len]; omega
  · intro l hl y hy
    obtain ⟨x, hx, rfl⟩ := List.mem_map.1 hl
    obtain ⟨z, hz, rfl⟩ := List.mem_map.1 hy
    have h1 := Int.emod_nonneg z (show X.base ≠ 0 by omega)
    have h2 := Int.emod_lt_of_pos z (show 0 < X.base by omega)
    have h3 := h0.b36
    omega
/-- both chains of a weighting step alike -/
theorem pe_next {X : Wt} (h : validB X = true) (hm : X.modulus = X.base) {p x d : Nat} (hp : p < X.weights.length) (hx : (x : Int) < X.base) (hd : (d : Int) < X.base) :
    nextS (addCh X.base X.base X.target (peL X)) p x d = nextS (wtCh X) p x d := by
  have h0 := validB_addOk h
  have hb := h0.b2
  unfold wtCh
  rw [addCh_next (peL_ok h hm) (by rw [peL, List.length_map]; exact hp) hx hd, addCh_next h0 (by rw [List.length_map]; exact hp) (by rw [hm]; exact hx) hd, peL_gl hp, hm]
  rw [gl_get (by rw [List.length_map]; exact hp), List.getElem_map, ← gi_get hp]
  have hl : d < (wgL X.base.toNat (gi X.weights p)).length := by rw [wgL_len]; omega
  rw [gi_get (by rw [List.length_map]; exact hl), List.getElem_map, ← gi_get hl, Int.add_emod_emod]
end Go.Proofs.Ytaiieodllhoelaa
