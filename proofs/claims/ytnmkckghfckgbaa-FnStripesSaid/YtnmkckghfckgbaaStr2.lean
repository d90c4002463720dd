/- Walks: the stripes of digits, in the program. -/
import Derived.Test.YtnmkckghfckgbaaStr
namespace Go.Proofs.Ytnmkckghfckgbaa
set_option maxRecDepth 100000
open Go.RowKit

def stepD (D : Bc) (d : Int) : List Int := gapL D ++ elsL (gs D.pats d.toNat).data.toList
def joinL (D : Bc) (ds : List Int) : List Int := elsL D.start.data.toList ++ (ds.map (stepD D)).flatten
def stripesL (D : Bc) (ds : List Int) : List Int := joinL D ds ++ gapL D ++ elsL D.stop.data.toList
theorem joinL_zero (D : Bc) (ds : List Int) : joinL D (ds.take 0) = elsL D.start.data.toList := by simp [joinL]
theorem joinL_step (D : Bc) (ds : List Int) (k : Nat) (hk : k < ds.length) : joinL D (ds.take (k + 1)) = joinL D (ds.take k) ++ gapL D ++ elsL (gs D.pats (gi ds k).toNat).data.toList := by
  rw [take_snoc ds 0 k hk]
  unfold joinL stepD gi
  simp only [List.map_append, List.map_cons, List.map_nil, List.flatten_append, List.flatten_cons, List.flatten_nil, List.append_nil, List.append_assoc]
theorem gapL_len (D : Bc) : (gapL D).length ≤ 1 := by unfold gapL; split <;> simp
/-- digits of the barcode's patterns -/
def DigB (D : Bc) (ds : List Int) : Prop := ∀ d ∈ ds, 0 ≤ d ∧ d.toNat < D.pats.length
theorem joinL_len {D : Bc} (hok : OkBc D) {ds : List Int} (hd : DigB D ds) : (joinL D ds).length ≤ 10 + 11 * ds.length := by
  have h0 := (patB_t hok.start).2.2.1
  have h1 : ∀ ds : List Int, DigB D ds → ((ds.map (stepD D)).flatten).length ≤ 11 * ds.length := by
    intro ds
    induction ds with
    | nil => simp
    | cons d ds ih =>
      intro hd
      have h2 := ih fun x hx => hd x (List.mem_cons_of_mem _ hx)
      have h3 := hd d (List.mem_cons_self ..)
      have h4 := hok.size d.toNat h3.2
      have h5 := hok.s10
      have h6 := gapL_len D
      simp only [List.map_cons, List.flatten_cons, List.length_append, List.length_cons, stepD, elsL_len, size_eq]
      omega
  have := h1 ds hd
  unfold joinL
  rw [List.length_append, elsL_len, size_eq]
  omega
theorem DigB.take {D : Bc} {ds : List Int} (h : DigB D ds) (k : Nat) : DigB D (ds.take k) := fun d hd => h d (List.mem_of_mem_take hd)
theorem DigB.at {D : Bc} {ds : List Int} (h : DigB D ds) {k : Nat} (hk : k < ds.length) : 0 ≤ gi ds k ∧ (gi ds k).toNat < D.pats.length := h _ (by unfold gi; exact getD_mem ds 0 k hk)

set_option maxHeartbeats 2000000 in
theorem impl_stripes (D : Bc) (p : Nat) (a : Option Addr) (n c : Nat) (b : Option Addr) (m d : Nat) (ds : List Int) (w : World) (hv : BcAt w p D a n c) (hok : OkBc D) (hD : DigB D ds) (hi : Ints w b m d ds) (hm : m ≤ 64) :
    Calls Try.prog 70 #[.pointer (some ⟨p, 0, none⟩), .slice b m d] w (RetOwn 2 (I (stripesL D ds)) w) := by
  obtain ⟨q0, q1, q2, q3, hps⟩ := id hv
  have HV := Lib.hid hv
  have HL := Lib.hid hi.len
  obtain ⟨b1, off, hix, hcell⟩ := hi.ix (P := Try.prog) 36 2 und_int64s cell_int64
  obtain ⟨pb1, poff, hpix, hpcell⟩ := hps.ix (P := Try.prog) 22 9 und_strings cell_string
  have h0 := patB_t hok.start
  have hs0 : D.start.size ≤ 1048576 := by omega
  have hc0 := h0.1
  have hp0 := patB_t hok.stop
  have HhpsN := Lib.hid hps.len
  have hokC : ∀ k, k < D.pats.length → 1 ≤ (gs D.pats k).size ∧ (gs D.pats k).size ≤ 1048576 ∧ charsB (gs D.pats k).data.toList = true := fun k hk => by
    have h1 := hok.size k hk; have h2 := hok.s1; have h3 := hok.s10; exact ⟨by omega, by omega, hok.chars k hk⟩
  have HhokC := Lib.hid hokC; clear hokC; have Hhok := Lib.hid hok; clear hok; have HhD := Lib.hid hD; clear hD; have Hhi := Lib.hid hi; clear hi; have Hhps := Lib.hid hps; clear hps; have Hhv := Lib.hid hv; clear hv; have Hhp0 := Lib.hid hp0; clear hp0; have Hh0 := Lib.hid h0; clear h0
  go_enter Try.func70, Try.ntmps70
  go_wp2_with (go_at_call 53; refine (impl_elements D.start _ hs0 hc0).mono ?_; rintro e w1 ⟨ad0, cc0, rfl, ho0, hx0⟩)
  have hq : w.heap.size ≤ w1.heap.size := by have := hx0.le; simp at this; omega
  have J0 : JInv D w p w.heap.size w1.heap.size (joinL D (ds.take 0)) (w1.alloc (.cells #[.slice ad0 (I (elsL D.start.data.toList)).length cc0] 36)) := by
    have hw : Ext w w1 := ((Ext.refl w).alloc _).trans hx0
    rw [joinL_zero]
    refine ⟨hw.alloc _, ?_, ad0, _, cc0, VarAt.new _ _ _, by rw [I_len], (ho0.mono (by simp)).ext ((Ext.refl _).alloc _)⟩
    exact ((VarAt.new w _ _).ext hx0).ext ((Ext.refl _).alloc _)
  have HQ := Lib.hid hq
  have HJ0 := Lib.hid J0
  clear ho0 hx0 J0 hq
  generalize w1.alloc (.cells #[.slice ad0 (I (elsL D.start.data.toList)).length cc0] 36) = w2 at *
  generalize w1.heap.size = q at *
  obtain ⟨pb, hpb⟩ : ∃ x, x = w.heap.size := ⟨_, rfl⟩
  rw [← hpb] at HJ0 ⊢
  clear hpb
  trace_state
  go_loopw [17] (fun i wr => ∃ k : Nat, k ≤ m ∧ i = .int .i64 k ∧ JInv D w p pb q (joinL D (ds.take k)) wr) (fun i _ => m - (intOf i).toNat)
  case atStart => exact ⟨0, Nat.zero_le _, rfl, HJ0.out⟩
  case round =>
    obtain ⟨k, hk, rfl, hj⟩ := hrel
    have hxr := hj.ext
    have hvb := hj.vb.cell
    have HJ := Lib.hid hj
    clear hj
    by_cases hlt : k < m
    · obtain ⟨hd0, hd1⟩ := HhD.out.at (k := k) (by rw [HL.out]; exact hlt)
      rw [HhpsN.out] at hd1
      have hd2 : gi ds k < n := by omega
      have HG := Lib.hid (joinL_step D ds k (by rw [HL.out]; exact hlt))
      have hgs := HhokC.out (gi ds k).toNat (by rw [HhpsN.out]; omega)
      obtain ⟨hg1, hg2, hg3⟩ := hgs
      have hjl : (joinL D (ds.take k)).length ≤ 1048576 := by
        have := joinL_len Hhok.out (HhD.out.take k)
        rw [List.length_take] at this
        omega
      have Hhjl := Lib.hid hjl; clear hjl; have Hhg1 := Lib.hid hg1; clear hg1; have Hhg2 := Lib.hid hg2; clear hg2; have Hhg3 := Lib.hid hg3; clear hg3
      go_wp2_with (go_at_call 107; refine (join1 D w p pb q a n c (joinL D (ds.take k)) (gs D.pats (gi ds k).toNat) wr Hhv.out HJ.out HQ.out Hhg1.out Hhg2.out Hhg3.out Hhjl.out).mono ?_; rintro e w3 ⟨rfl, hj3⟩)
      rw [← HG.out] at hj3
      exact ⟨⟨k + 1, by omega, by go_num, hj3⟩, by simp [intOf]; omega⟩
    · have hkm : k = m := by omega
      subst hkm
      have h9 := HJ.out
      rw [take_full (by rw [HL.out]; omega)] at h9
      have HJ9 := Lib.hid h9
      clear h9
      obtain ⟨hp1, hp2, hp3, _⟩ := Hhp0.out
      have hjl : (joinL D ds).length ≤ 1048576 := by
        have := joinL_len Hhok.out HhD.out
        rw [HL.out] at this
        omega
      have Hhjl := Lib.hid hjl; clear hjl; have Hhp1 := Lib.hid hp1; clear hp1; have Hhp2 := Lib.hid hp2; clear hp2; have Hhp3 := Lib.hid hp3; clear hp3
      go_wp2_with (go_at_call 107; refine (join1 D w p pb q a n c (joinL D ds) D.stop wr Hhv.out HJ9.out HQ.out Hhp2.out (by have := Hhp3.out; omega) Hhp1.out Hhjl.out).mono ?_; rintro e w3 ⟨rfl, hj3⟩; obtain ⟨hx3, hvb3, ad3, k3, c3, hvq3, hk3, ho3⟩ := hj3; have hq3 := hvq3.cell; have Hhk3 := Lib.hid hk3; clear hk3)
      go_ret
      exact RetOwn.mk ho3 (Hhk3.out).symm hx3
end Go.Proofs.Ytnmkckghfckgbaa
