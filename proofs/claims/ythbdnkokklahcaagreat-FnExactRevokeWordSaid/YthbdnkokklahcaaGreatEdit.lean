/- Walks: edit distances, in the program. -/
import Derived.Test.YthbdnkokklahcaaGreatEditM
import Derived.Test.YthbdnkokklahcaaGreatGridP
namespace Go.Proofs.YthbdnkokklahcaaGreat
set_option maxRecDepth 100000
open Go.RowKit

theorem und_ns : Tryz.prog.underlying 106 = some (.slice 3) := by kernel_rfl
theorem und_nss : Tryz.prog.underlying 107 = some (.slice 106) := by kernel_rfl
theorem cell_n : Tryz.prog.cellsOf 3 = 1 := by kernel_rfl
theorem cell_ns : Tryz.prog.cellsOf 106 = 1 := by kernel_rfl
theorem info_n : (Tryz.prog.info? 3).map (fun i => (i.zero, i.size, i.bytes)) = some (some (.int .i64 0), 1, 8) := by kernel_rfl
theorem info_ns : (Tryz.prog.info? 106).map (fun i => (i.zero, i.size, i.bytes)) = some (some (.slice none 0 0), 1, 24) := by kernel_rfl
theorem impl_oneT (w : World) : Calls Tryz.prog 97 #[.bool true] w (Same (.int .i64 1) w) := by
  go_enter Tryz.func97, Tryz.ntmps97
  go_wp2
  go_ret
  exact ⟨rfl, rfl⟩
theorem impl_oneF (w : World) : Calls Tryz.prog 97 #[.bool false] w (Same (.int .i64 0) w) := by
  go_enter Tryz.func97, Tryz.ntmps97
  go_wp2
  go_ret
  exact ⟨rfl, rfl⟩
/-- the rows from lo on are reckoned -/
def RowsE (a b : ByteArray) (lo : Nat) (F : Nat → Nat → Int) : Prop := ∀ j, lo ≤ j → j ≤ a.size → ∀ y, y ≤ b.size → F j y = ((cst a b j y : Nat) : Int)
def RowE (a b : ByteArray) (i hi : Nat) (F : Nat → Nat → Int) : Prop := ∀ y, hi ≤ y → y ≤ b.size → F i y = ((cst a b i y : Nat) : Int)
theorem RowsE.lay {a b : ByteArray} {i : Nat} {F : Nat → Nat → Int} (h : RowsE a b (i + 1) F) : RowsE a b (i + 1) (fun j y => if j = i then 0 else F j y) := fun j h1 h2 y hy => by
  show (if j = i then 0 else F j y) = _
  rw [if_neg (by omega)]; exact h j h1 h2 y hy
theorem RowsE.upd {a b : ByteArray} {i x : Nat} {v : Int} {F : Nat → Nat → Int} (h : RowsE a b (i + 1) F) : RowsE a b (i + 1) (upd F i x v) := fun j h1 h2 y hy => by rw [upd_row (by omega)]; exact h j h1 h2 y hy
theorem RowE.step {a b : ByteArray} {i k : Nat} {v : Int} {F : Nat → Nat → Int} (h : RowE a b i (k + 1) F) (hv : v = ((cst a b i k : Nat) : Int)) : RowE a b i k (Go.Proofs.YthbdnkokklahcaaGreat.upd F i k v) := fun y h1 h2 => by
  by_cases e : y = k
  · subst e; rw [upd_same, hv]
  · rw [upd_col e]; exact h y (by omega) h2
theorem RowsE.down {a b : ByteArray} {i : Nat} {F : Nat → Nat → Int} (h : RowsE a b (i + 1) F) (h2 : RowE a b i 0 F) : RowsE a b i F := fun j h1 h3 y hy => by
  rcases Nat.eq_or_lt_of_le h1 with rfl | h1
  · exact h2 y (Nat.zero_le _) hy
  · exact h j h1 h3 y hy
def RetCosts (a b : ByteArray) (w : World) (e : Ending) (w' : World) : Prop :=
  ∃ g vs F G, e = .returned (.slice (some ⟨g, 0, none⟩) (a.size + 1) (a.size + 1)) ∧ GridP w' w.heap.size 106 3 g (a.size + 1) (a.size + 1) (b.size + 1) 0 vs F G ∧ RowsE a b 0 F ∧ Ext w w'
set_option maxHeartbeats 8000000 in
theorem impl_costs (a b : ByteArray) (w : World) (ha : a.size ≤ 64) (hb : b.size ≤ 64) :
    Calls Tryz.prog 92 #[.string a, .string b, .bool false] w (RetCosts a b w) := by
  go_enter Tryz.func92, Tryz.ntmps92
  go_wp2_with (at_make; refine law_make _ rfl _ _ 107 rfl 106 (.slice none 0 0) 24 und_nss info_ns rfl _ _ (a.size + 1) rfl rfl (by omega) (by unfold maxLen; omega) ?_; intro w1 hown hx hsz)
  obtain ⟨g, hg⟩ : ∃ g, g = w.heap.size := ⟨_, rfl⟩
  rw [← hg] at hown ⊢
  have hgw : w.heap.size ≤ g := by omega
  have Hhown := Lib.hid hown; clear hown; have Hhg := Lib.hid hg; clear hg
  clear hsz
  go_wp2
  go_loopw [8] (fun v wr => ∃ (lo : Nat) (z : Int) (vs : List Value) (F : Nat → Nat → Int) (G : Nat → Nat), lo ≤ a.size + 1 ∧ z + 1 = lo ∧ v = .int .i64 z ∧ GridP wr w.heap.size 106 3 g (a.size + 1) (a.size + 1) (b.size + 1) lo vs F G ∧ RowsE a b lo F ∧ Ext w wr) (fun v _ => (intOf v + 1).toNat)
  case atStart => exact ⟨a.size + 1, a.size, _, fun _ _ => 0, fun _ => 0, Nat.le_refl _, by omega, rfl, ⟨Hhown.out.mono (by rw [Hhg.out]; exact Nat.le_refl _), (fun j h1 h2 => by omega), (fun j h1 h2 => by omega), (fun j j' h1 h2 => by omega)⟩, (fun j h1 h2 => by omega), hx⟩
  case round =>
    obtain ⟨lo, z, vs, F, G, hlo, hz, rfl, hgp, hre, hxr⟩ := hrel
    have Hhgp := Lib.hid hgp; clear hgp; have Hhre := Lib.hid hre; clear hre
    have hxq : Ext w wr := hxr
    by_cases h0 : 0 ≤ z
    · obtain ⟨i, rfl⟩ := Int.eq_ofNat_of_zero_le h0
      obtain rfl : lo = i + 1 := by omega
      have hin : i < a.size + 1 := by omega
      clear hz h0
      go_wp2_with (at_make; refine law_make _ rfl _ _ 106 rfl 3 (.int .i64 0) 8 und_ns info_n rfl _ _ (b.size + 1) rfl rfl (by omega) (by unfold maxLen; omega) ?_; intro w5 hown5 hx5 hsz5; obtain ⟨hia5, hce5, hfr5⟩ := (Hhgp.out.outer.ext hx5).at (P := Tryz.prog) 107 und_nss cell_ns i hin .i64; obtain ⟨y5, hy5⟩ : ∃ y, y = vs.getD i undef := ⟨_, rfl⟩; rw [← hy5] at hce5; have HO5 := Lib.hid hown5; clear hown5 hy5 hsz5)
      have HG5 := Lib.hid (GridP.lay Hhgp.out hx5 HO5.out hin hxr.le (by decide))
      have HR5 := Lib.hid (Hhre.out.lay)
      have hxw5 : Ext w (w5.setCell ⟨g, i, none⟩ (.slice (some ⟨wr.heap.size, 0, none⟩) (b.size + 1) (b.size + 1))) := Ext.setCell (hxr.trans hx5) hgw _
      clear hia5 hce5 hfr5
      generalize w5.setCell ⟨g, i, none⟩ (.slice (some ⟨wr.heap.size, 0, none⟩) (b.size + 1) (b.size + 1)) = w6 at *
      generalize (fun j => if j = i then wr.heap.size else G j) = G6 at *
      generalize vs.set i (.slice (some ⟨wr.heap.size, 0, none⟩) (b.size + 1) (b.size + 1)) = vs6 at *
      go_loopw [9] (fun v wr => ∃ (hi : Nat) (z : Int) (F : Nat → Nat → Int), hi ≤ b.size + 1 ∧ z + 1 = hi ∧ v = .int .i64 z ∧ GridP wr w.heap.size 106 3 g (a.size + 1) (a.size + 1) (b.size + 1) i vs6 F G6 ∧ RowsE a b (i + 1) F ∧ RowE a b i hi F ∧ Ext w wr) (fun v _ => (intOf v + 1).toNat)
      case atStart => exact ⟨b.size + 1, b.size, _, Nat.le_refl _, by omega, rfl, HG5.out, HR5.out, (fun y h1 h2 => by omega), hxw5⟩
      case round =>
        obtain ⟨hi, z, F, hhi, hz, rfl, hgp, hre, hrw, hxr⟩ := hrel
        have Hhgp := Lib.hid hgp; clear hgp; have Hhre := Lib.hid hre; clear hre; have Hhrw := Lib.hid hrw; clear hrw
        have hxq : Ext w wr := hxr
        by_cases h0 : 0 ≤ z
        · obtain ⟨k, rfl⟩ := Int.eq_ofNat_of_zero_le h0
          obtain rfl : hi = k + 1 := by omega
          have hkm : k < b.size + 1 := by omega
          clear hz h0
          obtain ⟨bs, os, s1, s2, s3, s4, s5⟩ := Hhgp.out.one (P := Tryz.prog) 107 106 und_nss cell_ns und_ns cell_n (i := i) (x := k) (Nat.le_refl _) hin hkm
          have hgG := (Hhgp.out.ge (k := i) (Nat.le_refl _) hin).1
          by_cases hi1 : i < a.size
          · obtain ⟨bp, op, p1, p2, p3, p4, _⟩ := Hhgp.out.one (P := Tryz.prog) 107 106 und_nss cell_ns und_ns cell_n (i := i + 1) (x := k) (by omega) (by omega) (by omega)
            have pa : ∀ (K : IntKind) (w' : World), (Instr.indexAt 107 (.slice (some ⟨g, 0, none⟩) (a.size + 1) (a.size + 1)) (.int K ((i : Int) + 1))).run Tryz.prog w' = .ok (.pointer (some ⟨bp, op, none⟩)) w' := p1
            have Hp := Lib.hid (Hhre.out (i + 1) (Nat.le_refl _) (by omega) (k) (by omega))
            obtain ⟨pl, pu⟩ : 0 ≤ F (i + 1) (k) ∧ F (i + 1) (k) ≤ 128 := by rw [Hp.out]; have := cst_le a b (i + 1) (k); omega
            by_cases hk1 : k < b.size
            · obtain ⟨bq, oq, q1, q2, q3, q4, _⟩ := Hhgp.out.one (P := Tryz.prog) 107 106 und_nss cell_ns und_ns cell_n (i := i) (x := k + 1) (by omega) (by omega) (by omega)
              have qb : ∀ (K : IntKind) (w' : World), (Instr.indexAt 106 (.slice (some ⟨G6 (i), 0, none⟩) (b.size + 1) (b.size + 1)) (.int K ((k : Int) + 1))).run Tryz.prog w' = .ok (.pointer (some ⟨G6 (i), k + 1, none⟩)) w' := q3
              have Hq := Lib.hid (Hhrw.out (k + 1) (by omega) (by omega))
              obtain ⟨ql, qu⟩ : 0 ≤ F (i) (k + 1) ∧ F (i) (k + 1) ≤ 128 := by rw [Hq.out]; have := cst_le a b (i) (k + 1); omega
              obtain ⟨br, or, r1, r2, r3, r4, _⟩ := Hhgp.out.one (P := Tryz.prog) 107 106 und_nss cell_ns und_ns cell_n (i := i + 1) (x := k + 1) (by omega) (by omega) (by omega)
              have ra : ∀ (K : IntKind) (w' : World), (Instr.indexAt 107 (.slice (some ⟨g, 0, none⟩) (a.size + 1) (a.size + 1)) (.int K ((i : Int) + 1))).run Tryz.prog w' = .ok (.pointer (some ⟨br, or, none⟩)) w' := r1
              have rb : ∀ (K : IntKind) (w' : World), (Instr.indexAt 106 (.slice (some ⟨G6 (i + 1), 0, none⟩) (b.size + 1) (b.size + 1)) (.int K ((k : Int) + 1))).run Tryz.prog w' = .ok (.pointer (some ⟨G6 (i + 1), k + 1, none⟩)) w' := r3
              have Hr := Lib.hid (Hhre.out (i + 1) (Nat.le_refl _) (by omega) (k + 1) (by omega))
              obtain ⟨rl, ru⟩ : 0 ≤ F (i + 1) (k + 1) ∧ F (i + 1) (k + 1) ≤ 128 := by rw [Hr.out]; have := cst_le a b (i + 1) (k + 1); omega
              have HV := Lib.hid (cst_impl a b hi1 hk1)

              by_cases hab : a[i] = b[k]
              · have hbb : ((a[i].toNat : Int) != (b[k].toNat : Int)) = false := by rw [hab]; simp
                rw [if_pos hab] at HV
                clear hab
                go_wp2
                all_goals ((refine wp_region_from wr (by repeat (first | (with_reducible exact Ext.refl _) | (with_reducible refine Ext.drewN ?_ _) | (with_reducible refine Ext.drew ?_) | (with_reducible refine Ext.alloc ?_ _) | ((with_reducible refine Ext.setCell ?_ ?_ _); rotate_left; focus (first | (simp; done) | (simp; omega) | omega)) | assumption | (with_reducible refine Ext.trans ?_ (by assumption)))) (by kernel_rfl) (by kernel_rfl) (by kernel_rfl) ?_; (repeat (first | (refine mix_q rfl ?_; go_big_quiet_step (fail); refine wpQuiet_nil ?_; show wpMix _ _ _ _ _ _ _) | (refine mix_s rfl ?_; go_wp2_with (((with_reducible refine (impl_oneF _).mono ?_); rintro e w4 ⟨rfl, rfl⟩)); first | refine ⟨up_of (by repeat (first | (with_reducible exact Ext.refl _) | (with_reducible refine Ext.drewN ?_ _) | (with_reducible refine Ext.drew ?_) | (with_reducible refine Ext.alloc ?_ _) | ((with_reducible refine Ext.setCell ?_ ?_ _); rotate_left; focus (first | (simp; done) | (simp; omega) | omega)) | assumption | (with_reducible refine Ext.trans ?_ (by assumption)))), ?_⟩ | refine ⟨rfl, rfl, up_of (by repeat (first | (with_reducible exact Ext.refl _) | (with_reducible refine Ext.drewN ?_ _) | (with_reducible refine Ext.drew ?_) | (with_reducible refine Ext.alloc ?_ _) | ((with_reducible refine Ext.setCell ?_ ?_ _); rotate_left; focus (first | (simp; done) | (simp; omega) | omega)) | assumption | (with_reducible refine Ext.trans ?_ (by assumption)))), ?_⟩))); refine mix_nil ?_); go_wp2; all_goals (exact ⟨⟨k, (k : Int) - 1, _, by omega, by omega, rfl, (Hhgp.out.set (Nat.le_refl _) hin hkm _ (by decide)).ext (Ext.refl _).drew, Hhre.out.upd, RowE.step Hhrw.out (by have e0 := HV.out; have e1 := Hp.out; have e2 := Hq.out; have e3 := Hr.out; first | omega | (split <;> omega) | (split <;> (try split) <;> omega)), (Ext.setCell hxq hgG _).drew⟩, by simp [intOf]⟩))
              · have hbb : ((a[i].toNat : Int) != (b[k].toNat : Int)) = true := by simpa using (fun h => hab (UInt8.toNat_inj.1 (by omega)))
                rw [if_neg hab] at HV
                clear hab
                go_wp2
                all_goals ((refine wp_region_from wr (by repeat (first | (with_reducible exact Ext.refl _) | (with_reducible refine Ext.drewN ?_ _) | (with_reducible refine Ext.drew ?_) | (with_reducible refine Ext.alloc ?_ _) | ((with_reducible refine Ext.setCell ?_ ?_ _); rotate_left; focus (first | (simp; done) | (simp; omega) | omega)) | assumption | (with_reducible refine Ext.trans ?_ (by assumption)))) (by kernel_rfl) (by kernel_rfl) (by kernel_rfl) ?_; (repeat (first | (refine mix_q rfl ?_; go_big_quiet_step (fail); refine wpQuiet_nil ?_; show wpMix _ _ _ _ _ _ _) | (refine mix_s rfl ?_; go_wp2_with (((with_reducible refine (impl_oneT _).mono ?_); rintro e w4 ⟨rfl, rfl⟩)); first | refine ⟨up_of (by repeat (first | (with_reducible exact Ext.refl _) | (with_reducible refine Ext.drewN ?_ _) | (with_reducible refine Ext.drew ?_) | (with_reducible refine Ext.alloc ?_ _) | ((with_reducible refine Ext.setCell ?_ ?_ _); rotate_left; focus (first | (simp; done) | (simp; omega) | omega)) | assumption | (with_reducible refine Ext.trans ?_ (by assumption)))), ?_⟩ | refine ⟨rfl, rfl, up_of (by repeat (first | (with_reducible exact Ext.refl _) | (with_reducible refine Ext.drewN ?_ _) | (with_reducible refine Ext.drew ?_) | (with_reducible refine Ext.alloc ?_ _) | ((with_reducible refine Ext.setCell ?_ ?_ _); rotate_left; focus (first | (simp; done) | (simp; omega) | omega)) | assumption | (with_reducible refine Ext.trans ?_ (by assumption)))), ?_⟩))); refine mix_nil ?_); go_wp2; all_goals (exact ⟨⟨k, (k : Int) - 1, _, by omega, by omega, rfl, (Hhgp.out.set (Nat.le_refl _) hin hkm _ (by decide)).ext (Ext.refl _).drew, Hhre.out.upd, RowE.step Hhrw.out (by have e0 := HV.out; have e1 := Hp.out; have e2 := Hq.out; have e3 := Hr.out; first | omega | (split <;> omega) | (split <;> (try split) <;> omega)), (Ext.setCell hxq hgG _).drew⟩, by simp [intOf]⟩))
            · have hk2 : k = b.size := by omega
              have HV := Lib.hid (cst_impl1 a b hi1 hk2)
              have Hhk2 := Lib.hid hk2; clear hk2
              go_wp2
              all_goals exact ⟨⟨k, (k : Int) - 1, _, by omega, by omega, rfl, Hhgp.out.set (Nat.le_refl _) hin hkm _ (by decide), Hhre.out.upd, RowE.step Hhrw.out (by have e0 := HV.out; have e1 := Hp.out; have e2 := Hhk2.out; first | omega | (split <;> omega) | (split <;> (try split) <;> omega)), Ext.setCell hxq hgG _⟩, by simp [intOf]⟩
          · have hi2 : i = a.size := by omega
            by_cases hk1 : k < b.size
            · obtain ⟨bq, oq, q1, q2, q3, q4, _⟩ := Hhgp.out.one (P := Tryz.prog) 107 106 und_nss cell_ns und_ns cell_n (i := i) (x := k + 1) (by omega) (by omega) (by omega)
              have qb : ∀ (K : IntKind) (w' : World), (Instr.indexAt 106 (.slice (some ⟨G6 (i), 0, none⟩) (b.size + 1) (b.size + 1)) (.int K ((k : Int) + 1))).run Tryz.prog w' = .ok (.pointer (some ⟨G6 (i), k + 1, none⟩)) w' := q3
              have Hq := Lib.hid (Hhrw.out (k + 1) (by omega) (by omega))
              obtain ⟨ql, qu⟩ : 0 ≤ F (i) (k + 1) ∧ F (i) (k + 1) ≤ 128 := by rw [Hq.out]; have := cst_le a b (i) (k + 1); omega
              have HV := Lib.hid (cst_impl2 a b hi2 hk1)
              have Hhi2 := Lib.hid hi2; clear hi2
              go_wp2
              all_goals exact ⟨⟨k, (k : Int) - 1, _, by omega, by omega, rfl, Hhgp.out.set (Nat.le_refl _) hin hkm _ (by decide), Hhre.out.upd, RowE.step Hhrw.out (by have e0 := HV.out; have e1 := Hq.out; have e2 := Hhi2.out; first | omega | (split <;> omega) | (split <;> (try split) <;> omega)), Ext.setCell hxq hgG _⟩, by simp [intOf]⟩
            · have hk2 : k = b.size := by omega
              have HV := Lib.hid (cst_impl3 a b hi2 hk2)
              have Hhi2 := Lib.hid hi2; clear hi2; have Hhk2 := Lib.hid hk2; clear hk2
              go_wp2
              all_goals exact ⟨⟨k, (k : Int) - 1, _, by omega, by omega, rfl, Hhgp.out.set (Nat.le_refl _) hin hkm _ (by decide), Hhre.out.upd, RowE.step Hhrw.out (by have e0 := HV.out; have e1 := Hhi2.out; have e2 := Hhk2.out; first | omega | (split <;> omega) | (split <;> (try split) <;> omega)), Ext.setCell hxq hgG _⟩, by simp [intOf]⟩
        · have hi0 : hi = 0 := by omega
          subst hi0
          have HD := Lib.hid (RowsE.down Hhre.out Hhrw.out)
          have h1 : ¬ 0 ≤ z := h0
          have h2 : z < 0 := by omega
          have HZ := Lib.hid hz
          clear hz
          go_wp2
          exact ⟨⟨i, (i : Int) - 1, vs6, F, G6, by omega, by omega, rfl, Hhgp.out, HD.out, hxr⟩, by simp [intOf]⟩
    · have hl0 : lo = 0 := by omega
      subst hl0
      have h2 : z < 0 := by omega
      have HZ := Lib.hid hz
      clear hz
      go_wp2
      go_ret
      exact ⟨g, vs, F, G, rfl, Hhgp.out, Hhre.out, hxr⟩
set_option maxHeartbeats 1000000 in
theorem impl_distance (a b : ByteArray) (w : World) (ha : a.size ≤ 64) (hb : b.size ≤ 64) :
    Calls Tryz.prog 78 #[.string a, .string b, .bool false] w (Ret (.int .i64 (distS a b)) w) := by
  have HC := Lib.hid (impl_costs a b w ha hb)
  go_enter Tryz.func78, Tryz.ntmps78
  go_wp2_with fail
  refine HC.out.mono ?_
  rintro e w1 ⟨g, vs, F, G, rfl, hgp, hre, hx⟩
  obtain ⟨b1, o1, f1, f2, f3, f4, _⟩ := hgp.one (P := Tryz.prog) 107 106 und_nss cell_ns und_ns cell_n (i := 0) (x := 0) (Nat.le_refl _) (by omega) (by omega)
  have HD := Lib.hid (show F 0 0 = ((distS a b : Nat) : Int) from hre 0 (Nat.le_refl _) (Nat.zero_le _) 0 (Nat.zero_le _))
  have f1' : ∀ (K : IntKind) (w' : World), (Instr.indexAt 107 (.slice (some ⟨g, 0, none⟩) (a.size + 1) (a.size + 1)) (.int K 0)).run Tryz.prog w' = .ok (.pointer (some ⟨b1, o1, none⟩)) w' := f1
  have f3' : ∀ (K : IntKind) (w' : World), (Instr.indexAt 106 (.slice (some ⟨G 0, 0, none⟩) (b.size + 1) (b.size + 1)) (.int K 0)).run Tryz.prog w' = .ok (.pointer (some ⟨G 0, 0, none⟩)) w' := f3
  have f2' := f2 w1 (Ext.refl _)
  have f4' := f4 w1 (Ext.refl _)
  clear f1 f3 f2 f4 hgp hre
  go_wp2
  go_ret
  exact ⟨ri HD.out, hx⟩
end Go.Proofs.YthbdnkokklahcaaGreat
