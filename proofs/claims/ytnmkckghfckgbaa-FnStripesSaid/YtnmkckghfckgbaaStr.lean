/- Walks: the stripes of digits. -/
import Derived.Test.YtnmkckghfckgbaaVar
import Derived.Test.YtnmkckghfckgbaaMeas3
namespace Go.Proofs.Ytnmkckghfckgbaa
set_option maxRecDepth 100000
open Go.RowKit

/-- the gap that joins, if there is one -/
def gapL (D : Bc) : List Int := if 0 < D.gap then [D.gap] else []
structure JInv (D : Bc) (w0 : World) (p pb q : Nat) (l : List Int) (wr : World) : Prop where
  ext : Ext w0 wr
  vb : VarAt wr pb 57 (.pointer (some ⟨p, 0, none⟩))
  row : ∃ ad k c, VarAt wr q 36 (.slice ad k c) ∧ k = l.length ∧ Own wr w0.heap.size 2 ad k c (I l)
def JPost (D : Bc) (w0 : World) (p pb q : Nat) (l : List Int) (e : Ending) (w' : World) : Prop := e = .returned (.tuple #[]) ∧ JInv D w0 p pb q l w'
set_option maxHeartbeats 2000000 in
theorem join1 (D : Bc) (w0 : World) (p pb q : Nat) (a : Option Addr) (n c : Nat) (l : List Int) (s : ByteArray) (wr : World) (hv : BcAt w0 p D a n c) (hj : JInv D w0 p pb q l wr) (hq : w0.heap.size ≤ q) (hs : 1 ≤ s.size) (hs2 : s.size ≤ 1048576) (hc : charsB s.data.toList = true) (hl : l.length ≤ 1048576) :
    Calls Try.prog 107 (#[.string s] ++ #[.pointer (some ⟨pb, 0, none⟩), .pointer (some ⟨q, 0, none⟩)]) wr (JPost D w0 p pb q (l ++ gapL D ++ elsL s.data.toList)) := by
  obtain ⟨hx, hvb, ad, k, cc, hvq, hk, ho⟩ := hj
  have hne : q ≠ pb := hvq.ne hvb (by decide)
  have HK := Lib.hid hk
  have HQ := Lib.hid hvq
  have HB := Lib.hid hvb
  have HO := Lib.hid ho
  have hb1 := hvb.cell
  have hq1 := hvq.cell
  obtain ⟨c0, c1, c2, c3, _⟩ := hv
  have hkl : k ≤ 1048576 := by omega
  clear hk hvb hvq ho
  have second : ∀ (W : World) (ad : Option Addr) (k cc : Nat) (l : List Int), Ext w0 W → VarAt W pb 57 (.pointer (some ⟨p, 0, none⟩)) → VarAt W q 36 (.slice ad k cc) → Own W w0.heap.size 2 ad k cc (I l) → True := fun _ _ _ _ _ _ _ _ _ => trivial
  clear second
  by_cases hg : 0 < D.gap
  · go_enter Try.func107, Try.ntmps107
    go_wp2
    obtain ⟨C0, hC0⟩ : ∃ C : World → Prop, C = fun w' => Ext w0 w' ∧ VarAt w' pb 57 (.pointer (some ⟨p, 0, none⟩)) ∧ VarAt w' q 36 (.slice ad k cc) := ⟨_, rfl⟩
    have hin : C0 wr.drew := by rw [hC0]; exact ⟨hx.drew, HB.out, HQ.out⟩
    have hpk : ∀ x, Ext w0 (World.pk C0 wr.drew x) ∧ VarAt (World.pk C0 wr.drew x) pb 57 (.pointer (some ⟨p, 0, none⟩)) ∧ VarAt (World.pk C0 wr.drew x) q 36 (.slice ad k cc) := fun x => by have := pk_in hin x; rw [hC0] at this; rw [hC0]; exact this
    have k1 : ∀ x, Ext w0 (World.pk C0 wr.drew x) := fun x => (hpk x).1
    have k2 : ∀ x, (World.pk C0 wr.drew x).cell? ⟨pb, 0, none⟩ = some (.pointer (some ⟨p, 0, none⟩)) := fun x => (hpk x).2.1.cell
    have k3 : ∀ x, (World.pk C0 wr.drew x).cell? ⟨q, 0, none⟩ = some (.slice ad k cc) := fun x => (hpk x).2.2.cell
    have Hhpk := Lib.hid hpk; clear hpk; have Hhin := Lib.hid hin; clear hin; have HhC0 := Lib.hid hC0; clear hC0
    refine wp_region_pk C0 7 Hhin.out rfl (by kernel_rfl) (by kernel_rfl) (by kernel_rfl) (by kernel_rfl) ?_
    simp only [List.take_succ_cons, List.take_zero, List.drop_succ_cons, List.drop_zero]
    (repeat (first | (refine mix_q rfl ?_; go_big_quiet_step (fail); refine wpQuiet_nil ?_; show wpMix _ _ _ _ _ _ _) | (refine mix_s rfl ?_; go_wp2_with (at_builtin; refine law_append1 wr.drew rfl _ _ 36 rfl 2 (.int .i64 0) 8 und_int64s info_int64 rfl w0.heap.size ad k cc _ _ rfl rfl rfl HO.out.drew (hx.drew).le (by omega) (by omega) ?_; intro ad1 c1 w1 ho1 hb1 hg1; have hx1 : Ext w0 w1 := Ext.below (by repeat (first | (with_reducible exact Ext.refl _) | (with_reducible refine Ext.drewN ?_ _) | (with_reducible refine Ext.drew ?_) | (with_reducible refine Ext.alloc ?_ _) | ((with_reducible refine Ext.setCell ?_ ?_ _); rotate_left; focus (first | (simp; done) | (simp; omega) | omega)) | assumption | (with_reducible refine Ext.trans ?_ (by assumption)))) hb1; have hvb1 : VarAt w1 pb 57 (.pointer (some ⟨p, 0, none⟩)) := (HB.out.ext (by repeat (first | (with_reducible exact Ext.refl _) | (with_reducible refine Ext.drewN ?_ _) | (with_reducible refine Ext.drew ?_) | (with_reducible refine Ext.alloc ?_ _) | ((with_reducible refine Ext.setCell ?_ ?_ _); rotate_left; focus (first | (simp; done) | (simp; omega) | omega)) | assumption | (with_reducible refine Ext.trans ?_ (by assumption))))).grown hg1 (row_ne (HO.out.ne_var HB.out (by decide))); have hvq1 : VarAt w1 q 36 (.slice ad k cc) := (HQ.out.ext (by repeat (first | (with_reducible exact Ext.refl _) | (with_reducible refine Ext.drewN ?_ _) | (with_reducible refine Ext.drew ?_) | (with_reducible refine Ext.alloc ?_ _) | ((with_reducible refine Ext.setCell ?_ ?_ _); rotate_left; focus (first | (simp; done) | (simp; omega) | omega)) | assumption | (with_reducible refine Ext.trans ?_ (by assumption))))).grown hg1 (row_ne (HO.out.ne_var HQ.out (by decide)))); first | refine ⟨pk_of (by rw [HhC0.out]; exact ⟨hx1, hvb1, hvq1⟩), ?_⟩ | refine ⟨rfl, rfl, pk_of (by rw [HhC0.out]; exact ⟨hx1, hvb1, hvq1⟩), ?_⟩ | refine ⟨pk_of (by rw [HhC0.out]; exact ⟨(by repeat (first | (with_reducible exact Ext.refl _) | (with_reducible refine Ext.drewN ?_ _) | (with_reducible refine Ext.drew ?_) | (with_reducible refine Ext.alloc ?_ _) | ((with_reducible refine Ext.setCell ?_ ?_ _); rotate_left; focus (first | (simp; done) | (simp; omega) | omega)) | assumption | (with_reducible refine Ext.trans ?_ (by assumption)))), HB.out.ext (by repeat (first | (with_reducible exact Ext.refl _) | (with_reducible refine Ext.drewN ?_ _) | (with_reducible refine Ext.drew ?_) | (with_reducible refine Ext.alloc ?_ _) | ((with_reducible refine Ext.setCell ?_ ?_ _); rotate_left; focus (first | (simp; done) | (simp; omega) | omega)) | assumption | (with_reducible refine Ext.trans ?_ (by assumption)))), HQ.out.ext (by repeat (first | (with_reducible exact Ext.refl _) | (with_reducible refine Ext.drewN ?_ _) | (with_reducible refine Ext.drew ?_) | (with_reducible refine Ext.alloc ?_ _) | ((with_reducible refine Ext.setCell ?_ ?_ _); rotate_left; focus (first | (simp; done) | (simp; omega) | omega)) | assumption | (with_reducible refine Ext.trans ?_ (by assumption))))⟩), ?_⟩ | refine ⟨rfl, rfl, pk_of (by rw [HhC0.out]; exact ⟨(by repeat (first | (with_reducible exact Ext.refl _) | (with_reducible refine Ext.drewN ?_ _) | (with_reducible refine Ext.drew ?_) | (with_reducible refine Ext.alloc ?_ _) | ((with_reducible refine Ext.setCell ?_ ?_ _); rotate_left; focus (first | (simp; done) | (simp; omega) | omega)) | assumption | (with_reducible refine Ext.trans ?_ (by assumption)))), HB.out.ext (by repeat (first | (with_reducible exact Ext.refl _) | (with_reducible refine Ext.drewN ?_ _) | (with_reducible refine Ext.drew ?_) | (with_reducible refine Ext.alloc ?_ _) | ((with_reducible refine Ext.setCell ?_ ?_ _); rotate_left; focus (first | (simp; done) | (simp; omega) | omega)) | assumption | (with_reducible refine Ext.trans ?_ (by assumption)))), HQ.out.ext (by repeat (first | (with_reducible exact Ext.refl _) | (with_reducible refine Ext.drewN ?_ _) | (with_reducible refine Ext.drew ?_) | (with_reducible refine Ext.alloc ?_ _) | ((with_reducible refine Ext.setCell ?_ ?_ _); rotate_left; focus (first | (simp; done) | (simp; omega) | omega)) | assumption | (with_reducible refine Ext.trans ?_ (by assumption))))⟩), ?_⟩)))
    have hf1 := hvq1.frozen
    have hcl1 := hvq1.cell
    refine mix_nil ?_
    go_wp2
    obtain ⟨w2, hw2⟩ : ∃ W, W = w1.setCell ⟨q, 0, none⟩ (.slice ad1 (k + 1) c1) := ⟨_, rfl⟩
    rw [← hw2]
    have hx2 : Ext w0 w2 := by rw [hw2]; exact Ext.setCell hx1 hq _
    have hvb2 : VarAt w2 pb 57 (.pointer (some ⟨p, 0, none⟩)) := by rw [hw2]; exact hvb1.other _ hne.symm
    have hvq2 : VarAt w2 q 36 (.slice ad1 (k + 1) c1) := by rw [hw2]; exact hvq1.set _
    have ho2 : Own w2 w0.heap.size 2 ad1 (k + 1) c1 (I (l ++ [D.gap])) := by rw [hw2, I_append]; exact ho1.other _ (ho1.ne_var hvq1 (by decide))
    have hG : gapL D = [D.gap] := if_pos hg
    clear hw2 ho1 hb1 hg1 hvb1 hvq1 hf1 hcl1
    have Hhvb2 := Lib.hid hvb2; clear hvb2; have Hhvq2 := Lib.hid hvq2; clear hvq2; have Hho2 := Lib.hid ho2; clear ho2; have HhG := Lib.hid hG; clear hG
    obtain ⟨C1, hC1⟩ : ∃ C : World → Prop, C = fun w' => Ext w0 w' ∧ VarAt w' pb 57 (.pointer (some ⟨p, 0, none⟩)) ∧ VarAt w' q 36 (.slice ad1 (k + 1) c1) := ⟨_, rfl⟩
    have hin : C1 w2.drew := by rw [hC1]; exact ⟨hx2.drew, Hhvb2.out, Hhvq2.out⟩
    have hpk : ∀ x, Ext w0 (World.pk C1 w2.drew x) ∧ VarAt (World.pk C1 w2.drew x) pb 57 (.pointer (some ⟨p, 0, none⟩)) ∧ VarAt (World.pk C1 w2.drew x) q 36 (.slice ad1 (k + 1) c1) := fun x => by have := pk_in hin x; rw [hC1] at this; rw [hC1]; exact this
    have j1 : ∀ x, Ext w0 (World.pk C1 w2.drew x) := fun x => (hpk x).1
    have j2 : ∀ x, (World.pk C1 w2.drew x).cell? ⟨pb, 0, none⟩ = some (.pointer (some ⟨p, 0, none⟩)) := fun x => (hpk x).2.1.cell
    have j3 : ∀ x, (World.pk C1 w2.drew x).cell? ⟨q, 0, none⟩ = some (.slice ad1 (k + 1) c1) := fun x => (hpk x).2.2.cell
    have Hhpk := Lib.hid hpk; clear hpk; have Hhin := Lib.hid hin; clear hin; have HhC1 := Lib.hid hC1; clear hC1
    refine wp_region_pk C1 4 Hhin.out rfl (by kernel_rfl) (by kernel_rfl) (by kernel_rfl) (by kernel_rfl) ?_
    simp only [List.take_succ_cons, List.take_zero, List.drop_succ_cons, List.drop_zero]
    (repeat (refine mix_q rfl ?_; go_big_quiet_step (fail); refine wpQuiet_nil ?_; show wpMix _ _ _ _ _ _ _))
    refine mix_s rfl ?_
    go_wp2_with (go_at_call 53; refine (impl_elements s _ hs2 hc).mono ?_; rintro e w3 ⟨ad3, c3, rfl, ho3, hx3⟩)
    have hx3' : Ext w2 w3 := ((Ext.refl w2).drew).trans hx3
    refine ⟨pk_of (by rw [HhC1.out]; exact ⟨Ext.trans hx2 hx3', Hhvb2.out.ext hx3', Hhvq2.out.ext hx3'⟩), ?_⟩
    have he : (I (elsL s.data.toList)).length = s.size := by rw [I_len, elsL_len, size_eq]
    obtain ⟨g3, rfl⟩ : ∃ g, ad3 = some g := by
      obtain ⟨b, off, h, _⟩ := ho3.sl.cells (by rw [he]; omega)
      exact ⟨_, h⟩
    have hvq3 : VarAt w3 q 36 (.slice ad1 (k + 1) c1) := Hhvq2.out.ext hx3'
    have hvb3 : VarAt w3 pb 57 (.pointer (some ⟨p, 0, none⟩)) := Hhvb2.out.ext hx3'
    have ho3q : Own w3 w0.heap.size 2 ad1 (k + 1) c1 (I (l ++ [D.gap])) := Hho2.out.ext hx3'
    have Hhvq3 := Lib.hid hvq3; clear hvq3; have Hhvb3 := Lib.hid hvb3; clear hvb3; have Hho3q := Lib.hid ho3q; clear ho3q
    refine mix_s rfl ?_
    go_wp2_with (at_builtin; refine law_appends _ rfl _ _ 36 rfl 2 (.int .i64 0) 8 und_int64s info_int64 rfl w0.heap.size ad1 (k + 1) c1 _ _ _ _ _ (oneI _) rfl rfl Hho3q.out ho3.sl (Ext.le (Ext.trans hx2 hx3')) (by rw [he]; omega) (by omega) ?_; intro ad4 c4 w4 ho4 hb4 hg4 _)
    have hx4 : Ext w0 w4 := (Ext.trans hx2 hx3').below hb4
    have hvb4 : VarAt w4 pb 57 (.pointer (some ⟨p, 0, none⟩)) := Hhvb3.out.grown hg4 (row_ne (Hho3q.out.ne_var Hhvb3.out (by decide)))
    have hvq4 : VarAt w4 q 36 (.slice ad1 (k + 1) c1) := Hhvq3.out.grown hg4 (row_ne (Hho3q.out.ne_var Hhvq3.out (by decide)))
    refine ⟨pk_of (by rw [HhC1.out]; exact ⟨hx4, hvb4, hvq4⟩), ?_⟩
    have hf4 := hvq4.frozen
    have hcl4 := hvq4.cell
    refine mix_nil ?_
    go_wp2
    refine bodyPost_ret (v := .tuple #[]) (by simp [results, Try.results107, go_sem]) rfl ?_
    refine ⟨rfl, Ext.setCell hx4 hq _, hvb4.other _ hne.symm, ad4, _, c4, hvq4.set _, ?_, ?_⟩
    · have := HK.out
      simp only [HhG.out, List.length_append, List.length_singleton, elsL_len, size_eq]
      omega
    · have h5 := ho4.other (p := ⟨q, 0, none⟩) (.slice ad4 ((k + 1) + s.size) c4) (ho4.ne_var hvq4 (by decide))
      rw [← I_append] at h5
      simp only [HhG.out, I_len, List.append_assoc, elsL_len, size_eq] at h5 ⊢
      exact h5
  · go_enter Try.func107, Try.ntmps107
    have hG : gapL D = [] := if_neg hg
    have HhG := Lib.hid hG; clear hG
    go_wp2
    obtain ⟨C1, hC1⟩ : ∃ C : World → Prop, C = fun w' => Ext w0 w' ∧ VarAt w' pb 57 (.pointer (some ⟨p, 0, none⟩)) ∧ VarAt w' q 36 (.slice ad (k) cc) := ⟨_, rfl⟩
    have hin : C1 wr.drew := by rw [hC1]; exact ⟨hx.drew, HB.out, HQ.out⟩
    have hpk : ∀ x, Ext w0 (World.pk C1 wr.drew x) ∧ VarAt (World.pk C1 wr.drew x) pb 57 (.pointer (some ⟨p, 0, none⟩)) ∧ VarAt (World.pk C1 wr.drew x) q 36 (.slice ad (k) cc) := fun x => by have := pk_in hin x; rw [hC1] at this; rw [hC1]; exact this
    have j1 : ∀ x, Ext w0 (World.pk C1 wr.drew x) := fun x => (hpk x).1
    have j2 : ∀ x, (World.pk C1 wr.drew x).cell? ⟨pb, 0, none⟩ = some (.pointer (some ⟨p, 0, none⟩)) := fun x => (hpk x).2.1.cell
    have j3 : ∀ x, (World.pk C1 wr.drew x).cell? ⟨q, 0, none⟩ = some (.slice ad (k) cc) := fun x => (hpk x).2.2.cell
    have Hhpk := Lib.hid hpk; clear hpk; have Hhin := Lib.hid hin; clear hin; have HhC1 := Lib.hid hC1; clear hC1
    refine wp_region_pk C1 4 Hhin.out rfl (by kernel_rfl) (by kernel_rfl) (by kernel_rfl) (by kernel_rfl) ?_
    simp only [List.take_succ_cons, List.take_zero, List.drop_succ_cons, List.drop_zero]
    (repeat (refine mix_q rfl ?_; go_big_quiet_step (fail); refine wpQuiet_nil ?_; show wpMix _ _ _ _ _ _ _))
    refine mix_s rfl ?_
    go_wp2_with (go_at_call 53; refine (impl_elements s _ hs2 hc).mono ?_; rintro e w3 ⟨ad3, c3, rfl, ho3, hx3⟩)
    have hx3' : Ext wr w3 := ((Ext.refl wr).drew).trans hx3
    refine ⟨pk_of (by rw [HhC1.out]; exact ⟨Ext.trans hx hx3', HB.out.ext hx3', HQ.out.ext hx3'⟩), ?_⟩
    have he : (I (elsL s.data.toList)).length = s.size := by rw [I_len, elsL_len, size_eq]
    obtain ⟨g3, rfl⟩ : ∃ g, ad3 = some g := by
      obtain ⟨b, off, h, _⟩ := ho3.sl.cells (by rw [he]; omega)
      exact ⟨_, h⟩
    have hvq3 : VarAt w3 q 36 (.slice ad (k) cc) := HQ.out.ext hx3'
    have hvb3 : VarAt w3 pb 57 (.pointer (some ⟨p, 0, none⟩)) := HB.out.ext hx3'
    have ho3q : Own w3 w0.heap.size 2 ad (k) cc (I (l)) := HO.out.ext hx3'
    have Hhvq3 := Lib.hid hvq3; clear hvq3; have Hhvb3 := Lib.hid hvb3; clear hvb3; have Hho3q := Lib.hid ho3q; clear ho3q
    refine mix_s rfl ?_
    go_wp2_with (at_builtin; refine law_appends _ rfl _ _ 36 rfl 2 (.int .i64 0) 8 und_int64s info_int64 rfl w0.heap.size ad (k) cc _ _ _ _ _ (oneI _) rfl rfl Hho3q.out ho3.sl (Ext.le (Ext.trans hx hx3')) (by rw [he]; omega) (by omega) ?_; intro ad4 c4 w4 ho4 hb4 hg4 _)
    have hx4 : Ext w0 w4 := (Ext.trans hx hx3').below hb4
    have hvb4 : VarAt w4 pb 57 (.pointer (some ⟨p, 0, none⟩)) := Hhvb3.out.grown hg4 (row_ne (Hho3q.out.ne_var Hhvb3.out (by decide)))
    have hvq4 : VarAt w4 q 36 (.slice ad (k) cc) := Hhvq3.out.grown hg4 (row_ne (Hho3q.out.ne_var Hhvq3.out (by decide)))
    refine ⟨pk_of (by rw [HhC1.out]; exact ⟨hx4, hvb4, hvq4⟩), ?_⟩
    have hf4 := hvq4.frozen
    have hcl4 := hvq4.cell
    refine mix_nil ?_
    go_wp2
    refine bodyPost_ret (v := .tuple #[]) (by simp [results, Try.results107, go_sem]) rfl ?_
    refine ⟨rfl, Ext.setCell hx4 hq _, hvb4.other _ hne.symm, ad4, _, c4, hvq4.set _, ?_, ?_⟩
    · have := HK.out
      simp only [HhG.out, List.length_append, List.length_nil, elsL_len, size_eq]
      omega
    · have h5 := ho4.other (p := ⟨q, 0, none⟩) (.slice ad4 ((k) + s.size) c4) (ho4.ne_var hvq4 (by decide))
      rw [← I_append] at h5
      simp only [HhG.out, List.nil_append, I_len, elsL_len, size_eq] at h5 ⊢
      exact h5
end Go.Proofs.Ytnmkckghfckgbaa
