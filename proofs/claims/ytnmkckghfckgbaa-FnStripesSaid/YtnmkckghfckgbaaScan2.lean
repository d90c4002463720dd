/- Walks: the word of a scan. -/
import Derived.Test.YtnmkckghfckgbaaScan
namespace Go.Proofs.Ytnmkckghfckgbaa
set_option maxRecDepth 100000
open Go.RowKit

def scanK (D : Bc) (l : List Int) (i : Nat) : Bool := (measS D (partL D l i) idL).2.2 == 1
def scanD (D : Bc) (l : List Int) (i : Nat) : Int := (measS D (partL D l i) idL).1
def scanDs (D : Bc) (l : List Int) (k : Nat) : List Int := (List.range k).map (scanD D l)
def endsB (D : Bc) (l : List Int) : Bool := nearB (l.take D.start.size) (elsL D.start.data.toList) && nearB (l.drop (l.length - D.stop.size)) (elsL D.stop.data.toList)
def scanB (D : Bc) (l : List Int) : Bool := cutB D l.length && (endsB D l && (List.range (cutN D l.length)).all (scanK D l))
def scanT (D : Bc) (l : List Int) : ByteArray := if scanB D l then textOf (scanDs D l (cutN D l.length)) else .empty
theorem scanDs_succ (D : Bc) (l : List Int) (k : Nat) : scanDs D l (k + 1) = scanDs D l k ++ [scanD D l k] := by simp [scanDs, List.range_succ]
theorem scanDs_len (D : Bc) (l : List Int) (k : Nat) : (scanDs D l k).length = k := by simp [scanDs]
theorem mst_lt (f : Nat → Int) : ∀ k, (mst f (k + 1)).1 ≤ k
  | 0 => by simp [mst, mstep]
  | k + 1 => by
    have := mst_lt f k
    rw [mst]
    unfold mstep
    split
    · exact Nat.le_refl _
    · split <;> (try simp only) <;> omega
theorem scanD_bd {D : Bc} (hok : OkBc D) (l : List Int) (i : Nat) : 0 ≤ scanD D l i ∧ scanD D l i ≤ 35 := by
  unfold scanD measS
  have h1 := hok.n1
  have h2 := hok.n36
  have h3 := mst_lt (farI D (partL D l i) idL) (D.pats.length - 1)
  rw [show D.pats.length - 1 + 1 = D.pats.length by omega] at h3
  omega
theorem scanDs_dig {D : Bc} (hok : OkBc D) (l : List Int) (k : Nat) : Dig36 (scanDs D l k) := fun d hd => by
  obtain ⟨i, _, rfl⟩ := List.mem_map.1 hd
  exact scanD_bd hok l i
theorem scan_no1 {D : Bc} {l : List Int} (h : cutB D l.length = false) : scanB D l = false := by simp [scanB, h]
theorem scan_no2 {D : Bc} {l : List Int} (h : endsB D l = false) : scanB D l = false := by simp [scanB, h]
theorem scan_no3 {D : Bc} {l : List Int} {i : Nat} (hi : i < cutN D l.length) (h : scanK D l i = false) : scanB D l = false := by
  have : (List.range (cutN D l.length)).all (scanK D l) = false := List.all_eq_false.2 ⟨i, List.mem_range.2 hi, by rw [h]; simp⟩
  rw [scanB, this]; simp
theorem scan_yes {D : Bc} {l : List Int} (h : cutB D l.length = true) (h2 : endsB D l = true) (h3 : ∀ i, i < cutN D l.length → scanK D l i = true) : scanB D l = true := by
  have : (List.range (cutN D l.length)).all (scanK D l) = true := List.all_eq_true.2 fun i hi => h3 i (List.mem_range.1 hi)
  rw [scanB, this, h, h2]; rfl
/-- the widths of stripes -/
def Wide (l : List Int) : Prop := ∀ x ∈ l, 1 ≤ x ∧ x ≤ 100000
theorem Wide.take {l : List Int} (h : Wide l) (k : Nat) : Wide (l.take k) := fun x hx => h x (List.mem_of_mem_take hx)
theorem Wide.drop {l : List Int} (h : Wide l) (k : Nat) : Wide (l.drop k) := fun x hx => h x (List.mem_of_mem_drop hx)
theorem Wide.part {l : List Int} (h : Wide l) (D : Bc) (i : Nat) : Wide (partL D l i) := (h.drop _).take _
theorem partL_len {D : Bc} (hok : OkBc D) {l : List Int} {i : Nat} (hc : cutB D l.length = true) (hi : i < cutN D l.length) : (partL D l i).length = (gs D.pats 0).size := by
  have h1 := (cut_yes hc hok.s1).1
  have h2 : atN D (i + 1) ≤ atN D (cutN D l.length) := by unfold atN; exact Nat.add_le_add_left (Nat.mul_le_mul_right _ hi) _
  rw [atN_succ] at h2
  unfold eachN at h2
  unfold partL
  rw [List.length_take, List.length_drop]
  omega

set_option maxHeartbeats 4000000 in
theorem impl_scan (D : Bc) (p : Nat) (a : Option Addr) (n c : Nat) (b : Option Addr) (m d : Nat) (l : List Int) (w : World) (hv : BcAt w p D a n c) (hok : OkBc D) (hi : Ints w b m d l) (hm : m ≤ 1048576) (hw : Wide l) :
    Calls Try.prog 90 #[.pointer (some ⟨p, 0, none⟩), .slice b m d] w (Ret2 (.string (scanT D l)) (.bool (scanB D l)) w) := by
  have HN := Lib.hid hv.ps.len
  have HL := Lib.hid hi.len
  have HV := Lib.hid hv
  have HI := Lib.hid hi
  have HC := Lib.hid (impl_cut D p a n c b m d l w hv hok hi hm)
  obtain ⟨q0, q1, q2, q3, hps⟩ := hv
  have s10 := hok.s10
  have s1 := hok.s1
  have HOK := Lib.hid hok
  have HW := Lib.hid hw
  have Hhps := Lib.hid hps; clear hps
  clear hi hok hw
  cases hcb : cutB D m
  · have HF := Lib.hid (scan_no1 (l := l) (D := D) (by rw [HL.out]; exact hcb))
    have Hhcb := Lib.hid hcb; clear hcb
    go_enter Try.func90, Try.ntmps90
    go_wp2_with fail
    refine HC.out.mono ?_
    rintro e w1 ⟨hx1, hres⟩
    rw [Hhcb.out, if_neg (by decide)] at hres
    subst hres
    go_wp2
    (refine wp_region_up (by kernel_rfl) (by kernel_rfl) (by kernel_rfl) ?_; (repeat (first | (refine mix_q rfl ?_; go_big_quiet_step (fail); refine wpQuiet_nil ?_; show wpMix _ _ _ _ _ _ _) | (refine mix_s rfl ?_; go_wp2_with (fail); first | refine ⟨up_of (by repeat (first | (with_reducible exact Ext.refl _) | (with_reducible refine Ext.drewN ?_ _) | (with_reducible refine Ext.drew ?_) | (with_reducible refine Ext.alloc ?_ _) | ((with_reducible refine Ext.setCell ?_ ?_ _); rotate_left; focus (first | (simp; done) | (simp; omega) | omega)) | assumption | (with_reducible refine Ext.trans ?_ (by assumption)))), ?_⟩ | refine ⟨rfl, rfl, up_of (by repeat (first | (with_reducible exact Ext.refl _) | (with_reducible refine Ext.drewN ?_ _) | (with_reducible refine Ext.drew ?_) | (with_reducible refine Ext.alloc ?_ _) | ((with_reducible refine Ext.setCell ?_ ?_ _); rotate_left; focus (first | (simp; done) | (simp; omega) | omega)) | assumption | (with_reducible refine Ext.trans ?_ (by assumption)))), ?_⟩))); refine mix_nil ?_)
    go_wp2
    go_ret2
    exact ⟨by rw [scanT, HF.out]; rfl, (by repeat (first | (with_reducible exact Ext.refl _) | (with_reducible refine Ext.drewN ?_ _) | (with_reducible refine Ext.drew ?_) | (with_reducible refine Ext.alloc ?_ _) | ((with_reducible refine Ext.setCell ?_ ?_ _); rotate_left; focus (first | (simp; done) | (simp; omega) | omega)) | assumption | (with_reducible refine Ext.trans ?_ (by assumption))))⟩
  have HcutN := Lib.hid (cut_yes hcb s1)
  have HNo2 := Lib.hid (scan_no2 (D := D) (l := l))
  have HNo3 := Lib.hid (fun i (hi : i < cutN D m) => scan_no3 (D := D) (l := l) (i := i) (by rw [HL.out]; exact hi))
  have HYes := Lib.hid (scan_yes (D := D) (l := l) (by rw [HL.out]; exact hcb))
  have HPl := Lib.hid (fun i (hi : i < cutN D m) => partL_len HOK.out (l := l) (i := i) (by rw [HL.out]; exact hcb) (by rw [HL.out]; exact hi))
  have HTx := Lib.hid (show ∀ h : scanB D l = true, scanT D l = textOf (scanDs D l (cutN D m)) by intro h; rw [scanT, h, HL.out]; rfl)
  have HTn := Lib.hid (show ∀ h : scanB D l = false, scanT D l = .empty by intro h; rw [scanT, h]; rfl)
  have hN20 : cutN D m ≤ 20 := HcutN.out.2
  have HEb := Lib.hid (show endsB D l = (nearB (l.take D.start.size) (elsL D.start.data.toList) && nearB (l.drop (m - D.stop.size)) (elsL D.stop.data.toList)) by rw [endsB, HL.out])
  have HY0 := Lib.hid (show (∀ i, i < cutN D m → scanK D l i = true) → endsB D l = true → scanB D l = true from fun h h2 => HYes.out h2 (by rw [HL.out]; exact h))
  have Hhcb := Lib.hid hcb; clear hcb
  clear HYes
  go_enter Try.func90, Try.ntmps90
  go_wp2_with fail
  refine HC.out.mono ?_
  rintro e w1 ⟨hx1, hres⟩
  rw [Hhcb.out, if_pos rfl] at hres
  obtain ⟨a1, c1, vs, rfl, ho1, hrows⟩ := hres
  have hdl : atN D (cutN D m) + gapN D = m - D.stop.size := by have := HcutN.out.1; omega
  obtain ⟨N, hN⟩ : ∃ N, N = cutN D m := ⟨_, rfl⟩
  rw [← hN] at ho1 hrows HNo3 HPl HTx HY0 hN20 hdl ⊢
  obtain ⟨n2, hn2⟩ : ∃ x, x = N + 2 := ⟨_, rfl⟩
  rw [← hn2] at ho1 ⊢
  have hsl := ho1.sl
  obtain ⟨a5, hsub, hsl5⟩ := hsl.sub (P := Try.prog) 76 36 und_rows cell_row1 (by kernel_rfl) 1 (N + 1) (by omega) (by omega)
  rw [show N + 1 - 1 = N by omega, show ((N + 1 : Nat) : Int) = (n2 : Int) - 1 by omega, show ((1 : Nat) : Int) = 1 from rfl] at hsub
  rw [show N + 1 - 1 = N by omega] at hsl5
  obtain ⟨b5, off5, hix5, hcell5⟩ := hsl5.ix (P := Try.prog) 76 36 und_rows cell_row1
  have hgv : ∀ k, k < N → gv ((vs.drop 1).take N) k = gv vs (k + 1) := fun k hk => by
    simp [gv, List.getD_eq_getElem?_getD, hk]
  have hmid : ∀ k, k < N → ∃ a2 c2, (∀ w', Ext w1 w' → w'.cell? ⟨b5, off5 + k, none⟩ = some (.slice a2 (gs D.pats 0).size c2)) ∧ Ints w a2 (gs D.pats 0).size c2 (partL D l k) := fun k hk => by
    obtain ⟨a2, c2, h1, h2⟩ := hrows.mid k hk
    exact ⟨a2, c2, fun w' hx => by rw [hcell5 k w' hk hx, hgv k hk, h1], h2⟩
  obtain ⟨af, cf, hf1, hf2⟩ := hrows.fst
  obtain ⟨az, cz, hz1, hz2⟩ := hrows.lst
  obtain ⟨bf, of_, oF1, oF2⟩ := hsl.one (P := Try.prog) 76 36 und_rows cell_row1 0 (by omega) (by omega)
  obtain ⟨bz, oz, oZ1, oZ2⟩ := hsl.one (P := Try.prog) 76 36 und_rows cell_row1 ((n2 : Int) - 1) (by omega) (by omega)
  rw [show (0 : Int).toNat = 0 from rfl, hf1] at oF2
  rw [show ((n2 : Int) - 1).toNat = N + 1 by omega, hz1] at oZ2
  rw [hdl] at hz2
  have k1 := nearOk HOK.out.start (ws := l.take D.start.size) (by rw [hf2.len]) (HW.out.take _)
  have k2 := nearOk HOK.out.stop (ws := l.drop (m - D.stop.size)) (by rw [hz2.len]) (HW.out.drop _)
  have c1' := (patB_t HOK.out.start).1
  have c2' := (patB_t HOK.out.stop).1
  have HNf := Lib.hid (fun W h => impl_near af D.start.size cf (l.take D.start.size) D.start W h c1' k1.n10 k1)
  have HNz := Lib.hid (fun W h => impl_near az D.stop.size cz (l.drop (m - D.stop.size)) D.stop W h c2' k2.n10 k2)
  have hn20 : 1 ≤ n2 := by omega
  have hn22 : n2 ≤ 22 := by omega
  generalize c1 - 1 = c5 at *
  have Hhmid := Lib.hid hmid; clear hmid; have HhN := Lib.hid hN; clear hN; have Hhn2 := Lib.hid hn2; clear hn2; have Hhf2 := Lib.hid hf2; clear hf2; have Hhz2 := Lib.hid hz2; clear hz2
  clear hcell5 hgv hsl5 hrows hsl ho1 hf1 hz1 hdl k1 k2 c1' c2'
  cases hb1 : nearB (l.take D.start.size) (elsL D.start.data.toList)
  · rw [hb1] at HNf HEb
    have HF := Lib.hid (HNo2.out (by rw [HEb.out]; rfl))
    clear hb1
    go_wp2
    (refine wp_region_from w1 (by repeat (first | (with_reducible exact Ext.refl _) | (with_reducible refine Ext.drewN ?_ _) | (with_reducible refine Ext.drew ?_) | (with_reducible refine Ext.alloc ?_ _) | ((with_reducible refine Ext.setCell ?_ ?_ _); rotate_left; focus (first | (simp; done) | (simp; omega) | omega)) | assumption | (with_reducible refine Ext.trans ?_ (by assumption)))) (by kernel_rfl) (by kernel_rfl) (by kernel_rfl) ?_; (repeat (first | (refine mix_q rfl ?_; go_big_quiet_step (fail); refine wpQuiet_nil ?_; show wpMix _ _ _ _ _ _ _) | (refine mix_s rfl ?_; go_wp2_with (((with_reducible refine (HNf.out _ (Hhf2.out.ext (Ext.trans hx1 (by repeat (first | (with_reducible exact Ext.refl _) | (with_reducible refine Ext.drewN ?_ _) | (with_reducible refine Ext.drew ?_) | (with_reducible refine Ext.alloc ?_ _) | ((with_reducible refine Ext.setCell ?_ ?_ _); rotate_left; focus (first | (simp; done) | (simp; omega) | omega)) | assumption | (with_reducible refine Ext.trans ?_ (by assumption))))))).mono ?_); rintro e w2 ⟨rfl, hy2⟩; have hxw2 : Ext w1 w2 := Ext.trans (by repeat (first | (with_reducible exact Ext.refl _) | (with_reducible refine Ext.drewN ?_ _) | (with_reducible refine Ext.drew ?_) | (with_reducible refine Ext.alloc ?_ _) | ((with_reducible refine Ext.setCell ?_ ?_ _); rotate_left; focus (first | (simp; done) | (simp; omega) | omega)) | assumption | (with_reducible refine Ext.trans ?_ (by assumption)))) hy2; have hz2 := hy2; clear hy2)); first | refine ⟨up_of (by repeat (first | (with_reducible exact Ext.refl _) | (with_reducible refine Ext.drewN ?_ _) | (with_reducible refine Ext.drew ?_) | (with_reducible refine Ext.alloc ?_ _) | ((with_reducible refine Ext.setCell ?_ ?_ _); rotate_left; focus (first | (simp; done) | (simp; omega) | omega)) | assumption | (with_reducible refine Ext.trans ?_ (by assumption)))), ?_⟩ | refine ⟨rfl, rfl, up_of (by repeat (first | (with_reducible exact Ext.refl _) | (with_reducible refine Ext.drewN ?_ _) | (with_reducible refine Ext.drew ?_) | (with_reducible refine Ext.alloc ?_ _) | ((with_reducible refine Ext.setCell ?_ ?_ _); rotate_left; focus (first | (simp; done) | (simp; omega) | omega)) | assumption | (with_reducible refine Ext.trans ?_ (by assumption)))), ?_⟩))); refine mix_nil ?_)
    go_wp2
    go_ret2
    exact ⟨by rw [HTn.out HF.out, HF.out]; rfl, hx1.trans (by repeat (first | (with_reducible exact Ext.refl _) | (with_reducible refine Ext.drewN ?_ _) | (with_reducible refine Ext.drew ?_) | (with_reducible refine Ext.alloc ?_ _) | ((with_reducible refine Ext.setCell ?_ ?_ _); rotate_left; focus (first | (simp; done) | (simp; omega) | omega)) | assumption | (with_reducible refine Ext.trans ?_ (by assumption))))⟩
  rw [hb1] at HNf HEb
  cases hb2 : nearB (l.drop (m - D.stop.size)) (elsL D.stop.data.toList)
  · rw [hb2] at HNz HEb
    have HF := Lib.hid (HNo2.out (by rw [HEb.out]; rfl))
    clear hb1 hb2
    go_wp2
    (refine wp_region_from w1 (by repeat (first | (with_reducible exact Ext.refl _) | (with_reducible refine Ext.drewN ?_ _) | (with_reducible refine Ext.drew ?_) | (with_reducible refine Ext.alloc ?_ _) | ((with_reducible refine Ext.setCell ?_ ?_ _); rotate_left; focus (first | (simp; done) | (simp; omega) | omega)) | assumption | (with_reducible refine Ext.trans ?_ (by assumption)))) (by kernel_rfl) (by kernel_rfl) (by kernel_rfl) ?_; (repeat (first | (refine mix_q rfl ?_; go_big_quiet_step (fail); refine wpQuiet_nil ?_; show wpMix _ _ _ _ _ _ _) | (refine mix_s rfl ?_; go_wp2_with (first | ((with_reducible refine (HNf.out _ (Hhf2.out.ext (Ext.trans hx1 (by repeat (first | (with_reducible exact Ext.refl _) | (with_reducible refine Ext.drewN ?_ _) | (with_reducible refine Ext.drew ?_) | (with_reducible refine Ext.alloc ?_ _) | ((with_reducible refine Ext.setCell ?_ ?_ _); rotate_left; focus (first | (simp; done) | (simp; omega) | omega)) | assumption | (with_reducible refine Ext.trans ?_ (by assumption))))))).mono ?_); rintro e w2 ⟨rfl, hy2⟩; have hxw2 : Ext w1 w2 := Ext.trans (by repeat (first | (with_reducible exact Ext.refl _) | (with_reducible refine Ext.drewN ?_ _) | (with_reducible refine Ext.drew ?_) | (with_reducible refine Ext.alloc ?_ _) | ((with_reducible refine Ext.setCell ?_ ?_ _); rotate_left; focus (first | (simp; done) | (simp; omega) | omega)) | assumption | (with_reducible refine Ext.trans ?_ (by assumption)))) hy2; have hz2 := hy2; clear hy2) | ((with_reducible refine (HNz.out _ (Hhz2.out.ext (Ext.trans hx1 (by repeat (first | (with_reducible exact Ext.refl _) | (with_reducible refine Ext.drewN ?_ _) | (with_reducible refine Ext.drew ?_) | (with_reducible refine Ext.alloc ?_ _) | ((with_reducible refine Ext.setCell ?_ ?_ _); rotate_left; focus (first | (simp; done) | (simp; omega) | omega)) | assumption | (with_reducible refine Ext.trans ?_ (by assumption))))))).mono ?_); rintro e w3 ⟨rfl, hy3⟩; have hxw3 : Ext w1 w3 := Ext.trans (by repeat (first | (with_reducible exact Ext.refl _) | (with_reducible refine Ext.drewN ?_ _) | (with_reducible refine Ext.drew ?_) | (with_reducible refine Ext.alloc ?_ _) | ((with_reducible refine Ext.setCell ?_ ?_ _); rotate_left; focus (first | (simp; done) | (simp; omega) | omega)) | assumption | (with_reducible refine Ext.trans ?_ (by assumption)))) hy3; have hz3 := hy3; clear hy3)); first | refine ⟨up_of (by repeat (first | (with_reducible exact Ext.refl _) | (with_reducible refine Ext.drewN ?_ _) | (with_reducible refine Ext.drew ?_) | (with_reducible refine Ext.alloc ?_ _) | ((with_reducible refine Ext.setCell ?_ ?_ _); rotate_left; focus (first | (simp; done) | (simp; omega) | omega)) | assumption | (with_reducible refine Ext.trans ?_ (by assumption)))), ?_⟩ | refine ⟨rfl, rfl, up_of (by repeat (first | (with_reducible exact Ext.refl _) | (with_reducible refine Ext.drewN ?_ _) | (with_reducible refine Ext.drew ?_) | (with_reducible refine Ext.alloc ?_ _) | ((with_reducible refine Ext.setCell ?_ ?_ _); rotate_left; focus (first | (simp; done) | (simp; omega) | omega)) | assumption | (with_reducible refine Ext.trans ?_ (by assumption)))), ?_⟩))); refine mix_nil ?_)
    go_wp2
    go_ret2
    exact ⟨by rw [HTn.out HF.out, HF.out]; rfl, hx1.trans (by repeat (first | (with_reducible exact Ext.refl _) | (with_reducible refine Ext.drewN ?_ _) | (with_reducible refine Ext.drew ?_) | (with_reducible refine Ext.alloc ?_ _) | ((with_reducible refine Ext.setCell ?_ ?_ _); rotate_left; focus (first | (simp; done) | (simp; omega) | omega)) | assumption | (with_reducible refine Ext.trans ?_ (by assumption))))⟩
  rw [hb2] at HNz HEb
  have HEt := Lib.hid (show endsB D l = true by rw [HEb.out]; rfl)
  clear hb1 hb2
  go_wp2
  (refine wp_region_from w1 (by repeat (first | (with_reducible exact Ext.refl _) | (with_reducible refine Ext.drewN ?_ _) | (with_reducible refine Ext.drew ?_) | (with_reducible refine Ext.alloc ?_ _) | ((with_reducible refine Ext.setCell ?_ ?_ _); rotate_left; focus (first | (simp; done) | (simp; omega) | omega)) | assumption | (with_reducible refine Ext.trans ?_ (by assumption)))) (by kernel_rfl) (by kernel_rfl) (by kernel_rfl) ?_; (repeat (first | (refine mix_q rfl ?_; go_big_quiet_step (fail); refine wpQuiet_nil ?_; show wpMix _ _ _ _ _ _ _) | (refine mix_s rfl ?_; go_wp2_with (first | ((with_reducible refine (HNf.out _ (Hhf2.out.ext (Ext.trans hx1 (by repeat (first | (with_reducible exact Ext.refl _) | (with_reducible refine Ext.drewN ?_ _) | (with_reducible refine Ext.drew ?_) | (with_reducible refine Ext.alloc ?_ _) | ((with_reducible refine Ext.setCell ?_ ?_ _); rotate_left; focus (first | (simp; done) | (simp; omega) | omega)) | assumption | (with_reducible refine Ext.trans ?_ (by assumption))))))).mono ?_); rintro e w2 ⟨rfl, hy2⟩; have hxw2 : Ext w1 w2 := Ext.trans (by repeat (first | (with_reducible exact Ext.refl _) | (with_reducible refine Ext.drewN ?_ _) | (with_reducible refine Ext.drew ?_) | (with_reducible refine Ext.alloc ?_ _) | ((with_reducible refine Ext.setCell ?_ ?_ _); rotate_left; focus (first | (simp; done) | (simp; omega) | omega)) | assumption | (with_reducible refine Ext.trans ?_ (by assumption)))) hy2; have hz2 := hy2; clear hy2) | ((with_reducible refine (HNz.out _ (Hhz2.out.ext (Ext.trans hx1 (by repeat (first | (with_reducible exact Ext.refl _) | (with_reducible refine Ext.drewN ?_ _) | (with_reducible refine Ext.drew ?_) | (with_reducible refine Ext.alloc ?_ _) | ((with_reducible refine Ext.setCell ?_ ?_ _); rotate_left; focus (first | (simp; done) | (simp; omega) | omega)) | assumption | (with_reducible refine Ext.trans ?_ (by assumption))))))).mono ?_); rintro e w3 ⟨rfl, hy3⟩; have hxw3 : Ext w1 w3 := Ext.trans (by repeat (first | (with_reducible exact Ext.refl _) | (with_reducible refine Ext.drewN ?_ _) | (with_reducible refine Ext.drew ?_) | (with_reducible refine Ext.alloc ?_ _) | ((with_reducible refine Ext.setCell ?_ ?_ _); rotate_left; focus (first | (simp; done) | (simp; omega) | omega)) | assumption | (with_reducible refine Ext.trans ?_ (by assumption)))) hy3; have hz3 := hy3; clear hy3)); first | refine ⟨up_of (by repeat (first | (with_reducible exact Ext.refl _) | (with_reducible refine Ext.drewN ?_ _) | (with_reducible refine Ext.drew ?_) | (with_reducible refine Ext.alloc ?_ _) | ((with_reducible refine Ext.setCell ?_ ?_ _); rotate_left; focus (first | (simp; done) | (simp; omega) | omega)) | assumption | (with_reducible refine Ext.trans ?_ (by assumption)))), ?_⟩ | refine ⟨rfl, rfl, up_of (by repeat (first | (with_reducible exact Ext.refl _) | (with_reducible refine Ext.drewN ?_ _) | (with_reducible refine Ext.drew ?_) | (with_reducible refine Ext.alloc ?_ _) | ((with_reducible refine Ext.setCell ?_ ?_ _); rotate_left; focus (first | (simp; done) | (simp; omega) | omega)) | assumption | (with_reducible refine Ext.trans ?_ (by assumption)))), ?_⟩))); refine mix_nil ?_)
  go_wp2
  go_loopw [8, 10, 11, 12, 53] (fun v _ _ _ i wr => ∃ (j : Nat) (ad : Option Addr) (cc : Nat), j ≤ N ∧ i = .int .i64 j ∧ v = .slice ad j cc ∧ Own wr w1.heap.size 2 ad j cc (I (scanDs D l j)) ∧ (∀ i, i < j → scanK D l i = true) ∧ Ext w1 wr) (fun _ _ _ _ i _ => N - (intOf i).toNat)
  case atStart => exact ⟨0, _, 0, Nat.zero_le _, rfl, rfl, (Own.lit0 _ _).mono (Ext.le (by repeat (first | (with_reducible exact Ext.refl _) | (with_reducible refine Ext.drewN ?_ _) | (with_reducible refine Ext.drew ?_) | (with_reducible refine Ext.alloc ?_ _) | ((with_reducible refine Ext.setCell ?_ ?_ _); rotate_left; focus (first | (simp; done) | (simp; omega) | omega)) | assumption | (with_reducible refine Ext.trans ?_ (by assumption))))), (fun i hi => by omega), (by repeat (first | (with_reducible exact Ext.refl _) | (with_reducible refine Ext.drewN ?_ _) | (with_reducible refine Ext.drew ?_) | (with_reducible refine Ext.alloc ?_ _) | ((with_reducible refine Ext.setCell ?_ ?_ _); rotate_left; focus (first | (simp; done) | (simp; omega) | omega)) | assumption | (with_reducible refine Ext.trans ?_ (by assumption))))⟩
  case round =>
    obtain ⟨j, ad, cc, hj, rfl, rfl, ho, hks, hx⟩ := hrel
    have Hho := Lib.hid ho; clear ho; have Hhks := Lib.hid hks; clear hks
    have hxw : Ext w wr := hx1.trans hx
    by_cases hlt : j < N
    · obtain ⟨a2, c2, hcl, hi2⟩ := Hhmid.out j hlt
      have HST := Lib.hid (scanDs_succ D l j)
      have HNj := Lib.hid (HNo3.out j hlt)
      have HK := Lib.hid (show scanK D l j = ((measS D (partL D l j) idL).2.2 == 1) from rfl)
      have HDj := Lib.hid (show scanD D l j = ((measS D (partL D l j) idL).1 : Int) from rfl)
      have HMe := Lib.hid (impl_measure_id D p a a2 n c (gs D.pats 0).size c2 (partL D l j) wr (HV.out.ext hxw) (hi2.ext hxw) (measOk HOK.out HN.out (HPl.out j hlt) (HPl.out j hlt) (HW.out.part D j)))
      rw [← HK.out, ← HDj.out] at HMe
      clear hi2
      cases hk : scanK D l j
      · rw [hk] at HMe
        have HF := Lib.hid (HNj.out hk)
        clear hk
        go_wp2_with (refine HMe.out.mono ?_; rintro e w4 ⟨rfl, hx4⟩)
        go_ret2
        exact ⟨by rw [HTn.out HF.out, HF.out]; rfl, hxw.trans hx4⟩
      · rw [hk] at HMe
        have Hhk := Lib.hid hk; clear hk
        generalize scanD D l j = dj at *
        go_wp2_with fail
        refine HMe.out.mono ?_
        rintro e w4 ⟨rfl, hx4⟩
        have hx14 : Ext w1 w4 := hx.trans hx4
        have HO4 := Lib.hid (Hho.out.ext hx4)
        go_wp2_with (at_builtin; refine law_append1 _ rfl _ _ 36 rfl 2 (.int .i64 0) 8 und_int64s info_int64 rfl w1.heap.size ad j cc _ _ rfl rfl rfl HO4.out hx14.le (by omega) (by omega) ?_; intro ad6 c6 w6 ho6 hb6 _; have hxw6 : Ext w1 w6 := Ext.below hx14 hb6)
        refine ⟨⟨j + 1, ad6, c6, by omega, by go_num, rfl, by rw [HST.out, I_append]; exact ho6, (fun i hi => ?_), hxw6⟩, by simp [intOf]; omega⟩
        by_cases e : i < j
        · exact Hhks.out i e
        · obtain rfl : i = j := by omega
          exact Hhk.out
    · obtain rfl : j = N := by omega
      have HB := Lib.hid (HY0.out Hhks.out HEt.out)
      have HT := Lib.hid (HTx.out HB.out)
      have HWd := Lib.hid (impl_wordOf ad j cc (scanDs D l j) wr Hho.out.ints (scanDs_dig HOK.out l j) (by omega))
      go_wp2_with (refine HWd.out.mono ?_; rintro e w5 ⟨rfl, hx5⟩)
      go_ret2
      exact ⟨by rw [HT.out, HB.out]; rfl, hxw.trans hx5⟩
set_option maxHeartbeats 4000000 in
theorem spec_scan (D : Bc) (p : Nat) (a : Option Addr) (n c : Nat) (b : Option Addr) (m d : Nat) (l : List Int) (w : World) (hv : BcAt w p D a n c) (hok : OkBc D) (hi : Ints w b m d l) (hm : m ≤ 1048576) (hw : Wide l) :
    Calls Try.prog 91 #[.pointer (some ⟨p, 0, none⟩), .slice b m d] w (Ret2 (.string (scanT D l)) (.bool (scanB D l)) w) := by
  have HN := Lib.hid hv.ps.len
  have HL := Lib.hid hi.len
  have HV := Lib.hid hv
  have HI := Lib.hid hi
  have HC := Lib.hid (spec_l08Cut D p a n c b m d l w hv hok hi hm)
  obtain ⟨q0, q1, q2, q3, hps⟩ := hv
  have s10 := hok.s10
  have s1 := hok.s1
  have HOK := Lib.hid hok
  have HW := Lib.hid hw
  have Hhps := Lib.hid hps; clear hps
  clear hok hw
  cases hcb : cutB D m
  · have HF := Lib.hid (scan_no1 (l := l) (D := D) (by rw [HL.out]; exact hcb))
    rw [hcb] at HC
    clear hcb hi
    go_enter Try.func91, Try.ntmps91
    go_wp2_with (refine HC.out.mono ?_; rintro e w1 ⟨rfl, hx1⟩)
    (refine wp_region_up (by kernel_rfl) (by kernel_rfl) (by kernel_rfl) ?_; (repeat (first | (refine mix_q rfl ?_; go_big_quiet_step (fail); refine wpQuiet_nil ?_; show wpMix _ _ _ _ _ _ _) | (refine mix_s rfl ?_; go_wp2_with (fail); first | refine ⟨up_of (by repeat (first | (with_reducible exact Ext.refl _) | (with_reducible refine Ext.drewN ?_ _) | (with_reducible refine Ext.drew ?_) | (with_reducible refine Ext.alloc ?_ _) | ((with_reducible refine Ext.setCell ?_ ?_ _); rotate_left; focus (first | (simp; done) | (simp; omega) | omega)) | assumption | (with_reducible refine Ext.trans ?_ (by assumption)))), ?_⟩ | refine ⟨rfl, rfl, up_of (by repeat (first | (with_reducible exact Ext.refl _) | (with_reducible refine Ext.drewN ?_ _) | (with_reducible refine Ext.drew ?_) | (with_reducible refine Ext.alloc ?_ _) | ((with_reducible refine Ext.setCell ?_ ?_ _); rotate_left; focus (first | (simp; done) | (simp; omega) | omega)) | assumption | (with_reducible refine Ext.trans ?_ (by assumption)))), ?_⟩))); refine mix_nil ?_)
    go_wp2
    go_ret2
    exact ⟨by rw [scanT, HF.out]; rfl, (by repeat (first | (with_reducible exact Ext.refl _) | (with_reducible refine Ext.drewN ?_ _) | (with_reducible refine Ext.drew ?_) | (with_reducible refine Ext.alloc ?_ _) | ((with_reducible refine Ext.setCell ?_ ?_ _); rotate_left; focus (first | (simp; done) | (simp; omega) | omega)) | assumption | (with_reducible refine Ext.trans ?_ (by assumption))))⟩
  rw [hcb] at HC
  have HcutN := Lib.hid (cut_yes hcb s1)
  have HNo2 := Lib.hid (scan_no2 (D := D) (l := l))
  have HNo3 := Lib.hid (fun i (hi : i < cutN D m) => scan_no3 (D := D) (l := l) (i := i) (by rw [HL.out]; exact hi))
  have HYes := Lib.hid (scan_yes (D := D) (l := l) (by rw [HL.out]; exact hcb))
  have HPl := Lib.hid (fun i (hi : i < cutN D m) => partL_len HOK.out (l := l) (i := i) (by rw [HL.out]; exact hcb) (by rw [HL.out]; exact hi))
  have HTx := Lib.hid (show ∀ h : scanB D l = true, scanT D l = textOf (scanDs D l (cutN D m)) by intro h; rw [scanT, h, HL.out]; rfl)
  have HTn := Lib.hid (show ∀ h : scanB D l = false, scanT D l = .empty by intro h; rw [scanT, h]; rfl)
  have hN20 : cutN D m ≤ 20 := HcutN.out.2
  have HEb := Lib.hid (show endsB D l = (nearB (l.take D.start.size) (elsL D.start.data.toList) && nearB (l.drop (m - D.stop.size)) (elsL D.stop.data.toList)) by rw [endsB, HL.out])
  have HY0 := Lib.hid (show (∀ i, i < cutN D m → scanK D l i = true) → endsB D l = true → scanB D l = true from fun h h2 => HYes.out h2 (by rw [HL.out]; exact h))
  have HAt := Lib.hid (fun i (hi : i < cutN D m) => show atN D i + gapN D + (gs D.pats 0).size ≤ m by
    have h1 := HcutN.out.1
    have h2 : atN D (i + 1) ≤ atN D (cutN D m) := by unfold atN; exact Nat.add_le_add_left (Nat.mul_le_mul_right _ hi) _
    rw [atN_succ] at h2
    unfold eachN at h2
    omega)
  have hst : D.start.size ≤ m := by have := HcutN.out.1; unfold atN at this; omega
  have hso : D.stop.size ≤ m := by have := HcutN.out.1; omega
  clear HYes
  obtain ⟨N, hN⟩ : ∃ N, N = cutN D m := ⟨_, rfl⟩
  rw [if_pos rfl, ← hN] at HC
  rw [← hN] at HNo3 HPl HTx HY0 hN20 HAt
  obtain ⟨af, hpre, hf2⟩ := hi.pre (P := Try.prog) 36 2 und_int64s cell_int64 elem_int64s D.start.size hst
  obtain ⟨az, hsuf, hz2⟩ := hi.suf (P := Try.prog) 36 2 und_int64s cell_int64 elem_int64s (m - D.stop.size) (by omega)
  rw [show ((m - D.stop.size : Nat) : Int) = (m : Int) - D.stop.size by omega, show m - (m - D.stop.size) = D.stop.size by omega] at hsuf
  rw [show m - (m - D.stop.size) = D.stop.size by omega] at hz2
  generalize d - (m - D.stop.size) = cz at *
  have k1 := nearOk HOK.out.start (ws := l.take D.start.size) (by rw [hf2.len]) (HW.out.take _)
  have k2 := nearOk HOK.out.stop (ws := l.drop (m - D.stop.size)) (by rw [hz2.len]) (HW.out.drop _)
  have c1' := (patB_t HOK.out.start).1
  have c2' := (patB_t HOK.out.stop).1
  have HNf := Lib.hid (fun W h => spec_near af D.start.size d (l.take D.start.size) D.start W h c1' k1.n10 k1)
  have HNz := Lib.hid (fun W h => spec_near az D.stop.size cz (l.drop (m - D.stop.size)) D.stop W h c2' k2.n10 k2)
  have z1 := k1.n10
  have z2 := k2.n10
  have Hhf2 := Lib.hid hf2; clear hf2; have Hhz2 := Lib.hid hz2; clear hz2; have HhN := Lib.hid hN; clear hN
  clear hi k1 k2 c1' c2' hcb
  go_enter Try.func91, Try.ntmps91
  go_wp2_with fail
  refine HC.out.mono ?_
  rintro e w1 ⟨rfl, hx1⟩
  cases hb1 : nearB (l.take D.start.size) (elsL D.start.data.toList)
  · rw [hb1] at HNf HEb
    have HF := Lib.hid (HNo2.out (by rw [HEb.out]; rfl))
    clear hb1
    go_wp2
    (refine wp_region_from w1 (by repeat (first | (with_reducible exact Ext.refl _) | (with_reducible refine Ext.drewN ?_ _) | (with_reducible refine Ext.drew ?_) | (with_reducible refine Ext.alloc ?_ _) | ((with_reducible refine Ext.setCell ?_ ?_ _); rotate_left; focus (first | (simp; done) | (simp; omega) | omega)) | assumption | (with_reducible refine Ext.trans ?_ (by assumption)))) (by kernel_rfl) (by kernel_rfl) (by kernel_rfl) ?_; (repeat (first | (refine mix_q rfl ?_; go_big_quiet_step (fail); refine wpQuiet_nil ?_; show wpMix _ _ _ _ _ _ _) | (refine mix_s rfl ?_; go_wp2_with (((with_reducible refine (HNf.out _ (Hhf2.out.ext (Ext.trans hx1 (by repeat (first | (with_reducible exact Ext.refl _) | (with_reducible refine Ext.drewN ?_ _) | (with_reducible refine Ext.drew ?_) | (with_reducible refine Ext.alloc ?_ _) | ((with_reducible refine Ext.setCell ?_ ?_ _); rotate_left; focus (first | (simp; done) | (simp; omega) | omega)) | assumption | (with_reducible refine Ext.trans ?_ (by assumption))))))).mono ?_); rintro e w2 ⟨rfl, hy2⟩; have hxw2 : Ext w1 w2 := Ext.trans (by repeat (first | (with_reducible exact Ext.refl _) | (with_reducible refine Ext.drewN ?_ _) | (with_reducible refine Ext.drew ?_) | (with_reducible refine Ext.alloc ?_ _) | ((with_reducible refine Ext.setCell ?_ ?_ _); rotate_left; focus (first | (simp; done) | (simp; omega) | omega)) | assumption | (with_reducible refine Ext.trans ?_ (by assumption)))) hy2; have hz2 := hy2; clear hy2)); first | refine ⟨up_of (by repeat (first | (with_reducible exact Ext.refl _) | (with_reducible refine Ext.drewN ?_ _) | (with_reducible refine Ext.drew ?_) | (with_reducible refine Ext.alloc ?_ _) | ((with_reducible refine Ext.setCell ?_ ?_ _); rotate_left; focus (first | (simp; done) | (simp; omega) | omega)) | assumption | (with_reducible refine Ext.trans ?_ (by assumption)))), ?_⟩ | refine ⟨rfl, rfl, up_of (by repeat (first | (with_reducible exact Ext.refl _) | (with_reducible refine Ext.drewN ?_ _) | (with_reducible refine Ext.drew ?_) | (with_reducible refine Ext.alloc ?_ _) | ((with_reducible refine Ext.setCell ?_ ?_ _); rotate_left; focus (first | (simp; done) | (simp; omega) | omega)) | assumption | (with_reducible refine Ext.trans ?_ (by assumption)))), ?_⟩))); refine mix_nil ?_)
    go_wp2
    go_ret2
    exact ⟨by rw [HTn.out HF.out, HF.out]; rfl, hx1.trans (by repeat (first | (with_reducible exact Ext.refl _) | (with_reducible refine Ext.drewN ?_ _) | (with_reducible refine Ext.drew ?_) | (with_reducible refine Ext.alloc ?_ _) | ((with_reducible refine Ext.setCell ?_ ?_ _); rotate_left; focus (first | (simp; done) | (simp; omega) | omega)) | assumption | (with_reducible refine Ext.trans ?_ (by assumption))))⟩
  rw [hb1] at HNf HEb
  cases hb2 : nearB (l.drop (m - D.stop.size)) (elsL D.stop.data.toList)
  · rw [hb2] at HNz HEb
    have HF := Lib.hid (HNo2.out (by rw [HEb.out]; rfl))
    clear hb1 hb2
    go_wp2
    (refine wp_region_from w1 (by repeat (first | (with_reducible exact Ext.refl _) | (with_reducible refine Ext.drewN ?_ _) | (with_reducible refine Ext.drew ?_) | (with_reducible refine Ext.alloc ?_ _) | ((with_reducible refine Ext.setCell ?_ ?_ _); rotate_left; focus (first | (simp; done) | (simp; omega) | omega)) | assumption | (with_reducible refine Ext.trans ?_ (by assumption)))) (by kernel_rfl) (by kernel_rfl) (by kernel_rfl) ?_; (repeat (first | (refine mix_q rfl ?_; go_big_quiet_step (fail); refine wpQuiet_nil ?_; show wpMix _ _ _ _ _ _ _) | (refine mix_s rfl ?_; go_wp2_with (first | ((with_reducible refine (HNf.out _ (Hhf2.out.ext (Ext.trans hx1 (by repeat (first | (with_reducible exact Ext.refl _) | (with_reducible refine Ext.drewN ?_ _) | (with_reducible refine Ext.drew ?_) | (with_reducible refine Ext.alloc ?_ _) | ((with_reducible refine Ext.setCell ?_ ?_ _); rotate_left; focus (first | (simp; done) | (simp; omega) | omega)) | assumption | (with_reducible refine Ext.trans ?_ (by assumption))))))).mono ?_); rintro e w2 ⟨rfl, hy2⟩; have hxw2 : Ext w1 w2 := Ext.trans (by repeat (first | (with_reducible exact Ext.refl _) | (with_reducible refine Ext.drewN ?_ _) | (with_reducible refine Ext.drew ?_) | (with_reducible refine Ext.alloc ?_ _) | ((with_reducible refine Ext.setCell ?_ ?_ _); rotate_left; focus (first | (simp; done) | (simp; omega) | omega)) | assumption | (with_reducible refine Ext.trans ?_ (by assumption)))) hy2; have hz2 := hy2; clear hy2) | ((with_reducible refine (HNz.out _ (Hhz2.out.ext (Ext.trans hx1 (by repeat (first | (with_reducible exact Ext.refl _) | (with_reducible refine Ext.drewN ?_ _) | (with_reducible refine Ext.drew ?_) | (with_reducible refine Ext.alloc ?_ _) | ((with_reducible refine Ext.setCell ?_ ?_ _); rotate_left; focus (first | (simp; done) | (simp; omega) | omega)) | assumption | (with_reducible refine Ext.trans ?_ (by assumption))))))).mono ?_); rintro e w3 ⟨rfl, hy3⟩; have hxw3 : Ext w1 w3 := Ext.trans (by repeat (first | (with_reducible exact Ext.refl _) | (with_reducible refine Ext.drewN ?_ _) | (with_reducible refine Ext.drew ?_) | (with_reducible refine Ext.alloc ?_ _) | ((with_reducible refine Ext.setCell ?_ ?_ _); rotate_left; focus (first | (simp; done) | (simp; omega) | omega)) | assumption | (with_reducible refine Ext.trans ?_ (by assumption)))) hy3; have hz3 := hy3; clear hy3)); first | refine ⟨up_of (by repeat (first | (with_reducible exact Ext.refl _) | (with_reducible refine Ext.drewN ?_ _) | (with_reducible refine Ext.drew ?_) | (with_reducible refine Ext.alloc ?_ _) | ((with_reducible refine Ext.setCell ?_ ?_ _); rotate_left; focus (first | (simp; done) | (simp; omega) | omega)) | assumption | (with_reducible refine Ext.trans ?_ (by assumption)))), ?_⟩ | refine ⟨rfl, rfl, up_of (by repeat (first | (with_reducible exact Ext.refl _) | (with_reducible refine Ext.drewN ?_ _) | (with_reducible refine Ext.drew ?_) | (with_reducible refine Ext.alloc ?_ _) | ((with_reducible refine Ext.setCell ?_ ?_ _); rotate_left; focus (first | (simp; done) | (simp; omega) | omega)) | assumption | (with_reducible refine Ext.trans ?_ (by assumption)))), ?_⟩))); refine mix_nil ?_)
    go_wp2
    go_ret2
    exact ⟨by rw [HTn.out HF.out, HF.out]; rfl, hx1.trans (by repeat (first | (with_reducible exact Ext.refl _) | (with_reducible refine Ext.drewN ?_ _) | (with_reducible refine Ext.drew ?_) | (with_reducible refine Ext.alloc ?_ _) | ((with_reducible refine Ext.setCell ?_ ?_ _); rotate_left; focus (first | (simp; done) | (simp; omega) | omega)) | assumption | (with_reducible refine Ext.trans ?_ (by assumption))))⟩
  rw [hb2] at HNz HEb
  have HEt := Lib.hid (show endsB D l = true by rw [HEb.out]; rfl)
  clear hb1 hb2
  go_wp2
  (refine wp_region_from w1 (by repeat (first | (with_reducible exact Ext.refl _) | (with_reducible refine Ext.drewN ?_ _) | (with_reducible refine Ext.drew ?_) | (with_reducible refine Ext.alloc ?_ _) | ((with_reducible refine Ext.setCell ?_ ?_ _); rotate_left; focus (first | (simp; done) | (simp; omega) | omega)) | assumption | (with_reducible refine Ext.trans ?_ (by assumption)))) (by kernel_rfl) (by kernel_rfl) (by kernel_rfl) ?_; (repeat (first | (refine mix_q rfl ?_; go_big_quiet_step (fail); refine wpQuiet_nil ?_; show wpMix _ _ _ _ _ _ _) | (refine mix_s rfl ?_; go_wp2_with (first | ((with_reducible refine (HNf.out _ (Hhf2.out.ext (Ext.trans hx1 (by repeat (first | (with_reducible exact Ext.refl _) | (with_reducible refine Ext.drewN ?_ _) | (with_reducible refine Ext.drew ?_) | (with_reducible refine Ext.alloc ?_ _) | ((with_reducible refine Ext.setCell ?_ ?_ _); rotate_left; focus (first | (simp; done) | (simp; omega) | omega)) | assumption | (with_reducible refine Ext.trans ?_ (by assumption))))))).mono ?_); rintro e w2 ⟨rfl, hy2⟩; have hxw2 : Ext w1 w2 := Ext.trans (by repeat (first | (with_reducible exact Ext.refl _) | (with_reducible refine Ext.drewN ?_ _) | (with_reducible refine Ext.drew ?_) | (with_reducible refine Ext.alloc ?_ _) | ((with_reducible refine Ext.setCell ?_ ?_ _); rotate_left; focus (first | (simp; done) | (simp; omega) | omega)) | assumption | (with_reducible refine Ext.trans ?_ (by assumption)))) hy2; have hz2 := hy2; clear hy2) | ((with_reducible refine (HNz.out _ (Hhz2.out.ext (Ext.trans hx1 (by repeat (first | (with_reducible exact Ext.refl _) | (with_reducible refine Ext.drewN ?_ _) | (with_reducible refine Ext.drew ?_) | (with_reducible refine Ext.alloc ?_ _) | ((with_reducible refine Ext.setCell ?_ ?_ _); rotate_left; focus (first | (simp; done) | (simp; omega) | omega)) | assumption | (with_reducible refine Ext.trans ?_ (by assumption))))))).mono ?_); rintro e w3 ⟨rfl, hy3⟩; have hxw3 : Ext w1 w3 := Ext.trans (by repeat (first | (with_reducible exact Ext.refl _) | (with_reducible refine Ext.drewN ?_ _) | (with_reducible refine Ext.drew ?_) | (with_reducible refine Ext.alloc ?_ _) | ((with_reducible refine Ext.setCell ?_ ?_ _); rotate_left; focus (first | (simp; done) | (simp; omega) | omega)) | assumption | (with_reducible refine Ext.trans ?_ (by assumption)))) hy3; have hz3 := hy3; clear hy3)); first | refine ⟨up_of (by repeat (first | (with_reducible exact Ext.refl _) | (with_reducible refine Ext.drewN ?_ _) | (with_reducible refine Ext.drew ?_) | (with_reducible refine Ext.alloc ?_ _) | ((with_reducible refine Ext.setCell ?_ ?_ _); rotate_left; focus (first | (simp; done) | (simp; omega) | omega)) | assumption | (with_reducible refine Ext.trans ?_ (by assumption)))), ?_⟩ | refine ⟨rfl, rfl, up_of (by repeat (first | (with_reducible exact Ext.refl _) | (with_reducible refine Ext.drewN ?_ _) | (with_reducible refine Ext.drew ?_) | (with_reducible refine Ext.alloc ?_ _) | ((with_reducible refine Ext.setCell ?_ ?_ _); rotate_left; focus (first | (simp; done) | (simp; omega) | omega)) | assumption | (with_reducible refine Ext.trans ?_ (by assumption)))), ?_⟩))); refine mix_nil ?_)
  clear hpre hsuf
  go_wp2
  go_loopw [8, 9, 10, 11] (fun v i _ _ wr => ∃ (j : Nat) (ad : Option Addr) (cc : Nat), j ≤ N ∧ i = .int .i64 j ∧ v = .slice ad j cc ∧ Own wr w1.heap.size 2 ad j cc (I (scanDs D l j)) ∧ (∀ i, i < j → scanK D l i = true) ∧ Ext w1 wr) (fun _ i _ _ _ => N - (intOf i).toNat)
  case atStart => exact ⟨0, _, 0, Nat.zero_le _, rfl, rfl, (Own.lit0 _ _).mono (Ext.le (by repeat (first | (with_reducible exact Ext.refl _) | (with_reducible refine Ext.drewN ?_ _) | (with_reducible refine Ext.drew ?_) | (with_reducible refine Ext.alloc ?_ _) | ((with_reducible refine Ext.setCell ?_ ?_ _); rotate_left; focus (first | (simp; done) | (simp; omega) | omega)) | assumption | (with_reducible refine Ext.trans ?_ (by assumption))))), (fun i hi => by omega), (by repeat (first | (with_reducible exact Ext.refl _) | (with_reducible refine Ext.drewN ?_ _) | (with_reducible refine Ext.drew ?_) | (with_reducible refine Ext.alloc ?_ _) | ((with_reducible refine Ext.setCell ?_ ?_ _); rotate_left; focus (first | (simp; done) | (simp; omega) | omega)) | assumption | (with_reducible refine Ext.trans ?_ (by assumption))))⟩
  case round =>
    obtain ⟨j, ad, cc, hj, rfl, rfl, ho, hks, hx⟩ := hrel
    have Hho := Lib.hid ho; clear ho; have Hhks := Lib.hid hks; clear hks
    have hxw : Ext w wr := hx1.trans hx
    by_cases hlt : j < N
    · have HP := Lib.hid (spec_l08Part D p a n c b m d l j w wr (HV.out.ext hxw) HOK.out HI.out hm (by omega) (HAt.out j hlt))
      have HPlj := Lib.hid (HPl.out j hlt)
      have HST := Lib.hid (scanDs_succ D l j)
      have HNj := Lib.hid (HNo3.out j hlt)
      have HK := Lib.hid (show scanK D l j = ((measS D (partL D l j) idL).2.2 == 1) from rfl)
      have HDj := Lib.hid (show scanD D l j = ((measS D (partL D l j) idL).1 : Int) from rfl)
      have HWp := Lib.hid (HW.out.part D j)
      generalize partL D l j = part at *
      go_wp2_with fail
      refine HP.out.mono ?_
      rintro e w2 ⟨a2, c2, rfl, hx2, hi2⟩
      have hxw2 : Ext w w2 := hxw.trans hx2
      have hx12 : Ext w1 w2 := hx.trans hx2
      have HMe := Lib.hid (spec_measure_id D p a a2 n c part.length c2 part w2 (HV.out.ext hxw2) (hi2.ext hxw2) (measOk HOK.out HN.out rfl HPlj.out HWp.out))
      rw [← HK.out, ← HDj.out] at HMe
      clear hi2
      cases hk : scanK D l j
      · rw [hk] at HMe
        have HF := Lib.hid (HNj.out hk)
        clear hk
        go_wp2_with (refine HMe.out.mono ?_; rintro e w4 ⟨rfl, hx4⟩)
        go_ret2
        exact ⟨by rw [HTn.out HF.out, HF.out]; rfl, hxw2.trans hx4⟩
      · rw [hk] at HMe
        have Hhk := Lib.hid hk; clear hk
        generalize scanD D l j = dj at *
        go_wp2_with fail
        refine HMe.out.mono ?_
        rintro e w4 ⟨rfl, hx4⟩
        have hx14 : Ext w1 w4 := hx12.trans hx4
        have HO4 := Lib.hid (Hho.out.ext (hx2.trans hx4))
        go_wp2_with (at_builtin; refine law_append1 _ rfl _ _ 36 rfl 2 (.int .i64 0) 8 und_int64s info_int64 rfl w1.heap.size ad j cc _ _ rfl rfl rfl HO4.out hx14.le (by omega) (by omega) ?_; intro ad6 c6 w6 ho6 hb6 _; have hxw6 : Ext w1 w6 := Ext.below hx14 hb6)
        refine ⟨⟨j + 1, ad6, c6, by omega, by go_num, rfl, by rw [HST.out, I_append]; exact ho6, (fun i hi => ?_), hxw6⟩, by simp [intOf]; omega⟩
        by_cases e : i < j
        · exact Hhks.out i e
        · obtain rfl : i = j := by omega
          exact Hhk.out
    · obtain rfl : j = N := by omega
      have HB := Lib.hid (HY0.out Hhks.out HEt.out)
      have HT := Lib.hid (HTx.out HB.out)
      have HWd := Lib.hid (spec_from ad j cc (scanDs D l j) wr Hho.out.ints (scanDs_dig HOK.out l j) (by omega))
      go_wp2_with (refine HWd.out.mono ?_; rintro e w5 ⟨rfl, hx5⟩)
      go_ret2
      exact ⟨by rw [HT.out, HB.out]; rfl, hxw.trans hx5⟩
end Go.Proofs.Ytnmkckghfckgbaa
