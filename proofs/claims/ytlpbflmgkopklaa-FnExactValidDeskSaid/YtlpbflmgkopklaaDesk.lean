/- Walks: desks: which are valid, on both sides. -/
import Derived.Test.YtlpbflmgkopklaaWts
import Derived.Test.YtlpbflmgkopklaaName
import Derived.Test.YtlpbflmgkopklaaCube
namespace Go.Proofs.Ytlpbflmgkopklaa
set_option maxRecDepth 100000
open Go.RowKit

structure Dk where
  names : List ByteArray
  sys : List Wt
/-- the k-th name and system are right -/
def okD (D : Dk) (k : Nat) : Bool := nameB (gs D.names k) && ((decide (k = 0) || Op.bytesLess (gs D.names (k - 1)).toList (gs D.names k).toList) && validB (gw D.sys k))
def deskB (D : Dk) : Bool := (decide (D.names.length ≤ 6) && decide (D.sys.length = D.names.length)) && (List.range D.names.length).all (okD D)
set_option maxHeartbeats 2000000 in
theorem spec_isO (b o : Nat) (W : Wt) (a : Option Addr) (n c : Nat) (w : World) (h : WtO w b o W a n c) :
    Calls Try.prog 61 #[.pointer (some ⟨b, o, none⟩)] w (Qt (.bool (validB W)) w) := by
  obtain ⟨base, modulus, target, l⟩ := W
  obtain ⟨c0, c1, c2, c3, hw⟩ := h
  simp only at c0 c1 c2 c3 hw
  have HL := Lib.hid hw.len
  have HW := Lib.hid hw
  clear hw
  have HM := Lib.hid (spec_many base n)
  have HI := Lib.hid (spec_in modulus 2 36)
  have HT := Lib.hid (spec_in target 0 (modulus - 1))
  cases hm : manyB base n
  · rw [hm] at HM
    have HV := Lib.hid (show validB ⟨base, modulus, target, l⟩ = false by rw [validB, HL.out, hm]; rfl)
    clear hm
    go_enter Try.func61, Try.ntmps61
    go_wp2
    go_quiet ((go_at_call 84; exact quietS (HM.out _)))
    go_wp2
    go_ret
    exact ⟨rb HV.out.symm, _, rfl⟩
  · rw [hm] at HM
    have hn : n ≤ 20 := by
      have : inB n 1 20 = true := by unfold manyB at hm; simp at hm; exact hm.2.1
      have := (inB_t.1 this).2; omega
    cases hi : inB modulus 2 36
    · rw [hi] at HI
      have HV := Lib.hid (show validB ⟨base, modulus, target, l⟩ = false by rw [validB, HL.out, hm, hi]; rfl)
      clear hm hi
      go_enter Try.func61, Try.ntmps61
      go_wp2
      go_quiet ((first | (go_at_call 84; exact quietS (HM.out _)) | (go_at_call 37; with_reducible exact quietS (HI.out _))))
      go_wp2
      go_ret
      exact ⟨rb HV.out.symm, _, rfl⟩
    · rw [hi] at HI
      obtain ⟨m2, m36⟩ := inB_t.1 hi
      cases ht : inB target 0 (modulus - 1)
      · rw [ht] at HT
        have HV := Lib.hid (show validB ⟨base, modulus, target, l⟩ = false by rw [validB, HL.out, hm, hi, ht]; rfl)
        clear hm hi ht
        go_enter Try.func61, Try.ntmps61
        go_wp2
        go_quiet ((first | (go_at_call 84; exact quietS (HM.out _)) | (go_at_call 37; with_reducible exact quietS (HI.out _)) | (go_at_call 37; with_reducible exact quietS (HT.out _))))
        go_wp2
        go_ret
        exact ⟨rb HV.out.symm, _, rfl⟩
      · rw [ht] at HT
        have HV := Lib.hid (show validB ⟨base, modulus, target, l⟩ = belowB l modulus by rw [validB, HL.out, hm, hi, ht]; rfl)
        clear hm hi ht
        go_enter Try.func61, Try.ntmps61
        go_wp2
        go_quiet ((first | (go_at_call 84; exact quietS (HM.out _)) | (go_at_call 37; with_reducible exact quietS (HI.out _)) | (go_at_call 37; with_reducible exact quietS (HT.out _)) | (go_at_call 85; exact quietS (spec_below _ _ _ l _ _ (HW.out.drewN _) (by omega) (by omega) (by omega)))))
        go_wp2
        go_ret
        exact ⟨rb HV.out.symm, _, rfl⟩

structure DkAt (w : World) (q : Nat) (D : Dk) (a : Option Addr) (n c : Nat) (b : Option Addr) (m d : Nat) : Prop where
  c0 : ∀ w', Ext w w' → w'.cell? ⟨q, 0, none⟩ = some (.slice a n c)
  c1 : ∀ w', Ext w w' → w'.cell? ⟨q, 1, none⟩ = some (.slice b m d)
  ns : Strs w a n c D.names
  ws : Wts w b m d D.sys
  sz : ∀ s ∈ D.names, s.size ≤ 9223372036854775807
structure DkIn (w : World) (D : Dk) (a : Option Addr) (n c : Nat) (b : Option Addr) (m d : Nat) : Prop where
  ns : Strs w a n c D.names
  ws : Wts w b m d D.sys
  sz : ∀ s ∈ D.names, s.size ≤ 9223372036854775807
theorem DkIn.ext {w w' : World} {D : Dk} {a : Option Addr} {n c : Nat} {b : Option Addr} {m d : Nat} (h : DkIn w D a n c b m d) (hx : Ext w w') : DkIn w' D a n c b m d := ⟨h.ns.ext hx, h.ws.ext hx, h.sz⟩
theorem DkIn.box {w : World} {D : Dk} {a : Option Addr} {n c : Nat} {b : Option Addr} {m d : Nat} (h : DkIn w D a n c b m d) (T : TypeId) : DkAt (w.alloc (.cells #[.slice a n c, .slice b m d] T)) w.heap.size D a n c b m d :=
  ⟨fun _ hx => hx.cell (by go_simp), fun _ hx => hx.cell (by go_simp), h.ns.ext ((Ext.refl w).alloc _), h.ws.ext ((Ext.refl w).alloc _), h.sz⟩
theorem desk_no0 {D : Dk} (h : ¬ (D.names.length ≤ 6 ∧ D.sys.length = D.names.length)) : deskB D = false := by
  unfold deskB
  by_cases h1 : D.names.length ≤ 6
  · have : ¬ D.sys.length = D.names.length := fun h2 => h ⟨h1, h2⟩
    simp [this]
  · simp [h1]
theorem desk_no {D : Dk} {k : Nat} (hk : k < D.names.length) (h : okD D k = false) : deskB D = false := by
  unfold deskB
  rw [List.all_eq_false.2 ⟨k, List.mem_range.2 hk, by rw [h]; simp⟩]; simp
theorem desk_yes {D : Dk} (h0 : D.names.length ≤ 6) (h1 : D.sys.length = D.names.length) (h : ∀ k, k < D.names.length → okD D k = true) : deskB D = true := by
  unfold deskB
  rw [List.all_eq_true.2 fun k hk => h k (List.mem_range.1 hk)]; simp [h0, h1]
theorem Wts.ix {P : Program} {w : World} {a : Option Addr} {n c : Nat} {L : List Wt} (h : Wts w a n c L) (T E : TypeId) (ht : P.underlying T = some (.slice E)) (he : P.cellsOf E = 4) (k : Nat) (hk : k < n) (K : IntKind) :
    ∃ b o a' n' c', (∀ w', (Instr.indexAt T (.slice a n c) (.int K k)).run P w' = .ok (.pointer (some ⟨b, o, none⟩)) w') ∧
      (∀ w', Ext w w' → w'.cell? ⟨b, o, none⟩ = some (.int .i64 (gw L k).base)) ∧ (∀ w', Ext w w' → w'.cell? ⟨b, o + 1, none⟩ = some (.int .i64 (gw L k).modulus)) ∧ (∀ w', Ext w w' → w'.cell? ⟨b, o + 2, none⟩ = some (.int .i64 (gw L k).target)) ∧ (∀ w', Ext w w' → w'.cell? ⟨b, o + 3, none⟩ = some (.slice a' n' c')) ∧ WtO w b o (gw L k) a' n' c' := by
  obtain ⟨b, o, a', n', c', h1, h2⟩ := h.at T E ht he k hk K
  exact ⟨b, o, a', n', c', h1, fun _ hx => hx.cell h2.c0, fun _ hx => hx.cell h2.c1, fun _ hx => hx.cell h2.c2, fun _ hx => hx.cell h2.c3, h2⟩

theorem uptoD {p : Nat → Bool} {k : Nat} (h : ∀ j, j < k → p j = true) (hk : p k = true) : ∀ j, j < k + 1 → p j = true := fun j hj => by
  by_cases e : j < k
  · exact h j e
  · obtain rfl : j = k := by omega
    exact hk
theorem Strs.one {P : Program} {w : World} {a : Option Addr} {n c : Nat} {l : List ByteArray} (h : Strs w a n c l) (T E : TypeId) (ht : P.underlying T = some (.slice E)) (he : P.cellsOf E = 1) (i : Int) (h0 : 0 ≤ i) (h1 : i < n) :
    ∃ b off, One P T w a n c i b off (.string (gs l i.toNat)) := by
  obtain ⟨b, off, h2⟩ := Sl.one h T E ht he i h0 h1
  rw [gv_St (by rw [h.len]; omega)] at h2
  exact ⟨b, off, h2⟩
set_option maxHeartbeats 4000000 in
theorem spec_desk (q : Nat) (D : Dk) (a : Option Addr) (n c : Nat) (b : Option Addr) (m d : Nat) (w : World) (hv : DkAt w q D a n c b m d) :
    Calls Try.prog 67 #[.pointer (some ⟨q, 0, none⟩)] w (Ret (.bool (deskB D)) w) := by
  obtain ⟨y, hy⟩ : ∃ y, y = deskB D := ⟨_, rfl⟩
  rw [← hy]
  have HL := Lib.hid hv.ns.len
  have HM := Lib.hid hv.ws.1
  have HNo0 := Lib.hid (fun (h : ¬ (n ≤ 6 ∧ m = n)) => hy.trans (desk_no0 (D := D) (by rw [hv.ns.len, hv.ws.1]; exact h)))
  have HNo := Lib.hid (fun k (hk : k < n) h => hy.trans (desk_no (D := D) (k := k) (by rw [hv.ns.len]; exact hk) h))
  have HYes := Lib.hid (fun (h0 : n ≤ 6) (h1 : m = n) (h : ∀ k, k < n → okD D k = true) => hy.trans (desk_yes (D := D) (by rw [hv.ns.len]; exact h0) (by rw [hv.ns.len, hv.ws.1]; exact h1) (by rw [hv.ns.len]; exact h)))
  have HSz := Lib.hid (fun k (h : k < n) => hv.sz _ (gs_mem (l := D.names) (k := k) (by rw [hv.ns.len]; exact h)))
  obtain ⟨bi, oi, hix, hcell⟩ := hv.ns.ix (P := Try.prog) 44 9 und_strs cell_str
  have HW := Lib.hid hv.ws
  have HN := Lib.hid hv.ns
  obtain ⟨c0, c1, _, _, _⟩ := hv
  clear hy
  have hxw : Ext w w := Ext.refl w
  by_cases h6 : n ≤ 6
  rotate_left
  · have HX := Lib.hid (HNo0.out (by omega))
    have hd6 : decide ((6 : Int) < n) = true := by simp; omega
    go_enter Try.func67, Try.ntmps67
    go_wp2
    (refine wp_region_from w (by repeat (first | (with_reducible exact Ext.refl _) | (with_reducible refine Ext.drewN ?_ _) | (with_reducible refine Ext.drew ?_) | (with_reducible refine Ext.alloc ?_ _) | ((with_reducible refine Ext.setCell ?_ ?_ _); rotate_left; focus (first | (simp; done) | (simp; omega) | omega)) | assumption | (with_reducible refine Ext.trans ?_ (by assumption)))) (by kernel_rfl) (by kernel_rfl) (seqB_of (by kernel_rfl)) ?_; (repeat (first | (refine mix_q rfl ?_; go_big_quiet_step (fail); refine wpQuiet_nil ?_; show wpMix _ _ _ _ _ _ _) | (refine mix_s rfl ?_; go_wp2_with (fail); first | refine ⟨up_of (by repeat (first | (with_reducible exact Ext.refl _) | (with_reducible refine Ext.drewN ?_ _) | (with_reducible refine Ext.drew ?_) | (with_reducible refine Ext.alloc ?_ _) | ((with_reducible refine Ext.setCell ?_ ?_ _); rotate_left; focus (first | (simp; done) | (simp; omega) | omega)) | assumption | (with_reducible refine Ext.trans ?_ (by assumption)))), ?_⟩ | refine ⟨rfl, rfl, up_of (by repeat (first | (with_reducible exact Ext.refl _) | (with_reducible refine Ext.drewN ?_ _) | (with_reducible refine Ext.drew ?_) | (with_reducible refine Ext.alloc ?_ _) | ((with_reducible refine Ext.setCell ?_ ?_ _); rotate_left; focus (first | (simp; done) | (simp; omega) | omega)) | assumption | (with_reducible refine Ext.trans ?_ (by assumption)))), ?_⟩))); refine mix_nil ?_)
    go_wp2
    go_ret
    exact ⟨rb HX.out.symm, (by repeat (first | (with_reducible exact Ext.refl _) | (with_reducible refine Ext.drewN ?_ _) | (with_reducible refine Ext.drew ?_) | (with_reducible refine Ext.alloc ?_ _) | ((with_reducible refine Ext.setCell ?_ ?_ _); rotate_left; focus (first | (simp; done) | (simp; omega) | omega)) | assumption | (with_reducible refine Ext.trans ?_ (by assumption))))⟩
  have hd6 : decide ((6 : Int) < n) = false := by simp; omega
  by_cases hmn : m = n
  rotate_left
  · have HX := Lib.hid (HNo0.out (by omega))
    go_enter Try.func67, Try.ntmps67
    go_wp2
    (refine wp_region_from w (by repeat (first | (with_reducible exact Ext.refl _) | (with_reducible refine Ext.drewN ?_ _) | (with_reducible refine Ext.drew ?_) | (with_reducible refine Ext.alloc ?_ _) | ((with_reducible refine Ext.setCell ?_ ?_ _); rotate_left; focus (first | (simp; done) | (simp; omega) | omega)) | assumption | (with_reducible refine Ext.trans ?_ (by assumption)))) (by kernel_rfl) (by kernel_rfl) (seqB_of (by kernel_rfl)) ?_; (repeat (first | (refine mix_q rfl ?_; go_big_quiet_step (fail); refine wpQuiet_nil ?_; show wpMix _ _ _ _ _ _ _) | (refine mix_s rfl ?_; go_wp2_with (fail); first | refine ⟨up_of (by repeat (first | (with_reducible exact Ext.refl _) | (with_reducible refine Ext.drewN ?_ _) | (with_reducible refine Ext.drew ?_) | (with_reducible refine Ext.alloc ?_ _) | ((with_reducible refine Ext.setCell ?_ ?_ _); rotate_left; focus (first | (simp; done) | (simp; omega) | omega)) | assumption | (with_reducible refine Ext.trans ?_ (by assumption)))), ?_⟩ | refine ⟨rfl, rfl, up_of (by repeat (first | (with_reducible exact Ext.refl _) | (with_reducible refine Ext.drewN ?_ _) | (with_reducible refine Ext.drew ?_) | (with_reducible refine Ext.alloc ?_ _) | ((with_reducible refine Ext.setCell ?_ ?_ _); rotate_left; focus (first | (simp; done) | (simp; omega) | omega)) | assumption | (with_reducible refine Ext.trans ?_ (by assumption)))), ?_⟩))); refine mix_nil ?_)
    go_wp2
    go_ret
    exact ⟨rb HX.out.symm, (by repeat (first | (with_reducible exact Ext.refl _) | (with_reducible refine Ext.drewN ?_ _) | (with_reducible refine Ext.drew ?_) | (with_reducible refine Ext.alloc ?_ _) | ((with_reducible refine Ext.setCell ?_ ?_ _); rotate_left; focus (first | (simp; done) | (simp; omega) | omega)) | assumption | (with_reducible refine Ext.trans ?_ (by assumption))))⟩
  subst hmn
  go_enter Try.func67, Try.ntmps67
  go_wp2
  (refine wp_region_from w (by repeat (first | (with_reducible exact Ext.refl _) | (with_reducible refine Ext.drewN ?_ _) | (with_reducible refine Ext.drew ?_) | (with_reducible refine Ext.alloc ?_ _) | ((with_reducible refine Ext.setCell ?_ ?_ _); rotate_left; focus (first | (simp; done) | (simp; omega) | omega)) | assumption | (with_reducible refine Ext.trans ?_ (by assumption)))) (by kernel_rfl) (by kernel_rfl) (seqB_of (by kernel_rfl)) ?_; (repeat (first | (refine mix_q rfl ?_; go_big_quiet_step (fail); refine wpQuiet_nil ?_; show wpMix _ _ _ _ _ _ _) | (refine mix_s rfl ?_; go_wp2_with (fail); first | refine ⟨up_of (by repeat (first | (with_reducible exact Ext.refl _) | (with_reducible refine Ext.drewN ?_ _) | (with_reducible refine Ext.drew ?_) | (with_reducible refine Ext.alloc ?_ _) | ((with_reducible refine Ext.setCell ?_ ?_ _); rotate_left; focus (first | (simp; done) | (simp; omega) | omega)) | assumption | (with_reducible refine Ext.trans ?_ (by assumption)))), ?_⟩ | refine ⟨rfl, rfl, up_of (by repeat (first | (with_reducible exact Ext.refl _) | (with_reducible refine Ext.drewN ?_ _) | (with_reducible refine Ext.drew ?_) | (with_reducible refine Ext.alloc ?_ _) | ((with_reducible refine Ext.setCell ?_ ?_ _); rotate_left; focus (first | (simp; done) | (simp; omega) | omega)) | assumption | (with_reducible refine Ext.trans ?_ (by assumption)))), ?_⟩))); refine mix_nil ?_)
  go_wp2
  go_loopw [3] (fun i wr => ∃ k : Nat, k ≤ m ∧ i = .int .i64 k ∧ (∀ j, j < k → okD D j = true) ∧ Ext w wr) (fun i _ => m - (intOf i).toNat)
  case atStart => exact ⟨0, Nat.zero_le _, rfl, (fun j hj => by omega), (by repeat (first | (with_reducible exact Ext.refl _) | (with_reducible refine Ext.drewN ?_ _) | (with_reducible refine Ext.drew ?_) | (with_reducible refine Ext.alloc ?_ _) | ((with_reducible refine Ext.setCell ?_ ?_ _); rotate_left; focus (first | (simp; done) | (simp; omega) | omega)) | assumption | (with_reducible refine Ext.trans ?_ (by assumption))))⟩
  case round =>
    obtain ⟨k, hk, rfl, hp, hx⟩ := hrel
    have hxr : Ext w wr := hx
    have hd6r : decide ((6 : Int) < m) = false := hd6
    have Hhp := Lib.hid hp; clear hp
    by_cases hlt : k < m
    · have hs := HSz.out k hlt
      have HIs := Lib.hid (fun W h => spec_IsName (gs D.names k) W h)
      obtain ⟨b9, o9, a9, n9, c9, wix, w0, w1, w2, w3, hwt⟩ := (HW.out.ext hx).ix (P := Try.prog) 50 34 und_wts cell_wt k hlt .i64
      have HWt := Lib.hid (fun W (h : Ext wr W) => spec_isO b9 o9 (gw D.sys k) a9 n9 c9 W (hwt.ext h))
      clear hwt
      have HOk := Lib.hid (show okD D k = (nameB (gs D.names k) && ((decide (k = 0) || Op.bytesLess (gs D.names (k - 1)).toList (gs D.names k).toList) && validB (gw D.sys k))) from rfl)
      cases hnm : nameB (gs D.names k)
      · have HX := Lib.hid (HNo.out k hlt (by rw [HOk.out, hnm]; rfl))
        rw [hnm] at HIs
        clear hnm
        go_wp2
        (refine wp_region_from wr (by repeat (first | (with_reducible exact Ext.refl _) | (with_reducible refine Ext.drewN ?_ _) | (with_reducible refine Ext.drew ?_) | (with_reducible refine Ext.alloc ?_ _) | ((with_reducible refine Ext.setCell ?_ ?_ _); rotate_left; focus (first | (simp; done) | (simp; omega) | omega)) | assumption | (with_reducible refine Ext.trans ?_ (by assumption)))) (by kernel_rfl) (by kernel_rfl) (seqB_of (by kernel_rfl)) ?_; (repeat (first | (refine mix_q rfl ?_; go_big_quiet_step (fail); refine wpQuiet_nil ?_; show wpMix _ _ _ _ _ _ _) | (refine mix_s rfl ?_; go_wp2_with ((first | ((with_reducible refine (HIs.out _ hs).mono ?_); rintro e w4 ⟨rfl, rfl⟩) | ((with_reducible refine (HWt.out _ (by repeat (first | (with_reducible exact Ext.refl _) | (with_reducible refine Ext.drewN ?_ _) | (with_reducible refine Ext.drew ?_) | (with_reducible refine Ext.alloc ?_ _) | ((with_reducible refine Ext.setCell ?_ ?_ _); rotate_left; focus (first | (simp; done) | (simp; omega) | omega)) | assumption | (with_reducible refine Ext.trans ?_ (by assumption))))).mono ?_); rintro e w5 ⟨rfl, m5, rfl⟩))); first | refine ⟨up_of (by repeat (first | (with_reducible exact Ext.refl _) | (with_reducible refine Ext.drewN ?_ _) | (with_reducible refine Ext.drew ?_) | (with_reducible refine Ext.alloc ?_ _) | ((with_reducible refine Ext.setCell ?_ ?_ _); rotate_left; focus (first | (simp; done) | (simp; omega) | omega)) | assumption | (with_reducible refine Ext.trans ?_ (by assumption)))), ?_⟩ | refine ⟨rfl, rfl, up_of (by repeat (first | (with_reducible exact Ext.refl _) | (with_reducible refine Ext.drewN ?_ _) | (with_reducible refine Ext.drew ?_) | (with_reducible refine Ext.alloc ?_ _) | ((with_reducible refine Ext.setCell ?_ ?_ _); rotate_left; focus (first | (simp; done) | (simp; omega) | omega)) | assumption | (with_reducible refine Ext.trans ?_ (by assumption)))), ?_⟩))); refine mix_nil ?_)
        go_wp2
        go_ret
        exact ⟨rb HX.out.symm, (by repeat (first | (with_reducible exact Ext.refl _) | (with_reducible refine Ext.drewN ?_ _) | (with_reducible refine Ext.drew ?_) | (with_reducible refine Ext.alloc ?_ _) | ((with_reducible refine Ext.setCell ?_ ?_ _); rotate_left; focus (first | (simp; done) | (simp; omega) | omega)) | assumption | (with_reducible refine Ext.trans ?_ (by assumption))))⟩
      rw [hnm] at HIs HOk
      clear hnm
      by_cases h0 : k = 0
      · have hk0 : decide (0 < k) = false := by simp; omega
        rw [decide_eq_true h0] at HOk
        clear h0
        cases hvb : validB (gw D.sys k)
        · have HX := Lib.hid (HNo.out k hlt (by rw [HOk.out, hvb]; rfl))
          rw [hvb] at HWt
          clear hvb
          go_wp2
          (refine wp_region_from wr (by repeat (first | (with_reducible exact Ext.refl _) | (with_reducible refine Ext.drewN ?_ _) | (with_reducible refine Ext.drew ?_) | (with_reducible refine Ext.alloc ?_ _) | ((with_reducible refine Ext.setCell ?_ ?_ _); rotate_left; focus (first | (simp; done) | (simp; omega) | omega)) | assumption | (with_reducible refine Ext.trans ?_ (by assumption)))) (by kernel_rfl) (by kernel_rfl) (seqB_of (by kernel_rfl)) ?_; (repeat (first | (refine mix_q rfl ?_; go_big_quiet_step (fail); refine wpQuiet_nil ?_; show wpMix _ _ _ _ _ _ _) | (refine mix_s rfl ?_; go_wp2_with ((first | ((with_reducible refine (HIs.out _ hs).mono ?_); rintro e w4 ⟨rfl, rfl⟩) | ((with_reducible refine (HWt.out _ (by repeat (first | (with_reducible exact Ext.refl _) | (with_reducible refine Ext.drewN ?_ _) | (with_reducible refine Ext.drew ?_) | (with_reducible refine Ext.alloc ?_ _) | ((with_reducible refine Ext.setCell ?_ ?_ _); rotate_left; focus (first | (simp; done) | (simp; omega) | omega)) | assumption | (with_reducible refine Ext.trans ?_ (by assumption))))).mono ?_); rintro e w5 ⟨rfl, m5, rfl⟩))); first | refine ⟨up_of (by repeat (first | (with_reducible exact Ext.refl _) | (with_reducible refine Ext.drewN ?_ _) | (with_reducible refine Ext.drew ?_) | (with_reducible refine Ext.alloc ?_ _) | ((with_reducible refine Ext.setCell ?_ ?_ _); rotate_left; focus (first | (simp; done) | (simp; omega) | omega)) | assumption | (with_reducible refine Ext.trans ?_ (by assumption)))), ?_⟩ | refine ⟨rfl, rfl, up_of (by repeat (first | (with_reducible exact Ext.refl _) | (with_reducible refine Ext.drewN ?_ _) | (with_reducible refine Ext.drew ?_) | (with_reducible refine Ext.alloc ?_ _) | ((with_reducible refine Ext.setCell ?_ ?_ _); rotate_left; focus (first | (simp; done) | (simp; omega) | omega)) | assumption | (with_reducible refine Ext.trans ?_ (by assumption)))), ?_⟩))); refine mix_nil ?_)
          go_wp2
          go_ret
          exact ⟨rb HX.out.symm, (by repeat (first | (with_reducible exact Ext.refl _) | (with_reducible refine Ext.drewN ?_ _) | (with_reducible refine Ext.drew ?_) | (with_reducible refine Ext.alloc ?_ _) | ((with_reducible refine Ext.setCell ?_ ?_ _); rotate_left; focus (first | (simp; done) | (simp; omega) | omega)) | assumption | (with_reducible refine Ext.trans ?_ (by assumption))))⟩
        · have HX := Lib.hid (uptoD Hhp.out (by rw [HOk.out, hvb]; rfl))
          rw [hvb] at HWt
          clear hvb
          go_wp2
          (refine wp_region_from wr (by repeat (first | (with_reducible exact Ext.refl _) | (with_reducible refine Ext.drewN ?_ _) | (with_reducible refine Ext.drew ?_) | (with_reducible refine Ext.alloc ?_ _) | ((with_reducible refine Ext.setCell ?_ ?_ _); rotate_left; focus (first | (simp; done) | (simp; omega) | omega)) | assumption | (with_reducible refine Ext.trans ?_ (by assumption)))) (by kernel_rfl) (by kernel_rfl) (seqB_of (by kernel_rfl)) ?_; (repeat (first | (refine mix_q rfl ?_; go_big_quiet_step (fail); refine wpQuiet_nil ?_; show wpMix _ _ _ _ _ _ _) | (refine mix_s rfl ?_; go_wp2_with ((first | ((with_reducible refine (HIs.out _ hs).mono ?_); rintro e w4 ⟨rfl, rfl⟩) | ((with_reducible refine (HWt.out _ (by repeat (first | (with_reducible exact Ext.refl _) | (with_reducible refine Ext.drewN ?_ _) | (with_reducible refine Ext.drew ?_) | (with_reducible refine Ext.alloc ?_ _) | ((with_reducible refine Ext.setCell ?_ ?_ _); rotate_left; focus (first | (simp; done) | (simp; omega) | omega)) | assumption | (with_reducible refine Ext.trans ?_ (by assumption))))).mono ?_); rintro e w5 ⟨rfl, m5, rfl⟩))); first | refine ⟨up_of (by repeat (first | (with_reducible exact Ext.refl _) | (with_reducible refine Ext.drewN ?_ _) | (with_reducible refine Ext.drew ?_) | (with_reducible refine Ext.alloc ?_ _) | ((with_reducible refine Ext.setCell ?_ ?_ _); rotate_left; focus (first | (simp; done) | (simp; omega) | omega)) | assumption | (with_reducible refine Ext.trans ?_ (by assumption)))), ?_⟩ | refine ⟨rfl, rfl, up_of (by repeat (first | (with_reducible exact Ext.refl _) | (with_reducible refine Ext.drewN ?_ _) | (with_reducible refine Ext.drew ?_) | (with_reducible refine Ext.alloc ?_ _) | ((with_reducible refine Ext.setCell ?_ ?_ _); rotate_left; focus (first | (simp; done) | (simp; omega) | omega)) | assumption | (with_reducible refine Ext.trans ?_ (by assumption)))), ?_⟩))); refine mix_nil ?_)
          go_wp2
          exact ⟨⟨k + 1, by omega, by go_num, HX.out, (by repeat (first | (with_reducible exact Ext.refl _) | (with_reducible refine Ext.drewN ?_ _) | (with_reducible refine Ext.drew ?_) | (with_reducible refine Ext.alloc ?_ _) | ((with_reducible refine Ext.setCell ?_ ?_ _); rotate_left; focus (first | (simp; done) | (simp; omega) | omega)) | assumption | (with_reducible refine Ext.trans ?_ (by assumption))))⟩, by simp [intOf]; omega⟩
      · have hk0 : decide (0 < k) = true := by simp; omega
        rw [decide_eq_false h0, Bool.false_or] at HOk
        obtain ⟨b1, o1, x1, x2⟩ := HN.out.one (P := Try.prog) 44 9 und_strs cell_str ((k : Int) - 1) (by omega) (by omega)
        rw [show ((k : Int) - 1).toNat = k - 1 by omega] at x2
        obtain ⟨b2, o2, y1, y2⟩ := HN.out.one (P := Try.prog) 44 9 und_strs cell_str (k : Int) (by omega) (by omega)
        rw [Int.toNat_natCast] at y2
        clear hix hcell
        clear h0
        generalize gs D.names (k - 1) = z at *
        cases hvb : validB (gw D.sys k)
        · rw [hvb] at HWt
          have HX := Lib.hid (HNo.out k hlt (by rw [HOk.out, hvb]; simp))
          clear hvb
          cases hge : Op.bytesLess z.toList (gs D.names k).toList
          all_goals
            go_wp2
            (refine wp_region_from wr (by repeat (first | (with_reducible exact Ext.refl _) | (with_reducible refine Ext.drewN ?_ _) | (with_reducible refine Ext.drew ?_) | (with_reducible refine Ext.alloc ?_ _) | ((with_reducible refine Ext.setCell ?_ ?_ _); rotate_left; focus (first | (simp; done) | (simp; omega) | omega)) | assumption | (with_reducible refine Ext.trans ?_ (by assumption)))) (by kernel_rfl) (by kernel_rfl) (seqB_of (by kernel_rfl)) ?_; (repeat (first | (refine mix_q rfl ?_; go_big_quiet_step (fail); refine wpQuiet_nil ?_; show wpMix _ _ _ _ _ _ _) | (refine mix_s rfl ?_; go_wp2_with ((first | ((with_reducible refine (HIs.out _ hs).mono ?_); rintro e w4 ⟨rfl, rfl⟩) | ((with_reducible refine (HWt.out _ (by repeat (first | (with_reducible exact Ext.refl _) | (with_reducible refine Ext.drewN ?_ _) | (with_reducible refine Ext.drew ?_) | (with_reducible refine Ext.alloc ?_ _) | ((with_reducible refine Ext.setCell ?_ ?_ _); rotate_left; focus (first | (simp; done) | (simp; omega) | omega)) | assumption | (with_reducible refine Ext.trans ?_ (by assumption))))).mono ?_); rintro e w5 ⟨rfl, m5, rfl⟩))); first | refine ⟨up_of (by repeat (first | (with_reducible exact Ext.refl _) | (with_reducible refine Ext.drewN ?_ _) | (with_reducible refine Ext.drew ?_) | (with_reducible refine Ext.alloc ?_ _) | ((with_reducible refine Ext.setCell ?_ ?_ _); rotate_left; focus (first | (simp; done) | (simp; omega) | omega)) | assumption | (with_reducible refine Ext.trans ?_ (by assumption)))), ?_⟩ | refine ⟨rfl, rfl, up_of (by repeat (first | (with_reducible exact Ext.refl _) | (with_reducible refine Ext.drewN ?_ _) | (with_reducible refine Ext.drew ?_) | (with_reducible refine Ext.alloc ?_ _) | ((with_reducible refine Ext.setCell ?_ ?_ _); rotate_left; focus (first | (simp; done) | (simp; omega) | omega)) | assumption | (with_reducible refine Ext.trans ?_ (by assumption)))), ?_⟩))); refine mix_nil ?_)
            go_wp2
            go_ret
            exact ⟨rb HX.out.symm, (by repeat (first | (with_reducible exact Ext.refl _) | (with_reducible refine Ext.drewN ?_ _) | (with_reducible refine Ext.drew ?_) | (with_reducible refine Ext.alloc ?_ _) | ((with_reducible refine Ext.setCell ?_ ?_ _); rotate_left; focus (first | (simp; done) | (simp; omega) | omega)) | assumption | (with_reducible refine Ext.trans ?_ (by assumption))))⟩
        · rw [hvb] at HWt HOk
          clear hvb
          cases hge : Op.bytesLess z.toList (gs D.names k).toList
          · have HX := Lib.hid (HNo.out k hlt (by rw [HOk.out, hge]; rfl))
            go_wp2
            (refine wp_region_from wr (by repeat (first | (with_reducible exact Ext.refl _) | (with_reducible refine Ext.drewN ?_ _) | (with_reducible refine Ext.drew ?_) | (with_reducible refine Ext.alloc ?_ _) | ((with_reducible refine Ext.setCell ?_ ?_ _); rotate_left; focus (first | (simp; done) | (simp; omega) | omega)) | assumption | (with_reducible refine Ext.trans ?_ (by assumption)))) (by kernel_rfl) (by kernel_rfl) (seqB_of (by kernel_rfl)) ?_; (repeat (first | (refine mix_q rfl ?_; go_big_quiet_step (fail); refine wpQuiet_nil ?_; show wpMix _ _ _ _ _ _ _) | (refine mix_s rfl ?_; go_wp2_with ((first | ((with_reducible refine (HIs.out _ hs).mono ?_); rintro e w4 ⟨rfl, rfl⟩) | ((with_reducible refine (HWt.out _ (by repeat (first | (with_reducible exact Ext.refl _) | (with_reducible refine Ext.drewN ?_ _) | (with_reducible refine Ext.drew ?_) | (with_reducible refine Ext.alloc ?_ _) | ((with_reducible refine Ext.setCell ?_ ?_ _); rotate_left; focus (first | (simp; done) | (simp; omega) | omega)) | assumption | (with_reducible refine Ext.trans ?_ (by assumption))))).mono ?_); rintro e w5 ⟨rfl, m5, rfl⟩))); first | refine ⟨up_of (by repeat (first | (with_reducible exact Ext.refl _) | (with_reducible refine Ext.drewN ?_ _) | (with_reducible refine Ext.drew ?_) | (with_reducible refine Ext.alloc ?_ _) | ((with_reducible refine Ext.setCell ?_ ?_ _); rotate_left; focus (first | (simp; done) | (simp; omega) | omega)) | assumption | (with_reducible refine Ext.trans ?_ (by assumption)))), ?_⟩ | refine ⟨rfl, rfl, up_of (by repeat (first | (with_reducible exact Ext.refl _) | (with_reducible refine Ext.drewN ?_ _) | (with_reducible refine Ext.drew ?_) | (with_reducible refine Ext.alloc ?_ _) | ((with_reducible refine Ext.setCell ?_ ?_ _); rotate_left; focus (first | (simp; done) | (simp; omega) | omega)) | assumption | (with_reducible refine Ext.trans ?_ (by assumption)))), ?_⟩))); refine mix_nil ?_)
            go_wp2
            go_ret
            exact ⟨rb HX.out.symm, (by repeat (first | (with_reducible exact Ext.refl _) | (with_reducible refine Ext.drewN ?_ _) | (with_reducible refine Ext.drew ?_) | (with_reducible refine Ext.alloc ?_ _) | ((with_reducible refine Ext.setCell ?_ ?_ _); rotate_left; focus (first | (simp; done) | (simp; omega) | omega)) | assumption | (with_reducible refine Ext.trans ?_ (by assumption))))⟩
          · have HX := Lib.hid (uptoD Hhp.out (by rw [HOk.out, hge]; rfl))
            go_wp2
            (refine wp_region_from wr (by repeat (first | (with_reducible exact Ext.refl _) | (with_reducible refine Ext.drewN ?_ _) | (with_reducible refine Ext.drew ?_) | (with_reducible refine Ext.alloc ?_ _) | ((with_reducible refine Ext.setCell ?_ ?_ _); rotate_left; focus (first | (simp; done) | (simp; omega) | omega)) | assumption | (with_reducible refine Ext.trans ?_ (by assumption)))) (by kernel_rfl) (by kernel_rfl) (seqB_of (by kernel_rfl)) ?_; (repeat (first | (refine mix_q rfl ?_; go_big_quiet_step (fail); refine wpQuiet_nil ?_; show wpMix _ _ _ _ _ _ _) | (refine mix_s rfl ?_; go_wp2_with ((first | ((with_reducible refine (HIs.out _ hs).mono ?_); rintro e w4 ⟨rfl, rfl⟩) | ((with_reducible refine (HWt.out _ (by repeat (first | (with_reducible exact Ext.refl _) | (with_reducible refine Ext.drewN ?_ _) | (with_reducible refine Ext.drew ?_) | (with_reducible refine Ext.alloc ?_ _) | ((with_reducible refine Ext.setCell ?_ ?_ _); rotate_left; focus (first | (simp; done) | (simp; omega) | omega)) | assumption | (with_reducible refine Ext.trans ?_ (by assumption))))).mono ?_); rintro e w5 ⟨rfl, m5, rfl⟩))); first | refine ⟨up_of (by repeat (first | (with_reducible exact Ext.refl _) | (with_reducible refine Ext.drewN ?_ _) | (with_reducible refine Ext.drew ?_) | (with_reducible refine Ext.alloc ?_ _) | ((with_reducible refine Ext.setCell ?_ ?_ _); rotate_left; focus (first | (simp; done) | (simp; omega) | omega)) | assumption | (with_reducible refine Ext.trans ?_ (by assumption)))), ?_⟩ | refine ⟨rfl, rfl, up_of (by repeat (first | (with_reducible exact Ext.refl _) | (with_reducible refine Ext.drewN ?_ _) | (with_reducible refine Ext.drew ?_) | (with_reducible refine Ext.alloc ?_ _) | ((with_reducible refine Ext.setCell ?_ ?_ _); rotate_left; focus (first | (simp; done) | (simp; omega) | omega)) | assumption | (with_reducible refine Ext.trans ?_ (by assumption)))), ?_⟩))); refine mix_nil ?_)
            go_wp2
            exact ⟨⟨k + 1, by omega, by go_num, HX.out, (by repeat (first | (with_reducible exact Ext.refl _) | (with_reducible refine Ext.drewN ?_ _) | (with_reducible refine Ext.drew ?_) | (with_reducible refine Ext.alloc ?_ _) | ((with_reducible refine Ext.setCell ?_ ?_ _); rotate_left; focus (first | (simp; done) | (simp; omega) | omega)) | assumption | (with_reducible refine Ext.trans ?_ (by assumption))))⟩, by simp [intOf]; omega⟩
    · obtain rfl : k = m := by omega
      go_wp2
      go_ret
      exact ⟨rb (HYes.out h6 trivial Hhp.out).symm, hx⟩
set_option maxHeartbeats 4000000 in
theorem impl_desk (D : Dk) (a : Option Addr) (n c : Nat) (b : Option Addr) (m d : Nat) (w0 : World) (hv0 : DkIn w0 D a n c b m d) :
    Calls Try.prog 30 #[.agg #[.slice a n c, .slice b m d]] w0 (Ret (.bool (deskB D)) w0) := by
  have hv := hv0.box 52
  clear hv0
  obtain ⟨y, hy⟩ : ∃ y, y = deskB D := ⟨_, rfl⟩
  rw [← hy]
  have HL := Lib.hid hv.ns.len
  have HM := Lib.hid hv.ws.1
  have HNo0 := Lib.hid (fun (h : ¬ (n ≤ 6 ∧ m = n)) => hy.trans (desk_no0 (D := D) (by rw [hv.ns.len, hv.ws.1]; exact h)))
  have HNo := Lib.hid (fun k (hk : k < n) h => hy.trans (desk_no (D := D) (k := k) (by rw [hv.ns.len]; exact hk) h))
  have HYes := Lib.hid (fun (h0 : n ≤ 6) (h1 : m = n) (h : ∀ k, k < n → okD D k = true) => hy.trans (desk_yes (D := D) (by rw [hv.ns.len]; exact h0) (by rw [hv.ns.len, hv.ws.1]; exact h1) (by rw [hv.ns.len]; exact h)))
  have HSz := Lib.hid (fun k (h : k < n) => hv.sz _ (gs_mem (l := D.names) (k := k) (by rw [hv.ns.len]; exact h)))
  obtain ⟨bi, oi, hix, hcell⟩ := hv.ns.ix (P := Try.prog) 44 9 und_strs cell_str
  have HW := Lib.hid hv.ws
  have HN := Lib.hid hv.ns
  obtain ⟨c0, c1, _, _, _⟩ := hv
  clear hy
  have hxb : Ext w0 (w0.alloc (.cells #[.slice a n c, .slice b m d] 52)) := (Ext.refl w0).alloc _
  have hxw : Ext (w0.alloc (.cells #[.slice a n c, .slice b m d] 52)) (w0.alloc (.cells #[.slice a n c, .slice b m d] 52)) := Ext.refl (w0.alloc (.cells #[.slice a n c, .slice b m d] 52))
  by_cases h6 : n ≤ 6
  rotate_left
  · have HX := Lib.hid (HNo0.out (by omega))
    have hd6 : decide ((6 : Int) < n) = true := by simp; omega
    go_enter Try.func30, Try.ntmps30
    go_wp2_with fail
    go_ret
    exact ⟨rb HX.out.symm, (by repeat (first | (with_reducible exact Ext.refl _) | (with_reducible refine Ext.drewN ?_ _) | (with_reducible refine Ext.drew ?_) | (with_reducible refine Ext.alloc ?_ _) | ((with_reducible refine Ext.setCell ?_ ?_ _); rotate_left; focus (first | (simp; done) | (simp; omega) | omega)) | assumption | (with_reducible refine Ext.trans ?_ (by assumption))))⟩
  have hd6 : decide ((6 : Int) < n) = false := by simp; omega
  by_cases hmn : m = n
  rotate_left
  · have HX := Lib.hid (HNo0.out (by omega))
    go_enter Try.func30, Try.ntmps30
    go_wp2_with fail
    go_ret
    exact ⟨rb HX.out.symm, (by repeat (first | (with_reducible exact Ext.refl _) | (with_reducible refine Ext.drewN ?_ _) | (with_reducible refine Ext.drew ?_) | (with_reducible refine Ext.alloc ?_ _) | ((with_reducible refine Ext.setCell ?_ ?_ _); rotate_left; focus (first | (simp; done) | (simp; omega) | omega)) | assumption | (with_reducible refine Ext.trans ?_ (by assumption))))⟩
  subst hmn
  go_enter Try.func30, Try.ntmps30
  go_wp2_with fail
  go_loopw [3, 4, 21] (fun _ _ i wr => ∃ k : Nat, k ≤ m ∧ i = .int .i64 k ∧ (∀ j, j < k → okD D j = true) ∧ Ext (w0.alloc (.cells #[.slice a m c, .slice b m d] 52)) wr) (fun _ _ i _ => m - (intOf i).toNat)
  case atStart => exact ⟨0, Nat.zero_le _, rfl, (fun j hj => by omega), (by repeat (first | (with_reducible exact Ext.refl _) | (with_reducible refine Ext.drewN ?_ _) | (with_reducible refine Ext.drew ?_) | (with_reducible refine Ext.alloc ?_ _) | ((with_reducible refine Ext.setCell ?_ ?_ _); rotate_left; focus (first | (simp; done) | (simp; omega) | omega)) | assumption | (with_reducible refine Ext.trans ?_ (by assumption))))⟩
  case round =>
    obtain ⟨k, hk, rfl, hp, hx⟩ := hrel
    have hxr : Ext (w0.alloc (.cells #[.slice a m c, .slice b m d] 52)) wr := hx
    have hd6r : decide ((6 : Int) < m) = false := hd6
    have Hhp := Lib.hid hp; clear hp
    by_cases hlt : k < m
    · have hs := HSz.out k hlt
      have HIs := Lib.hid (fun W h => impl_IsName (gs D.names k) W h)
      obtain ⟨b9, o9, a9, n9, c9, wix, w0, w1, w2, w3, hwt⟩ := (HW.out.ext hx).ix (P := Try.prog) 50 34 und_wts cell_wt k hlt .i64
      have HWt := Lib.hid (fun W (h : Ext wr W) => impl_valid (gw D.sys k) a9 n9 c9 W (hwt.ws.ext h))
      clear hwt
      have HOk := Lib.hid (show okD D k = (nameB (gs D.names k) && ((decide (k = 0) || Op.bytesLess (gs D.names (k - 1)).toList (gs D.names k).toList) && validB (gw D.sys k))) from rfl)
      cases hnm : nameB (gs D.names k)
      · have HX := Lib.hid (HNo.out k hlt (by rw [HOk.out, hnm]; rfl))
        rw [hnm] at HIs
        clear hnm
        go_wp2_with (first | ((with_reducible refine (HIs.out _ hs).mono ?_); rintro e w4 ⟨rfl, rfl⟩) | ((with_reducible refine (HWt.out _ (by repeat (first | (with_reducible exact Ext.refl _) | (with_reducible refine Ext.drewN ?_ _) | (with_reducible refine Ext.drew ?_) | (with_reducible refine Ext.alloc ?_ _) | ((with_reducible refine Ext.setCell ?_ ?_ _); rotate_left; focus (first | (simp; done) | (simp; omega) | omega)) | assumption | (with_reducible refine Ext.trans ?_ (by assumption))))).mono ?_); rintro e w5 ⟨rfl, hy5⟩))
        go_ret
        exact ⟨rb HX.out.symm, hxb.trans (by repeat (first | (with_reducible exact Ext.refl _) | (with_reducible refine Ext.drewN ?_ _) | (with_reducible refine Ext.drew ?_) | (with_reducible refine Ext.alloc ?_ _) | ((with_reducible refine Ext.setCell ?_ ?_ _); rotate_left; focus (first | (simp; done) | (simp; omega) | omega)) | assumption | (with_reducible refine Ext.trans ?_ (by assumption))))⟩
      rw [hnm] at HIs HOk
      clear hnm
      by_cases h0 : k = 0
      · have hk0 : decide (0 < k) = false := by simp; omega
        rw [decide_eq_true h0] at HOk
        clear h0
        cases hvb : validB (gw D.sys k)
        · have HX := Lib.hid (HNo.out k hlt (by rw [HOk.out, hvb]; rfl))
          rw [hvb] at HWt
          clear hvb
          go_wp2_with (first | ((with_reducible refine (HIs.out _ hs).mono ?_); rintro e w4 ⟨rfl, rfl⟩) | ((with_reducible refine (HWt.out _ (by repeat (first | (with_reducible exact Ext.refl _) | (with_reducible refine Ext.drewN ?_ _) | (with_reducible refine Ext.drew ?_) | (with_reducible refine Ext.alloc ?_ _) | ((with_reducible refine Ext.setCell ?_ ?_ _); rotate_left; focus (first | (simp; done) | (simp; omega) | omega)) | assumption | (with_reducible refine Ext.trans ?_ (by assumption))))).mono ?_); rintro e w5 ⟨rfl, hy5⟩))
          go_ret
          exact ⟨rb HX.out.symm, hxb.trans (by repeat (first | (with_reducible exact Ext.refl _) | (with_reducible refine Ext.drewN ?_ _) | (with_reducible refine Ext.drew ?_) | (with_reducible refine Ext.alloc ?_ _) | ((with_reducible refine Ext.setCell ?_ ?_ _); rotate_left; focus (first | (simp; done) | (simp; omega) | omega)) | assumption | (with_reducible refine Ext.trans ?_ (by assumption))))⟩
        · have HX := Lib.hid (uptoD Hhp.out (by rw [HOk.out, hvb]; rfl))
          rw [hvb] at HWt
          clear hvb
          go_wp2_with (first | ((with_reducible refine (HIs.out _ hs).mono ?_); rintro e w4 ⟨rfl, rfl⟩) | ((with_reducible refine (HWt.out _ (by repeat (first | (with_reducible exact Ext.refl _) | (with_reducible refine Ext.drewN ?_ _) | (with_reducible refine Ext.drew ?_) | (with_reducible refine Ext.alloc ?_ _) | ((with_reducible refine Ext.setCell ?_ ?_ _); rotate_left; focus (first | (simp; done) | (simp; omega) | omega)) | assumption | (with_reducible refine Ext.trans ?_ (by assumption))))).mono ?_); rintro e w5 ⟨rfl, hy5⟩))
          exact ⟨⟨k + 1, by omega, by go_num, HX.out, (by repeat (first | (with_reducible exact Ext.refl _) | (with_reducible refine Ext.drewN ?_ _) | (with_reducible refine Ext.drew ?_) | (with_reducible refine Ext.alloc ?_ _) | ((with_reducible refine Ext.setCell ?_ ?_ _); rotate_left; focus (first | (simp; done) | (simp; omega) | omega)) | assumption | (with_reducible refine Ext.trans ?_ (by assumption))))⟩, by simp [intOf]; omega⟩
      · have hk0 : decide (0 < k) = true := by simp; omega
        rw [decide_eq_false h0, Bool.false_or] at HOk
        obtain ⟨b1, o1, x1, x2⟩ := HN.out.one (P := Try.prog) 44 9 und_strs cell_str ((k : Int) - 1) (by omega) (by omega)
        rw [show ((k : Int) - 1).toNat = k - 1 by omega] at x2
        obtain ⟨b2, o2, y1, y2⟩ := HN.out.one (P := Try.prog) 44 9 und_strs cell_str (k : Int) (by omega) (by omega)
        rw [Int.toNat_natCast] at y2
        clear hix hcell
        clear h0
        generalize gs D.names (k - 1) = z at *
        cases hvb : validB (gw D.sys k)
        · rw [hvb] at HWt
          have HX := Lib.hid (HNo.out k hlt (by rw [HOk.out, hvb]; simp))
          clear hvb
          cases hge : Op.bytesLess z.toList (gs D.names k).toList
          all_goals
            go_wp2_with (first | ((with_reducible refine (HIs.out _ hs).mono ?_); rintro e w4 ⟨rfl, rfl⟩) | ((with_reducible refine (HWt.out _ (by repeat (first | (with_reducible exact Ext.refl _) | (with_reducible refine Ext.drewN ?_ _) | (with_reducible refine Ext.drew ?_) | (with_reducible refine Ext.alloc ?_ _) | ((with_reducible refine Ext.setCell ?_ ?_ _); rotate_left; focus (first | (simp; done) | (simp; omega) | omega)) | assumption | (with_reducible refine Ext.trans ?_ (by assumption))))).mono ?_); rintro e w5 ⟨rfl, hy5⟩))
            go_ret
            exact ⟨rb HX.out.symm, hxb.trans (by repeat (first | (with_reducible exact Ext.refl _) | (with_reducible refine Ext.drewN ?_ _) | (with_reducible refine Ext.drew ?_) | (with_reducible refine Ext.alloc ?_ _) | ((with_reducible refine Ext.setCell ?_ ?_ _); rotate_left; focus (first | (simp; done) | (simp; omega) | omega)) | assumption | (with_reducible refine Ext.trans ?_ (by assumption))))⟩
        · rw [hvb] at HWt HOk
          clear hvb
          cases hge : Op.bytesLess z.toList (gs D.names k).toList
          · have HX := Lib.hid (HNo.out k hlt (by rw [HOk.out, hge]; rfl))
            go_wp2_with (first | ((with_reducible refine (HIs.out _ hs).mono ?_); rintro e w4 ⟨rfl, rfl⟩) | ((with_reducible refine (HWt.out _ (by repeat (first | (with_reducible exact Ext.refl _) | (with_reducible refine Ext.drewN ?_ _) | (with_reducible refine Ext.drew ?_) | (with_reducible refine Ext.alloc ?_ _) | ((with_reducible refine Ext.setCell ?_ ?_ _); rotate_left; focus (first | (simp; done) | (simp; omega) | omega)) | assumption | (with_reducible refine Ext.trans ?_ (by assumption))))).mono ?_); rintro e w5 ⟨rfl, hy5⟩))
            go_ret
            exact ⟨rb HX.out.symm, hxb.trans (by repeat (first | (with_reducible exact Ext.refl _) | (with_reducible refine Ext.drewN ?_ _) | (with_reducible refine Ext.drew ?_) | (with_reducible refine Ext.alloc ?_ _) | ((with_reducible refine Ext.setCell ?_ ?_ _); rotate_left; focus (first | (simp; done) | (simp; omega) | omega)) | assumption | (with_reducible refine Ext.trans ?_ (by assumption))))⟩
          · have HX := Lib.hid (uptoD Hhp.out (by rw [HOk.out, hge]; rfl))
            go_wp2_with (first | ((with_reducible refine (HIs.out _ hs).mono ?_); rintro e w4 ⟨rfl, rfl⟩) | ((with_reducible refine (HWt.out _ (by repeat (first | (with_reducible exact Ext.refl _) | (with_reducible refine Ext.drewN ?_ _) | (with_reducible refine Ext.drew ?_) | (with_reducible refine Ext.alloc ?_ _) | ((with_reducible refine Ext.setCell ?_ ?_ _); rotate_left; focus (first | (simp; done) | (simp; omega) | omega)) | assumption | (with_reducible refine Ext.trans ?_ (by assumption))))).mono ?_); rintro e w5 ⟨rfl, hy5⟩))
            exact ⟨⟨k + 1, by omega, by go_num, HX.out, (by repeat (first | (with_reducible exact Ext.refl _) | (with_reducible refine Ext.drewN ?_ _) | (with_reducible refine Ext.drew ?_) | (with_reducible refine Ext.alloc ?_ _) | ((with_reducible refine Ext.setCell ?_ ?_ _); rotate_left; focus (first | (simp; done) | (simp; omega) | omega)) | assumption | (with_reducible refine Ext.trans ?_ (by assumption))))⟩, by simp [intOf]; omega⟩
    · obtain rfl : k = m := by omega
      go_wp2
      go_ret
      exact ⟨rb (HYes.out h6 trivial Hhp.out).symm, hxb.trans hx⟩
set_option maxHeartbeats 1000000 in
theorem spec_ValidDesk (D : Dk) (a : Option Addr) (n c : Nat) (b : Option Addr) (m d : Nat) (w : World) (hv : DkIn w D a n c b m d) :
    Calls Try.prog 28 #[.agg #[.slice a n c, .slice b m d]] w (Ret (.bool (deskB D)) w) := by
  have HS := Lib.hid (spec_desk _ D a n c b m d _ (hv.box 52))
  clear hv
  go_enter Try.func28, Try.ntmps28
  go_wp2_with ((with_reducible refine HS.out.mono ?_); rintro e w1 ⟨rfl, hx1⟩)
  go_ret
  exact ⟨rfl, ((Ext.refl w).alloc _).trans hx1⟩
end Go.Proofs.Ytlpbflmgkopklaa
