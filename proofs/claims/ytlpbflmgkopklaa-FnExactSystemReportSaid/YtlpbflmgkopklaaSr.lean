/- Walks: the report on a system, in the program and in the reference. -/
import Derived.Test.YtlpbflmgkopklaaIcpS
import Derived.Test.YtlpbflmgkopklaaText
namespace Go.Proofs.Ytlpbflmgkopklaa
set_option maxRecDepth 100000
open Go.RowKit

/-- what the report says of a kind of errors -/
def symK (W : Wt) (k : Nat) : Int := if kindB k W.base = true then (if allF W k = 0 then 99 else 117) else 45
def repK (W : Wt) : Nat → List Int
  | 0 => []
  | k + 1 => repK W k ++ [symK W k]
/-- what the report says of the first k places, behind what it says of kinds -/
noncomputable def repP (W : Wt) : Nat → List Int
  | 0 => repK W 6 ++ [58]
  | k + 1 => repP W k ++ [if icpB W k = true then 33 else 46]
theorem repK_len (W : Wt) : ∀ k, (repK W k).length = k
  | 0 => rfl
  | k + 1 => by rw [repK, List.length_append, repK_len W k]; rfl
theorem repP_len (W : Wt) : ∀ k, (repP W k).length = 7 + k
  | 0 => by rw [repP, List.length_append, repK_len]; rfl
  | k + 1 => by rw [repP, List.length_append, repP_len W k]; simp; omega
noncomputable def srT (W : Wt) : ByteArray := if validB W = true then strOfNums (repP W W.weights.length) else .empty
theorem str_add (xs : List Int) (x : Int) : strOfNums xs ++ ⟨#[UInt8.ofNat x.toNat]⟩ = strOfNums (xs ++ [x]) := by
  apply ByteArray.ext
  apply Array.toList_inj.1
  simp [strOfNums_data, ByteArray.data_append]
theorem U_add (l : List Int) (x : Int) : U (l ++ [x]) = U l ++ [.int .u8 x] := by simp [U]
set_option maxHeartbeats 8000000 in
theorem impl_SR (W : Wt) (a : Option Addr) (n c : Nat) (w : World) (hw : Ints w a n c W.weights) :
    Calls Try.prog 35 #[.agg #[.int .i64 W.base, .int .i64 W.modulus, .int .i64 W.target, .slice a n c]] w (Ret2 (.string (srT W)) (.bool (validB W)) w) := by
  obtain ⟨base, modulus, target, l⟩ := W
  simp only at hw ⊢
  have HB := Lib.hid (isWt_box w base modulus target l a n c 34 hw)
  have HV := Lib.hid (fun W' (h : Ext w W') => impl_valid ⟨base, modulus, target, l⟩ a n c W' (hw.ext h))
  have HWC := Lib.hid (fun (k : Nat) W' (h : Ext w W') => impl_WC ⟨base, modulus, target, l⟩ a n c k W' (hw.ext h))
  have HIC := Lib.hid (fun (k : Nat) W' (h : Ext w W') => impl_icp ⟨base, modulus, target, l⟩ a n c k W' (hw.ext h))
  have HK := Lib.hid (fun (k : Nat) W' => impl_kind k base W')
  have HL := Lib.hid hw.len
  clear hw
  cases hv : validB ⟨base, modulus, target, l⟩
  · rw [hv] at HV
    have HO := Lib.hid (show srT ⟨base, modulus, target, l⟩ = .empty by rw [srT, hv]; rfl)
    clear hv
    go_enter Try.func35, Try.ntmps35
    go_wp2_with ((with_reducible refine (HV.out _ (by repeat (first | (with_reducible exact Ext.refl _) | (with_reducible assumption) | (with_reducible refine Ext.drewN ?_ _) | (with_reducible refine Ext.drew ?_) | (with_reducible refine Ext.alloc ?_ _) | ((with_reducible refine Ext.setCell ?_ ?_ _); rotate_left; focus (first | (simp; done) | (simp; omega) | omega)) | (with_reducible refine Ext.trans ?_ (by with_reducible assumption))))).mono ?_); rintro e w1 ⟨rfl, hy⟩; have hx1 : Ext w w1 := Ext.trans (by repeat (first | (with_reducible exact Ext.refl _) | (with_reducible assumption) | (with_reducible refine Ext.drewN ?_ _) | (with_reducible refine Ext.drew ?_) | (with_reducible refine Ext.alloc ?_ _) | ((with_reducible refine Ext.setCell ?_ ?_ _); rotate_left; focus (first | (simp; done) | (simp; omega) | omega)) | (with_reducible refine Ext.trans ?_ (by with_reducible assumption)))) hy)
    go_ret2
    exact ⟨by rw [HO.out]; rfl, hx1⟩
  rw [hv] at HV
  have hg := validB_good hv
  have hg2 := hg.l20
  simp only at hg2
  rw [HL.out] at hg2
  obtain ⟨wB, hwB⟩ : ∃ x, x = w.alloc (.cells #[.int .i64 base, .int .i64 modulus, .int .i64 target, .slice a n c] 34) := ⟨_, rfl⟩
  have hxB : Ext w wB := by rw [hwB]; exact (by repeat (first | (with_reducible exact Ext.refl _) | (with_reducible refine Ext.drewN ?_ _) | (with_reducible refine Ext.drew ?_) | (with_reducible refine Ext.alloc ?_ _) | ((with_reducible refine Ext.setCell ?_ ?_ _); rotate_left; focus (first | (simp; done) | (simp; omega) | omega)) | assumption | (with_reducible refine Ext.trans ?_ (by assumption))))
  have HWB := Lib.hid hwB
  rw [← hwB] at HB
  obtain ⟨c0, c1, c2, c3, _⟩ := HB.out
  simp only at c0 c1 c2 c3
  have k0 : ∀ w', Ext wB w' → w'.cell? ⟨w.heap.size, 0, none⟩ = some (.int .i64 base) := fun w' h => h.cell c0
  have k1 : ∀ w', Ext wB w' → w'.cell? ⟨w.heap.size, 1, none⟩ = some (.int .i64 modulus) := fun w' h => h.cell c1
  have k2 : ∀ w', Ext wB w' → w'.cell? ⟨w.heap.size, 2, none⟩ = some (.int .i64 target) := fun w' h => h.cell c2
  have k3 : ∀ w', Ext wB w' → w'.cell? ⟨w.heap.size, 3, none⟩ = some (.slice a n c) := fun w' h => h.cell c3
  have HO := Lib.hid (show srT ⟨base, modulus, target, l⟩ = strOfNums (repP ⟨base, modulus, target, l⟩ n) by rw [srT, hv]; simp only [HL.out]; rfl)
  have HSy := Lib.hid (show ∀ k : Nat, repK ⟨base, modulus, target, l⟩ (k + 1) = repK ⟨base, modulus, target, l⟩ k ++ [if kindB k base = true then (if catB ⟨base, modulus, target, l⟩ k = true then 99 else 117) else 45] from fun k => by
    rw [repK, symK]
    cases hk : kindB k base
    · rfl
    · simp [catB, hv, hk])
  have HRl := Lib.hid (repK_len ⟨base, modulus, target, l⟩)
  have HPl := Lib.hid (repP_len ⟨base, modulus, target, l⟩)
  have HP0 := Lib.hid (show repP ⟨base, modulus, target, l⟩ 0 = repK ⟨base, modulus, target, l⟩ 6 ++ [58] from rfl)
  have HPs := Lib.hid (show ∀ k : Nat, repP ⟨base, modulus, target, l⟩ (k + 1) = repP ⟨base, modulus, target, l⟩ k ++ [if icpB ⟨base, modulus, target, l⟩ k = true then 33 else 46] from fun k => rfl)
  generalize repK ⟨base, modulus, target, l⟩ = fK at *
  generalize repP ⟨base, modulus, target, l⟩ = fP at *
  clear hv hwB hg
  go_enter Try.func35, Try.ntmps35
  go_wp2_with fail
  rw [← HWB.out]
  go_wp2_with ((with_reducible refine (HV.out _ (by repeat (first | (with_reducible exact Ext.refl _) | (with_reducible assumption) | (with_reducible refine Ext.drewN ?_ _) | (with_reducible refine Ext.drew ?_) | (with_reducible refine Ext.alloc ?_ _) | ((with_reducible refine Ext.setCell ?_ ?_ _); rotate_left; focus (first | (simp; done) | (simp; omega) | omega)) | (with_reducible refine Ext.trans ?_ (by with_reducible assumption))))).mono ?_); rintro e w1 ⟨rfl, hy⟩; have hb1 : Ext wB w1 := hy; have hx1 : Ext w w1 := Ext.trans (by repeat (first | (with_reducible exact Ext.refl _) | (with_reducible assumption) | (with_reducible refine Ext.drewN ?_ _) | (with_reducible refine Ext.drew ?_) | (with_reducible refine Ext.alloc ?_ _) | ((with_reducible refine Ext.setCell ?_ ?_ _); rotate_left; focus (first | (simp; done) | (simp; omega) | omega)) | (with_reducible refine Ext.trans ?_ (by with_reducible assumption)))) hy; clear hy)
  have HO0 := Lib.hid (show Own (w1.alloc (.cells #[] 5)) w1.heap.size 5 (some ⟨w1.heap.size, 0, none⟩) 0 0 (U (fK 0)) from by rw [List.eq_nil_of_length_eq_zero (HRl.out 0)]; exact Own.lit0 w1 _)
  have hle1 : w1.heap.size ≤ (w1.alloc (.cells #[] 5)).heap.size := by simp
  go_loopg [4, 5, 11, 17, 26] 6 (fun gk s4 _ s11 _ _ wr => ∃ (k : Nat) (ad : Option Addr) (ca : Nat), k ≤ 6 ∧ gk = 6 - k ∧ s11 = .int .i64 k ∧ s4 = .slice ad k ca ∧ Hid (Own wr w1.heap.size 5 ad k ca (U (fK k))) ∧ Ext w1 wr)
  case atStart => exact ⟨0, _, _, Nat.zero_le _, rfl, rfl, rfl, HO0, (by repeat (first | (with_reducible exact Ext.refl _) | (with_reducible assumption) | (with_reducible refine Ext.drewN ?_ _) | (with_reducible refine Ext.drew ?_) | (with_reducible refine Ext.alloc ?_ _) | ((with_reducible refine Ext.setCell ?_ ?_ _); rotate_left; focus (first | (simp; done) | (simp; omega) | omega)) | (with_reducible refine Ext.trans ?_ (by with_reducible assumption))))⟩
  case round =>
    obtain ⟨k, ad, ca, hk, rfl, rfl, rfl, HOw, hx⟩ := hrel
    obtain ⟨wr0, rfl⟩ : ∃ x, x = wr := ⟨_, rfl⟩
    have hxw : Ext w wr0 := hx1.trans hx
    have hxb : Ext wB wr0 := hb1.trans hx
    have hlw := hx.le
    by_cases hk6 : k < 6
    · have HSk := Lib.hid (HSy.out k)
      cases hkb : kindB k base
      · have HKk := Lib.hid (HK.out k)
        rw [hkb] at HSk HKk
        have HS2 := Lib.hid (show fK (k + 1) = fK k ++ [45] from HSk.out)
        clear hkb
        go_wp2_with (first | ((with_reducible refine (HKk.out _).mono ?_); rintro e w' ⟨rfl, rfl⟩) | (at_builtin; refine law_append1 _ rfl _ _ 28 rfl 5 (.int .u8 0) 1 und_u8s info_u8 rfl w1.heap.size ad k ca _ _ rfl rfl rfl HOw.out hlw (by omega) (by omega) ?_; intro ad' c' w6 ho6 hb6 _; have hx6 : Ext w1 w6 := Ext.below hx hb6))
        go_roundg (6 - (k + 1))
        case measure => omega
        case rel => exact ⟨k + 1, ad', c', by omega, rfl, by go_num, rfl, by rw [HS2.out, U_add]; exact ho6, hx6⟩
      · have HKk := Lib.hid (HK.out k)
        rw [hkb] at HSk HKk
        have HWk := Lib.hid (HWC.out k)
        obtain ⟨y, hy⟩ : ∃ y, y = catB ⟨base, modulus, target, l⟩ k := ⟨_, rfl⟩
        rw [← hy] at HWk HSk
        clear hy hkb
        cases y
        · have HS2 := Lib.hid (show fK (k + 1) = fK k ++ [117] from HSk.out)
          go_wp2_with (first | ((with_reducible refine (HKk.out _).mono ?_); rintro e w' ⟨rfl, rfl⟩) | ((with_reducible refine (HWk.out _ (by repeat (first | (with_reducible exact Ext.refl _) | (with_reducible assumption) | (with_reducible refine Ext.drewN ?_ _) | (with_reducible refine Ext.drew ?_) | (with_reducible refine Ext.alloc ?_ _) | ((with_reducible refine Ext.setCell ?_ ?_ _); rotate_left; focus (first | (simp; done) | (simp; omega) | omega)) | (with_reducible refine Ext.trans ?_ (by with_reducible assumption))))).mono ?_); rintro e w5 ⟨rfl, hy5⟩; have hx5 : Ext w1 w5 := Ext.trans (by repeat (first | (with_reducible exact Ext.refl _) | (with_reducible assumption) | (with_reducible refine Ext.drewN ?_ _) | (with_reducible refine Ext.drew ?_) | (with_reducible refine Ext.alloc ?_ _) | ((with_reducible refine Ext.setCell ?_ ?_ _); rotate_left; focus (first | (simp; done) | (simp; omega) | omega)) | (with_reducible refine Ext.trans ?_ (by with_reducible assumption)))) hy5; have HO5 := Lib.hid (HOw.out.ext hy5); have hl5 := hx5.le; clear hy5) | (at_builtin; refine law_append1 _ rfl _ _ 28 rfl 5 (.int .u8 0) 1 und_u8s info_u8 rfl w1.heap.size ad k ca _ _ rfl rfl rfl HO5.out hl5 (by omega) (by omega) ?_; intro ad' c' w6 ho6 hb6 _; have hx6 : Ext w1 w6 := Ext.below hx5 hb6))
          go_roundg (6 - (k + 1))
          case measure => omega
          case rel => exact ⟨k + 1, ad', c', by omega, rfl, by go_num, rfl, by rw [HS2.out, U_add]; exact ho6, hx6⟩
        · have HS2 := Lib.hid (show fK (k + 1) = fK k ++ [99] from HSk.out)
          go_wp2_with (first | ((with_reducible refine (HKk.out _).mono ?_); rintro e w' ⟨rfl, rfl⟩) | ((with_reducible refine (HWk.out _ (by repeat (first | (with_reducible exact Ext.refl _) | (with_reducible assumption) | (with_reducible refine Ext.drewN ?_ _) | (with_reducible refine Ext.drew ?_) | (with_reducible refine Ext.alloc ?_ _) | ((with_reducible refine Ext.setCell ?_ ?_ _); rotate_left; focus (first | (simp; done) | (simp; omega) | omega)) | (with_reducible refine Ext.trans ?_ (by with_reducible assumption))))).mono ?_); rintro e w5 ⟨rfl, hy5⟩; have hx5 : Ext w1 w5 := Ext.trans (by repeat (first | (with_reducible exact Ext.refl _) | (with_reducible assumption) | (with_reducible refine Ext.drewN ?_ _) | (with_reducible refine Ext.drew ?_) | (with_reducible refine Ext.alloc ?_ _) | ((with_reducible refine Ext.setCell ?_ ?_ _); rotate_left; focus (first | (simp; done) | (simp; omega) | omega)) | (with_reducible refine Ext.trans ?_ (by with_reducible assumption)))) hy5; have HO5 := Lib.hid (HOw.out.ext hy5); have hl5 := hx5.le; clear hy5) | (at_builtin; refine law_append1 _ rfl _ _ 28 rfl 5 (.int .u8 0) 1 und_u8s info_u8 rfl w1.heap.size ad k ca _ _ rfl rfl rfl HO5.out hl5 (by omega) (by omega) ?_; intro ad' c' w6 ho6 hb6 _; have hx6 : Ext w1 w6 := Ext.below hx5 hb6))
          go_roundg (6 - (k + 1))
          case measure => omega
          case rel => exact ⟨k + 1, ad', c', by omega, rfl, by go_num, rfl, by rw [HS2.out, U_add]; exact ho6, hx6⟩
    · obtain rfl : k = 6 := by omega
      go_wp2_with (at_builtin; refine law_append1 _ rfl _ _ 28 rfl 5 (.int .u8 0) 1 und_u8s info_u8 rfl w1.heap.size ad 6 ca _ _ rfl rfl rfl HOw.out hlw (by omega) (by omega) ?_; intro ad' c' w6 ho6 hb6 _; have hx6 : Ext w1 w6 := Ext.below hx hb6; have hxb6 : Ext wB w6 := hb1.trans hx6)
      have HO6 := Lib.hid (show Own w6 w1.heap.size 5 ad' (7 + 0) c' (U (fP 0)) by rw [HP0.out, U_add]; exact ho6)
      clear ho6 hb6
      go_loopw [4, 6, 40] (fun s4 _ s40 wr => ∃ (k : Nat) (ad : Option Addr) (nk ca : Nat), k ≤ n ∧ s40 = .int .i64 k ∧ s4 = .slice ad nk ca ∧ Hid (nk = 7 + k) ∧ nk ≤ 7 + k ∧ Hid (Own wr w1.heap.size 5 ad nk ca (U (fP k))) ∧ Ext w1 wr) (fun _ _ s40 _ => n - (intOf s40).toNat)
      case atStart => exact ⟨0, _, _, _, Nat.zero_le _, rfl, rfl, rfl, Nat.le_refl _, HO6, hx6⟩
      case round =>
        obtain ⟨k, ad2, nk, ca2, hk2, rfl, rfl, HNk, hnk, HOp, hx2⟩ := hrel
        have hxw2 : Ext w wr := hx1.trans hx2
        have hxb2 : Ext wB wr := hb1.trans hx2
        have hlw2 := hx2.le
        by_cases hkn : k < n
        · have HSk := Lib.hid (HPs.out k)
          have HCk := Lib.hid (HIC.out k)
          obtain ⟨y, hy⟩ : ∃ y, y = icpB ⟨base, modulus, target, l⟩ k := ⟨_, rfl⟩
          rw [← hy] at HSk HCk
          clear hy
          cases y
          · have HS2 := Lib.hid (show fP (k + 1) = fP k ++ [46] from HSk.out)
            go_wp2_with (first | ((with_reducible refine (HCk.out _ (by repeat (first | (with_reducible exact Ext.refl _) | (with_reducible assumption) | (with_reducible refine Ext.drewN ?_ _) | (with_reducible refine Ext.drew ?_) | (with_reducible refine Ext.alloc ?_ _) | ((with_reducible refine Ext.setCell ?_ ?_ _); rotate_left; focus (first | (simp; done) | (simp; omega) | omega)) | (with_reducible refine Ext.trans ?_ (by with_reducible assumption))))).mono ?_); rintro e w5 ⟨rfl, hy5⟩; have hx5 : Ext w1 w5 := Ext.trans (by repeat (first | (with_reducible exact Ext.refl _) | (with_reducible assumption) | (with_reducible refine Ext.drewN ?_ _) | (with_reducible refine Ext.drew ?_) | (with_reducible refine Ext.alloc ?_ _) | ((with_reducible refine Ext.setCell ?_ ?_ _); rotate_left; focus (first | (simp; done) | (simp; omega) | omega)) | (with_reducible refine Ext.trans ?_ (by with_reducible assumption)))) hy5; have HO5 := Lib.hid (HOp.out.ext hy5); have hl5 := hx5.le; clear hy5) | (at_builtin; refine law_append1 _ rfl _ _ 28 rfl 5 (.int .u8 0) 1 und_u8s info_u8 rfl w1.heap.size ad2 nk ca2 _ _ rfl rfl rfl HO5.out hl5 (by omega) (by omega) ?_; intro ad7 c7 w7 ho7 hb7 _; have hx7 : Ext w1 w7 := Ext.below hx5 hb7))
            exact ⟨⟨k + 1, ad7, nk + 1, c7, hkn, by go_num, rfl, by rw [Hid, HNk.out]; rfl, by omega, by rw [HS2.out, U_add]; exact ho7, hx7⟩, by simp [intOf]; omega⟩
          · have HS2 := Lib.hid (show fP (k + 1) = fP k ++ [33] from HSk.out)
            go_wp2_with (first | ((with_reducible refine (HCk.out _ (by repeat (first | (with_reducible exact Ext.refl _) | (with_reducible assumption) | (with_reducible refine Ext.drewN ?_ _) | (with_reducible refine Ext.drew ?_) | (with_reducible refine Ext.alloc ?_ _) | ((with_reducible refine Ext.setCell ?_ ?_ _); rotate_left; focus (first | (simp; done) | (simp; omega) | omega)) | (with_reducible refine Ext.trans ?_ (by with_reducible assumption))))).mono ?_); rintro e w5 ⟨rfl, hy5⟩; have hx5 : Ext w1 w5 := Ext.trans (by repeat (first | (with_reducible exact Ext.refl _) | (with_reducible assumption) | (with_reducible refine Ext.drewN ?_ _) | (with_reducible refine Ext.drew ?_) | (with_reducible refine Ext.alloc ?_ _) | ((with_reducible refine Ext.setCell ?_ ?_ _); rotate_left; focus (first | (simp; done) | (simp; omega) | omega)) | (with_reducible refine Ext.trans ?_ (by with_reducible assumption)))) hy5; have HO5 := Lib.hid (HOp.out.ext hy5); have hl5 := hx5.le; clear hy5) | (at_builtin; refine law_append1 _ rfl _ _ 28 rfl 5 (.int .u8 0) 1 und_u8s info_u8 rfl w1.heap.size ad2 nk ca2 _ _ rfl rfl rfl HO5.out hl5 (by omega) (by omega) ?_; intro ad7 c7 w7 ho7 hb7 _; have hx7 : Ext w1 w7 := Ext.below hx5 hb7))
            exact ⟨⟨k + 1, ad7, nk + 1, c7, hkn, by go_num, rfl, by rw [Hid, HNk.out]; rfl, by omega, by rw [HS2.out, U_add]; exact ho7, hx7⟩, by simp [intOf]; omega⟩
        · obtain rfl : n = k := by omega
          have HR := Lib.hid (run_bytes_text wr _ ad2 nk ca2 _ HOp.out)
          have hr := HR.out
          go_wp2_with fail
          go_ret2
          exact ⟨by rw [HO.out]; rfl, hxw2⟩
theorem places_neg {k base : Int} {n : Nat} : decide (placesF k base n < 0) = !kindB k base := by
  unfold placesF
  cases kindB k base
  · rfl
  · simp only [if_true, Bool.not_true, decide_eq_false_iff_not]; omega
set_option maxHeartbeats 8000000 in
theorem spec_rep (b : Nat) (W : Wt) (a : Option Addr) (n c : Nat) (w : World) (h : IsWt w b W a n c) (hv : validB W = true) :
    Calls Try.prog 74 #[.pointer (some ⟨b, 0, none⟩)] w (Ret (.string (strOfNums (repP W n))) w) := by
  have hg := validB_good hv
  obtain ⟨base, modulus, target, l⟩ := W
  have hw := h.ws
  simp only at hw
  have HPl := Lib.hid (fun (k : Nat) W' (hx : Ext w W') => spec_places b ⟨base, modulus, target, l⟩ a n c k W' (h.ext hx) (by have h1 := hg.l20; have h2 := hw.len; simp only at h1; omega))
  have HCa := Lib.hid (fun (k : Nat) (hk : kindB k base = true) W' (hx : Ext w W') => spec_catches b ⟨base, modulus, target, l⟩ a n c k W' (h.ext hx) hg hk)
  have HIC := Lib.hid (fun (k : Nat) W' (hx : Ext w W') => spec_icp ⟨base, modulus, target, l⟩ a n c k W' (hw.ext hx))
  obtain ⟨c0, c1, c2, c3, _⟩ := h
  simp only at c0 c1 c2 c3
  have k0 : ∀ w', Ext w w' → w'.cell? ⟨b, 0, none⟩ = some (.int .i64 base) := fun w' h => h.cell c0
  have k1 : ∀ w', Ext w w' → w'.cell? ⟨b, 1, none⟩ = some (.int .i64 modulus) := fun w' h => h.cell c1
  have k2 : ∀ w', Ext w w' → w'.cell? ⟨b, 2, none⟩ = some (.int .i64 target) := fun w' h => h.cell c2
  have k3 : ∀ w', Ext w w' → w'.cell? ⟨b, 3, none⟩ = some (.slice a n c) := fun w' h => h.cell c3
  have HSy := Lib.hid (show ∀ k : Nat, repK ⟨base, modulus, target, l⟩ (k + 1) = repK ⟨base, modulus, target, l⟩ k ++ [if kindB k base = true then (if decide (allF ⟨base, modulus, target, l⟩ k = 0) = true then 99 else 117) else 45] from fun k => by
    rw [repK, symK]
    simp only [decide_eq_true_eq])
  have HK0 := Lib.hid (show repK ⟨base, modulus, target, l⟩ 0 = [] from rfl)
  have HP0 := Lib.hid (show repP ⟨base, modulus, target, l⟩ 0 = repK ⟨base, modulus, target, l⟩ 6 ++ [58] from rfl)
  have HPs := Lib.hid (show ∀ k : Nat, repP ⟨base, modulus, target, l⟩ (k + 1) = repP ⟨base, modulus, target, l⟩ k ++ [if icpB ⟨base, modulus, target, l⟩ k = true then 33 else 46] from fun k => rfl)
  have HRl := Lib.hid (repK_len ⟨base, modulus, target, l⟩)
  have HPln := Lib.hid (repP_len ⟨base, modulus, target, l⟩)
  have hn20 : n ≤ 20 := by have h1 := hg.l20; have h2 := hw.len; simp only at h1; omega
  generalize repK ⟨base, modulus, target, l⟩ = fK at *
  generalize repP ⟨base, modulus, target, l⟩ = fP at *
  clear hv hg hw c0 c1 c2 c3
  have hxx : Ext w w := Ext.refl _
  go_enter Try.func74, Try.ntmps74
  go_wp2_with fail
  go_loopg [3, 4, 12, 19] 6 (fun gk s3 s4 _ _ wr => ∃ (k : Nat) (t : ByteArray), k ≤ 6 ∧ gk = 6 - k ∧ s4 = .int .i64 k ∧ s3 = .string t ∧ Hid (t = strOfNums (fK k)) ∧ Ext w wr)
  case atStart => exact ⟨0, _, Nat.zero_le _, rfl, rfl, rfl, by rw [HK0.out]; rfl, Ext.refl _⟩
  case round =>
    obtain ⟨k, t, hk, rfl, rfl, rfl, HT, hx⟩ := hrel
    obtain ⟨wr0, rfl⟩ : ∃ x, x = wr := ⟨_, rfl⟩
    have htz : t.size ≤ 6 := by rw [HT.out, strOfNums_size, HRl.out]; exact hk
    by_cases hk6 : k < 6
    · have HSk := Lib.hid (HSy.out k)
      have HPk := Lib.hid (HPl.out k)
      have HNg := Lib.hid (places_neg (k := k) (base := base) (n := n))
      cases hkb : kindB k base
      · rw [hkb] at HSk HNg
        have HS2 := Lib.hid (show t ++ ⟨#[45]⟩ = strOfNums (fK (k + 1)) by rw [show fK (k + 1) = fK k ++ [45] from HSk.out, HT.out, ← str_add]; rfl)
        generalize placesF (k : Int) base n = pv at *
        have hpv : decide (pv < 0) = true := HNg.out
        clear hkb HNg
        go_wp2_with ((with_reducible refine (HPk.out _ (by repeat (first | (with_reducible exact Ext.refl _) | (with_reducible assumption) | (with_reducible refine Ext.drewN ?_ _) | (with_reducible refine Ext.drew ?_) | (with_reducible refine Ext.alloc ?_ _) | ((with_reducible refine Ext.setCell ?_ ?_ _); rotate_left; focus (first | (simp; done) | (simp; omega) | omega)) | (with_reducible refine Ext.trans ?_ (by with_reducible assumption))))).mono ?_); rintro e w' ⟨rfl, rfl⟩)
        go_roundg (6 - (k + 1))
        case measure => omega
        case rel => exact ⟨k + 1, _, by omega, rfl, by go_num, rfl, HS2, hx⟩
      · have HCk := Lib.hid (HCa.out k hkb)
        rw [hkb] at HSk HNg
        generalize placesF (k : Int) base n = pv at *
        have hpv : decide (pv < 0) = false := HNg.out
        obtain ⟨y, hy⟩ : ∃ y, y = decide (allF ⟨base, modulus, target, l⟩ k = 0) := ⟨_, rfl⟩
        rw [← hy] at HCk HSk
        clear hy hkb HNg
        cases y
        · have HS2 := Lib.hid (show t ++ ⟨#[117]⟩ = strOfNums (fK (k + 1)) by rw [show fK (k + 1) = fK k ++ [117] from HSk.out, HT.out, ← str_add]; rfl)
          go_wp2_with (first | ((with_reducible refine (HPk.out _ (by repeat (first | (with_reducible exact Ext.refl _) | (with_reducible assumption) | (with_reducible refine Ext.drewN ?_ _) | (with_reducible refine Ext.drew ?_) | (with_reducible refine Ext.alloc ?_ _) | ((with_reducible refine Ext.setCell ?_ ?_ _); rotate_left; focus (first | (simp; done) | (simp; omega) | omega)) | (with_reducible refine Ext.trans ?_ (by with_reducible assumption))))).mono ?_); rintro e w' ⟨rfl, rfl⟩) | ((with_reducible refine (HCk.out _ (by repeat (first | (with_reducible exact Ext.refl _) | (with_reducible assumption) | (with_reducible refine Ext.drewN ?_ _) | (with_reducible refine Ext.drew ?_) | (with_reducible refine Ext.alloc ?_ _) | ((with_reducible refine Ext.setCell ?_ ?_ _); rotate_left; focus (first | (simp; done) | (simp; omega) | omega)) | (with_reducible refine Ext.trans ?_ (by with_reducible assumption))))).mono ?_); rintro e w5 ⟨rfl, rfl⟩))
          go_roundg (6 - (k + 1))
          case measure => omega
          case rel => exact ⟨k + 1, _, by omega, rfl, by go_num, rfl, HS2, hx⟩
        · have HS2 := Lib.hid (show t ++ ⟨#[99]⟩ = strOfNums (fK (k + 1)) by rw [show fK (k + 1) = fK k ++ [99] from HSk.out, HT.out, ← str_add]; rfl)
          go_wp2_with (first | ((with_reducible refine (HPk.out _ (by repeat (first | (with_reducible exact Ext.refl _) | (with_reducible assumption) | (with_reducible refine Ext.drewN ?_ _) | (with_reducible refine Ext.drew ?_) | (with_reducible refine Ext.alloc ?_ _) | ((with_reducible refine Ext.setCell ?_ ?_ _); rotate_left; focus (first | (simp; done) | (simp; omega) | omega)) | (with_reducible refine Ext.trans ?_ (by with_reducible assumption))))).mono ?_); rintro e w' ⟨rfl, rfl⟩) | ((with_reducible refine (HCk.out _ (by repeat (first | (with_reducible exact Ext.refl _) | (with_reducible assumption) | (with_reducible refine Ext.drewN ?_ _) | (with_reducible refine Ext.drew ?_) | (with_reducible refine Ext.alloc ?_ _) | ((with_reducible refine Ext.setCell ?_ ?_ _); rotate_left; focus (first | (simp; done) | (simp; omega) | omega)) | (with_reducible refine Ext.trans ?_ (by with_reducible assumption))))).mono ?_); rintro e w5 ⟨rfl, rfl⟩))
          go_roundg (6 - (k + 1))
          case measure => omega
          case rel => exact ⟨k + 1, _, by omega, rfl, by go_num, rfl, HS2, hx⟩
    · have HS2 := Lib.hid (show t ++ ⟨#[58]⟩ = strOfNums (fP 0) by rw [HP0.out, HT.out, show k = 6 by omega, ← str_add]; rfl)
      go_wp2_with fail
      go_loopw [3, 5] (fun s3 s5 wr => ∃ (k : Nat) (t : ByteArray), k ≤ n ∧ s5 = .int .i64 k ∧ s3 = .string t ∧ Hid (t = strOfNums (fP k)) ∧ Ext w wr) (fun _ s5 _ => n - (intOf s5).toNat)
      case atStart => exact ⟨0, _, Nat.zero_le _, rfl, rfl, HS2, hx⟩
      case round =>
        obtain ⟨k, t2, hk2, rfl, rfl, HT2, hx2⟩ := hrel
        have htz2 : t2.size ≤ 27 := by rw [HT2.out, strOfNums_size, HPln.out]; omega
        by_cases hkn : k < n
        · have HSk := Lib.hid (HPs.out k)
          have HCk := Lib.hid (HIC.out k)
          obtain ⟨y, hy⟩ : ∃ y, y = icpB ⟨base, modulus, target, l⟩ k := ⟨_, rfl⟩
          rw [← hy] at HSk HCk
          clear hy
          cases y
          · have HS3 := Lib.hid (show t2 ++ ⟨#[46]⟩ = strOfNums (fP (k + 1)) by rw [show fP (k + 1) = fP k ++ [46] from HSk.out, HT2.out, ← str_add]; rfl)
            go_wp2_with ((with_reducible refine (HCk.out _ (by repeat (first | (with_reducible exact Ext.refl _) | (with_reducible assumption) | (with_reducible refine Ext.drewN ?_ _) | (with_reducible refine Ext.drew ?_) | (with_reducible refine Ext.alloc ?_ _) | ((with_reducible refine Ext.setCell ?_ ?_ _); rotate_left; focus (first | (simp; done) | (simp; omega) | omega)) | (with_reducible refine Ext.trans ?_ (by with_reducible assumption))))).mono ?_); rintro e w5 ⟨rfl, hy5⟩; have hx5 : Ext w w5 := Ext.trans (by repeat (first | (with_reducible exact Ext.refl _) | (with_reducible assumption) | (with_reducible refine Ext.drewN ?_ _) | (with_reducible refine Ext.drew ?_) | (with_reducible refine Ext.alloc ?_ _) | ((with_reducible refine Ext.setCell ?_ ?_ _); rotate_left; focus (first | (simp; done) | (simp; omega) | omega)) | (with_reducible refine Ext.trans ?_ (by with_reducible assumption)))) hy5; clear hy5)
            exact ⟨⟨k + 1, _, hkn, by go_num, rfl, HS3, hx5⟩, by simp [intOf]; omega⟩
          · have HS3 := Lib.hid (show t2 ++ ⟨#[33]⟩ = strOfNums (fP (k + 1)) by rw [show fP (k + 1) = fP k ++ [33] from HSk.out, HT2.out, ← str_add]; rfl)
            go_wp2_with ((with_reducible refine (HCk.out _ (by repeat (first | (with_reducible exact Ext.refl _) | (with_reducible assumption) | (with_reducible refine Ext.drewN ?_ _) | (with_reducible refine Ext.drew ?_) | (with_reducible refine Ext.alloc ?_ _) | ((with_reducible refine Ext.setCell ?_ ?_ _); rotate_left; focus (first | (simp; done) | (simp; omega) | omega)) | (with_reducible refine Ext.trans ?_ (by with_reducible assumption))))).mono ?_); rintro e w5 ⟨rfl, hy5⟩; have hx5 : Ext w w5 := Ext.trans (by repeat (first | (with_reducible exact Ext.refl _) | (with_reducible assumption) | (with_reducible refine Ext.drewN ?_ _) | (with_reducible refine Ext.drew ?_) | (with_reducible refine Ext.alloc ?_ _) | ((with_reducible refine Ext.setCell ?_ ?_ _); rotate_left; focus (first | (simp; done) | (simp; omega) | omega)) | (with_reducible refine Ext.trans ?_ (by with_reducible assumption)))) hy5; clear hy5)
            exact ⟨⟨k + 1, _, hkn, by go_num, rfl, HS3, hx5⟩, by simp [intOf]; omega⟩
        · obtain rfl : n = k := by omega
          go_wp2_with fail
          go_ret
          exact ⟨by rw [← HT2.out]; rfl, hx2⟩
set_option maxHeartbeats 2000000 in
theorem spec_SR (W : Wt) (a : Option Addr) (n c : Nat) (w : World) (hw : Ints w a n c W.weights) :
    Calls Try.prog 33 #[.agg #[.int .i64 W.base, .int .i64 W.modulus, .int .i64 W.target, .slice a n c]] w (Ret2 (.string (srT W)) (.bool (validB W)) w) := by
  obtain ⟨base, modulus, target, l⟩ := W
  simp only at hw ⊢
  have HB := Lib.hid (isWt_box w base modulus target l a n c 34 hw)
  have HV := Lib.hid (spec_is w.heap.size ⟨base, modulus, target, l⟩ a n c _ HB.out)
  have HL := Lib.hid hw.len
  clear hw
  cases hv : validB ⟨base, modulus, target, l⟩
  · rw [hv] at HV
    have HO := Lib.hid (show srT ⟨base, modulus, target, l⟩ = .empty by rw [srT, hv]; rfl)
    clear hv
    go_enter Try.func33, Try.ntmps33
    go_wp2_with ((with_reducible refine HV.out.mono ?_); rintro e w1 ⟨rfl, q, rfl⟩)
    go_ret2
    exact ⟨by rw [HO.out]; rfl, (by repeat (first | (with_reducible exact Ext.refl _) | (with_reducible assumption) | (with_reducible refine Ext.drewN ?_ _) | (with_reducible refine Ext.drew ?_) | (with_reducible refine Ext.alloc ?_ _) | ((with_reducible refine Ext.setCell ?_ ?_ _); rotate_left; focus (first | (simp; done) | (simp; omega) | omega)) | (with_reducible refine Ext.trans ?_ (by with_reducible assumption))))⟩
  rw [hv] at HV
  have HO := Lib.hid (show srT ⟨base, modulus, target, l⟩ = strOfNums (repP ⟨base, modulus, target, l⟩ n) by rw [srT, hv]; simp only [HL.out]; rfl)
  have HRp := Lib.hid (fun W' h => spec_rep w.heap.size ⟨base, modulus, target, l⟩ a n c W' h hv)
  clear hv
  generalize repP ⟨base, modulus, target, l⟩ n = y at *
  go_enter Try.func33, Try.ntmps33
  go_wp2_with (first | ((with_reducible refine HV.out.mono ?_); rintro e w1 ⟨rfl, q, rfl⟩) | ((with_reducible refine (HRp.out _ (HB.out.ext (by repeat (first | (with_reducible exact Ext.refl _) | (with_reducible assumption) | (with_reducible refine Ext.drewN ?_ _) | (with_reducible refine Ext.drew ?_) | (with_reducible refine Ext.alloc ?_ _) | ((with_reducible refine Ext.setCell ?_ ?_ _); rotate_left; focus (first | (simp; done) | (simp; omega) | omega)) | (with_reducible refine Ext.trans ?_ (by with_reducible assumption)))))).mono ?_); rintro e w5 ⟨rfl, hy5⟩; have hx5 : Ext w w5 := Ext.trans (by repeat (first | (with_reducible exact Ext.refl _) | (with_reducible assumption) | (with_reducible refine Ext.drewN ?_ _) | (with_reducible refine Ext.drew ?_) | (with_reducible refine Ext.alloc ?_ _) | ((with_reducible refine Ext.setCell ?_ ?_ _); rotate_left; focus (first | (simp; done) | (simp; omega) | omega)) | (with_reducible refine Ext.trans ?_ (by with_reducible assumption)))) hy5))
  go_ret2
  exact ⟨by rw [HO.out]; rfl, hx5⟩
end Go.Proofs.Ytlpbflmgkopklaa
