/- Walks: texts of weightings, in the program (numbers below 100). -/
import Derived.Test.YtgnlabdikmbbgaaGreatDoorWtL
import Derived.Test.YtgnlabdikmbbgaaGreatDoorShelf
import Derived.Test.YtgnlabdikmbbgaaGreatDoorVar
import Derived.Test.YtgnlabdikmbbgaaGreatDoorMix2
import Derived.Test.YtgnlabdikmbbgaaGreatDoorStrs
import Derived.Lib.SmallJoins
import Derived.Lib.ItoaMem
import Derived.Shelf.Vars
namespace Go.Proofs.YtgnlabdikmbbgaaGreatDoor
set_option maxRecDepth 100000
open Go.RowKit Go.Joins

/-- the library's variable MaxLen holds some number -/
def MaxW (w : World) : Prop := ∃ m : Int, w.cell? ⟨1, 0, none⟩ = some (.int .i64 m)
theorem MaxW.ext {w w' : World} (h : MaxW w) (hx : Ext w w') : MaxW w' := h.elim fun m hm => ⟨m, hx.cell hm⟩
theorem max_of_shape {w : World} (h : w.ShapedOpen Tryz.prog) : MaxW w :=
  cell_of_shapedOpen_int (P := Tryz.prog) (g := 1) (t := 3) (zero := #[.int .i64 0]) h (of_decide_eq_true (by kernel_rfl)) (by kernel_rfl) rfl (by kernel_rfl) (by kernel_rfl) Tryz.underlying3
theorem decS_nat (i : Nat) : decS (i : Int) = ⟨(Lib.decDigits i).toArray⟩ := by unfold decS; rw [Lib.itoa_nonneg]
set_option maxHeartbeats 400000 in
theorem impl_DecS (n : Int) (w : World) (h : In100 n) : Calls Tryz.prog 22 #[.int .i64 n] w (Same (.string (decS n)) w) := by
  obtain ⟨i, rfl⟩ := Int.eq_ofNat_of_zero_le h.1
  have h2 := h.2
  have HF := Lib.hid (Tryz.strconv_FormatInt_10_small i (by omega) w)
  have HD := Lib.hid (decS_nat i)
  clear h h2
  go_enter Tryz.func22, Tryz.ntmps22
  go_wp2_with (refine HF.out.mono ?_; rintro e w1 ⟨rfl, rfl⟩)
  go_ret
  exact ⟨by rw [HD.out]; rfl, rfl⟩
set_option maxHeartbeats 1000000 in
theorem impl_ReadDecS (n : Int) (w : World) (h : In100 n) : Calls Tryz.prog 47 #[.string (decS n)] w (Ret2 (.int .i64 n) (.bool true) w) := by
  obtain ⟨_, _, _, hp, hs, _⟩ := dec_100 h
  have HP := Lib.hid (fun W => Tryz.strconv_ParseInt_10_at64_ok (decS n) (by omega) n hp W)
  have HDe := Lib.hid (fun W => impl_DecS n W h)
  have HI := Lib.hid (fun W => impl_in n (-1000000000000000) 1000000000000000 W)
  rw [show inB n (-1000000000000000) 1000000000000000 = true from inB_t.2 (by have := h.1; have := h.2; omega)] at HI
  have hself : ((decS n).toList == (decS n).toList) = true := beq_self_eq_true _
  clear hp hs h
  go_enter Tryz.func47, Tryz.ntmps47
  go_wp2_with (first | (go_at_call 81; (with_reducible refine (HP.out _).mono ?_); rintro e w1 ⟨rfl, hw1⟩; have hx1 : Ext w w1 := (by rcases hw1 with rfl | ⟨t, rfl⟩ <;> first | exact Ext.refl _ | exact below_bytesWorld _ _ _ _ (Nat.le_refl _)); clear hw1) | (go_at_call 22; (with_reducible refine (HDe.out _).mono ?_); rintro e w2 ⟨rfl, rfl⟩) | (go_at_call 43; (with_reducible refine (HI.out _).mono ?_); rintro e w3 ⟨rfl, rfl⟩))
  go_ret2
  exact ⟨rfl, hx1⟩
set_option maxHeartbeats 2000000 in
theorem impl_listTextS (a : Option Addr) (n c : Nat) (l : List Int) (w : World) (hv : Ints w a n c l) (hs : ∀ x ∈ l, In100 x) (h1 : 1 ≤ n) (hn : n ≤ 20) :
    Calls Tryz.prog 79 #[.slice a n c] w (Ret (.string (numsT l)) w) := by
  have HL := Lib.hid hv.len
  have HS := Lib.hid hs
  have HSz := Lib.hid (nums_size hs)
  obtain ⟨b, off, hix, hcell⟩ := hv.ix (P := Tryz.prog) 24 2 und_int64s cell_int64
  clear hv hs
  go_enter Tryz.func79, Tryz.ntmps79
  go_wp2_with fail
  go_loopw [3, 5, 9] (fun v3 _ v9 wr => ∃ (k : Nat) (ad : Option Addr) (cc : Nat), k ≤ n ∧ v9 = .int .i64 k ∧ v3 = .slice ad k cc ∧ Hid (Own wr w.heap.size 9 ad k cc (St ((l.take k).map decS))) ∧ Ext w wr) (fun _ _ v9 _ => n - (intOf v9).toNat)
  case atStart => exact ⟨0, _, _, Nat.zero_le _, rfl, rfl, Own.lit0 w _, (Ext.refl w).alloc _⟩
  case round =>
    obtain ⟨k, ad, cc, hk, rfl, rfl, HO, hx⟩ := hrel
    have hrr : Ext wr wr := Ext.refl _
    by_cases hlt : k < n
    · have hin := HS.out (gi l k) (gi_mem (by rw [HL.out]; exact hlt))
      have HDe := Lib.hid (fun W => impl_DecS (gi l k) W hin)
      have HTk := Lib.hid (show St ((l.take (k + 1)).map decS) = St ((l.take k).map decS) ++ [.string (decS (gi l k))] by rw [take_gi (by rw [HL.out]; exact hlt), List.map_append, St_append]; rfl)
      go_wp2_with (first | (go_at_call 22; (with_reducible refine (HDe.out _).mono ?_); rintro e w2 ⟨rfl, rfl⟩) | (at_builtin; refine law_append1 _ rfl _ _ 50 rfl 9 (.string .empty) 16 und_strs info_str rfl w.heap.size ad k cc _ _ rfl rfl rfl HO.out hx.le (by omega) (by omega) ?_; intro ad' c' w1 ho1 hb1 _; have hxw1 : Ext w w1 := Ext.below hx hb1))
      exact ⟨⟨k + 1, ad', c', by omega, by go_num, rfl, by rw [Hid, HTk.out]; exact ho1, hxw1⟩, by simp [intOf]; omega⟩
    · obtain rfl : k = n := by omega
      have hO := HO.out
      rw [take_full (by rw [HL.out]; exact Nat.le_refl _)] at hO
      have HOf := Lib.hid hO
      have hle : (l.map decS).length = k := by rw [List.length_map]; exact HL.out
      obtain ⟨g, rfl⟩ : ∃ g, ad = some ⟨g, 0, none⟩ := by
        rcases hO.2 with h2 | ⟨g, cap, cur, hv, _⟩
        · omega
        · simp only [Value.slice.injEq] at hv; exact ⟨g, hv.1⟩
      have hcap := hO.sl.cap
      have hgl := hO.lt.2
      have HC := Lib.hid (show ∀ (j : Nat) x, (l.map decS)[j]? = some x → wr.cell? ⟨g, 0 + j, none⟩ = some (.string x) from fun j x hj => by
        obtain ⟨hj1, hj2⟩ := List.getElem?_eq_some_iff.1 hj
        obtain ⟨b', o', ha', hc'⟩ := HOf.out.sl.cells (by omega)
        simp only [Option.some.injEq, Addr.mk.injEq, and_true] at ha'
        obtain ⟨rfl, rfl⟩ := ha'
        rw [hc' j (by omega)]
        have e : (St (l.map decS))[j]? = some (.string x) := by rw [St, List.getElem?_map, hj]; rfl
        rw [List.getD_eq_getElem?_getD, e]; rfl)
      have HJ := Lib.hid (Tryz.strings_Join g 0 cc (l.map decS) ⟨#[32]⟩ wr HC.out hgl (by omega) (by omega) (by
        have h := HSz.out
        rw [← bl_len, numsT, joinS_bl] at h
        have h2 := HL.out
        show (Lib.join ((l.map decS).map bl) [32]).length ≤ _
        omega))
      have HNt := Lib.hid (show (⟨(Lib.join (List.map ((fun x : ByteArray => x.data.toList) ∘ decS) l) [32]).toArray⟩ : ByteArray) = numsT l by unfold numsT joinS; rw [List.map_map]; rfl)
      rw [hle] at HJ
      have hk0 : ((k : Int) == 0) = false := by simp; omega
      clear hO hcap hgl
      go_wp2_with (go_at_call 107; (with_reducible refine HJ.out.mono ?_); rintro e w3 ⟨rfl, hb3⟩)
      go_ret
      exact ⟨by rw [← HNt.out]; rfl, hx.trans hb3⟩
set_option maxHeartbeats 2000000 in
theorem impl_wtTextS (X : Wt) (a : Option Addr) (n c : Nat) (w : World) (hw : Ints w a n c X.weights) (hS : WtS X) :
    Calls Tryz.prog 45 #[.agg #[.int .i64 X.base, .int .i64 X.modulus, .int .i64 X.target, .slice a n c]] w (Ret (.string (wtT X)) w) := by
  have HL := Lib.hid hw.len
  have hn1 := hS.n1
  have hn4 := hS.n4
  rw [HL.out] at hn1 hn4
  have HI := Lib.hid hw
  have HS := Lib.hid hS
  have HC := Lib.hid (wtT_cat X)
  have s1 := (dec_100 hS.b).2.2.2.2.1
  have s2 := (dec_100 hS.m).2.2.2.2.1
  have s3 := (dec_100 hS.t).2.2.2.2.1
  have s4 : (numsT X.weights).size ≤ 60 := by have := nums_size hS.w; rw [HL.out] at this; omega
  have HB := Lib.hid (isWt_box w X.base X.modulus X.target X.weights a n c 26 hw)
  have HD1 := Lib.hid (fun W => impl_DecS X.base W hS.b)
  have HD2 := Lib.hid (fun W => impl_DecS X.modulus W hS.m)
  have HD3 := Lib.hid (fun W => impl_DecS X.target W hS.t)
  clear hw hS
  go_enter Tryz.func45, Tryz.ntmps45
  go_wp2_with fail
  obtain ⟨wb, hwb⟩ : ∃ wb, wb = w.alloc (.cells #[.int .i64 X.base, .int .i64 X.modulus, .int .i64 X.target, .slice a n c] 26) := ⟨_, rfl⟩
  obtain ⟨q, hq⟩ : ∃ q, q = w.heap.size := ⟨_, rfl⟩
  have hxb : Ext w wb := by rw [hwb]; exact (Ext.refl _).alloc _
  rw [← hwb, ← hq] at HB ⊢
  clear hwb hq
  obtain ⟨c0, c1, c2, c3, _⟩ := HB.out
  have k0 : ∀ w', Ext wb w' → w'.cell? ⟨q, 0, none⟩ = some (.int .i64 X.base) := fun w' h => h.cell c0
  have k1 : ∀ w', Ext wb w' → w'.cell? ⟨q, 1, none⟩ = some (.int .i64 X.modulus) := fun w' h => h.cell c1
  have k2 : ∀ w', Ext wb w' → w'.cell? ⟨q, 2, none⟩ = some (.int .i64 X.target) := fun w' h => h.cell c2
  have k3 : ∀ w', Ext wb w' → w'.cell? ⟨q, 3, none⟩ = some (.slice a n c) := fun w' h => h.cell c3
  have HT := Lib.hid (fun W (h : Ext wb W) => impl_listTextS a n c X.weights W (HI.out.ext (hxb.trans h)) HS.out.w hn1 hn4)
  have hbb : Ext wb wb := Ext.refl _
  clear c0 c1 c2 c3
  (refine wp_region_from wb (by repeat (first | (with_reducible exact Ext.refl _) | (with_reducible refine Ext.drewN ?_ _) | (with_reducible refine Ext.drew ?_) | (with_reducible refine Ext.alloc ?_ _) | ((with_reducible refine Ext.setCell ?_ ?_ _); rotate_left; focus (first | (simp; done) | (simp; omega) | omega)) | assumption | (with_reducible refine Ext.trans ?_ (by assumption)))) (by kernel_rfl) (by kernel_rfl) (by kernel_rfl) ?_; (repeat (first | (refine mix_q rfl ?_; go_big_quiet_step (fail); refine wpQuiet_nil ?_; show wpMix _ _ _ _ _ _ _) | (refine mix_s rfl ?_; go_wp2_with (first | (go_at_call 22; first | ((with_reducible refine (HD1.out _).mono ?_); rintro e w2 ⟨rfl, rfl⟩) | ((with_reducible refine (HD2.out _).mono ?_); rintro e w2 ⟨rfl, rfl⟩) | ((with_reducible refine (HD3.out _).mono ?_); rintro e w2 ⟨rfl, rfl⟩)) | (go_at_call 79; (with_reducible refine (HT.out _ (by repeat (first | (with_reducible exact Ext.refl _) | (with_reducible refine Ext.drewN ?_ _) | (with_reducible refine Ext.drew ?_) | (with_reducible refine Ext.alloc ?_ _) | ((with_reducible refine Ext.setCell ?_ ?_ _); rotate_left; focus (first | (simp; done) | (simp; omega) | omega)) | assumption | (with_reducible refine Ext.trans ?_ (by assumption))))).mono ?_); rintro e w3 ⟨rfl, hy3⟩; have hx3 : Ext wb w3 := Ext.trans (by repeat (first | (with_reducible exact Ext.refl _) | (with_reducible refine Ext.drewN ?_ _) | (with_reducible refine Ext.drew ?_) | (with_reducible refine Ext.alloc ?_ _) | ((with_reducible refine Ext.setCell ?_ ?_ _); rotate_left; focus (first | (simp; done) | (simp; omega) | omega)) | assumption | (with_reducible refine Ext.trans ?_ (by assumption)))) hy3; clear hy3)); first | refine ⟨up_of (by repeat (first | (with_reducible exact Ext.refl _) | (with_reducible refine Ext.drewN ?_ _) | (with_reducible refine Ext.drew ?_) | (with_reducible refine Ext.alloc ?_ _) | ((with_reducible refine Ext.setCell ?_ ?_ _); rotate_left; focus (first | (simp; done) | (simp; omega) | omega)) | assumption | (with_reducible refine Ext.trans ?_ (by assumption)))), ?_⟩ | refine ⟨rfl, rfl, up_of (by repeat (first | (with_reducible exact Ext.refl _) | (with_reducible refine Ext.drewN ?_ _) | (with_reducible refine Ext.drew ?_) | (with_reducible refine Ext.alloc ?_ _) | ((with_reducible refine Ext.setCell ?_ ?_ _); rotate_left; focus (first | (simp; done) | (simp; omega) | omega)) | assumption | (with_reducible refine Ext.trans ?_ (by assumption)))), ?_⟩))); refine mix_nil ?_)
  rw [HC.out]
  go_wp2
  go_ret
  exact ⟨rfl, hxb.trans (by repeat (first | (with_reducible exact Ext.refl _) | (with_reducible refine Ext.drewN ?_ _) | (with_reducible refine Ext.drew ?_) | (with_reducible refine Ext.alloc ?_ _) | ((with_reducible refine Ext.setCell ?_ ?_ _); rotate_left; focus (first | (simp; done) | (simp; omega) | omega)) | assumption | (with_reducible refine Ext.trans ?_ (by assumption))))⟩
set_option maxHeartbeats 1000000 in
theorem impl_WeightingTextS (X : Wt) (a : Option Addr) (n c : Nat) (w : World) (hw : Ints w a n c X.weights) (hS : WtS X) (hval : validB X = true) :
    Calls Tryz.prog 17 #[.agg #[.int .i64 X.base, .int .i64 X.modulus, .int .i64 X.target, .slice a n c]] w (Ret2 (.string (wtT X)) (.bool true) w) := by
  have HV := Lib.hid (fun W (h : Ext w W) => impl_valid X a n c W (hw.ext h))
  rw [hval] at HV
  have HT := Lib.hid (fun W (h : Ext w W) => impl_wtTextS X a n c W (hw.ext h) hS)
  have HB := Lib.hid (isWt_box w X.base X.modulus X.target X.weights a n c 26 hw)
  clear hw hS hval
  go_enter Tryz.func17, Tryz.ntmps17
  go_upto_region 1 with fail
  obtain ⟨wb, hwb⟩ : ∃ wb, wb = w.alloc (.cells #[.int .i64 X.base, .int .i64 X.modulus, .int .i64 X.target, .slice a n c] 26) := ⟨_, rfl⟩
  obtain ⟨q, hq⟩ : ∃ q, q = w.heap.size := ⟨_, rfl⟩
  have hxb : Ext w wb := by rw [hwb]; exact (Ext.refl _).alloc _
  rw [← hwb, ← hq] at HB ⊢
  clear hwb hq
  obtain ⟨c0, c1, c2, c3, _⟩ := HB.out
  have k0 : ∀ w', Ext wb w' → w'.cell? ⟨q, 0, none⟩ = some (.int .i64 X.base) := fun w' h => h.cell c0
  have k1 : ∀ w', Ext wb w' → w'.cell? ⟨q, 1, none⟩ = some (.int .i64 X.modulus) := fun w' h => h.cell c1
  have k2 : ∀ w', Ext wb w' → w'.cell? ⟨q, 2, none⟩ = some (.int .i64 X.target) := fun w' h => h.cell c2
  have k3 : ∀ w', Ext wb w' → w'.cell? ⟨q, 3, none⟩ = some (.slice a n c) := fun w' h => h.cell c3
  have hbb : Ext wb wb := Ext.refl _
  clear c0 c1 c2 c3
  go_wp2_with (first | (go_at_call 35; (with_reducible refine (HV.out _ (hxb.trans (by repeat (first | (with_reducible exact Ext.refl _) | (with_reducible assumption) | (with_reducible refine Ext.drewN ?_ _) | (with_reducible refine Ext.drew ?_) | (with_reducible refine Ext.alloc ?_ _) | ((with_reducible refine Ext.setCell ?_ ?_ _); rotate_left; focus (first | (simp; done) | (simp; omega) | omega)) | (with_reducible refine Ext.trans ?_ (by with_reducible assumption)))))).mono ?_); rintro e w2 ⟨rfl, hy2⟩; have hx2 : Ext wb w2 := Ext.trans (by repeat (first | (with_reducible exact Ext.refl _) | (with_reducible assumption) | (with_reducible refine Ext.drewN ?_ _) | (with_reducible refine Ext.drew ?_) | (with_reducible refine Ext.alloc ?_ _) | ((with_reducible refine Ext.setCell ?_ ?_ _); rotate_left; focus (first | (simp; done) | (simp; omega) | omega)) | (with_reducible refine Ext.trans ?_ (by with_reducible assumption)))) hy2; clear hy2) | (go_at_call 45; (with_reducible refine (HT.out _ (hxb.trans (by repeat (first | (with_reducible exact Ext.refl _) | (with_reducible assumption) | (with_reducible refine Ext.drewN ?_ _) | (with_reducible refine Ext.drew ?_) | (with_reducible refine Ext.alloc ?_ _) | ((with_reducible refine Ext.setCell ?_ ?_ _); rotate_left; focus (first | (simp; done) | (simp; omega) | omega)) | (with_reducible refine Ext.trans ?_ (by with_reducible assumption)))))).mono ?_); rintro e w3 ⟨rfl, hy3⟩; have hx3 : Ext wb w3 := Ext.trans (by repeat (first | (with_reducible exact Ext.refl _) | (with_reducible assumption) | (with_reducible refine Ext.drewN ?_ _) | (with_reducible refine Ext.drew ?_) | (with_reducible refine Ext.alloc ?_ _) | ((with_reducible refine Ext.setCell ?_ ?_ _); rotate_left; focus (first | (simp; done) | (simp; omega) | omega)) | (with_reducible refine Ext.trans ?_ (by with_reducible assumption)))) hy3; clear hy3))
  go_ret2
  exact ⟨rfl, hxb.trans hx3⟩
theorem split_at (s sep : ByteArray) (ps : List ByteArray) (w : World) (hM : MaxW w) (hs : s.size ≤ 1000) (h1 : 1 ≤ sep.size) (hp : Lib.splitB sep 0 (Lib.countB s sep) s = ps) (hn : Lib.countB s sep + 1 = ps.length) :
    Calls Tryz.prog 46 #[.string s, .string sep] w fun e w' => e = .returned (.slice (some ⟨w.heap.size, 0, none⟩) ps.length ps.length) ∧ Own w' w.heap.size 9 (some ⟨w.heap.size, 0, none⟩) ps.length ps.length (St ps) ∧ Ext w w' := by
  obtain ⟨m, hm⟩ := hM
  refine (Tryz.strings_Split s sep m w (by omega) hm h1).mono ?_
  rintro e w' ⟨rfl, rfl⟩
  have hle := Lib.countB_le sep h1 s.size s (Nat.le_refl _)
  rw [hp, hn]
  refine ⟨rfl, ?_, (Ext.refl _).alloc _⟩
  have h := World.ownsRow_lit (e := 9) (size := 1) (base := w.heap.size) w (St ps).toArray ps.length (Nat.le_refl _) (by unfold maxLen; omega) (by simp [St])
  have h3 : (w.alloc (.cells (St ps).toArray 9)).ownsRow w.heap.size 9 1 (.slice (some ⟨w.heap.size, 0, none⟩) ps.length ps.length) ps.length (St ps) := by simpa using h
  exact h3
set_option maxHeartbeats 2000000 in
theorem impl_ReadListS (l : List Int) (w : World) (hM : MaxW w) (hs : ∀ x ∈ l, In100 x) (h1 : 1 ≤ l.length) (hn : l.length ≤ 20) :
    Calls Tryz.prog 48 #[.string (numsT l)] w (RetIf 2 true (I l) w) := by
  have HS := Lib.hid hs
  have hsz := nums_size hs
  obtain ⟨hsp, hct⟩ := nums_split hs (fun h => by rw [h] at h1; simp at h1)
  have HSp := Lib.hid (fun W (h : Ext w W) => split_at (numsT l) ⟨#[32]⟩ (l.map decS) W (hM.ext h) (by omega) (Nat.le_refl 1) hsp (by rw [List.length_map]; exact hct))
  have hnone : ((numsT l).toList == [110, 111, 110, 101]) = false := by
    cases h : ((numsT l).toList == [110, 111, 110, 101])
    · rfl
    · exact absurd (beq_iff_eq.1 h) (nums_none hs)
  obtain ⟨n, hnl⟩ : ∃ n, n = l.length := ⟨_, rfl⟩
  have HL := Lib.hid hnl
  rw [List.length_map, ← hnl] at HSp
  rw [← hnl] at h1 hn
  clear hs hsz hsp hct hnl
  go_enter Tryz.func48, Tryz.ntmps48
  go_wp2_with (go_at_call 46; (with_reducible refine (HSp.out _ (by repeat (first | (with_reducible exact Ext.refl _) | (with_reducible assumption) | (with_reducible refine Ext.drewN ?_ _) | (with_reducible refine Ext.drew ?_) | (with_reducible refine Ext.alloc ?_ _) | ((with_reducible refine Ext.setCell ?_ ?_ _); rotate_left; focus (first | (simp; done) | (simp; omega) | omega)) | (with_reducible refine Ext.trans ?_ (by with_reducible assumption))))).mono ?_); rintro e w1 ⟨rfl, hst, hy1⟩; have hx1 : Ext w w1 := Ext.trans (by repeat (first | (with_reducible exact Ext.refl _) | (with_reducible assumption) | (with_reducible refine Ext.drewN ?_ _) | (with_reducible refine Ext.drew ?_) | (with_reducible refine Ext.alloc ?_ _) | ((with_reducible refine Ext.setCell ?_ ?_ _); rotate_left; focus (first | (simp; done) | (simp; omega) | omega)) | (with_reducible refine Ext.trans ?_ (by with_reducible assumption)))) hy1; have HE := Lib.hid (show Own w1 w.heap.size 2 (some ⟨w.heap.size, 0, none⟩) 0 0 [] from (Own.lit0 w 2).ext hy1); have hst2 : Own w1 w.heap.size 9 (some ⟨w.heap.size + 1, 0, none⟩) n n (St (l.map decS)) := (by have h := hst.mono (show w.heap.size ≤ _ from Ext.le (by repeat (first | (with_reducible exact Ext.refl _) | (with_reducible assumption) | (with_reducible refine Ext.drewN ?_ _) | (with_reducible refine Ext.drew ?_) | (with_reducible refine Ext.alloc ?_ _) | ((with_reducible refine Ext.setCell ?_ ?_ _); rotate_left; focus (first | (simp; done) | (simp; omega) | omega)) | (with_reducible refine Ext.trans ?_ (by with_reducible assumption))))); rw [show (w.alloc (.cells #[] 2)).heap.size = w.heap.size + 1 by simp] at h; exact h))
  have HSt := Lib.hid hst2
  have HX := Lib.hid hx1
  clear hst hst2 hy1
  go_loopw [4, 6, 7, 8, 16] (fun v4 _ _ _ v16 wr => ∃ (k : Nat) (ad : Option Addr) (cc : Nat), k ≤ n ∧ v16 = .int .i64 k ∧ v4 = .slice ad k cc ∧ Hid (Own wr w.heap.size 2 ad k cc (I (l.take k))) ∧ Hid (Own wr w.heap.size 9 (some ⟨w.heap.size + 1, 0, none⟩) n n (St (l.map decS))) ∧ Ext w wr) (fun _ _ _ _ v16 _ => n - (intOf v16).toNat)
  case atStart => exact ⟨0, _, _, Nat.zero_le _, rfl, rfl, HE.out, HSt.out, HX.out⟩
  case round =>
    obtain ⟨k, ad, cc, hk, rfl, rfl, HO, HR, hx⟩ := hrel
    by_cases hlt : k < n
    · have hlk : k < l.length := by rw [← HL.out]; exact hlt
      have HRd := Lib.hid (fun W => impl_ReadDecS (gi l k) W (HS.out _ (gi_mem hlk)))
      have HGs := Lib.hid (show (St (l.map decS)).getD k undef = .string (decS (gi l k)) by
        rw [gi_get hlk]; simp [St, List.getD_eq_getElem?_getD, hlk])
      obtain ⟨e1, e2, _⟩ := HR.out.at (P := Tryz.prog) 50 und_strs cell_str k hlt .i64
      rw [HGs.out] at e2
      have HTk := Lib.hid (show I (l.take (k + 1)) = I (l.take k) ++ [.int .i64 (gi l k)] by rw [take_gi hlk, I_append]; rfl)
      have hk40 : ((k : Int) == 40) = false := by simp; omega
      go_wp2_with (first | (go_at_call 47; (with_reducible refine (HRd.out _).mono ?_); rintro e w2 ⟨rfl, hy2⟩; have hx2 : Ext w w2 := hx.trans hy2; have HO2 := Lib.hid (HO.out.ext hy2); have HR2 := Lib.hid (HR.out.ext hy2); clear hy2) | (at_builtin; refine law_append1 _ rfl _ _ 24 rfl 2 (.int .i64 0) 8 und_int64s info_int64 rfl w.heap.size ad k cc _ _ rfl rfl rfl HO2.out hx2.le (by omega) (by omega) ?_; intro ad' c' w3 ho3 hb3 hg3; have hx3 : Ext w w3 := Ext.below hx2 hb3; have HR3 := Lib.hid (HR2.out.grownT HO2.out hg3 (by decide)); clear hb3 hg3))
      exact ⟨⟨k + 1, ad', c', by omega, by go_num, rfl, by rw [Hid, HTk.out]; exact ho3, HR3.out, hx3⟩, by simp [intOf]; omega⟩
    · obtain rfl : k = n := by omega
      have hO := HO.out
      rw [take_full (by rw [← HL.out]; exact Nat.le_refl _)] at hO
      go_wp2
      go_ret2
      exact ⟨ad, k, cc, rfl, hx, fun _ => hO⟩
/-- a weighting, and true -/
def RetWtT (X : Wt) (w : World) (e : Ending) (w' : World) : Prop :=
  ∃ a n c, e = .returned (.tuple #[.agg #[.int .i64 X.base, .int .i64 X.modulus, .int .i64 X.target, .slice a n c], .bool true]) ∧ Ints w' a n c X.weights ∧ Ext w w'
set_option maxHeartbeats 4000000 in
theorem impl_ReadWeightingS (X : Wt) (w : World) (hM : MaxW w) (hS : WtS X) (hval : validB X = true) :
    Calls Tryz.prog 18 #[.string (wtT X)] w (RetWtT X w) := by
  obtain ⟨hsp, hct⟩ := hS.split
  have hsz := hS.size
  have HSp := Lib.hid (fun W (h : Ext w W) => split_at (wtT X) ⟨#[47]⟩ [decS X.base, decS X.modulus, decS X.target, numsT X.weights] W (hM.ext h) (by omega) (Nat.le_refl 1) hsp hct)
  have HD1 := Lib.hid (fun W => impl_ReadDecS X.base W hS.b)
  have HD2 := Lib.hid (fun W => impl_ReadDecS X.modulus W hS.m)
  have HD3 := Lib.hid (fun W => impl_ReadDecS X.target W hS.t)
  have HLi := Lib.hid (fun W (h : Ext w W) => impl_ReadListS X.weights W (hM.ext h) hS.w hS.n1 hS.n4)
  have HV := Lib.hid (fun W a n c (h : Ints W a n c X.weights) => impl_valid X a n c W h)
  rw [hval] at HV
  clear hM hS hval hsp hct hsz
  go_enter Tryz.func18, Tryz.ntmps18
  go_upto_region 2 with (go_at_call 46; (with_reducible refine (HSp.out _ (by repeat (first | (with_reducible exact Ext.refl _) | (with_reducible assumption) | (with_reducible refine Ext.drewN ?_ _) | (with_reducible refine Ext.drew ?_) | (with_reducible refine Ext.alloc ?_ _) | ((with_reducible refine Ext.setCell ?_ ?_ _); rotate_left; focus (first | (simp; done) | (simp; omega) | omega)) | (with_reducible refine Ext.trans ?_ (by with_reducible assumption))))).mono ?_); rintro e w1 ⟨rfl, hst, hy1⟩)
  obtain ⟨q, hq⟩ : ∃ q, q = w.heap.size := ⟨_, rfl⟩
  have HZ := Lib.hid (show SAt w1 q 26 #[.int .i64 0, .int .i64 0, .int .i64 0, .slice none 0 0] from by rw [hq]; exact (SAt.new' w _ _ rfl).ext hy1)
  have hx1 : Ext w w1 := Ext.trans (by repeat (first | (with_reducible exact Ext.refl _) | (with_reducible assumption) | (with_reducible refine Ext.drewN ?_ _) | (with_reducible refine Ext.drew ?_) | (with_reducible refine Ext.alloc ?_ _) | ((with_reducible refine Ext.setCell ?_ ?_ _); rotate_left; focus (first | (simp; done) | (simp; omega) | omega)) | (with_reducible refine Ext.trans ?_ (by with_reducible assumption)))) hy1
  have hqw : w.heap.size ≤ q := by omega
  have hst2 : Own w1 w.heap.size 9 (some ⟨q + 1, 0, none⟩) 4 4 (St [decS X.base, decS X.modulus, decS X.target, numsT X.weights]) := by
    have h := hst.mono (show w.heap.size ≤ _ from Ext.le (by repeat (first | (with_reducible exact Ext.refl _) | (with_reducible assumption) | (with_reducible refine Ext.drewN ?_ _) | (with_reducible refine Ext.drew ?_) | (with_reducible refine Ext.alloc ?_ _) | ((with_reducible refine Ext.setCell ?_ ?_ _); rotate_left; focus (first | (simp; done) | (simp; omega) | omega)) | (with_reducible refine Ext.trans ?_ (by with_reducible assumption)))))
    rw [show (w.alloc (.cells #[.int .i64 0, .int .i64 0, .int .i64 0, .slice none 0 0] 26)).heap.size = q + 1 by rw [hq]; simp] at h
    exact h
  have h0 : ∀ w', Ext w1 w' → w'.cell? ⟨q + 1, 0, none⟩ = some (.string (decS X.base)) := fun w' h => h.cell (hst2.at (P := Tryz.prog) 50 und_strs cell_str 0 (by omega) .i64).2.1
  have h1 : ∀ w', Ext w1 w' → w'.cell? ⟨q + 1, 1, none⟩ = some (.string (decS X.modulus)) := fun w' h => h.cell (hst2.at (P := Tryz.prog) 50 und_strs cell_str 1 (by omega) .i64).2.1
  have h2 : ∀ w', Ext w1 w' → w'.cell? ⟨q + 1, 2, none⟩ = some (.string (decS X.target)) := fun w' h => h.cell (hst2.at (P := Tryz.prog) 50 und_strs cell_str 2 (by omega) .i64).2.1
  have h3 : ∀ w', Ext w1 w' → w'.cell? ⟨q + 1, 3, none⟩ = some (.string (numsT X.weights)) := fun w' h => h.cell (hst2.at (P := Tryz.prog) 50 und_strs cell_str 3 (by omega) .i64).2.1
  have h11 : Ext w1 w1 := Ext.refl _
  rw [← hq]
  clear hq hst hst2
  go_wp2_with (first | (go_at_call 47; first | ((with_reducible refine (HD1.out _).mono ?_); rintro e w2 ⟨rfl, hy2⟩; have hx2 : Ext w1 w2 := Ext.trans (by repeat (first | (with_reducible exact Ext.refl _) | (with_reducible assumption) | (with_reducible refine Ext.drewN ?_ _) | (with_reducible refine Ext.drew ?_) | (with_reducible refine Ext.alloc ?_ _) | ((with_reducible refine Ext.setCell ?_ ?_ _); rotate_left; focus (first | (simp; done) | (simp; omega) | omega)) | (with_reducible refine Ext.trans ?_ (by with_reducible assumption)))) hy2; clear hy2) | ((with_reducible refine (HD2.out _).mono ?_); rintro e w3 ⟨rfl, hy3⟩; have hx3 : Ext w1 w3 := Ext.trans (by repeat (first | (with_reducible exact Ext.refl _) | (with_reducible assumption) | (with_reducible refine Ext.drewN ?_ _) | (with_reducible refine Ext.drew ?_) | (with_reducible refine Ext.alloc ?_ _) | ((with_reducible refine Ext.setCell ?_ ?_ _); rotate_left; focus (first | (simp; done) | (simp; omega) | omega)) | (with_reducible refine Ext.trans ?_ (by with_reducible assumption)))) hy3; clear hy3) | ((with_reducible refine (HD3.out _).mono ?_); rintro e w4 ⟨rfl, hy4⟩; have hx4 : Ext w1 w4 := Ext.trans (by repeat (first | (with_reducible exact Ext.refl _) | (with_reducible assumption) | (with_reducible refine Ext.drewN ?_ _) | (with_reducible refine Ext.drew ?_) | (with_reducible refine Ext.alloc ?_ _) | ((with_reducible refine Ext.setCell ?_ ?_ _); rotate_left; focus (first | (simp; done) | (simp; omega) | omega)) | (with_reducible refine Ext.trans ?_ (by with_reducible assumption)))) hy4; clear hy4)) | (go_at_call 48; (with_reducible refine (HLi.out _ (hx1.trans (by repeat (first | (with_reducible exact Ext.refl _) | (with_reducible assumption) | (with_reducible refine Ext.drewN ?_ _) | (with_reducible refine Ext.drew ?_) | (with_reducible refine Ext.alloc ?_ _) | ((with_reducible refine Ext.setCell ?_ ?_ _); rotate_left; focus (first | (simp; done) | (simp; omega) | omega)) | (with_reducible refine Ext.trans ?_ (by with_reducible assumption)))))).mono ?_); rintro e w5 ⟨la, ln, lc, rfl, hy5, ho5⟩; have hx5 : Ext w1 w5 := Ext.trans (by repeat (first | (with_reducible exact Ext.refl _) | (with_reducible assumption) | (with_reducible refine Ext.drewN ?_ _) | (with_reducible refine Ext.drew ?_) | (with_reducible refine Ext.alloc ?_ _) | ((with_reducible refine Ext.setCell ?_ ?_ _); rotate_left; focus (first | (simp; done) | (simp; omega) | omega)) | (with_reducible refine Ext.trans ?_ (by with_reducible assumption)))) hy5; have HO5 := Lib.hid (ho5 rfl).ints; have HW5 := Lib.hid ((ho5 rfl).mono (show w1.heap.size ≤ _ from Ext.le (by repeat (first | (with_reducible exact Ext.refl _) | (with_reducible assumption) | (with_reducible refine Ext.drewN ?_ _) | (with_reducible refine Ext.drew ?_) | (with_reducible refine Ext.alloc ?_ _) | ((with_reducible refine Ext.setCell ?_ ?_ _); rotate_left; focus (first | (simp; done) | (simp; omega) | omega)) | (with_reducible refine Ext.trans ?_ (by with_reducible assumption)))))); clear hy5 ho5) | (go_at_call 35; (with_reducible refine (HV.out _ la ln lc (HO5.out.ext (by repeat (first | (with_reducible exact Ext.refl _) | (with_reducible assumption) | (with_reducible refine Ext.drewN ?_ _) | (with_reducible refine Ext.drew ?_) | (with_reducible refine Ext.alloc ?_ _) | ((with_reducible refine Ext.setCell ?_ ?_ _); rotate_left; focus (first | (simp; done) | (simp; omega) | omega)) | (with_reducible refine Ext.trans ?_ (by with_reducible assumption)))))).mono ?_); rintro e w6 ⟨rfl, hy6⟩; have HB6 := Lib.hid ((SAt.new' w5 #[.int .i64 X.base, .int .i64 X.modulus, .int .i64 X.target, .slice la ln lc] 26 rfl).ext hy6); have b0 := HB6.out.cell 0 (by simp); have b1 := HB6.out.cell 1 (by simp); have b2 := HB6.out.cell 2 (by simp); have b3 := HB6.out.cell 3 (by simp); (try simp only [List.getElem_toArray, List.getElem_cons_succ, List.getElem_cons_zero] at b0 b1 b2 b3); have hx56 : Ext w5 w6 := Ext.trans (by repeat (first | (with_reducible exact Ext.refl _) | (with_reducible assumption) | (with_reducible refine Ext.drewN ?_ _) | (with_reducible refine Ext.drew ?_) | (with_reducible refine Ext.alloc ?_ _) | ((with_reducible refine Ext.setCell ?_ ?_ _); rotate_left; focus (first | (simp; done) | (simp; omega) | omega)) | (with_reducible refine Ext.trans ?_ (by with_reducible assumption)))) hy6; have hx6 : Ext w1 w6 := hx5.trans hx56; have HZ6 := Lib.hid (HZ.out.ext hx6); have z0 := HZ6.out.cell 0 (by simp); have z1 := HZ6.out.cell 1 (by simp); have z2 := HZ6.out.cell 2 (by simp); have z3 := HZ6.out.cell 3 (by simp); have fr := fun j => HZ6.out.frozen j; have hltz := HZ6.out.lt; (try simp only [List.getElem_toArray, List.getElem_cons_succ, List.getElem_cons_zero] at z0 z1 z2 z3); clear hy6))
  refine bodyPost_ret (v := .tuple #[.agg #[.int .i64 X.base, .int .i64 X.modulus, .int .i64 X.target, .slice la ln lc], .bool true]) ?_ rfl ?_
  · simp [results, Tryz.results18, go_sem, z0, z1, z2, z3]
  · have hW6 := HW5.out.ext hx56
    have hq1 : q < w1.heap.size := HZ.out.lt
    have hxw6 : Ext w w6 := hx1.trans hx6
    refine ⟨la, ln, lc, rfl, Own.ints (B := w1.heap.size) (E := 2) ?_, ?_⟩
    · repeat (first | with_reducible exact hW6 | (with_reducible refine Own.setBelow ?_ ?_ _; rotate_left; (focus exact hq1)))
    · repeat (first | with_reducible exact hxw6 | with_reducible refine Ext.setCell ?_ hqw _)
end Go.Proofs.YtgnlabdikmbbgaaGreatDoor
