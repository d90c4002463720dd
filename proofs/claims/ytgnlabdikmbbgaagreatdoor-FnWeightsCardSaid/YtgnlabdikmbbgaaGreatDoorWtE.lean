/- Walks: the chain of a weighting, in the program. -/
import Derived.Test.YtgnlabdikmbbgaaGreatDoorWSum
import Derived.Test.YtgnlabdikmbbgaaGreatDoorAddW
import Derived.Test.YtgnlabdikmbbgaaGreatDoorUndI
namespace Go.Proofs.YtgnlabdikmbbgaaGreatDoor
set_option maxRecDepth 100000
open Go.RowKit

/-- what a weight makes of each digit -/
def wgL (base : Nat) (x : Int) : List Int := (List.range base).map fun (d : Nat) => x * (d : Int)
theorem wgL_len (base : Nat) (x : Int) : (wgL base x).length = base := by simp [wgL]
theorem wgL_step {base k : Nat} {x : Int} (h : k < base) : (wgL base x).take (k + 1) = (wgL base x).take k ++ [x * (k : Int)] := by
  rw [List.take_succ_eq_append_getElem (by rw [wgL_len]; exact h)]
  simp [wgL]
theorem wgL_nn {base : Nat} {x : Int} (h0 : 0 ≤ x) (h1 : x ≤ 36) (hb : base ≤ 36) : ∀ y ∈ wgL base x, 0 ≤ y ∧ y ≤ 1000000 := by
  intro y hy
  obtain ⟨d, hd, rfl⟩ := List.mem_map.1 hy
  have := List.mem_range.1 hd
  have h2 : x * (d : Int) ≤ 36 * 36 := Int.mul_le_mul h1 (by omega) (by omega) (by omega)
  exact ⟨Int.mul_nonneg h0 (by omega), by omega⟩
set_option maxHeartbeats 1000000 in
theorem impl_weighed (bs : Nat) (x : Int) (w : World) (hb : bs ≤ 36) (h0 : 0 ≤ x) (h1 : x ≤ 36) : Calls Tryz.prog 75 #[.int .i64 bs, .int .i64 x] w (RetOwn 2 (I (wgL bs x)) w) := by
  go_enter Tryz.func75, Tryz.ntmps75
  go_wp2_with fail
  go_loopw [5, 9] (fun v5 v9 wr => ∃ (k : Nat) (ra : Option Addr) (rc : Nat), k ≤ bs ∧ v9 = .int .i64 k ∧ v5 = .slice ra k rc ∧ Hid (Own wr w.heap.size 2 ra k rc (I ((wgL bs x).take k))) ∧ Ext w wr) (fun _ v9 _ => bs - (intOf v9).toNat)
  case atStart => exact ⟨0, _, _, Nat.zero_le _, rfl, rfl, Own.lit0 _ _, (Ext.refl _).alloc _⟩
  case round =>
    obtain ⟨k, ra, rc, hk, rfl, rfl, HR, hx⟩ := hrel
    by_cases hlt : k < bs
    · have HN := Lib.hid (wgL_step (x := x) hlt)
      have hm1 : 0 ≤ x * (k : Int) := Int.mul_nonneg h0 (by omega)
      have hm2 : x * (k : Int) ≤ 36 * 36 := Int.mul_le_mul h1 (by omega) (by omega) (by omega)
      go_wp2_with (at_builtin; refine law_append1 _ rfl _ _ 24 rfl 2 (.int .i64 0) 8 und_int64s info_int64 rfl w.heap.size ra k rc _ _ rfl rfl rfl HR.out hx.le (by omega) (by omega) ?_; intro ra' rc' w6 ho6 hb6 _; have hxo6 : Ext w w6 := Ext.below hx hb6)
      exact ⟨⟨k + 1, ra', rc', by omega, by go_num, rfl, by rw [Hid, HN.out, I_append]; exact ho6, hxo6⟩, by simp [intOf]; omega⟩
    · obtain rfl : k = bs := by omega
      go_wp2_with fail
      go_ret
      have h := HR.out
      rw [take_full (by rw [wgL_len]; exact Nat.le_refl _)] at h
      exact RetOwn.mk h (wgL_len _ _) hx
end Go.Proofs.YtgnlabdikmbbgaaGreatDoor

/- Walks: the chain of a weighting, in the program. -/
namespace Go.Proofs.YtgnlabdikmbbgaaGreatDoor
set_option maxRecDepth 100000
open Go.RowKit

def wtCh (W : Wt) : Ch := addCh W.base W.modulus W.target (W.weights.map (wgL W.base.toNat))
theorem validB_addOk {W : Wt} (h : validB W = true) : AddOk W.base W.modulus W.target (W.weights.map (wgL W.base.toNat)) := by
  have h1 := validB_base h
  have h2 := validB_mod h
  have h3 := validB_target h
  have h4 := validB_len h
  have h5 := validB_small h
  refine ⟨by omega, by omega, by omega, by omega, by omega, by omega, by rw [List.length_map]; omega, by rw [List.length_map]; omega, ?_, ?_, ?_⟩
  · unfold validB at h
    simp only [Bool.and_eq_true] at h
    rw [manyB_in (by have := h.1; unfold manyB at this; simp only [Bool.and_eq_true] at this; exact this.1) (inB_t.2 (by omega))] at h
    rw [List.length_map]
    exact of_decide_eq_true h.1
  · intro l hl
    obtain ⟨x, _, rfl⟩ := List.mem_map.1 hl
    rw [wgL_len]; omega
  · intro l hl y hy
    obtain ⟨x, hx, rfl⟩ := List.mem_map.1 hl
    exact wgL_nn (h5 x hx).1 (h5 x hx).2 (by omega) y hy
set_option maxHeartbeats 4000000 in
theorem impl_wtChain (b : Nat) (X : Wt) (a : Option Addr) (n c : Nat) (w : World) (h : IsWt w b X a n c) (hval : validB X = true) :
    Calls Tryz.prog 36 #[.pointer (some ⟨b, 0, none⟩)] w (RetChO (wtCh X) w) := by
  have HOK := Lib.hid (validB_addOk hval)
  have HLn := Lib.hid h.ws.len
  have hb := validB_base hval
  have hmo := validB_mod hval
  have hl := validB_len hval
  rw [HLn.out] at hl
  have HSm := Lib.hid (show ∀ x ∈ X.weights, 0 ≤ x ∧ x ≤ 36 from validB_small hval)
  obtain ⟨bs, hbs⟩ := Int.eq_ofNat_of_zero_le (show 0 ≤ X.base by omega)
  have hbs36 : 2 ≤ bs ∧ bs ≤ 36 := by omega
  have HW := Lib.hid h
  obtain ⟨bW, oW, hixW, hcellW⟩ := h.ws.ix (P := Tryz.prog) 24 2 und_int64s cell_int64
  have c0 : ∀ w', Ext w w' → w'.cell? ⟨b, 0, none⟩ = some (.int .i64 bs) := fun w' hx => hbs ▸ hx.cell h.c0
  have c1 : ∀ w', Ext w w' → w'.cell? ⟨b, 1, none⟩ = some (.int .i64 X.modulus) := fun w' hx => hx.cell h.c1
  have c2 : ∀ w', Ext w w' → w'.cell? ⟨b, 2, none⟩ = some (.int .i64 X.target) := fun w' hx => hx.cell h.c2
  have c3 : ∀ w', Ext w w' → w'.cell? ⟨b, 3, none⟩ = some (.slice a n c) := fun w' hx => hx.cell h.c3
  have HWe := Lib.hid (fun x (hx : x ∈ X.weights) W => impl_weighed bs x W (by omega) (HSm.out x hx).1 (HSm.out x hx).2)
  have HBs := Lib.hid hbs
  have HAd := Lib.hid (fun la lc W (hm : Mat W la n lc (X.weights.map (wgL bs))) => impl_adding X.base X.modulus X.target la n lc (X.weights.map (wgL bs)) W hm (by have := HOK.out; rwa [hbs, Int.toNat_natCast, ← hbs] at this))
  rw [hbs] at HAd
  have HD := Lib.hid (show wtCh X = addCh bs X.modulus X.target (X.weights.map (wgL bs)) by unfold wtCh; rw [hbs, Int.toNat_natCast])
  have hbw : b < w.heap.size := World.block_lt_of_cell? w ⟨b, 0, none⟩ h.c0
  have e0 := c0 w (Ext.refl _)
  have e1 := c1 w (Ext.refl _)
  have e2 := c2 w (Ext.refl _)
  have e3 := c3 w (Ext.refl _)
  clear h hval hbs
  go_enter Tryz.func36, Tryz.ntmps36
  go_wp2_with fail
  obtain ⟨g, hg⟩ : ∃ g, g = w.heap.size := ⟨_, rfl⟩
  obtain ⟨wz, hwz⟩ : ∃ W, W = (w.alloc (.cells #[.int .i64 0, .int .i64 0, .int .i64 0, .int .i64 0, .slice none 0 0, .slice none 0 0] 31)).alloc (.cells #[] 24) := ⟨_, rfl⟩
  have hxz : Ext w wz := by rw [hwz]; exact (by repeat (first | (with_reducible exact Ext.refl _) | (with_reducible refine Ext.drewN ?_ _) | (with_reducible refine Ext.drew ?_) | (with_reducible refine Ext.alloc ?_ _) | ((with_reducible refine Ext.setCell ?_ ?_ _); rotate_left; focus (first | (simp; done) | (simp; omega) | omega)) | assumption | (with_reducible refine Ext.trans ?_ (by assumption))))
  have HZ := Lib.hid (show SAt wz g 31 #[.int .i64 0, .int .i64 0, .int .i64 0, .int .i64 0, .slice none 0 0, .slice none 0 0] from by rw [hwz, hg]; exact (SAt.new' w #[.int .i64 0, .int .i64 0, .int .i64 0, .int .i64 0, .slice none 0 0, .slice none 0 0] 31 rfl).alloc _)
  have HM0 := Lib.hid (show OwnMat wz w.heap.size 24 2 (some ⟨g + 1, 0, none⟩) 0 0 [] from by
    rw [hwz, hg]
    have h := OwnMat.lit0 (w.alloc (.cells #[.int .i64 0, .int .i64 0, .int .i64 0, .int .i64 0, .slice none 0 0, .slice none 0 0] 31)) 24 2
    rw [show (w.alloc (.cells #[.int .i64 0, .int .i64 0, .int .i64 0, .int .i64 0, .slice none 0 0, .slice none 0 0] 31)).heap.size = w.heap.size + 1 by simp] at h
    exact h.mono (by omega))
  have hgw : w.heap.size ≤ g := by omega
  rw [← hwz, ← hg]
  clear hwz hg
  go_loopw [3, 12] (fun v3 v12 wr => ∃ (k : Nat) (ta : Option Addr) (tc : Nat), k ≤ n ∧ v12 = .int .i64 k ∧ v3 = .slice ta k tc ∧ Hid (OwnMat wr w.heap.size 24 2 ta k tc ((X.weights.map (wgL bs)).take k)) ∧ Hid (SAt wr g 31 #[.int .i64 0, .int .i64 0, .int .i64 0, .int .i64 0, .slice none 0 0, .slice none 0 0]) ∧ Ext w wr) (fun _ v12 _ => n - (intOf v12).toNat)
  case atStart => exact ⟨0, _, _, Nat.zero_le _, rfl, rfl, HM0.out, HZ.out, hxz⟩
  case round =>
    obtain ⟨k, ta, tc, hk, rfl, rfl, HT, HZr, hxw⟩ := hrel
    have hle : w.heap.size ≤ wr.heap.size := hxw.le
    by_cases hlt : k < n
    · have hkl : k < X.weights.length := by rw [HLn.out]; exact hlt
      have HMem := Lib.hid (gi_mem hkl)
      have HN := Lib.hid (show (X.weights.map (wgL bs)).take (k + 1) = (X.weights.map (wgL bs)).take k ++ [wgL bs (gi X.weights k)] from by
        rw [List.take_succ_eq_append_getElem (by rw [List.length_map]; exact hkl), List.getElem_map, gi_get hkl])
      have d0 := c0 wr hxw
      go_wp2_with (first | ((with_reducible refine (HWe.out _ HMem.out _).mono ?_); rintro e w6 ⟨ra, rc, rfl, ho6, hy6⟩; rw [I_len, wgL_len] at ho6 ⊢; have HT6 := Lib.hid (HT.out.ext hy6); have HO6 := Lib.hid (ho6.mono hle); have HZ6 := Lib.hid (HZr.out.ext hy6); have hxw6 : Ext w w6 := hxw.trans hy6; obtain ⟨tvs, htv, htp⟩ := HT6.out.rows; have HTV := Lib.hid htv; have HTP := Lib.hid htp; clear htv htp ho6) | (at_builtin; refine law_append1 _ rfl _ _ 114 rfl 24 (.slice none 0 0) 24 und_rows info_row2 rfl w.heap.size ta k tc _ _ rfl rfl rfl HTV.out hxw6.le (by omega) (by omega) ?_; intro ta' tc' w7 ho7 hb7 hg7; have hx7 : Ext w w7 := Ext.below hxw6 hb7; have HZ7 := Lib.hid (HZ6.out.grown hg7 (row_ne_s (HTV.out.ne_s HZ6.out (by decide))))))
      exact ⟨⟨k + 1, ta', tc', by omega, by go_num, rfl, by rw [Hid, HN.out]; exact OwnMat.push HT6.out.len HTP.out HTV.out HO6.out ho7 hg7 (by decide), HZ7.out, hx7⟩, by simp [intOf]; omega⟩
    · obtain rfl : k = n := by omega
      have HTk := Lib.hid (show Mat wr ta k tc (X.weights.map (wgL bs)) from by have h := HT.out.mat; rwa [take_full (by rw [List.length_map, HLn.out]; exact Nat.le_refl _)] at h)
      have HZw := Lib.hid HZr.out.lt
      have hgr := HZr.out.lt
      go_wp2_with fail
      go_region_held3 (fun w' => Ext w w') ((exact (by repeat (first | (with_reducible exact Ext.refl _) | (with_reducible assumption) | (with_reducible refine Ext.drewN ?_ _) | (with_reducible refine Ext.drew ?_) | (with_reducible refine Ext.alloc ?_ _) | ((with_reducible refine Ext.setCell ?_ ?_ _); rotate_left; focus (first | (simp; done) | (simp; omega) | omega)) | (with_reducible refine Ext.trans ?_ (by with_reducible assumption)))))) ((go_at_call 76; (with_reducible refine (HAd.out _ _ _ (HTk.out.ext (by repeat (first | (with_reducible exact Ext.refl _) | (with_reducible assumption) | (with_reducible refine Ext.drewN ?_ _) | (with_reducible refine Ext.drew ?_) | (with_reducible refine Ext.alloc ?_ _) | ((with_reducible refine Ext.setCell ?_ ?_ _); rotate_left; focus (first | (simp; done) | (simp; omega) | omega)) | (with_reducible refine Ext.trans ?_ (by with_reducible assumption)))))).mono ?_); rintro e w8 ⟨a8, x8, d8, b8, y8, g8, rfl, hch, hy8⟩; have hx8 : Ext w w8 := Ext.trans (by repeat (first | (with_reducible exact Ext.refl _) | (with_reducible assumption) | (with_reducible refine Ext.drewN ?_ _) | (with_reducible refine Ext.drew ?_) | (with_reducible refine Ext.alloc ?_ _) | ((with_reducible refine Ext.setCell ?_ ?_ _); rotate_left; focus (first | (simp; done) | (simp; omega) | omega)) | (with_reducible refine Ext.trans ?_ (by with_reducible assumption)))) hy8; have HCh := Lib.hid hch; have HZ8 := Lib.hid (HZr.out.ext (Ext.trans (by repeat (first | (with_reducible exact Ext.refl _) | (with_reducible assumption) | (with_reducible refine Ext.drewN ?_ _) | (with_reducible refine Ext.drew ?_) | (with_reducible refine Ext.alloc ?_ _) | ((with_reducible refine Ext.setCell ?_ ?_ _); rotate_left; focus (first | (simp; done) | (simp; omega) | omega)) | (with_reducible refine Ext.trans ?_ (by with_reducible assumption)))) hy8)); have z0 := HZ8.out.cell 0 (by simp); have z1 := HZ8.out.cell 1 (by simp); have z2 := HZ8.out.cell 2 (by simp); have z3 := HZ8.out.cell 3 (by simp); have z4 := HZ8.out.cell 4 (by simp); have z5 := HZ8.out.cell 5 (by simp); have fr := fun j => HZ8.out.frozen j; have hltz := HZ8.out.lt; (try simp only [List.getElem_toArray, List.getElem_cons_succ, List.getElem_cons_zero] at z0 z1 z2 z3 z4 z5); clear hch))
      generalize hDD : addCh (bs : Int) X.modulus X.target (X.weights.map (wgL bs)) = DD at *
      go_wp2_with fail
      refine bodyPost_ret (v := .agg #[.int .i64 DD.base, .int .i64 DD.states, .int .i64 DD.start, .int .i64 DD.fin, .slice a8 x8 d8, .slice b8 y8 g8]) ?_ rfl ?_
      · simp [results, Tryz.results36, go_sem, z0, z1, z2, z3, z4, z5]
      · rw [HD.out]
        refine ⟨a8, x8, d8, b8, y8, g8, rfl, fun V hV => HCh.out V (KeepB.trans ?_ (hV.mono ?_ ?_)), ?_⟩
        · repeat (first | with_reducible exact KeepB.refl _ _ _ | (with_reducible refine KeepB.setB ?_ _ _ (Or.inl ?_); rotate_left; (focus (simp <;> omega))))
        · simp <;> omega
        · simp
        · assumption
end Go.Proofs.YtgnlabdikmbbgaaGreatDoor

/- Walks: the chain of a weighting and whether it was made, in the program. -/
namespace Go.Proofs.YtgnlabdikmbbgaaGreatDoor
set_option maxRecDepth 100000
open Go.RowKit

/-- a chain, and that it was made -/
def RetChB (D : Ch) (w : World) (e : Ending) (w' : World) : Prop :=
  ∃ a x c b y d, e = .returned (.tuple #[.agg #[.int .i64 D.base, .int .i64 D.states, .int .i64 D.start, .int .i64 D.fin, .slice a x c, .slice b y d], .bool true]) ∧ ChIn w' D a x c b y d ∧ Ext w w'
set_option maxHeartbeats 2000000 in
theorem impl_WeightChain (X : Wt) (a : Option Addr) (n c : Nat) (w : World) (hw : Ints w a n c X.weights) (hval : validB X = true) :
    Calls Tryz.prog 9 #[.agg #[.int .i64 X.base, .int .i64 X.modulus, .int .i64 X.target, .slice a n c]] w (RetChB (wtCh X) w) := by
  have HB := Lib.hid (isWt_box w X.base X.modulus X.target X.weights a n c 26 hw)
  have HVl := Lib.hid (fun W (h : Ext w W) => impl_valid X a n c W (hw.ext h))
  rw [hval] at HVl
  have HC := Lib.hid (fun b W h => impl_wtChain b X a n c W h hval)
  clear hw hval
  go_enter Tryz.func9, Tryz.ntmps9
  obtain ⟨g, hg⟩ : ∃ g, g = w.heap.size + 1 := ⟨_, rfl⟩
  obtain ⟨p, hp⟩ : ∃ p, p = w.heap.size := ⟨_, rfl⟩
  go_wp2_with fail
  obtain ⟨wz, hwz⟩ : ∃ W, W = (w.alloc (.cells #[.int .i64 X.base, .int .i64 X.modulus, .int .i64 X.target, .slice a n c] 26)).alloc (.cells #[.int .i64 0, .int .i64 0, .int .i64 0, .int .i64 0, .slice none 0 0, .slice none 0 0] 31) := ⟨_, rfl⟩
  have hxz : Ext w wz := by rw [hwz]; exact (by repeat (first | (with_reducible exact Ext.refl _) | (with_reducible refine Ext.drewN ?_ _) | (with_reducible refine Ext.drew ?_) | (with_reducible refine Ext.alloc ?_ _) | ((with_reducible refine Ext.setCell ?_ ?_ _); rotate_left; focus (first | (simp; done) | (simp; omega) | omega)) | assumption | (with_reducible refine Ext.trans ?_ (by assumption))))
  have HZ := Lib.hid (show SAt wz g 31 #[.int .i64 0, .int .i64 0, .int .i64 0, .int .i64 0, .slice none 0 0, .slice none 0 0] from by rw [hwz, hg]; exact SAt.new' _ _ _ (by simp))
  have HW := Lib.hid (show IsWt wz p X a n c from by rw [hwz, hp]; exact HB.out.ext ((Ext.refl _).alloc _))
  have hgw : w.heap.size ≤ g := by omega
  have hpz : p < wz.heap.size := World.block_lt_of_cell? wz ⟨p, 0, none⟩ HW.out.c0
  have hgz : g < wz.heap.size := HZ.out.lt
  obtain ⟨d0, d1, d2, d3, _⟩ := HW.out
  rw [← hwz, ← hp, show p + 1 = g by omega]
  clear hwz hg hp HB
  go_wp2_with (first | ((with_reducible refine (HVl.out _ hxz).mono ?_); rintro e w1 ⟨rfl, hy1⟩; have HW1 := Lib.hid (HW.out.ext hy1); have HZ1 := Lib.hid (HZ.out.ext hy1); have hx1 : Ext w w1 := hxz.trans hy1; have hg1 : g < w1.heap.size := HZ1.out.lt) | ((with_reducible refine (HC.out _ _ HW1.out).mono ?_); rintro e w8 ⟨a8, x8, d8, b8, y8, g8, rfl, hch, hy8⟩; have hx8 : Ext w w8 := Ext.trans hx1 hy8; have HCh := Lib.hid hch; have HZ8 := Lib.hid (HZ1.out.ext hy8); have z0 := HZ8.out.cell 0 (by simp); have z1 := HZ8.out.cell 1 (by simp); have z2 := HZ8.out.cell 2 (by simp); have z3 := HZ8.out.cell 3 (by simp); have z4 := HZ8.out.cell 4 (by simp); have z5 := HZ8.out.cell 5 (by simp); have fr := fun j => HZ8.out.frozen j; have hltz := HZ8.out.lt; (try simp only [List.getElem_toArray, List.getElem_cons_succ, List.getElem_cons_zero] at z0 z1 z2 z3 z4 z5); clear hch))
  generalize hDD : wtCh X = DD at *
  refine bodyPost_ret (v := .tuple #[.agg #[.int .i64 DD.base, .int .i64 DD.states, .int .i64 DD.start, .int .i64 DD.fin, .slice a8 x8 d8, .slice b8 y8 g8], .bool true]) ?_ rfl ?_
  · simp [results, Tryz.results9, go_sem, z0, z1, z2, z3, z4, z5]
  · refine ⟨a8, x8, d8, b8, y8, g8, rfl, HCh.out _ ?_, ?_⟩
    · repeat (first | with_reducible exact KeepB.refl _ _ _ | (with_reducible refine KeepB.setB ?_ _ _ (Or.inl ?_); rotate_left; (focus (simp <;> omega))))
    · repeat (first | with_reducible exact hx8 | with_reducible refine Ext.setCell ?_ hgw _)
end Go.Proofs.YtgnlabdikmbbgaaGreatDoor
