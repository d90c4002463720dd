/- Walks: barcodes that are read in one direction alone. -/
import Derived.Test.YtnmkckghfckgbaaRead3
import Derived.Test.YtnmkckghfckgbaaTurn
namespace Go.Proofs.Ytnmkckghfckgbaa
set_option maxRecDepth 100000
open Go.RowKit

theorem ints_lit0 (w : World) (E : TypeId) : Ints (w.alloc (.cells #[] E)) (some ⟨w.heap.size, 0, none⟩) 0 0 [] := (Own.lit0 w E).sl
theorem ints_lit1 (w : World) (E : TypeId) (x : Int) : Ints (w.alloc (.cells #[.int .i64 x] E)) (some ⟨w.heap.size, 0, none⟩) 1 1 [x] := (own_lit1 w E (.int .i64 x)).sl
theorem ints_nil (w : World) : Ints w none 0 0 [] := (Own.nil w 0 0).sl
theorem stripes_le {D : Bc} (hok : OkBc D) {ds : List Int} (hd : DigB D ds) (h : ds.length ≤ 20) : (stripesL D ds).length ≤ 1048576 := by
  have h1 := joinL_len hok hd
  have h2 := (patB_t hok.stop).2.2.1
  have h3 := gapL_len D
  simp only [stripesL, List.length_append, elsL_len, size_eq]
  omega
/-- the empty word, the words of one symbol -/
def wordK : Nat → List Int
  | 0 => []
  | k + 1 => [(k : Int)]
theorem wordK_len (k : Nat) : (wordK k).length ≤ 1 := by cases k <;> simp [wordK]
theorem wordK_dig {D : Bc} {k : Nat} (h : k ≤ D.pats.length) : DigB D (wordK k) := fun d hd => by
  cases k with
  | zero => simp [wordK] at hd
  | succ k => simp [wordK] at hd; subst hd; omega
/-- the k-th of these words is read in the opposite order -/
def backB (D : Bc) (k : Nat) : Bool := readB D (stripesL D (wordK k)).reverse
def dirB (D : Bc) : Bool := validBc D && !(List.range (D.pats.length + 1)).any (backB D)

theorem range_take {k n : Nat} (h : k ≤ n) : (List.range n).take k = List.range k := by rw [List.take_range, Nat.min_eq_left h]
set_option maxHeartbeats 1000000 in
theorem indexFunc_rows (a : Option Addr) (n c : Nat) (vs : List Value) (f : Nat) (caps : Array Value) (p : Nat → Bool) (w : World) (hv : Sl w a n c vs) (hn : n ≤ 4611686018427387904)
    (he : ∀ args w', (callFunc f args).run Try.prog w' = .ok (.enter f args) w') (hf : ∀ k, k < n → ∀ w', Ext w w' → Calls Try.prog f (#[gv vs k] ++ caps) w' (Ret (.bool (p k)) w')) :
    Calls Try.prog 116 #[.slice a n c, .func (.func f) #[] caps] w (Ret (.int .i64 (idx p (List.range n))) w) := by
  obtain ⟨b, off, hix, hcell⟩ := hv.ix (P := Try.prog) 76 36 und_rows cell_row1
  have Hhv := Lib.hid hv; clear hv; have Hhf := Lib.hid hf; clear hf
  go_enter Try.func116, Try.ntmps116
  go_wp2
  go_loopw [5, 8] (fun _ i wr => ∃ k : Nat, k ≤ n ∧ i = .int .i64 k ∧ NoneIn p (List.range k) ∧ Ext w wr) (fun _ i _ => n - (intOf i).toNat)
  case atStart => exact ⟨0, Nat.zero_le _, rfl, by simp [NoneIn], Ext.refl _⟩
  case round =>
    obtain ⟨k, hk, rfl, hp, hx⟩ := hrel
    have Hhp := Lib.hid hp; clear hp
    by_cases hlt : k < n
    · have HC := Lib.hid (Hhf.out k hlt wr hx)
      cases hpx : p k
      · rw [hpx] at HC
        have Hhpx := Lib.hid hpx; clear hpx
        go_wp2_with (refine HC.out.mono ?_; rintro e w' ⟨rfl, hx2⟩)
        exact ⟨⟨k + 1, by omega, by go_num, (fun y hy => by rw [List.range_succ, List.mem_append] at hy; rcases hy with hy | hy; exact Hhp.out y hy; simp at hy; subst hy; exact Hhpx.out), hx.trans hx2⟩, by simp [intOf]; omega⟩
      · rw [hpx] at HC
        have Hhpx := Lib.hid hpx; clear hpx
        go_wp2_with (refine HC.out.mono ?_; rintro e w' ⟨rfl, hx2⟩)
        go_ret
        exact ⟨ri (idx_hit (d := 0) (by rw [List.length_range]; exact hlt) (by simp [List.getD_eq_getElem?_getD, hlt]) Hhpx.out (by rw [range_take (by omega)]; exact Hhp.out)).symm, hx.trans hx2⟩
    · obtain rfl : k = n := by omega
      go_wp2
      go_ret
      exact ⟨ri (idx_none Hhp.out).symm, hx⟩
set_option maxHeartbeats 400000 in
theorem containsFunc_rows (a : Option Addr) (n c : Nat) (vs : List Value) (f : Nat) (caps : Array Value) (p : Nat → Bool) (w : World) (hv : Sl w a n c vs) (hn : n ≤ 4611686018427387904)
    (he : ∀ args w', (callFunc f args).run Try.prog w' = .ok (.enter f args) w') (hf : ∀ k, k < n → ∀ w', Ext w w' → Calls Try.prog f (#[gv vs k] ++ caps) w' (Ret (.bool (p k)) w')) :
    Calls Try.prog 81 #[.slice a n c, .func (.func f) #[] caps] w (Ret (.bool ((List.range n).any p)) w) := by
  have HC := Lib.hid (indexFunc_rows a n c vs f caps p w hv hn he hf)
  have HA := Lib.hid (idx_ge p (List.range n))
  clear hv he hf
  go_enter Try.func81, Try.ntmps81
  go_wp2_with (refine HC.out.mono ?_; rintro e w' ⟨rfl, hx2⟩)
  go_ret
  exact ⟨rb HA.out, hx2⟩
set_option maxHeartbeats 1000000 in
theorem directed1 (D : Bc) (p : Nat) (a : Option Addr) (n c : Nat) (b : Option Addr) (m d : Nat) (ds : List Int) (w : World) (hv : BcAt w p D a n c) (hok : OkBc D) (hD : DigB D ds) (hi : Ints w b m d ds) (hm : m ≤ 20) :
    Calls Try.prog 82 (#[.slice b m d] ++ #[.pointer (some ⟨p, 0, none⟩)]) w (Ret (.bool (readB D (stripesL D ds).reverse)) w) := by
  have HL := Lib.hid hi.len
  have hle := stripes_le hok hD (by rw [HL.out]; exact hm)
  have HST := Lib.hid (impl_stripes D p a n c b m d ds w hv hok hD hi (by omega))
  have HV := Lib.hid hv
  have HOK := Lib.hid hok
  clear hv hok hD hi
  generalize stripesL D ds = l at *
  go_enter Try.func82, Try.ntmps82
  go_wp2_with fail
  refine HST.out.mono ?_
  rintro e w1 ⟨a1, c1, rfl, ho1, hx1⟩
  rw [I_len] at ho1 ⊢
  have HO := Lib.hid (impl_opposite a1 l.length c1 l w1 ho1.ints hle)
  clear ho1
  go_wp2_with fail
  refine HO.out.mono ?_
  rintro e w2 ⟨a2, c2, rfl, ho2, hx2⟩
  rw [I_len, List.length_reverse] at ho2 ⊢
  have HR := Lib.hid (impl_read D p a n c a2 l.length c2 l.reverse w2 (HV.out.ext (hx1.trans hx2)) HOK.out ho2.ints hle)
  clear ho2
  go_wp2_with fail
  refine HR.out.mono ?_
  rintro e w3 ⟨t, rfl, _, hx3⟩
  have hx : Ext w w3 := (hx1.trans hx2).trans hx3
  clear HR HO HST
  go_wp2
  go_ret
  exact ⟨rfl, hx⟩
theorem words_start (w : World) (E1 E0 : TypeId) : OwnMat (w.alloc (.cells #[.slice none 0 0] E1)) w.heap.size E1 E0 (some ⟨w.heap.size, 0, none⟩) (0 + 1) 1 ((List.range (0 + 1)).map wordK) :=
  ⟨rfl, [.slice none 0 0], own_lit1 w E1 _, fun k hk => by
    have h0 : k = 0 := by omega
    subst h0
    exact ⟨none, 0, 0, rfl, Own.nil _ _ _⟩⟩
theorem words_gl {n j : Nat} (h : j < n) : gl ((List.range n).map wordK) j = wordK j := by simp [gl, h]
set_option maxHeartbeats 1000000 in
theorem impl_IsDirected (D : Bc) (a : Option Addr) (n c : Nat) (w : World) (hv : Strs w a n c D.pats) (hn : n ≤ 1048576) (h1 : D.start.size ≤ 1048576) (h2 : D.stop.size ≤ 1048576) (h3 : ∀ p ∈ D.pats, p.size ≤ 1048576) :
    Calls Try.prog 43 #[.agg #[.string D.start, .string D.stop, .slice a n c, .int .i64 D.gap]] w (Ret (.bool (dirB D)) w) := by
  have HL := Lib.hid hv.len
  have HB := Lib.hid (bc_box w D a n c 28 hv)
  have HIs := Lib.hid (impl_ValidBarcode D a n c (w.alloc (.cells #[.string D.start, .string D.stop, .slice a n c, .int .i64 D.gap] 28)) (hv.ext ((Ext.refl w).alloc _)) hn h1 h2 h3)
  have Hhv := Lib.hid hv; clear hv; have Hh3 := Lib.hid h3; clear h3
  cases hval : validBc D
  · rw [hval] at HIs
    have HF := Lib.hid (show dirB D = false by rw [dirB, hval]; rfl)
    clear hval
    go_enter Try.func43, Try.ntmps43
    go_wp2_with (refine HIs.out.mono ?_; rintro e w1 ⟨rfl, hx1⟩)
    go_ret
    exact ⟨by rw [HF.out]; rfl, ((Ext.refl w).alloc _).trans hx1⟩
  rw [hval] at HIs
  have hok := validBc_ok hval
  have HS := Lib.hid (show dirB D = !(List.range (n + 1)).any (backB D) by rw [dirB, hval, HL.out]; rfl)
  have hn36 := hok.n36
  rw [HL.out] at hn36
  have Hhok := Lib.hid hok; clear hok
  clear hval
  go_enter Try.func43, Try.ntmps43
  go_wp2_with fail
  obtain ⟨wb, hwb⟩ : ∃ wb, wb = w.alloc (.cells #[.string D.start, .string D.stop, .slice a n c, .int .i64 D.gap] 28) := ⟨_, rfl⟩
  rw [← hwb] at HB HIs ⊢
  have hxb : Ext w wb := by rw [hwb]; exact (by repeat (first | (with_reducible exact Ext.refl _) | (with_reducible refine Ext.drewN ?_ _) | (with_reducible refine Ext.drew ?_) | (with_reducible refine Ext.alloc ?_ _) | ((with_reducible refine Ext.setCell ?_ ?_ _); rotate_left; focus (first | (simp; done) | (simp; omega) | omega)) | assumption | (with_reducible refine Ext.trans ?_ (by assumption))))
  generalize w.heap.size = p at *
  clear hwb
  refine HIs.out.mono ?_
  rintro e w1 ⟨rfl, hx1⟩
  have hxw1 : Ext w w1 := hxb.trans hx1
  obtain ⟨c0, c1, c2, c3, _⟩ := HB.out
  go_wp2
  go_loopw [3, 4, 12] (fun v _ i wr => ∃ (k : Nat) (ad : Option Addr) (cc : Nat), k ≤ n ∧ i = .int .i64 k ∧ v = .slice ad (k + 1) cc ∧ OwnMat wr w1.heap.size 36 2 ad (k + 1) cc ((List.range (k + 1)).map wordK) ∧ Ext w1 wr) (fun _ _ i _ => n - (intOf i).toNat)
  case atStart => exact ⟨0, _, _, Nat.zero_le _, rfl, rfl, words_start w1 _ _, (by repeat (first | (with_reducible exact Ext.refl _) | (with_reducible refine Ext.drewN ?_ _) | (with_reducible refine Ext.drew ?_) | (with_reducible refine Ext.alloc ?_ _) | ((with_reducible refine Ext.setCell ?_ ?_ _); rotate_left; focus (first | (simp; done) | (simp; omega) | omega)) | assumption | (with_reducible refine Ext.trans ?_ (by assumption))))⟩
  case round =>
    obtain ⟨k, ad, cc, hk, rfl, rfl, hm, hx⟩ := hrel
    have hxb1 : Ext wb wr := hx1.trans hx
    obtain ⟨vs, ho, hps⟩ := hm.rows
    have Hho := Lib.hid ho; clear ho; have Hhps := Lib.hid hps; clear hps; have Hhm := Lib.hid hm; clear hm
    by_cases hlt : k < n
    · have HO1 := Lib.hid (Hho.out.ext ((Ext.refl wr).alloc (.cells #[.int .i64 k] 2)))
      have HN1 := Lib.hid ((own_lit1 wr 2 (.int .i64 k)).mono hx.le)
      have HP1 := Lib.hid (fun j hj => (Hhps.out j hj).imp fun a' h => h.imp fun n' h => h.imp fun c' h => And.intro h.1 (h.2.ext ((Ext.refl wr).alloc (.cells #[.int .i64 k] 2))))
      have HBl := Lib.hid (show w1.heap.size ≤ (wr.alloc (.cells #[.int .i64 k] 2)).heap.size from (hx.alloc _).le)
      go_wp2_with (at_builtin; refine law_append1 _ rfl _ _ 76 rfl 36 (.slice none 0 0) 24 und_rows info_row1 rfl w1.heap.size ad (k + 1) cc _ _ rfl rfl (by simp [Act.eval, go_sem]) HO1.out HBl.out (by omega) (by omega) ?_; intro ad6 c6 w6 ho6 hb6 hg6)
      have hxw6 : Ext w1 w6 := Ext.below (by repeat (first | (with_reducible exact Ext.refl _) | (with_reducible refine Ext.drewN ?_ _) | (with_reducible refine Ext.drew ?_) | (with_reducible refine Ext.alloc ?_ _) | ((with_reducible refine Ext.setCell ?_ ?_ _); rotate_left; focus (first | (simp; done) | (simp; omega) | omega)) | assumption | (with_reducible refine Ext.trans ?_ (by assumption)))) hb6
      refine ⟨⟨k + 1, ad6, c6, by omega, by go_num, rfl, ?_, hxw6⟩, by simp [intOf]; omega⟩
      rw [List.range_succ, List.map_append]
      exact OwnMat.push (by simp) HP1.out HO1.out (l := [(k : Int)]) HN1.out ho6 hg6 (by decide)
    · obtain rfl : k = n := by omega
      have HC := Lib.hid (containsFunc_rows ad (k + 1) cc vs 82 #[.pointer (some ⟨p, 0, none⟩)] (backB D) wr Hho.out.sl (by omega) (fun _ _ => rfl) (fun j hj w' hx' => by
        obtain ⟨a2, n2, c2', e1, e2⟩ := Hhps.out j (by omega)
        rw [e1]
        rw [words_gl (by omega)] at e2
        exact directed1 D p a k c a2 n2 c2' (wordK j) w' (HB.out.ext (hxb1.trans hx')) Hhok.out (wordK_dig (by rw [HL.out]; omega)) (e2.ints.ext hx') (by rw [← e2.ints.len]; have := wordK_len j; omega)))
      obtain ⟨z, hz⟩ : ∃ z, z = (List.range (k + 1)).any (backB D) := ⟨_, rfl⟩
      rw [← hz] at HC HS
      have Hhz := Lib.hid hz; clear hz
      go_wp2_with (refine HC.out.mono ?_; rintro e w7 ⟨rfl, hx7⟩)
      go_ret
      exact ⟨rb (by rw [HS.out]), (hxw1.trans hx).trans hx7⟩
theorem any_range_yes {f : Nat → Bool} {n k : Nat} (hk : k < n) (h : f k = true) : (List.range n).any f = true := List.any_eq_true.2 ⟨k, List.mem_range.2 hk, h⟩
theorem any_range_no {f : Nat → Bool} {n : Nat} (h : ∀ k, k < n → f k = false) : (List.range n).any f = false := List.any_eq_false.2 fun k hk => by rw [h k (List.mem_range.1 hk)]; simp
set_option maxHeartbeats 2000000 in
theorem spec_IsDirected (D : Bc) (a : Option Addr) (n c : Nat) (w : World) (hv : Strs w a n c D.pats) (hn : n ≤ 1048576) (h1 : D.start.size ≤ 1048576) (h2 : D.stop.size ≤ 1048576) (h3 : ∀ p ∈ D.pats, p.size ≤ 1048576) :
    Calls Try.prog 42 #[.agg #[.string D.start, .string D.stop, .slice a n c, .int .i64 D.gap]] w (Ret (.bool (dirB D)) w) := by
  have HL := Lib.hid hv.len
  have HB := Lib.hid (bc_box w D a n c 28 hv)
  have HIs := Lib.hid (spec_l08Is D w.heap.size a n c _ HB.out hn h1 h2 h3)
  have Hhv := Lib.hid hv; clear hv; have Hh3 := Lib.hid h3; clear h3
  cases hval : validBc D
  · rw [hval] at HIs
    have HF := Lib.hid (show dirB D = false by rw [dirB, hval]; rfl)
    clear hval
    go_enter Try.func42, Try.ntmps42
    go_wp2_with (refine HIs.out.mono ?_; rintro e w1 ⟨rfl, hx1⟩)
    go_ret
    exact ⟨by rw [HF.out]; rfl, ((Ext.refl w).alloc _).trans hx1⟩
  rw [hval] at HIs
  have hok := validBc_ok hval
  have HS := Lib.hid (show dirB D = !(List.range (n + 1)).any (backB D) by rw [dirB, hval, HL.out]; rfl)
  have hn36 := hok.n36
  rw [HL.out] at hn36
  have HD := Lib.hid (fun k (hk : k ≤ n) => wordK_dig (D := D) (k := k) (by rw [HL.out]; exact hk))
  have HLe := Lib.hid (fun k (hk : k ≤ n) => stripes_le hok (HD.out k hk) (by have := wordK_len k; omega))
  have Hhok := Lib.hid hok; clear hok
  clear hval
  go_enter Try.func42, Try.ntmps42
  go_wp2_with fail
  obtain ⟨wb, hwb⟩ : ∃ wb, wb = w.alloc (.cells #[.string D.start, .string D.stop, .slice a n c, .int .i64 D.gap] 28) := ⟨_, rfl⟩
  rw [← hwb] at HB HIs ⊢
  have hxb : Ext w wb := by rw [hwb]; exact (by repeat (first | (with_reducible exact Ext.refl _) | (with_reducible refine Ext.drewN ?_ _) | (with_reducible refine Ext.drew ?_) | (with_reducible refine Ext.alloc ?_ _) | ((with_reducible refine Ext.setCell ?_ ?_ _); rotate_left; focus (first | (simp; done) | (simp; omega) | omega)) | assumption | (with_reducible refine Ext.trans ?_ (by assumption))))
  generalize w.heap.size = p at *
  clear hwb
  refine HIs.out.mono ?_
  rintro e w1 ⟨rfl, hx1⟩
  have hxw1 : Ext w w1 := hxb.trans hx1
  obtain ⟨c0, c1, c2, c3, _⟩ := HB.out
  have HST0 := Lib.hid (spec_l08Stripes D p a n c _ _ _ [] _ ((HB.out.ext hx1).ext ((Ext.refl w1).alloc _)) Hhok.out (HD.out 0 (Nat.zero_le _)) (ints_lit0 w1 2) (by omega))
  have hle0 := HLe.out 0 (Nat.zero_le _)
  have HB0 := Lib.hid (show backB D 0 = readB D (stripesL D []).reverse from rfl)
  rw [show wordK 0 = [] from rfl] at hle0
  generalize stripesL D [] = l0 at *
  go_wp2_with fail
  refine HST0.out.mono ?_
  rintro e w2 ⟨a2, c2', rfl, ho2, hy2⟩
  rw [I_len] at ho2 ⊢
  have hx2 : Ext w1 w2 := Ext.trans (by repeat (first | (with_reducible exact Ext.refl _) | (with_reducible refine Ext.drewN ?_ _) | (with_reducible refine Ext.drew ?_) | (with_reducible refine Ext.alloc ?_ _) | ((with_reducible refine Ext.setCell ?_ ?_ _); rotate_left; focus (first | (simp; done) | (simp; omega) | omega)) | assumption | (with_reducible refine Ext.trans ?_ (by assumption)))) hy2
  have HT0 := Lib.hid (spec_l08Turn a2 l0.length c2' l0 w2 ho2.ints hle0)
  clear ho2 hy2
  go_wp2_with fail
  refine HT0.out.mono ?_
  rintro e w3 ⟨a3, c3', rfl, ho3, hx3⟩
  rw [I_len, List.length_reverse] at ho3 ⊢
  have HR0 := Lib.hid (spec_l08Read D p a n c a3 l0.length c3' l0.reverse w3 (HB.out.ext ((hx1.trans hx2).trans hx3)) Hhok.out ho3.ints hle0)
  rw [← HB0.out] at HR0
  clear ho3
  cases hb0 : backB D 0
  rotate_left
  · rw [hb0] at HR0
    have HF := Lib.hid (show dirB D = false by rw [HS.out, any_range_yes (Nat.succ_pos n) hb0]; rfl)
    clear hb0
    go_wp2_with (refine HR0.out.mono ?_; rintro e w4 ⟨rfl, hx4⟩)
    go_ret
    exact ⟨by rw [HF.out]; rfl, ((hxw1.trans hx2).trans hx3).trans hx4⟩
  rw [hb0] at HR0
  have Hhb0 := Lib.hid hb0; clear hb0
  go_wp2_with fail
  refine HR0.out.mono ?_
  rintro e w4 ⟨rfl, hx4⟩
  have hxw4 : Ext wb w4 := ((hx1.trans hx2).trans hx3).trans hx4
  clear HR0 HT0 HST0 HB0
  go_wp2
  go_loopw [4, 5] (fun _ i wr => ∃ k : Nat, k ≤ n ∧ i = .int .i64 k ∧ (∀ j, j < k + 1 → backB D j = false) ∧ Ext wb wr) (fun _ i _ => n - (intOf i).toNat)
  case atStart => exact ⟨0, Nat.zero_le _, rfl, (fun j hj => by
    have h0 : j = 0 := by omega
    subst h0
    exact Hhb0.out), hxw4⟩
  case round =>
    obtain ⟨k, hk, rfl, hno, hx⟩ := hrel
    have hxr : Ext wb wr := hx
    have Hhno := Lib.hid hno; clear hno
    by_cases hlt : k < n
    · have HST := Lib.hid (spec_l08Stripes D p a n c _ _ _ [(k : Int)] _ ((HB.out.ext hx).ext ((Ext.refl wr).alloc _)) Hhok.out (HD.out (k + 1) (by omega)) (ints_lit1 wr 2 k) (by omega))
      have hle1 := HLe.out (k + 1) (by omega)
      have HBk := Lib.hid (show backB D (k + 1) = readB D (stripesL D [(k : Int)]).reverse from rfl)
      rw [show wordK (k + 1) = [(k : Int)] from rfl] at hle1
      generalize stripesL D [(k : Int)] = l1 at *
      go_wp2_with fail
      refine HST.out.mono ?_
      rintro e w5 ⟨a5, c5, rfl, ho5, hy5⟩
      rw [I_len] at ho5 ⊢
      have hx5 : Ext wr w5 := Ext.trans (by repeat (first | (with_reducible exact Ext.refl _) | (with_reducible refine Ext.drewN ?_ _) | (with_reducible refine Ext.drew ?_) | (with_reducible refine Ext.alloc ?_ _) | ((with_reducible refine Ext.setCell ?_ ?_ _); rotate_left; focus (first | (simp; done) | (simp; omega) | omega)) | assumption | (with_reducible refine Ext.trans ?_ (by assumption)))) hy5
      have HT1 := Lib.hid (spec_l08Turn a5 l1.length c5 l1 w5 ho5.ints hle1)
      clear ho5 hy5
      go_wp2_with fail
      refine HT1.out.mono ?_
      rintro e w6 ⟨a6, c6, rfl, ho6, hx6⟩
      rw [I_len, List.length_reverse] at ho6 ⊢
      have HR1 := Lib.hid (spec_l08Read D p a n c a6 l1.length c6 l1.reverse w6 (HB.out.ext ((hx.trans hx5).trans hx6)) Hhok.out ho6.ints hle1)
      rw [← HBk.out] at HR1
      clear ho6
      cases hbk : backB D (k + 1)
      · rw [hbk] at HR1
        have Hhbk := Lib.hid hbk; clear hbk
        go_wp2_with (refine HR1.out.mono ?_; rintro e w7 ⟨rfl, hx7⟩)
        exact ⟨⟨k + 1, by omega, by go_num, (fun j hj => by
          by_cases e : j < k + 1
          · exact Hhno.out j e
          · obtain rfl : j = k + 1 := by omega
            exact Hhbk.out), ((hx.trans hx5).trans hx6).trans hx7⟩, by simp [intOf]; omega⟩
      · rw [hbk] at HR1
        have HF := Lib.hid (show dirB D = false by rw [HS.out, any_range_yes (show k + 1 < n + 1 by omega) hbk]; rfl)
        clear hbk
        go_wp2_with (refine HR1.out.mono ?_; rintro e w7 ⟨rfl, hx7⟩)
        go_ret
        exact ⟨by rw [HF.out]; rfl, hxb.trans (((hx.trans hx5).trans hx6).trans hx7)⟩
    · obtain rfl : k = n := by omega
      have HF := Lib.hid (show dirB D = true by rw [HS.out, any_range_no Hhno.out]; rfl)
      go_wp2
      go_ret
      exact ⟨by rw [HF.out]; rfl, hxb.trans hx⟩
end Go.Proofs.Ytnmkckghfckgbaa
