/- Walks: steps between the keys of digits, in the program. -/
import Derived.Test.YtbcfbkhbangeoaaWrW
import Derived.Test.YtbcfbkhbangeoaaStabS
namespace Go.Proofs.Ytbcfbkhbangeoaa
set_option maxRecDepth 100000
open Go.RowKit

/-! ### plain -/
def keyX (d : Int) : Int := if d = 0 then 3 else 2 - (d - 1) / 3
def keyY (d : Int) : Int := if d = 0 then 0 else (d - 1) % 3
def absI (x : Int) : Int := max x (-x)
def stepD (a b : Int) : Int := absI (keyX a - keyX b) + absI (keyY a - keyY b)
def stepsK (a b : List Int) (k : Nat) : Int := match k with | 0 => 0 | k + 1 => stepsK a b k + stepD (gi a k) (gi b k)
def stepsL (a b : List Int) : Int := stepsK a b a.length
def Dig10 (l : List Int) : Prop := ∀ d ∈ l, 0 ≤ d ∧ d ≤ 9
theorem key_bd {d : Int} (h0 : 0 ≤ d) (h1 : d ≤ 9) : 0 ≤ keyX d ∧ keyX d ≤ 3 ∧ 0 ≤ keyY d ∧ keyY d ≤ 2 := by
  unfold keyX keyY; split <;> omega
theorem stepD_bd {a b : Int} (ha : 0 ≤ a ∧ a ≤ 9) (hb : 0 ≤ b ∧ b ≤ 9) : 0 ≤ stepD a b ∧ stepD a b ≤ 5 := by
  have h1 := key_bd ha.1 ha.2
  have h2 := key_bd hb.1 hb.2
  unfold stepD absI; omega
theorem stepD_comm (a b : Int) : stepD a b = stepD b a := by unfold stepD absI; omega
theorem stepD_self (a : Int) : stepD a a = 0 := by unfold stepD absI; omega
theorem stepD_all : ∀ a b : Fin 10, a ≠ b → 1 ≤ stepD (a.val : Int) (b.val : Int) := by decide +kernel
theorem stepD_pos {a b : Int} (ha : 0 ≤ a ∧ a ≤ 9) (hb : 0 ≤ b ∧ b ≤ 9) (h : a ≠ b) : 1 ≤ stepD a b := by
  have := stepD_all ⟨a.toNat, by omega⟩ ⟨b.toNat, by omega⟩ (fun e => h (by have := congrArg Fin.val e; simp only at this; omega))
  rwa [show ((a.toNat : Nat) : Int) = a by omega, show ((b.toNat : Nat) : Int) = b by omega] at this
theorem stepsK_bd {a b : List Int} (ha : Dig10 a) (hb : Dig10 b) (hl : a.length = b.length) : ∀ k, k ≤ a.length → 0 ≤ stepsK a b k ∧ stepsK a b k ≤ 5 * (k : Int)
  | 0, _ => by simp [stepsK]
  | k + 1, h => by
    have h1 := stepsK_bd ha hb hl k (by omega)
    have h2 := stepD_bd (ha _ (gi_mem (l := a) (k := k) (by omega))) (hb _ (gi_mem (l := b) (k := k) (by omega)))
    unfold stepsK; omega
theorem impl_keyAt (d : Int) (w : World) (h0 : 0 ≤ d) (h1 : d ≤ 9) : Calls Try.prog 92 #[.int .i64 d] w (Same (.tuple #[.int .i64 (keyX d), .int .i64 (keyY d)]) w) := by
  by_cases hd : d = 0
  · have HX := Lib.hid (show keyX d = 3 ∧ keyY d = 0 by unfold keyX keyY; rw [if_pos hd, if_pos hd]; exact ⟨rfl, rfl⟩)
    have hq : (d == 0) = true := beq_iff_eq.2 hd
    clear hd
    go_enter Try.func92, Try.ntmps92
    go_wp2
    go_ret2
    exact ⟨by rw [HX.out.1, HX.out.2]; rfl, rfl⟩
  · have HX := Lib.hid (show keyX d = 2 - (d - 1) / 3 ∧ keyY d = (d - 1) % 3 by unfold keyX keyY; rw [if_neg hd, if_neg hd]; exact ⟨rfl, rfl⟩)
    have hq : (d == 0) = false := beq_eq_false_iff_ne.2 hd
    have hd1 : 0 ≤ d - 1 := by omega
    have e1 : (d - 1).tdiv 3 = (d - 1) / 3 := Int.tdiv_eq_ediv_of_nonneg hd1
    have e2 : (d - 1).tmod 3 = (d - 1) % 3 := Int.tmod_eq_emod_of_nonneg hd1
    have hb : 0 ≤ (d - 1) / 3 ∧ (d - 1) / 3 ≤ 2 := by omega
    clear hd
    go_enter Try.func92, Try.ntmps92
    go_wp2
    go_ret2
    exact ⟨by rw [HX.out.1, HX.out.2]; rfl, rfl⟩
theorem impl_sizeK (x : Int) (w : World) (h1 : -1000 ≤ x) (h2 : x ≤ 1000) : Calls Try.prog 93 #[.int .i64 x] w (Same (.int .i64 (absI x)) w) := by
  go_enter Try.func93, Try.ntmps93
  go_wp2
  all_goals (go_ret; exact ⟨ri (by unfold absI; omega), rfl⟩)
set_option maxHeartbeats 4000000 in
theorem impl_keySteps (a : Option Addr) (n c : Nat) (l : List Int) (a' : Option Addr) (c' : Nat) (l' : List Int) (w : World) (hv : Ints w a n c l) (hv' : Ints w a' n c' l') (hn : n ≤ 64) (hd : Dig10 l) (hd' : Dig10 l') :
    Calls Try.prog 55 #[.slice a n c, .slice a' n c'] w (Ret (.int .i64 (stepsL l l')) w) := by
  have HL := Lib.hid hv.len
  have HL' := Lib.hid hv'.len
  have HD := Lib.hid hd
  have HD' := Lib.hid hd'
  obtain ⟨b1, o1, hix1, hc1⟩ := hv.ix (P := Try.prog) 23 2 und_int64s cell_int64
  obtain ⟨b2, o2, hix2, hc2⟩ := hv'.ix (P := Try.prog) 23 2 und_int64s cell_int64
  have HE := Lib.hid (show stepsL l l' = stepsK l l' n by unfold stepsL; rw [hv.len])
  clear hv hv' hd hd'
  go_enter Try.func55, Try.ntmps55
  go_wp2
  go_loopw [5, 13] (fun v5 v13 wr => ∃ k : Nat, k ≤ n ∧ v5 = .int .i64 (stepsK l l' k) ∧ v13 = .int .i64 k ∧ Ext w wr) (fun _ v13 _ => n - (intOf v13).toNat)
  case atStart => exact ⟨0, Nat.zero_le _, rfl, rfl, (by repeat (first | (with_reducible exact Ext.refl _) | (with_reducible refine Ext.drewN ?_ _) | (with_reducible refine Ext.drew ?_) | (with_reducible refine Ext.alloc ?_ _) | ((with_reducible refine Ext.setCell ?_ ?_ _); rotate_left; focus (first | (simp; done) | (simp; omega) | omega)) | assumption | (with_reducible refine Ext.trans ?_ (by assumption))))⟩
  case round =>
    obtain ⟨k, hk, rfl, rfl, hx⟩ := hrel
    by_cases hlt : k < n
    · have hbd := stepsK_bd HD.out HD'.out (HL.out.trans HL'.out.symm) k (by rw [HL.out]; exact hk)
      have d1 := HD.out _ (gi_mem (l := l) (k := k) (by rw [HL.out]; exact hlt))
      have d2 := HD'.out _ (gi_mem (l := l') (k := k) (by rw [HL'.out]; exact hlt))
      have q1 := key_bd d1.1 d1.2
      have q2 := key_bd d2.1 d2.2
      have s1 := stepD_bd d1 d2
      have HK1 := Lib.hid (fun W => impl_keyAt (gi l k) W d1.1 d1.2)
      have HK2 := Lib.hid (fun W => impl_keyAt (gi l' k) W d2.1 d2.2)
      have HS := Lib.hid (show stepsK l l' (k + 1) = stepsK l l' k + (absI (keyX (gi l k) - keyX (gi l' k)) + absI (keyY (gi l k) - keyY (gi l' k))) from rfl)
      have t1 : 0 ≤ absI (keyX (gi l k) - keyX (gi l' k)) ∧ absI (keyX (gi l k) - keyX (gi l' k)) ≤ 3 := by unfold absI; omega
      have t2 : 0 ≤ absI (keyY (gi l k) - keyY (gi l' k)) ∧ absI (keyY (gi l k) - keyY (gi l' k)) ≤ 2 := by unfold absI; omega
      have HZ1 := Lib.hid (fun W => impl_sizeK (keyX (gi l k) - keyX (gi l' k)) W (by omega) (by omega))
      have HZ2 := Lib.hid (fun W => impl_sizeK (keyY (gi l k) - keyY (gi l' k)) W (by omega) (by omega))
      have hk5 : 5 * (k : Int) ≤ 320 := by omega
      clear d1 d2 s1
      generalize keyX (gi l k) = x1 at *
      generalize keyY (gi l k) = y1 at *
      generalize keyX (gi l' k) = x2 at *
      generalize keyY (gi l' k) = y2 at *
      generalize stepsK l l' k = z at *
      go_wp2_with (first | (go_at_call 92; first | ((with_reducible refine (HK1.out _).mono ?_); rintro e w1 ⟨rfl, rfl⟩) | ((with_reducible refine (HK2.out _).mono ?_); rintro e w1 ⟨rfl, rfl⟩)) | (go_at_call 93; first | ((with_reducible refine (HZ1.out _).mono ?_); rintro e w1 ⟨rfl, rfl⟩) | ((with_reducible refine (HZ2.out _).mono ?_); rintro e w1 ⟨rfl, rfl⟩)))
      exact ⟨⟨k + 1, hlt, by rw [HS.out], by go_num, (by repeat (first | (with_reducible exact Ext.refl _) | (with_reducible refine Ext.drewN ?_ _) | (with_reducible refine Ext.drew ?_) | (with_reducible refine Ext.alloc ?_ _) | ((with_reducible refine Ext.setCell ?_ ?_ _); rotate_left; focus (first | (simp; done) | (simp; omega) | omega)) | assumption | (with_reducible refine Ext.trans ?_ (by assumption))))⟩, by simp [intOf]; omega⟩
    · obtain rfl : k = n := by omega
      go_wp2
      go_ret
      exact ⟨by rw [HE.out]; rfl, hx⟩
/-! ### the order of words by the steps from a word -/
/-- what the comparing function reads -/
structure StpE (D : Ch) (q p6 p9 : Nat) (a : Option Addr) (n c : Nat) (a' : Option Addr) (n' c' : Nat) (da : Option Addr) (dc : Nat) (ds : List Int) (W : World) : Prop where
  ch : ChAt W q D a n c a' n' c'
  v6 : VarAt W p6 23 (.slice da n' dc)
  ds : Ints W da n' dc ds
  v9 : VarAt W p9 86 (.func (.func 54) #[] #[.pointer (some ⟨q, 0, none⟩), .pointer (some ⟨p6, 0, none⟩)])
theorem StpE.ext {D : Ch} {q p6 p9 : Nat} {a : Option Addr} {n c : Nat} {a' : Option Addr} {n' c' : Nat} {da : Option Addr} {dc : Nat} {ds : List Int} {W W' : World} (h : StpE D q p6 p9 a n c a' n' c' da dc ds W) (hx : Ext W W') : StpE D q p6 p9 a n c a' n' c' da dc ds W' := ⟨h.ch.ext hx, h.v6.ext hx, h.ds.ext hx, h.v9.ext hx⟩
/-- a word of the chain's length over ten digits -/
def WordQ (D : Ch) (x : ByteArray) : Prop := wordCh D x = true ∧ Dig10 (digC x)
def keyS' (ds : List Int) (x : ByteArray) : Int := stepsL ds (digC x)
set_option maxHeartbeats 4000000 in
theorem like_steps (D : Ch) (hok : OkCh D) (q p6 p9 : Nat) (a : Option Addr) (n c : Nat) (a' : Option Addr) (n' c' : Nat) (da : Option Addr) (dc : Nat) (ds : List Int) (hd : Dig10 ds) (x : ByteArray) (hx : WordQ D x) (W : World) (hE : StpE D q p6 p9 a n c a' n' c' da dc ds W) :
    Calls Try.prog 54 (#[.string x] ++ #[.pointer (some ⟨q, 0, none⟩), .pointer (some ⟨p6, 0, none⟩)]) W (Ret (.int .i64 (keyS' ds x)) W) := by
  have hw := wordCh_t hx.1
  have hpl := hE.ch.ps.len
  have HW := Lib.hid (impl_chWord D q a n c a' n' c' x W hE.ch (by omega))
  rw [hx.1] at HW
  have h20 := hok.p20
  have HK := Lib.hid (fun ta tc W' (h1 : Ints W' ta n' tc (digC x)) (h2 : Ext W W') => impl_keySteps da n' dc ds ta tc (digC x) W' (hE.ds.ext h2) h1 (by omega) hd hx.2)
  have HN := Lib.hid (show (I (digC x)).length = n' by rw [I_len, digC_len]; omega)
  have c6 := fun W' (h : Ext W W') => (hE.v6.ext h).cell
  clear hE hx hw hpl
  go_enter Try.func54, Try.ntmps54
  go_wp2_with (first | (go_at_call 34; (with_reducible refine HW.out.mono ?_); rintro e w1 ⟨ta, tn, tc, rfl, hx1, ho1⟩; have ho1' := ho1 rfl; have htn : tn = n' := (ho1'.len.symm.trans HN.out); rw [htn] at ho1' ⊢; have HO1 := Lib.hid ho1'.ints; clear ho1 ho1' htn) | (go_at_call 55; (with_reducible refine (HK.out ta tc _ HO1.out (by repeat (first | (with_reducible exact Ext.refl _) | (with_reducible assumption) | (with_reducible refine Ext.drewN ?_ _) | (with_reducible refine Ext.drew ?_) | (with_reducible refine Ext.alloc ?_ _) | ((with_reducible refine Ext.setCell ?_ ?_ _); rotate_left; focus (first | (simp; done) | (simp; omega) | omega)) | (with_reducible refine Ext.trans ?_ (by with_reducible assumption))))).mono ?_); rintro e w2 ⟨rfl, hx2⟩))
  go_ret
  exact ⟨rfl, hx1.trans hx2⟩
def cmpI (x y : Int) : Int := if x < y then -1 else if y < x then 1 else 0
theorem cmp_nanL (x : Int) (w : World) : Calls Try.prog 95 #[.int .i64 x] w (Same (.bool false) w) := by
  go_enter Try.func95, Try.ntmps95
  go_wp2
  go_ret
  exact ⟨by simp, rfl⟩
theorem cmp_cmp64 (x y : Int) (w : World) : Calls Try.prog 58 #[.int .i64 x, .int .i64 y] w (Same (.int .i64 (cmpI x y)) w) := by
  by_cases h1 : x < y
  · have HX := Lib.hid (show cmpI x y = -1 by unfold cmpI; rw [if_pos h1])
    go_enter Try.func58, Try.ntmps58
    go_wp2_with ((with_reducible refine (cmp_nanL _ _).mono ?_); rintro e w1 ⟨rfl, rfl⟩)
    go_ret
    exact ⟨by rw [HX.out]; rfl, rfl⟩
  · by_cases h2 : y < x
    · have HX := Lib.hid (show cmpI x y = 1 by unfold cmpI; rw [if_neg h1, if_pos h2])
      go_enter Try.func58, Try.ntmps58
      go_wp2_with ((with_reducible refine (cmp_nanL _ _).mono ?_); rintro e w1 ⟨rfl, rfl⟩)
      go_ret
      exact ⟨by rw [HX.out]; rfl, rfl⟩
    · have HX := Lib.hid (show cmpI x y = 0 by unfold cmpI; rw [if_neg h1, if_neg h2])
      go_enter Try.func58, Try.ntmps58
      go_wp2_with ((with_reducible refine (cmp_nanL _ _).mono ?_); rintro e w1 ⟨rfl, rfl⟩)
      go_ret
      exact ⟨by rw [HX.out]; rfl, rfl⟩
set_option maxHeartbeats 4000000 in
theorem like_cmp (D : Ch) (hok : OkCh D) (q p6 p9 : Nat) (a : Option Addr) (n c : Nat) (a' : Option Addr) (n' c' : Nat) (da : Option Addr) (dc : Nat) (ds : List Int) (hd : Dig10 ds) (x y : ByteArray) (hx : WordQ D x) (hy : WordQ D y) (W : World) (hE : StpE D q p6 p9 a n c a' n' c' da dc ds W) :
    Calls Try.prog 57 (#[.string x, .string y] ++ #[.pointer (some ⟨p9, 0, none⟩)]) W (Ret (.int .i64 (cmpI (keyS' ds x) (keyS' ds y))) W) := by
  have HS1 := Lib.hid (fun W' (h : Ext W W') => show Calls Try.prog 54 #[.string x, .pointer (some ⟨q, 0, none⟩), .pointer (some ⟨p6, 0, none⟩)] W' (Ret (.int .i64 (keyS' ds x)) W') from like_steps D hok q p6 p9 a n c a' n' c' da dc ds hd x hx W' (hE.ext h))
  have HS2 := Lib.hid (fun W' (h : Ext W W') => show Calls Try.prog 54 #[.string y, .pointer (some ⟨q, 0, none⟩), .pointer (some ⟨p6, 0, none⟩)] W' (Ret (.int .i64 (keyS' ds y)) W') from like_steps D hok q p6 p9 a n c a' n' c' da dc ds hd y hy W' (hE.ext h))
  have c9 := fun W' (h : Ext W W') => (hE.v9.ext h).cell
  have HC := Lib.hid (fun W' => cmp_cmp64 (keyS' ds x) (keyS' ds y) W')
  have hed : ∀ args w', (callFunc 54 args).run Try.prog w' = .ok (.enter 54 args) w' := fun _ _ => rfl
  have hWW : Ext W W := Ext.refl _
  clear hE
  generalize keyS' ds x = kx at *
  generalize keyS' ds y = ky at *
  go_enter Try.func57, Try.ntmps57
  go_wp2_with fail
  (refine wp_region_from W (by repeat (first | (with_reducible exact Ext.refl _) | (with_reducible refine Ext.drewN ?_ _) | (with_reducible refine Ext.drew ?_) | (with_reducible refine Ext.alloc ?_ _) | ((with_reducible refine Ext.setCell ?_ ?_ _); rotate_left; focus (first | (simp; done) | (simp; omega) | omega)) | assumption | (with_reducible refine Ext.trans ?_ (by assumption)))) (by kernel_rfl) (by kernel_rfl) (by kernel_rfl) ?_; (repeat (first | (refine mix_q rfl ?_; go_big_quiet_step (fail); refine wpQuiet_nil ?_; show wpMix _ _ _ _ _ _ _) | (refine mix_s rfl ?_; go_wp2_with ((first | (go_at_call 58; (with_reducible refine (HC.out _).mono ?_); rintro e w3 ⟨rfl, rfl⟩) | ((with_reducible refine (HS1.out _ (by repeat (first | (with_reducible exact Ext.refl _) | (with_reducible assumption) | (with_reducible refine Ext.drewN ?_ _) | (with_reducible refine Ext.drew ?_) | (with_reducible refine Ext.alloc ?_ _) | ((with_reducible refine Ext.setCell ?_ ?_ _); rotate_left; focus (first | (simp; done) | (simp; omega) | omega)) | (with_reducible refine Ext.trans ?_ (by with_reducible assumption))))).mono ?_); rintro e w1 ⟨rfl, hy1⟩; have hx1 : Ext W w1 := Ext.trans (by repeat (first | (with_reducible exact Ext.refl _) | (with_reducible assumption) | (with_reducible refine Ext.drewN ?_ _) | (with_reducible refine Ext.drew ?_) | (with_reducible refine Ext.alloc ?_ _) | ((with_reducible refine Ext.setCell ?_ ?_ _); rotate_left; focus (first | (simp; done) | (simp; omega) | omega)) | (with_reducible refine Ext.trans ?_ (by with_reducible assumption)))) hy1; clear hy1) | ((with_reducible refine (HS2.out _ (by repeat (first | (with_reducible exact Ext.refl _) | (with_reducible assumption) | (with_reducible refine Ext.drewN ?_ _) | (with_reducible refine Ext.drew ?_) | (with_reducible refine Ext.alloc ?_ _) | ((with_reducible refine Ext.setCell ?_ ?_ _); rotate_left; focus (first | (simp; done) | (simp; omega) | omega)) | (with_reducible refine Ext.trans ?_ (by with_reducible assumption))))).mono ?_); rintro e w2 ⟨rfl, hy2⟩; have hx2 : Ext W w2 := Ext.trans (by repeat (first | (with_reducible exact Ext.refl _) | (with_reducible assumption) | (with_reducible refine Ext.drewN ?_ _) | (with_reducible refine Ext.drew ?_) | (with_reducible refine Ext.alloc ?_ _) | ((with_reducible refine Ext.setCell ?_ ?_ _); rotate_left; focus (first | (simp; done) | (simp; omega) | omega)) | (with_reducible refine Ext.trans ?_ (by with_reducible assumption)))) hy2; clear hy2))); first | refine ⟨up_of (by repeat (first | (with_reducible exact Ext.refl _) | (with_reducible refine Ext.drewN ?_ _) | (with_reducible refine Ext.drew ?_) | (with_reducible refine Ext.alloc ?_ _) | ((with_reducible refine Ext.setCell ?_ ?_ _); rotate_left; focus (first | (simp; done) | (simp; omega) | omega)) | assumption | (with_reducible refine Ext.trans ?_ (by assumption)))), ?_⟩ | refine ⟨rfl, rfl, up_of (by repeat (first | (with_reducible exact Ext.refl _) | (with_reducible refine Ext.drewN ?_ _) | (with_reducible refine Ext.drew ?_) | (with_reducible refine Ext.alloc ?_ _) | ((with_reducible refine Ext.setCell ?_ ?_ _); rotate_left; focus (first | (simp; done) | (simp; omega) | omega)) | assumption | (with_reducible refine Ext.trans ?_ (by assumption)))), ?_⟩))); refine mix_nil ?_)
  go_wp2_with fail
  go_ret
  exact ⟨rfl, (by repeat (first | (with_reducible exact Ext.refl _) | (with_reducible assumption) | (with_reducible refine Ext.drewN ?_ _) | (with_reducible refine Ext.drew ?_) | (with_reducible refine Ext.alloc ?_ _) | ((with_reducible refine Ext.setCell ?_ ?_ _); rotate_left; focus (first | (simp; done) | (simp; omega) | omega)) | (with_reducible refine Ext.trans ?_ (by with_reducible assumption))))⟩
end Go.Proofs.Ytbcfbkhbangeoaa

/- Walks: LikelySingles of the program. -/
namespace Go.Proofs.Ytbcfbkhbangeoaa
set_option maxRecDepth 100000
open Go.RowKit

/-! ### plain -/
def likB (D : Ch) (s : ByteArray) : Bool := runOk D s && decide (D.base = 10)
/-- the single errors of a word that a chain checks -/
def likC (D : Ch) (s : ByteArray) : List ByteArray := putAll (((wrongL 0 10 (digC s)).map textOf).filter (chkB D))
def likP (D : Ch) (s : ByteArray) (k : Nat) : List ByteArray := (likC D s).filter fun x => decide (keyS' (digC s) x = (k : Int))
def likN (D : Ch) (s : ByteArray) (m : Nat) : List ByteArray := ((List.range m).map fun j => likP D s (j + 1)).flatten
def likL (D : Ch) (s : ByteArray) : List ByteArray := if likB D s then likN D s 5 else []
theorem likN_step (D : Ch) (s : ByteArray) (m : Nat) : likN D s (m + 1) = likN D s m ++ likP D s (m + 1) := by unfold likN; rw [List.range_succ, List.map_append, List.flatten_append]; simp
theorem likN_mem {D : Ch} {s x : ByteArray} : ∀ {m : Nat}, x ∈ likN D s m ↔ x ∈ likC D s ∧ 1 ≤ keyS' (digC s) x ∧ keyS' (digC s) x ≤ (m : Int)
  | 0 => by
    constructor
    · intro h; cases h
    · rintro ⟨_, h1, h2⟩; simp at h2; omega
  | m + 1 => by
    rw [likN_step, List.mem_append, likN_mem, likP, List.mem_filter, decide_eq_true_eq]
    constructor
    · rintro (⟨h1, h2, h3⟩ | ⟨h1, h2⟩)
      · exact ⟨h1, h2, by omega⟩
      · exact ⟨h1, by omega, by omega⟩
    · rintro ⟨h1, h2, h3⟩
      by_cases h : keyS' (digC s) x = ((m + 1 : Nat) : Int)
      · exact .inr ⟨h1, h⟩
      · exact .inl ⟨h1, h2, by omega⟩
theorem likN_asc (D : Ch) (s : ByteArray) : ∀ m, ascR (keyS' (digC s)) (likN D s m)
  | 0 => List.Pairwise.nil
  | m + 1 => by
    rw [likN_step]
    unfold ascR
    rw [List.pairwise_append]
    refine ⟨likN_asc D s m, ?_, fun x hx y hy => ?_⟩
    · have h : ascS (likP D s (m + 1)) := List.Pairwise.sublist List.filter_sublist (putAll_asc _)
      refine List.Pairwise.imp_of_mem (fun {x y} hx hy hxy => ?_) h
      have h1 := (List.mem_filter.1 hx).2
      have h2 := (List.mem_filter.1 hy).2
      rw [decide_eq_true_eq] at h1 h2
      exact .inr ⟨by omega, hxy⟩
    · have h1 := (likN_mem.1 hx).2.2
      have h2 := (List.mem_filter.1 hy).2
      rw [decide_eq_true_eq] at h2
      exact .inl (by omega)
theorem stepsK_mid {ds : List Int} {pl : Nat} {y : Int} (hp : pl < ds.length) : ∀ k, k ≤ ds.length → stepsK ds (ds.take pl ++ [y] ++ ds.drop (pl + 1)) k = if pl < k then stepD (gi ds pl) y else 0
  | 0, _ => by simp [stepsK]
  | k + 1, h => by
    have hl : (ds.take pl).length = pl := by rw [List.length_take]; omega
    have e : gi (ds.take pl ++ [y] ++ ds.drop (pl + 1)) k = if k = pl then y else gi ds k := by
      unfold gi
      rw [List.getD_eq_getElem?_getD, List.getD_eq_getElem?_getD]
      rcases Nat.lt_trichotomy k pl with hlt | rfl | hgt
      · rw [if_neg (by omega), List.append_assoc, List.getElem?_append_left (by omega), List.getElem?_take_of_lt hlt]
      · rw [if_pos rfl, List.append_assoc, List.getElem?_append_right (by omega), hl, Nat.sub_self]; rfl
      · rw [if_neg (by omega), List.getElem?_append_right (by rw [List.length_append, hl, List.length_singleton]; omega), List.length_append, hl, List.length_singleton, List.getElem?_drop]
        congr 2; omega
    unfold stepsK
    rw [stepsK_mid hp k (by omega), e]
    rcases Nat.lt_trichotomy k pl with hlt | rfl | hgt
    · rw [if_neg (by omega), if_neg (by omega), if_neg (by omega), stepD_self]; rfl
    · rw [if_neg (by omega), if_pos rfl, if_pos (by omega)]; omega
    · rw [if_pos hgt, if_neg (by omega), if_pos (by omega), stepD_self]; omega
theorem single_steps {ds t : List Int} (hd : Dig10 ds) (h : t ∈ wrongL 0 10 ds) : 1 ≤ stepsL ds t ∧ stepsL ds t ≤ 5 := by
  obtain ⟨pl, hp, t', ht', rfl⟩ := wrong_iff.1 h
  have hk : lenK 0 = 1 := rfl
  rw [hk] at hp ht' ⊢
  have hpl : pl < ds.length := by omega
  have e1 : (ds.drop pl).take 1 = [gi ds pl] := by rw [gi_get hpl, List.drop_eq_getElem_cons hpl]; rfl
  rw [e1] at ht'
  obtain ⟨y, hy1, hy2, rfl⟩ := eachTo_mem (show t' ∈ eachTo (gi ds pl) (fun b => [b]) 10 from ht')
  have hg := hd _ (gi_mem hpl)
  have hy : (0 : Int) ≤ (y : Int) ∧ (y : Int) ≤ 9 := by omega
  unfold stepsL
  rw [stepsK_mid hpl _ (Nat.le_refl _), if_pos hpl]
  exact ⟨stepD_pos hg hy (Ne.symm hy2), (stepD_bd hg hy).2⟩
theorem dig10_of {D : Ch} (hb : D.base = 10) {l : List Int} (h : DigC D l) : Dig10 l := fun d hd => by have := h d hd; omega
theorem likC_mem {D : Ch} {s x : ByteArray} (hb : D.base = 10) (hs : runOk D s = true) (h : x ∈ likC D s) : chkB D x = true ∧ WordQ D x ∧ 1 ≤ keyS' (digC s) x ∧ keyS' (digC s) x ≤ 5 ∧ ∃ t, t ∈ wrongL 0 10 (digC s) ∧ x = textOf t ∧ digC x = t := by
  unfold likC at h
  rw [mem_putAll, List.mem_filter] at h
  obtain ⟨h1, hc⟩ := h
  obtain ⟨t, ht, rfl⟩ := List.mem_map.1 h1
  have hr : runOk D (textOf t) = true := by unfold chkB at hc; simp only [Bool.and_eq_true] at hc; exact hc.1
  have hwx : wordCh D (textOf t) = true := by unfold runOk at hr; simp only [Bool.and_eq_true] at hr; exact hr.2
  have hws : wordCh D s = true := by unfold runOk at hs; simp only [Bool.and_eq_true] at hs; exact hs.2
  have hds : Dig10 (digC s) := dig10_of hb (wordCh_t hws).1
  have htd := (wrong_dig (base := 10) (k := 0) (fun x hx => by have := hds x hx; omega) (.inl (by omega)) ht).2
  have h36 : Dig36 t := fun d hd => by have := htd d hd; omega
  have e : digC (textOf t) = t := digC_text h36
  have hk := single_steps hds ht
  refine ⟨hc, ⟨hwx, dig10_of hb (wordCh_t hwx).1⟩, ?_, ?_, t, ht, rfl, e⟩
  · unfold keyS'; rw [e]; exact hk.1
  · unfold keyS'; rw [e]; exact hk.2
theorem lik_uniq {D : Ch} {s : ByteArray} {l : List ByteArray} (hb : D.base = 10) (hs : runOk D s = true) (hp : l.Perm (likC D s)) (ha : ascR (keyS' (digC s)) l) : l = likL D s := by
  have hB : likB D s = true := by unfold likB; rw [hs, decide_eq_true hb]; rfl
  unfold likL
  rw [hB, if_pos rfl]
  refine ascR_uniq ha (likN_asc D s 5) fun x => ?_
  rw [hp.mem_iff, likN_mem]
  constructor
  · intro h
    have := likC_mem hb hs h
    exact ⟨h, this.2.2.1, this.2.2.2.1⟩
  · exact fun h => h.1
theorem likC_len (D : Ch) (s : ByteArray) (hs : s.size ≤ 20) : (likC D s).length ≤ 1000 := by
  have h1 := putAll_len (((wrongL 0 10 (digC s)).map textOf).filter (chkB D))
  have h2 := List.length_filter_le (chkB D) ((wrongL 0 10 (digC s)).map textOf)
  rw [List.length_map] at h2
  have h3 := wrongL_le 0 10 (digC s) (by omega) (by rw [digC_len]; exact hs)
  unfold likC; omega
theorem likL_no {D : Ch} {s : ByteArray} (h : likB D s = false) : likL D s = [] := by unfold likL; rw [h]; rfl
theorem stpE_chg {D : Ch} {q p6 p9 : Nat} {a : Option Addr} {n c : Nat} {a' : Option Addr} {n' c' : Nat} {da : Option Addr} {dc : Nat} {ds : List Int} {w3 w5 W : World} {g : Nat} (h1 : ChAt w3 q D a n c a' n' c') (h2 : VarAt w3 p6 23 (.slice da n' dc)) (h3 : Ints w3 da n' dc ds)
    (h4 : VarAt w5 p9 86 (.func (.func 54) #[] #[.pointer (some ⟨q, 0, none⟩), .pointer (some ⟨p6, 0, none⟩)])) (hx : Ext w3 w5) (hg : w3.heap.size ≤ g) (hp : p9 ≠ g) (hc : Chg g (g + 1) w5 W) : StpE D q p6 p9 a n c a' n' c' da dc ds W := by
  have hW : Ext w3 W := hc.to hx hg
  exact ⟨h1.ext hW, h2.ext hW, h3.ext hW, (hc.block _ h4.lt (by omega)).trans h4⟩
set_option maxHeartbeats 8000000 in
theorem impl_Likely (C : Ch) (a : Option Addr) (n c : Nat) (b : Option Addr) (m d : Nat) (s : ByteArray) (w : World) (hv : ChIn w C a n c b m d) (hs : s.size ≤ 1048576) :
    Calls Try.prog 18 #[.agg #[.int .i64 C.base, .int .i64 C.states, .int .i64 C.start, .int .i64 C.fin, .slice a n c, .slice b m d], .string s] w (RetTO (likL C s) (likB C s) w) := by
  have HB := Lib.hid (hv.box 30)
  have HI := Lib.hid hv
  have hxa : Ext w (w.alloc (.cells #[.int .i64 C.base, .int .i64 C.states, .int .i64 C.start, .int .i64 C.fin, .slice a n c, .slice b m d] 30)) := (by repeat (first | (with_reducible exact Ext.refl _) | (with_reducible refine Ext.drewN ?_ _) | (with_reducible refine Ext.drew ?_) | (with_reducible refine Ext.alloc ?_ _) | ((with_reducible refine Ext.setCell ?_ ?_ _); rotate_left; focus (first | (simp; done) | (simp; omega) | omega)) | assumption | (with_reducible refine Ext.trans ?_ (by assumption))))
  have HV := Lib.hid (fun W (h : Ext w W) => impl_ValidChain C a n c b m d W (Cube.ext HI.out.ts h) (HI.out.ps.ext h) HI.out.hn HI.out.hn' HI.out.sm)
  obtain ⟨wb, hwb⟩ : ∃ wb, wb = w.alloc (.cells #[.int .i64 C.base, .int .i64 C.states, .int .i64 C.start, .int .i64 C.fin, .slice a n c, .slice b m d] 30) := ⟨_, rfl⟩
  rw [← hwb] at HB hxa
  obtain ⟨k0, k1, k2, k3, k4, k5, _, _⟩ := HB.out
  have hbb : Ext wb wb := Ext.refl wb
  obtain ⟨q, hq⟩ : ∃ q, q = w.heap.size := ⟨_, rfl⟩
  rw [← hq] at k0 k1 k2 k3 k4 k5 HB
  clear hv
  cases hval : validCh C with
  | false =>
    have HN := Lib.hid (show likB C s = false by unfold likB runOk; rw [hval]; rfl)
    rw [hval] at HV
    clear hval HB
    go_enter Try.func18, Try.ntmps18
    go_wp2_with fail
    rw [← hwb, ← hq]
    clear hwb hq
    go_wp2_with (refine (HV.out _ (hxa.trans (by repeat (first | (with_reducible exact Ext.refl _) | (with_reducible refine Ext.drewN ?_ _) | (with_reducible refine Ext.drew ?_) | (with_reducible refine Ext.alloc ?_ _) | ((with_reducible refine Ext.setCell ?_ ?_ _); rotate_left; focus (first | (simp; done) | (simp; omega) | omega)) | assumption | (with_reducible refine Ext.trans ?_ (by assumption)))))).mono ?_; rintro e w1 ⟨rfl, hx1⟩)
    go_ret2
    exact RetTO.no HN.out (likL_no HN.out) (hxa.trans hx1)
  | true =>
    rw [hval] at HV
    have HOk := Lib.hid (validCh_ok hval)
    by_cases hb10 : C.base = 10
    · have HB10 := Lib.hid hb10
      have hne : (C.base != 10) = false := by rw [hb10]; rfl
      have HWd := Lib.hid (fun W (h : Ext wb W) => impl_chWord C q a n c b m d s W (HB.out.ext h) hs)
      cases hw : wordCh C s with
      | false =>
        have HN := Lib.hid (show likB C s = false by unfold likB runOk; rw [hw, Bool.and_false]; rfl)
        rw [hw] at HWd
        clear hval HB hw hb10
        go_enter Try.func18, Try.ntmps18
        go_wp2_with fail
        rw [← hwb, ← hq]
        clear hwb hq
        go_wp2_with (first | (go_at_call 33; (with_reducible refine (HV.out _ (hxa.trans (by repeat (first | (with_reducible exact Ext.refl _) | (with_reducible refine Ext.drewN ?_ _) | (with_reducible refine Ext.drew ?_) | (with_reducible refine Ext.alloc ?_ _) | ((with_reducible refine Ext.setCell ?_ ?_ _); rotate_left; focus (first | (simp; done) | (simp; omega) | omega)) | assumption | (with_reducible refine Ext.trans ?_ (by assumption)))))).mono ?_); rintro e w1 ⟨rfl, hy1⟩; have hx1 : Ext wb w1 := Ext.trans (by repeat (first | (with_reducible exact Ext.refl _) | (with_reducible refine Ext.drewN ?_ _) | (with_reducible refine Ext.drew ?_) | (with_reducible refine Ext.alloc ?_ _) | ((with_reducible refine Ext.setCell ?_ ?_ _); rotate_left; focus (first | (simp; done) | (simp; omega) | omega)) | assumption | (with_reducible refine Ext.trans ?_ (by assumption)))) hy1; clear hy1) | (go_at_call 34; (with_reducible refine (HWd.out _ (by repeat (first | (with_reducible exact Ext.refl _) | (with_reducible assumption) | (with_reducible refine Ext.drewN ?_ _) | (with_reducible refine Ext.drew ?_) | (with_reducible refine Ext.alloc ?_ _) | ((with_reducible refine Ext.setCell ?_ ?_ _); rotate_left; focus (first | (simp; done) | (simp; omega) | omega)) | (with_reducible refine Ext.trans ?_ (by with_reducible assumption))))).mono ?_); rintro e w2 ⟨da, dn, dc, rfl, hy2, _⟩; have hx2 : Ext wb w2 := Ext.trans (by repeat (first | (with_reducible exact Ext.refl _) | (with_reducible assumption) | (with_reducible refine Ext.drewN ?_ _) | (with_reducible refine Ext.drew ?_) | (with_reducible refine Ext.alloc ?_ _) | ((with_reducible refine Ext.setCell ?_ ?_ _); rotate_left; focus (first | (simp; done) | (simp; omega) | omega)) | (with_reducible refine Ext.trans ?_ (by with_reducible assumption)))) hy2; clear hy2))
        go_ret2
        exact RetTO.no HN.out (likL_no HN.out) (hxa.trans (by repeat (first | (with_reducible exact Ext.refl _) | (with_reducible refine Ext.drewN ?_ _) | (with_reducible refine Ext.drew ?_) | (with_reducible refine Ext.alloc ?_ _) | ((with_reducible refine Ext.setCell ?_ ?_ _); rotate_left; focus (first | (simp; done) | (simp; omega) | omega)) | assumption | (with_reducible refine Ext.trans ?_ (by assumption)))))
      | true =>
        have hR : runOk C s = true := by unfold runOk; rw [hval, hw]; rfl
        have HR := Lib.hid hR
        have HBt := Lib.hid (show likB C s = true by unfold likB; rw [hR, decide_eq_true hb10]; rfl)
        have hws := wordCh_t hw
        have hpl := HI.out.ps.len
        have HDs := Lib.hid (dig10_of hb10 hws.1)
        have HDm := Lib.hid (show (I (digC s)).length = m by rw [I_len, digC_len]; omega)
        have h20 := hws.2.2
        rw [hw] at HWd
        have HWw := Lib.hid (fun da dc W (h : Ints W da m dc (digC s)) => show Calls Try.prog 53 #[.slice da m dc, .int .i64 ((10 : Nat) : Int), .int .i64 0] W (RetRow1 (ordS ((wrongL 0 10 (digC s)).map textOf)) W) from impl_wrongWords 0 10 (by omega) (by omega) (.inl (by omega)) da m dc (digC s) (fun x hx => by have := HDs.out x hx; omega) W h (by omega))
        rw [show ((10 : Nat) : Int) = C.base from hb10.symm] at HWw
        have HLn := Lib.hid (show ((wrongL 0 10 (digC s)).map textOf).length ≤ 1000 by rw [List.length_map]; exact wrongL_le 0 10 (digC s) (by omega) (by rw [digC_len]; exact h20))
        have HSz := Lib.hid (fun x (hx : x ∈ ordS ((wrongL 0 10 (digC s)).map textOf)) => show x.size ≤ 1048576 by
          rw [mem_ordS] at hx
          obtain ⟨t, ht, rfl⟩ := List.mem_map.1 hx
          rw [textOf_size, (wrong_dig (base := 10) (k := 0) (fun x hx => by have := HDs.out x hx; omega) (.inl (by omega)) ht).1, digC_len]; omega)
        have HEq := Lib.hid (show putAll ((ordS ((wrongL 0 10 (digC s)).map textOf)).filter (chkB C)) = likC C s from asc_eq (putAll_asc _) (putAll_asc _) fun x => by
          unfold likC
          rw [mem_putAll, mem_putAll, List.mem_filter, List.mem_filter, mem_ordS])
        have HOl := Lib.hid (show (ordS ((wrongL 0 10 (digC s)).map textOf)).length ≤ 1048576 by have := ordK_le ((wrongL 0 10 (digC s)).map textOf); rw [← ordS_len] at this; have := HLn.out; omega)
        have HCk := Lib.hid (fun (w3 : World) g p cp W (h3 : Ext w w3) (ho : Own W w3.heap.size 9 (some ⟨g, 0, none⟩) p cp (St (ordS ((wrongL 0 10 (digC s)).map textOf)))) (hx : Ext w3 W) hp => impl_checkedOf g p cp C a n c b m d (ordS ((wrongL 0 10 (digC s)).map textOf)) w3 W (HI.out.ext h3) ho hx hp HSz.out)
        rw [HEq.out] at HCk
        obtain ⟨L0, hL0⟩ : ∃ L, L = ordS ((wrongL 0 10 (digC s)).map textOf) := ⟨_, rfl⟩
        rw [← hL0] at HWw HOl HCk
        have HCl := Lib.hid (likC_len C s h20)
        clear hval hw hb10 hR hws hpl hL0 HEq HSz HLn
        go_enter Try.func18, Try.ntmps18
        go_wp2_with fail
        rw [← hwb, ← hq]
        clear hwb hq
        go_wp2_with (first | (go_at_call 33; (with_reducible refine (HV.out _ (hxa.trans (by repeat (first | (with_reducible exact Ext.refl _) | (with_reducible refine Ext.drewN ?_ _) | (with_reducible refine Ext.drew ?_) | (with_reducible refine Ext.alloc ?_ _) | ((with_reducible refine Ext.setCell ?_ ?_ _); rotate_left; focus (first | (simp; done) | (simp; omega) | omega)) | assumption | (with_reducible refine Ext.trans ?_ (by assumption)))))).mono ?_); rintro e w1 ⟨rfl, hy1⟩; have hx1 : Ext wb w1 := Ext.trans (by repeat (first | (with_reducible exact Ext.refl _) | (with_reducible refine Ext.drewN ?_ _) | (with_reducible refine Ext.drew ?_) | (with_reducible refine Ext.alloc ?_ _) | ((with_reducible refine Ext.setCell ?_ ?_ _); rotate_left; focus (first | (simp; done) | (simp; omega) | omega)) | assumption | (with_reducible refine Ext.trans ?_ (by assumption)))) hy1; clear hy1) | (go_at_call 34; (with_reducible refine (HWd.out _ (by repeat (first | (with_reducible exact Ext.refl _) | (with_reducible assumption) | (with_reducible refine Ext.drewN ?_ _) | (with_reducible refine Ext.drew ?_) | (with_reducible refine Ext.alloc ?_ _) | ((with_reducible refine Ext.setCell ?_ ?_ _); rotate_left; focus (first | (simp; done) | (simp; omega) | omega)) | (with_reducible refine Ext.trans ?_ (by with_reducible assumption))))).mono ?_); rintro e w2 ⟨da, dn, dc, rfl, hy2, ho2⟩; have hx2 : Ext wb w2 := Ext.trans (by repeat (first | (with_reducible exact Ext.refl _) | (with_reducible assumption) | (with_reducible refine Ext.drewN ?_ _) | (with_reducible refine Ext.drew ?_) | (with_reducible refine Ext.alloc ?_ _) | ((with_reducible refine Ext.setCell ?_ ?_ _); rotate_left; focus (first | (simp; done) | (simp; omega) | omega)) | (with_reducible refine Ext.trans ?_ (by with_reducible assumption)))) hy2; have ho2' := ho2 rfl; have htn : dn = m := (ho2'.len.symm.trans HDm.out); rw [htn] at ho2' ⊢; have HO2 := Lib.hid ho2'.ints; clear hy2 ho2 ho2' htn))
        obtain ⟨p6, hp6⟩ : ∃ p, p = w2.heap.size := ⟨_, rfl⟩
        obtain ⟨w3, hw3⟩ : ∃ W, W = w2.alloc (.cells #[.slice da m dc] 23) := ⟨_, rfl⟩
        have hx23 : Ext w2 w3 := by rw [hw3]; exact (Ext.refl _).alloc _
        have hxb3 : Ext wb w3 := hx2.trans hx23
        have hxw3 : Ext w w3 := hxa.trans hxb3
        have HV6 := Lib.hid (show VarAt w3 p6 23 (.slice da m dc) by rw [hw3, hp6]; exact VarAt.new _ _ _)
        have HD3 := Lib.hid (HO2.out.ext hx23)
        have HB3 := Lib.hid (HB.out.ext hxb3)
        rw [← hw3, ← hp6]
        clear hw3 hp6 HO2 HWd HV
        have c6 := fun W (h : Ext w3 W) => (HV6.out.ext h).cell
        have h33 : Ext w3 w3 := Ext.refl _
        (refine wp_region_from w3 (by repeat (first | (with_reducible exact Ext.refl _) | (with_reducible refine Ext.drewN ?_ _) | (with_reducible refine Ext.drew ?_) | (with_reducible refine Ext.alloc ?_ _) | ((with_reducible refine Ext.setCell ?_ ?_ _); rotate_left; focus (first | (simp; done) | (simp; omega) | omega)) | assumption | (with_reducible refine Ext.trans ?_ (by assumption)))) (by kernel_rfl) (by kernel_rfl) (by kernel_rfl) ?_; (repeat (first | (refine mix_q rfl ?_; go_big_quiet_step (fail); refine wpQuiet_nil ?_; show wpMix _ _ _ _ _ _ _) | (refine mix_s rfl ?_; go_wp2_with ((first | (go_at_call 53; (with_reducible refine (HWw.out da dc _ (HD3.out.ext (by repeat (first | (with_reducible exact Ext.refl _) | (with_reducible assumption) | (with_reducible refine Ext.drewN ?_ _) | (with_reducible refine Ext.drew ?_) | (with_reducible refine Ext.alloc ?_ _) | ((with_reducible refine Ext.setCell ?_ ?_ _); rotate_left; focus (first | (simp; done) | (simp; omega) | omega)) | (with_reducible refine Ext.trans ?_ (by with_reducible assumption)))))).mono ?_); rintro e w4 ⟨g4, c4, rfl, ho4, hy4⟩; have hx4 : Ext w3 w4 := Ext.trans (by repeat (first | (with_reducible exact Ext.refl _) | (with_reducible assumption) | (with_reducible refine Ext.drewN ?_ _) | (with_reducible refine Ext.drew ?_) | (with_reducible refine Ext.alloc ?_ _) | ((with_reducible refine Ext.setCell ?_ ?_ _); rotate_left; focus (first | (simp; done) | (simp; omega) | omega)) | (with_reducible refine Ext.trans ?_ (by with_reducible assumption)))) hy4; have HO4 := Lib.hid (Own.mono ho4 (Ext.le (show Ext w3 _ from (by repeat (first | (with_reducible exact Ext.refl _) | (with_reducible assumption) | (with_reducible refine Ext.drewN ?_ _) | (with_reducible refine Ext.drew ?_) | (with_reducible refine Ext.alloc ?_ _) | ((with_reducible refine Ext.setCell ?_ ?_ _); rotate_left; focus (first | (simp; done) | (simp; omega) | omega)) | (with_reducible refine Ext.trans ?_ (by with_reducible assumption))))))); clear hy4 ho4) | (go_at_call 52; (with_reducible refine (HCk.out w3 g4 _ c4 _ hxw3 (HO4.out.ext (by repeat (first | (with_reducible exact Ext.refl _) | (with_reducible assumption) | (with_reducible refine Ext.drewN ?_ _) | (with_reducible refine Ext.drew ?_) | (with_reducible refine Ext.alloc ?_ _) | ((with_reducible refine Ext.setCell ?_ ?_ _); rotate_left; focus (first | (simp; done) | (simp; omega) | omega)) | (with_reducible refine Ext.trans ?_ (by with_reducible assumption))))) (by repeat (first | (with_reducible exact Ext.refl _) | (with_reducible assumption) | (with_reducible refine Ext.drewN ?_ _) | (with_reducible refine Ext.drew ?_) | (with_reducible refine Ext.alloc ?_ _) | ((with_reducible refine Ext.setCell ?_ ?_ _); rotate_left; focus (first | (simp; done) | (simp; omega) | omega)) | (with_reducible refine Ext.trans ?_ (by with_reducible assumption)))) HOl.out).mono ?_); rintro e w5 ⟨c5, rfl, ho5, hx5⟩; have HO5 := Lib.hid ho5; clear ho5))); first | refine ⟨up_of (by repeat (first | (with_reducible exact Ext.refl _) | (with_reducible refine Ext.drewN ?_ _) | (with_reducible refine Ext.drew ?_) | (with_reducible refine Ext.alloc ?_ _) | ((with_reducible refine Ext.setCell ?_ ?_ _); rotate_left; focus (first | (simp; done) | (simp; omega) | omega)) | assumption | (with_reducible refine Ext.trans ?_ (by assumption)))), ?_⟩ | refine ⟨rfl, rfl, up_of (by repeat (first | (with_reducible exact Ext.refl _) | (with_reducible refine Ext.drewN ?_ _) | (with_reducible refine Ext.drew ?_) | (with_reducible refine Ext.alloc ?_ _) | ((with_reducible refine Ext.setCell ?_ ?_ _); rotate_left; focus (first | (simp; done) | (simp; omega) | omega)) | assumption | (with_reducible refine Ext.trans ?_ (by assumption)))), ?_⟩))); refine mix_nil ?_)
        have hst : ∀ (f : Nat) (cs : Array Value), (store ⟨w5.heap.size, 0, none⟩ (.func (.func f) #[] cs)).run Try.prog (w5.alloc (.cells #[.nilFunc] 86)) = .ok () ((w5.alloc (.cells #[.nilFunc] 86)).setCell ⟨w5.heap.size, 0, none⟩ (.func (.func f) #[] cs)) := fun f cs => by
          have h1 : (w5.alloc (.cells #[.nilFunc] 86)).cell? ⟨w5.heap.size, 0, none⟩ = some .nilFunc := (VarAt.new w5 86 .nilFunc).cell
          have h2 := (VarAt.new w5 86 .nilFunc).frozen
          rw [run_store Try.prog _ _ (.func (.func f) #[] cs) _ rfl]
          simp [h1, h2]
        go_wp2_with fail
        obtain ⟨p9, hp9⟩ : ∃ p, p = w5.heap.size := ⟨_, rfl⟩
        obtain ⟨w6, hw6⟩ : ∃ W, W = w5.alloc (.cells #[.func (.func 54) #[] #[.pointer (some ⟨q, 0, none⟩), .pointer (some ⟨p6, 0, none⟩)]] 86) := ⟨_, rfl⟩
        have hx6 : Ext w3 w6 := by rw [hw6]; exact hx5.alloc _
        have hx56 : Ext w5 w6 := by rw [hw6]; exact (Ext.refl _).alloc _
        have HV9 := Lib.hid (show VarAt w6 p9 86 (.func (.func 54) #[] #[.pointer (some ⟨q, 0, none⟩), .pointer (some ⟨p6, 0, none⟩)]) by rw [hw6, hp9]; exact VarAt.new _ _ _)
        have hg4 := HO5.out.lt
        have hpg : p9 ≠ g4 := by omega
        have HRow := Lib.hid (show RowT w6 w3.heap.size g4 (likC C s).length c5 (likC C s) from HO5.out.ext hx56)
        have HCmp := Lib.hid (show CmpK (keyS' (digC s)) (WordQ C) 57 #[.pointer (some ⟨p9, 0, none⟩)] g4 w6 from
          ⟨fun _ _ => rfl, fun x y hx hy => ⟨cmpI (keyS' (digC s) x) (keyS' (digC s) y), by unfold cmpI; split <;> (try split) <;> omega, fun W hc => like_cmp C HOk.out q p6 p9 a n c b m d da dc (digC s) HDs.out x y hx hy W (stpE_chg HB3.out HV6.out HD3.out HV9.out hx6 hg4.1 hpg hc)⟩⟩)
        have HSt := Lib.hid (sortStable_strs (keyS' (digC s)) (WordQ C) 57 #[.pointer (some ⟨p9, 0, none⟩)] w3.heap.size g4 (likC C s).length c5 w6 HCmp.out (by have := HCl.out; omega) (likC C s) (putAll_asc _) (fun x hx => (likC_mem HB10.out HR.out hx).2.1) HRow.out)
        rw [← hw6, ← hp9]
        clear hw6 hp9 hst hpg c6 k0 k1 k2 k3 k4 k5
        go_wp2_with ((with_reducible refine HSt.out.mono ?_); rintro e w7 ⟨rfl, ⟨l, hp7, ha7, hr7⟩, hc7⟩; have HR7 := Lib.hid (And.intro hp7 (And.intro ha7 (And.intro hr7 hc7))); clear hp7 ha7 hr7 hc7)
        obtain ⟨hp7, ha7, hr7, hc7⟩ := HR7.out
        have hle := lik_uniq HB10.out HR.out hp7 ha7
        have hln := hr7.len
        go_ret2
        refine ⟨some ⟨g4, 0, none⟩, c5, ?_, ?_, hxw3.trans (hc7.to hx6 hg4.1)⟩
        · rw [HBt.out, ← hle, hln]; rfl
        · rw [← hle, hln]; exact Own.mono hr7 hxw3.le
    · have hne : (C.base != 10) = true := by simpa using hb10
      have HN := Lib.hid (show likB C s = false by unfold likB; rw [decide_eq_false hb10, Bool.and_false])
      clear hval HB hb10
      go_enter Try.func18, Try.ntmps18
      go_wp2_with fail
      rw [← hwb, ← hq]
      clear hwb hq
      go_wp2_with (refine (HV.out _ (hxa.trans (by repeat (first | (with_reducible exact Ext.refl _) | (with_reducible refine Ext.drewN ?_ _) | (with_reducible refine Ext.drew ?_) | (with_reducible refine Ext.alloc ?_ _) | ((with_reducible refine Ext.setCell ?_ ?_ _); rotate_left; focus (first | (simp; done) | (simp; omega) | omega)) | assumption | (with_reducible refine Ext.trans ?_ (by assumption)))))).mono ?_; rintro e w1 ⟨rfl, hx1⟩)
      go_ret2
      exact RetTO.no HN.out (likL_no HN.out) (hxa.trans (by repeat (first | (with_reducible exact Ext.refl _) | (with_reducible refine Ext.drewN ?_ _) | (with_reducible refine Ext.drew ?_) | (with_reducible refine Ext.alloc ?_ _) | ((with_reducible refine Ext.setCell ?_ ?_ _); rotate_left; focus (first | (simp; done) | (simp; omega) | omega)) | assumption | (with_reducible refine Ext.trans ?_ (by assumption)))))
end Go.Proofs.Ytbcfbkhbangeoaa
