/- Walks: the least distance from two states on, one place more, in the program. -/
import Derived.Test.YtaiieodllhoelaaReac
import Derived.Test.YtaiieodllhoelaaBothG
import Derived.Deep.RegionHeld3
import Derived.Deep.CutRange
import Derived.Test.YtaiieodllhoelaaPaiC
namespace Go.Proofs.Ytaiieodllhoelaa
set_option maxRecDepth 100000
open Go.RowKit

/-- the least of what one place more gives -/
def RetStp (D : Ch) (r : Nat) (s t : Nat) (w : World) (e : Ending) (w' : World) : Prop :=
  ∃ v : Int, e = .returned (.int .i64 v) ∧ IsMin v 1099511627776 (ApF D (r + 1) s t) ∧ Ext w w'
theorem IsMin.bd {v F : Int} {P : Nat → Prop} (h : IsMin v F P) (hF : 0 ≤ F) : 0 ≤ v ∧ v ≤ F := by
  refine ⟨?_, h.le⟩
  rcases h.at' with h1 | ⟨d, _, h2⟩ <;> omega
section
variable (D : Ch) (r kk s t : Nat)
/-- with one symbol for both, those up to i -/
def P1 (i : Nat) (d : Nat) : Prop := ∃ a : Nat, a < i ∧ ApF D r (nextS D kk s a) (nextS D kk t a) d
theorem stp0 (_bs : Nat) : IsMin 1099511627776 1099511627776 (P1 D r kk s t 0) := IsMin.none _ fun d ⟨a, h, _⟩ => by omega
variable {D r kk s t}
theorem stp1 {v u : Int} {i : Nat} (h : IsMin v 1099511627776 (P1 D r kk s t i)) (k : IsMin u 1099511627776 (ApF D r (nextS D kk s i) (nextS D kk t i))) : IsMin (min v u) 1099511627776 (P1 D r kk s t (i + 1)) :=
  (h.or k).congr fun d => ⟨fun h => h.elim (fun ⟨a, h1, h2⟩ => ⟨a, by omega, h2⟩) fun h => ⟨i, by omega, h⟩, fun ⟨a, h1, h2⟩ => by
    by_cases e : a = i
    · subst e; exact .inr h2
    · exact .inl ⟨a, by omega, h2⟩⟩
theorem min_if (v u : Int) : (if u < v then u else v) = min v u := by split <;> omega
theorem min_if1 (v u : Int) : (if u + 1 < v then u + 1 else v) = min v (u + 1) := by split <;> omega
variable (D r kk s t)
/-- besides, with two symbols, the first to one of the first i states -/
def P2 (bs : Nat) (La : List Int) (i : Nat) (d : Nat) : Prop := P1 D r kk s t bs d ∨ ∃ k, k < i ∧ ∃ b : Nat, (b : Int) < D.base ∧ ∃ d', ApF D r (gi La k) (nextS D kk t b) d' ∧ d = d' + 1
def P3 (bs : Nat) (La : List Int) (i : Nat) (Lb : List Int) (m : Nat) (d : Nat) : Prop := P2 D r kk s t bs La i d ∨ ∃ j, j < m ∧ ∃ d', ApF D r (gi La i) (gi Lb j) d' ∧ d = d' + 1
variable {D r kk s t}
theorem stp2z {v : Int} {bs : Nat} (La : List Int) (h : IsMin v 1099511627776 (P1 D r kk s t bs)) : IsMin v 1099511627776 (P2 D r kk s t bs La 0) :=
  h.congr fun d => ⟨.inl, fun h => h.elim id fun ⟨k, h, _⟩ => by omega⟩
theorem stp3z {v : Int} {bs : Nat} {La : List Int} {i : Nat} (Lb : List Int) (h : IsMin v 1099511627776 (P2 D r kk s t bs La i)) : IsMin v 1099511627776 (P3 D r kk s t bs La i Lb 0) :=
  h.congr fun d => ⟨.inl, fun h => h.elim id fun ⟨k, h, _⟩ => by omega⟩
theorem stp3 {v u : Int} {bs : Nat} {La Lb : List Int} {i m : Nat} (h : IsMin v 1099511627776 (P3 D r kk s t bs La i Lb m)) (k : IsMin u 1099511627776 (ApF D r (gi La i) (gi Lb m))) : IsMin (min v (u + 1)) 1099511627776 (P3 D r kk s t bs La i Lb (m + 1)) :=
  (h.orS k).congr fun d => ⟨fun h => h.elim (fun h => h.elim .inl fun ⟨j, h1, h2⟩ => .inr ⟨j, by omega, h2⟩) fun ⟨d', h1, h2⟩ => .inr ⟨m, by omega, d', h1, h2⟩, fun h => h.elim (fun h => .inl (.inl h)) fun ⟨j, h1, d', h2, h3⟩ => by
    by_cases e : j = m
    · subst e; exact .inr ⟨d', h2, h3⟩
    · exact .inl (.inr ⟨j, by omega, d', h2, h3⟩)⟩
theorem stp3e {v : Int} {bs : Nat} {La Lb : List Int} {i : Nat} (hm : ∀ v, v ∈ Lb ↔ ∃ d : Nat, (d : Int) < D.base ∧ v = nextS D kk t d) (h : IsMin v 1099511627776 (P3 D r kk s t bs La i Lb Lb.length)) : IsMin v 1099511627776 (P2 D r kk s t bs La (i + 1)) :=
  h.congr fun d => ⟨fun h => h.elim (fun h => h.elim .inl fun ⟨k, h1, h2⟩ => .inr ⟨k, by omega, h2⟩) fun ⟨j, h1, d', h2, h3⟩ => by
      obtain ⟨b, hb, he⟩ := (hm _).1 (mem_gi.2 ⟨j, h1, rfl⟩)
      exact .inr ⟨i, by omega, b, hb, d', he ▸ h2, h3⟩,
    fun h => h.elim (fun h => .inl (.inl h)) fun ⟨k, h1, b, hb, d', h2, h3⟩ => by
      by_cases e : k = i
      · subst e
        obtain ⟨j, hj, he⟩ := mem_gi.1 ((hm _).2 ⟨b, hb, rfl⟩)
        exact .inr ⟨j, hj, d', he ▸ h2, h3⟩
      · exact .inl (.inr ⟨k, by omega, b, hb, d', h2, h3⟩)⟩
theorem stp4 {v : Int} {bs n' : Nat} {La : List Int} (hm : ∀ v, v ∈ La ↔ ∃ d : Nat, (d : Int) < D.base ∧ v = nextS D kk s d) (hbs : D.base = bs) (hk : kk = n' - (r + 1)) (hp : D.places.length = n') (h : IsMin v 1099511627776 (P2 D r kk s t bs La La.length)) : IsMin v 1099511627776 (ApF D (r + 1) s t) := by
  subst hp
  have key : ∀ d, ApF D (r + 1) s t d → P2 D r kk s t bs La La.length d := by
    rintro d ⟨a, b, ha, hb, d', h1, h2⟩
    rw [← hk] at h1
    by_cases e : a = b
    · subst e
      rw [if_pos rfl] at h2
      exact .inl ⟨a, by unfold IsDg at ha; omega, by rw [h2]; exact h1⟩
    · rw [if_neg e] at h2
      obtain ⟨k, hk1, hk2⟩ := mem_gi.1 ((hm _).2 ⟨a, ha, rfl⟩)
      exact .inr ⟨k, hk1, b, hb, d', hk2 ▸ h1, h2⟩
  refine ⟨h.le, fun d hd => h.lb d (key d hd), h.at'.imp id ?_⟩
  rintro ⟨d, h1, rfl⟩
  refine ⟨d, ?_, rfl⟩
  rcases h1 with ⟨a, h1, h2⟩ | ⟨k, h1, b, hb, d', h2, rfl⟩
  · exact ⟨a, a, by unfold IsDg; omega, by unfold IsDg; omega, d, by rw [← hk]; exact h2, by rw [if_pos rfl]; rfl⟩
  · obtain ⟨a, ha, he⟩ := (hm _).1 (mem_gi.2 ⟨k, h1, rfl⟩)
    rw [he] at h2
    by_cases e : a = b
    · subst e
      have := h.lb d' (.inl ⟨a, by omega, h2⟩)
      omega
    · exact ⟨a, b, ha, hb, d', by rw [← hk]; exact h2, by rw [if_neg e]⟩
end
set_option maxHeartbeats 8000000 in
theorem impl_step (D : Ch) (q : Nat) (a : Option Addr) (n c : Nat) (a' : Option Addr) (n' c' : Nat) (r kk s t S bs B gg : Nat) (F : Nat → Nat → Int) (G : Nat → Nat) (w : World) (hv : ChAt w q D a n c a' n' c') (hok : OkCh D) (hb12 : D.base ≤ 12)
    (hS : D.states = S) (hbs : D.base = bs) (hkk : kk < n') (hkr : kk = n' - (r + 1)) (hs : s < S) (ht : t < S)
    (hg : Grid w B 25 2 (some ⟨gg, 0, none⟩) S S S F G (fun _ => S)) (hF : ∀ x, x < S → ∀ y, y < S → IsMin (F x y) 1099511627776 (ApF D r x y)) :
    Calls Try.prog 182 #[.pointer (some ⟨q, 0, none⟩), .int .i64 kk, .int .i64 s, .int .i64 t, .slice (some ⟨gg, 0, none⟩) S S] w (RetStp D r s t w) := by
  have HP := Lib.hid hv.ps.len
  have HV := Lib.hid hv
  have HOK := Lib.hid hok
  have HG := Lib.hid hg
  have HF := Lib.hid hF
  obtain ⟨k0, k1, k2, k3, k4, k5, _, _⟩ := hv
  have b2 := hok.b2
  have b36 := hok.b36
  have hS36 := hok.s36
  simp only [hS] at k1
  simp only [hbs] at k0
  have hS36' : S ≤ 36 := by omega
  have hbs' : bs ≤ 36 := by omega
  have HNx := Lib.hid (fun (i x d : Nat) (hi : i < n') (hx : x < S) (hd : d < bs) => hok.next (p := i) (x := x) (d := d) (by omega) (by rw [HP.out]; omega) (by omega) (by omega) (by omega) (by omega))
  have HB12 := Lib.hid hb12
  have HhS := Lib.hid hS; clear hS; have Hhbs := Lib.hid hbs; clear hbs; have HhS36 := Lib.hid hS36; clear hS36; have Hhkr := Lib.hid hkr; clear hkr
  clear hok hg hF hb12
  go_enter Try.func182, Try.ntmps182
  go_wp2
  have hw0 : Ext w w := Ext.refl _
  have HI0 := Lib.hid (stp0 D r kk s t bs)
  go_loopw [11, 21] (fun v11 v21 wr => ∃ (i : Nat) (v : Int), i ≤ bs ∧ v21 = .int .i64 i ∧ v11 = .int .i64 v ∧ Hid (IsMin v 1099511627776 (P1 D r kk s t i)) ∧ Ext w wr) (fun _ v21 _ => bs - (intOf v21).toNat)
  case atStart => exact ⟨0, _, Nat.zero_le _, rfl, rfl, HI0, hw0⟩
  case round =>
    clear HI0
    obtain ⟨d, v, hd, rfl, rfl, HI, hxr⟩ := hrel
    by_cases hld : d < bs
    · obtain ⟨ya0, ya1⟩ := HNx.out kk s d hkk hs hld
      obtain ⟨yb0, yb1⟩ := HNx.out kk t d hkk ht hld
      obtain ⟨ya, hya⟩ := Int.eq_ofNat_of_zero_le ya0
      obtain ⟨yb, hyb⟩ := Int.eq_ofNat_of_zero_le yb0
      have hyaS : ya < S := by have := HhS.out; omega
      have hybS : yb < S := by have := HhS.out; omega
      have HC1 := Lib.hid (fun W (h : Ext w W) => impl_next D q a n c a' n' c' (kk : Int) (s : Int) (d : Int) W (HV.out.ext h) HOK.out (by omega) (by have := HP.out; omega) (by omega) (by have := HhS.out; omega) (by omega) (by have := Hhbs.out; omega))
      have HC2 := Lib.hid (fun W (h : Ext w W) => impl_next D q a n c a' n' c' (kk : Int) (t : Int) (d : Int) W (HV.out.ext h) HOK.out (by omega) (by have := HP.out; omega) (by omega) (by have := HhS.out; omega) (by omega) (by have := Hhbs.out; omega))
      have HF1 := HF.out ya hyaS yb hybS
      rw [← hya, ← hyb] at HF1
      have HI2 := Lib.hid (stp1 HI.out HF1)
      rw [hya] at HC1
      rw [hyb] at HC2
      obtain ⟨b2', o2, g1, g2, g3, g4, _⟩ := HG.out.one (P := Try.prog) 88 25 und_grid cell_row1 und_int64s cell_int64 (i := ya) (x := yb) hyaS hybS
      clear ya0 ya1 yb0 yb1 hya hyb HF1
      go_wp2
      (refine wp_region_from wr (by repeat (first | (with_reducible exact Ext.refl _) | (with_reducible refine Ext.drewN ?_ _) | (with_reducible refine Ext.drew ?_) | (with_reducible refine Ext.alloc ?_ _) | ((with_reducible refine Ext.setCell ?_ ?_ _); rotate_left; focus (first | (simp; done) | (simp; omega) | omega)) | assumption | (with_reducible refine Ext.trans ?_ (by assumption)))) (by kernel_rfl) (by kernel_rfl) (by kernel_rfl) ?_; (repeat (first | (refine mix_q rfl ?_; go_big_quiet_step (fail); refine wpQuiet_nil ?_; show wpMix _ _ _ _ _ _ _) | (refine mix_s rfl ?_; go_wp2_with (first | ((with_reducible refine (HC1.out _ (by repeat (first | (with_reducible exact Ext.refl _) | (with_reducible assumption) | (with_reducible refine Ext.drewN ?_ _) | (with_reducible refine Ext.drew ?_) | (with_reducible refine Ext.alloc ?_ _) | ((with_reducible refine Ext.setCell ?_ ?_ _); rotate_left; focus (first | (simp; done) | (simp; omega) | omega)) | (with_reducible refine Ext.trans ?_ (by with_reducible assumption))))).mono ?_); rintro e w6 ⟨rfl, hy6⟩; have hxr6 : Ext wr w6 := Ext.trans (by repeat (first | (with_reducible exact Ext.refl _) | (with_reducible assumption) | (with_reducible refine Ext.drewN ?_ _) | (with_reducible refine Ext.drew ?_) | (with_reducible refine Ext.alloc ?_ _) | ((with_reducible refine Ext.setCell ?_ ?_ _); rotate_left; focus (first | (simp; done) | (simp; omega) | omega)) | (with_reducible refine Ext.trans ?_ (by with_reducible assumption)))) hy6; have hxw6 : Ext w w6 := hxr.trans hxr6; clear hy6) | ((with_reducible refine (HC2.out _ (by repeat (first | (with_reducible exact Ext.refl _) | (with_reducible assumption) | (with_reducible refine Ext.drewN ?_ _) | (with_reducible refine Ext.drew ?_) | (with_reducible refine Ext.alloc ?_ _) | ((with_reducible refine Ext.setCell ?_ ?_ _); rotate_left; focus (first | (simp; done) | (simp; omega) | omega)) | (with_reducible refine Ext.trans ?_ (by with_reducible assumption))))).mono ?_); rintro e w7 ⟨rfl, hy7⟩; have hxr7 : Ext wr w7 := Ext.trans (by repeat (first | (with_reducible exact Ext.refl _) | (with_reducible assumption) | (with_reducible refine Ext.drewN ?_ _) | (with_reducible refine Ext.drew ?_) | (with_reducible refine Ext.alloc ?_ _) | ((with_reducible refine Ext.setCell ?_ ?_ _); rotate_left; focus (first | (simp; done) | (simp; omega) | omega)) | (with_reducible refine Ext.trans ?_ (by with_reducible assumption)))) hy7; have hxw7 : Ext w w7 := hxr.trans hxr7; clear hy7)); first | refine ⟨up_of (by repeat (first | (with_reducible exact Ext.refl _) | (with_reducible refine Ext.drewN ?_ _) | (with_reducible refine Ext.drew ?_) | (with_reducible refine Ext.alloc ?_ _) | ((with_reducible refine Ext.setCell ?_ ?_ _); rotate_left; focus (first | (simp; done) | (simp; omega) | omega)) | assumption | (with_reducible refine Ext.trans ?_ (by assumption)))), ?_⟩ | refine ⟨rfl, rfl, up_of (by repeat (first | (with_reducible exact Ext.refl _) | (with_reducible refine Ext.drewN ?_ _) | (with_reducible refine Ext.drew ?_) | (with_reducible refine Ext.alloc ?_ _) | ((with_reducible refine Ext.setCell ?_ ?_ _); rotate_left; focus (first | (simp; done) | (simp; omega) | omega)) | assumption | (with_reducible refine Ext.trans ?_ (by assumption)))), ?_⟩))); refine mix_nil ?_)
      go_wp2
      exact ⟨⟨d + 1, _, by omega, by go_num, rfl, Lib.hid (by first | exact HI2.out | (rw [min_if]; exact HI2.out)), hxw7⟩, by simp [intOf]; omega⟩
    · obtain rfl : d = bs := by omega
      have HR := Lib.hid (fun (x : Nat) (hx : x < S) W (h : Ext w W) => impl_reached D q a n c a' n' c' (kk : Int) (x : Int) W (HV.out.ext h) HOK.out HB12.out (by omega) (by have := HP.out; omega) (by omega) (by have := HhS.out; omega))
      go_wp2_with (go_at_call 194; (with_reducible refine (HR.out s hs _ (by repeat (first | (with_reducible exact Ext.refl _) | (with_reducible assumption) | (with_reducible refine Ext.drewN ?_ _) | (with_reducible refine Ext.drew ?_) | (with_reducible refine Ext.alloc ?_ _) | ((with_reducible refine Ext.setCell ?_ ?_ _); rotate_left; focus (first | (simp; done) | (simp; omega) | omega)) | (with_reducible refine Ext.trans ?_ (by with_reducible assumption))))).mono ?_); rintro e w4 ⟨ra, rm, rc, La, rfl, ho4, hma4, hy4, hm12⟩; have hx4 : Ext w w4 := Ext.trans (by repeat (first | (with_reducible exact Ext.refl _) | (with_reducible assumption) | (with_reducible refine Ext.drewN ?_ _) | (with_reducible refine Ext.drew ?_) | (with_reducible refine Ext.alloc ?_ _) | ((with_reducible refine Ext.setCell ?_ ?_ _); rotate_left; focus (first | (simp; done) | (simp; omega) | omega)) | (with_reducible refine Ext.trans ?_ (by with_reducible assumption)))) hy4; have HO4 := Lib.hid ho4; have HM4 := Lib.hid hma4; clear ho4 hma4 hy4)
      have HJ0 := Lib.hid (stp2z (bs := d) La HI.out)
      have HL4 := Lib.hid (show La.length = rm from (I_len La).symm.trans HO4.out.len)
      have hx44 : Ext w4 w4 := Ext.refl _
      clear HI
      go_loopw [11, 47] (fun v11 v47 wr => ∃ (i : Nat) (v : Int), i ≤ rm ∧ v47 = .int .i64 i ∧ v11 = .int .i64 v ∧ Hid (IsMin v 1099511627776 (P2 D r kk s t d La i)) ∧ Ext w4 wr) (fun _ v47 _ => rm - (intOf v47).toNat)
      case atStart => exact ⟨0, _, Nat.zero_le _, rfl, rfl, HJ0, hx44⟩
      case round =>
        clear HJ0
        obtain ⟨i, v2, hi, rfl, rfl, HJ, hxr4⟩ := hrel
        have hxwr : Ext w wr := hx4.trans hxr4
        by_cases hli : i < rm
        · obtain ⟨b5, o5, f1, f2⟩ := (HO4.out.ext hxr4).ints.one (P := Try.prog) 25 2 und_int64s cell_int64 (i : Int) (by omega) (by omega)
          rw [Int.toNat_natCast] at f2
          obtain ⟨xd, hxd, hxe⟩ := (HM4.out (gi La i)).1 (mem_gi.2 ⟨i, by rw [HL4.out]; exact hli, rfl⟩)
          obtain ⟨ya0, ya1⟩ := HNx.out kk s xd hkk hs (by have := Hhbs.out; omega)
          rw [← hxe] at ya0 ya1
          obtain ⟨ya, hya⟩ := Int.eq_ofNat_of_zero_le ya0
          have hyaS : ya < S := by have := HhS.out; omega
          have HYa := Lib.hid hya
          rw [hya] at f2
          clear hxe hya ya0 ya1 hxd
          go_wp2_with (go_at_call 194; (with_reducible refine (HR.out t ht _ (by repeat (first | (with_reducible exact Ext.refl _) | (with_reducible assumption) | (with_reducible refine Ext.drewN ?_ _) | (with_reducible refine Ext.drew ?_) | (with_reducible refine Ext.alloc ?_ _) | ((with_reducible refine Ext.setCell ?_ ?_ _); rotate_left; focus (first | (simp; done) | (simp; omega) | omega)) | (with_reducible refine Ext.trans ?_ (by with_reducible assumption))))).mono ?_); rintro e w5 ⟨rb, rn, rd, Lb, rfl, ho5, hma5, hy5, hn12⟩; have hx5 : Ext w w5 := Ext.trans (by repeat (first | (with_reducible exact Ext.refl _) | (with_reducible assumption) | (with_reducible refine Ext.drewN ?_ _) | (with_reducible refine Ext.drew ?_) | (with_reducible refine Ext.alloc ?_ _) | ((with_reducible refine Ext.setCell ?_ ?_ _); rotate_left; focus (first | (simp; done) | (simp; omega) | omega)) | (with_reducible refine Ext.trans ?_ (by with_reducible assumption)))) hy5; have HO5 := Lib.hid ho5; have HM5 := Lib.hid hma5; have HX5 := Lib.hid hy5; clear ho5 hma5 hy5)
          have HK0 := Lib.hid (stp3z Lb HJ.out)
          have HL5 := Lib.hid (show Lb.length = rn from (I_len Lb).symm.trans HO5.out.len)
          have hx55 : Ext w5 w5 := Ext.refl _
          have HX5w := Lib.hid (show Ext wr w5 from Ext.trans (by repeat (first | (with_reducible exact Ext.refl _) | (with_reducible assumption) | (with_reducible refine Ext.drewN ?_ _) | (with_reducible refine Ext.drew ?_) | (with_reducible refine Ext.alloc ?_ _) | ((with_reducible refine Ext.setCell ?_ ?_ _); rotate_left; focus (first | (simp; done) | (simp; omega) | omega)) | (with_reducible refine Ext.trans ?_ (by with_reducible assumption)))) HX5.out)
          clear HJ f1 f2
          go_loopw [11, 56] (fun v11 v56 wi => ∃ (m : Nat) (v : Int), m ≤ rn ∧ v56 = .int .i64 m ∧ v11 = .int .i64 v ∧ Hid (IsMin v 1099511627776 (P3 D r kk s t d La i Lb m)) ∧ Ext w5 wi) (fun _ v56 _ => rn - (intOf v56).toNat)
          case atStart => exact ⟨0, _, Nat.zero_le _, rfl, rfl, HK0, hx55⟩
          case round =>
            clear HK0
            obtain ⟨m, v3, hm, rfl, rfl, HK, hxi⟩ := hrel
            by_cases hlm : m < rn
            · obtain ⟨b6, o6, f1, f2⟩ := (HO5.out.ext hxi).ints.one (P := Try.prog) 25 2 und_int64s cell_int64 (m : Int) (by omega) (by omega)
              rw [Int.toNat_natCast] at f2
              obtain ⟨xd, hxd, hxe⟩ := (HM5.out (gi Lb m)).1 (mem_gi.2 ⟨m, by rw [HL5.out]; exact hlm, rfl⟩)
              obtain ⟨yb0, yb1⟩ := HNx.out kk t xd hkk ht (by have := Hhbs.out; omega)
              rw [← hxe] at yb0 yb1
              obtain ⟨yb, hyb⟩ := Int.eq_ofNat_of_zero_le yb0
              have hybS : yb < S := by have := HhS.out; omega
              have HF1 := HF.out ya hyaS yb hybS
              obtain ⟨u3, u4⟩ := HF1.bd (by decide)
              have HK2 := Lib.hid (stp3 (i := i) (m := m) HK.out (u := F ya yb) (by rw [HYa.out, hyb]; exact HF1))
              rw [hyb] at f2
              obtain ⟨b2', o2, g1, g2, g3, g4, _⟩ := (HG.out.ext (hx5.trans hxi)).one (P := Try.prog) 88 25 und_grid cell_row1 und_int64s cell_int64 (i := ya) (x := yb) hyaS hybS
              have hwi : Ext wr wr := Ext.refl _
              clear hxe hyb yb0 yb1 hxd HF1
              go_wp2
              exact ⟨⟨m + 1, _, by omega, by go_num, rfl, Lib.hid (by first | exact HK2.out | (rw [min_if1]; exact HK2.out)), hxi⟩, by simp [intOf]; omega⟩
            · obtain rfl : m = rn := by omega
              have HKe := Lib.hid (stp3e HM5.out (by rw [HL5.out]; exact HK.out))
              go_wp2
              exact ⟨⟨i + 1, v3, by omega, by go_num, rfl, HKe, (hxr4.trans HX5w.out).trans hxi⟩, by simp [intOf]; omega⟩
        · obtain rfl : i = rm := by omega
          go_wp2
          go_ret
          exact ⟨_, rfl, stp4 HM4.out Hhbs.out Hhkr.out HP.out (by rw [HL4.out]; exact HJ.out), hxwr⟩
end Go.Proofs.Ytaiieodllhoelaa

/- Words: rows that are laid one by one beside another row; the least distances in them. -/
namespace Go.Proofs.Ytaiieodllhoelaa
set_option maxRecDepth 100000
open Go.RowKit

section
variable {w w' : World} {B : Nat} {E1 E0 : TypeId} {g n c S k : Nat} {vs : List Value} {F : Nat → Nat → Int} {G : Nat → Nat}
/-- one row more, its numbers f -/
theorem GridU.layR {w5 : World} {B' g' : Nat} (h : GridU w B E1 E0 g n c S k vs F G) (hx : Ext w w5) (f : Nat → Int)
    (hr : Own w5 B' E0 (some ⟨g', 0, none⟩) S S (I ((List.range S).map f))) (hg' : w.heap.size ≤ g') (hk : k < n) (hB : B ≤ w.heap.size) (hE : E1 ≠ E0) :
    GridU (w5.setCell ⟨g, k, none⟩ (.slice (some ⟨g', 0, none⟩) S S)) B E1 E0 g n c S (k + 1) (vs.set k (.slice (some ⟨g', 0, none⟩) S S)) (fun j y => if j = k then f y else F j y) (fun j => if j = k then g' else G j) := by
  have ho5 := h.outer.ext hx
  have hl := h.outer.len
  have hrI : Own w5 B E0 (some ⟨g', 0, none⟩) S S (I (rowF (fun j y => if j = k then f y else F j y) S k)) := by
    rw [show rowF (fun j y => if j = k then f y else F j y) S k = (List.range S).map f by simp [rowF]]
    refine ⟨hr.1, ?_⟩
    rcases hr.2 with h2 | ⟨b, cap, cur, hv, _, r⟩
    · exact .inl h2
    · simp only [Value.slice.injEq, Option.some.injEq, Addr.mk.injEq, true_and, and_true] at hv
      exact .inr ⟨b, cap, cur, by simp [hv.1, hv.2], by omega, r⟩
  have nw : ∀ j, j < k → G j < w.heap.size := fun j h1 => (h.row j h1).lt.2
  refine ⟨ho5.set k _, fun j h1 => ?_, fun j h1 => ?_, fun j j' h1 h1' he => ?_⟩
  · by_cases e : j = k
    · subst e
      simp [gv, List.getD_eq_getElem?_getD, show j < vs.length by omega]
    · have h3 := h.at' j (by omega)
      simp only [gv, List.getD_eq_getElem?_getD] at h3 ⊢
      rw [List.getElem?_set_ne (fun h => e h.symm), h3, if_neg e]
  · have hne : ∀ {b : Nat} {vs' : List Value} {S' c' : Nat} {B2 : Nat}, Own w5 B2 E0 (some ⟨b, 0, none⟩) S' c' vs' → Own (w5.setCell ⟨g, k, none⟩ (.slice (some ⟨g', 0, none⟩) S S)) B2 E0 (some ⟨b, 0, none⟩) S' c' vs' := fun ho => by
      refine ho.other _ fun g2 hg2 => ?_
      exact own_ne_type ho ho5 (fun h => hE h.symm) g2 ⟨g, 0, none⟩ hg2 rfl
    by_cases e : j = k
    · subst e; rw [if_pos rfl]; exact hne hrI
    · rw [if_neg e, rowF_congr (F' := F) (fun y _ => if_neg e)]; exact hne ((h.row j (by omega)).ext hx)
  · by_cases e : j = k <;> by_cases e' : j' = k
    · omega
    · rw [if_pos e, if_neg e'] at he; have := nw j' (by omega); omega
    · rw [if_neg e, if_pos e'] at he; have := nw j (by omega); omega
    · rw [if_neg e, if_neg e'] at he; exact h.inj j j' (by omega) (by omega) he
/-- a cell of a row beside is set -/
theorem GridU.other (h : GridU w B E1 E0 g n c S k vs F G) {b : Nat} (i : Nat) (u : Value) (h1 : g ≠ b) (h2 : ∀ j, j < k → G j ≠ b) : GridU (w.setCell ⟨b, i, none⟩ u) B E1 E0 g n c S k vs F G := by
  refine ⟨h.outer.other _ fun g' hg => ?_, h.at', fun j hj => (h.row j hj).other _ fun g' hg => ?_, h.inj⟩
  · simp only [Option.some.injEq] at hg; subst hg; exact h1
  · simp only [Option.some.injEq] at hg; subst hg; exact h2 j hj
end
theorem own_beside {w : World} {B : Nat} {E : TypeId} {g n c : Nat} {vs : List Value} (h : Own w B E (some ⟨g, 0, none⟩) n c vs) {b : Nat} (i : Nat) (u : Value) (h1 : g ≠ b) : Own (w.setCell ⟨b, i, none⟩ u) B E (some ⟨g, 0, none⟩) n c vs := by
  refine h.other _ fun g' hg => ?_
  simp only [Option.some.injEq] at hg; subst hg; exact h1

/-- make, as an equation -/
theorem make_eq {P : Program} (t e : TypeId) (z : Value) (bytes : Nat) (h1 : P.underlying t = some (.slice e)) (h2 : (P.info? e).map (fun i => (i.zero, i.size, i.bytes)) = some (some z, 1, bytes)) (hz : z.cells = #[z]) (n : Nat) (b2 : bytes * n ≤ 281474976710656) (b3 : n ≤ maxLen) :
    ∃ cs : Array Value, (∀ W : World, (Instr.makeSlice t (.int .i64 n) (.int .i64 n)).run P W = .ok (.slice (some ⟨W.heap.size, 0, none⟩) n n) (W.alloc (.cells cs e))) ∧ ∀ W : World, Own (W.alloc (.cells cs e)) W.heap.size e (some ⟨W.heap.size, 0, none⟩) n n (List.replicate n z) := by
  obtain ⟨i, hi, hz0, hz1, rfl⟩ := info_parts h2
  refine ⟨madeCells z.cells (n * 1), fun W => ?_, fun W => ?_⟩
  · have hb : (i.bytes : Int) * (n : Int) ≤ 281474976710656 := by
      have : ((i.bytes * n : Nat) : Int) ≤ 281474976710656 := by omega
      rwa [Int.natCast_mul] at this
    have hr := run_make (P := P) W t e i z h1 hi hz0 .i64 .i64 n n (by omega) (Int.le_refl _) hb (by have := b3; simp [maxLen] at this; omega)
    simp only [Int.toNat_natCast] at hr
    rw [hz1] at hr
    exact hr
  · have h := World.ownsRow_lit (e := e) (size := 1) (base := W.heap.size) W (madeCells z.cells (n * 1)) n (Nat.le_refl _) b3 (by simp [size_madeCells])
    rw [made_one z n hz] at h
    exact h

/-! ### plain -/
section
variable (D : Ch)
theorem ApF.symm : ∀ (r : Nat) (x y : Int) (d : Nat), ApF D r x y d → ApF D r y x d
  | 0, _, _, _, ⟨h1, h2, h3⟩ => ⟨h2, h1, h3⟩
  | r + 1, _, _, _, ⟨a, b, ha, hb, d', h, h2⟩ => ⟨b, a, hb, ha, d', ApF.symm r _ _ _ h, by rw [h2]; congr 1; simp only [eq_comm]⟩
theorem apF0 (x y : Nat) (e : Nat) (he : D.fin = e) : IsMin (upd (fun _ _ => 1099511627776) e e 0 x y) 1099511627776 (ApF D 0 x y) := by
  unfold upd
  by_cases h : x = e ∧ y = e
  · rw [if_pos h]
    obtain ⟨rfl, rfl⟩ := h
    exact ⟨by omega, fun d ⟨_, _, h⟩ => by omega, .inr ⟨0, ⟨he.symm, he.symm, rfl⟩, rfl⟩⟩
  · rw [if_neg h]
    exact IsMin.none _ fun d ⟨h1, h2, _⟩ => h ⟨by omega, by omega⟩
theorem dfF0 (x : Int) : IsMin 1099511627776 1099511627776 (DfF D 0 x) := IsMin.none _ fun _ h => h
variable (r kk s : Nat)
/-- for the first i symbols, with smaller ones -/
def Q1 (i : Nat) (d : Nat) : Prop := ∃ a, a < i ∧ (DfF D r (nextS D kk s a) d ∨ ∃ b : Nat, b < a ∧ ∃ d', ApF D r (nextS D kk s a) (nextS D kk s b) d' ∧ d = d' + 1)
/-- beside, for the symbol i, with the first j -/
def Q2 (i j : Nat) (d : Nat) : Prop := Q1 D r kk s i d ∨ DfF D r (nextS D kk s i) d ∨ ∃ b : Nat, b < j ∧ ∃ d', ApF D r (nextS D kk s i) (nextS D kk s b) d' ∧ d = d' + 1
variable {D r kk s}
theorem q10 : IsMin 1099511627776 1099511627776 (Q1 D r kk s 0) := IsMin.none _ fun d ⟨a, h, _⟩ => by omega
theorem q20 {v u : Int} {i : Nat} (h : IsMin v 1099511627776 (Q1 D r kk s i)) (k : IsMin u 1099511627776 (DfF D r (nextS D kk s i))) : IsMin (min v u) 1099511627776 (Q2 D r kk s i 0) :=
  (h.or k).congr fun d => ⟨fun h => h.elim .inl fun h => .inr (.inl h), fun h => h.elim .inl fun h => h.elim .inr fun ⟨b, h, _⟩ => by omega⟩
theorem q21 {v u : Int} {i j : Nat} (h : IsMin v 1099511627776 (Q2 D r kk s i j)) (k : IsMin u 1099511627776 (ApF D r (nextS D kk s i) (nextS D kk s j))) : IsMin (min v (u + 1)) 1099511627776 (Q2 D r kk s i (j + 1)) :=
  (h.orS k).congr fun d => ⟨fun h => h.elim (fun h => h.elim .inl fun h => .inr (h.elim .inl fun ⟨b, h1, h2⟩ => .inr ⟨b, by omega, h2⟩)) fun ⟨d', h1, h2⟩ => .inr (.inr ⟨j, by omega, d', h1, h2⟩),
    fun h => h.elim (fun h => .inl (.inl h)) fun h => h.elim (fun h => .inl (.inr (.inl h))) fun ⟨b, h1, d', h2, h3⟩ => by
      by_cases e : b = j
      · subst e; exact .inr ⟨d', h2, h3⟩
      · exact .inl (.inr (.inr ⟨b, by omega, d', h2, h3⟩))⟩
theorem q2e {v : Int} {i : Nat} (h : IsMin v 1099511627776 (Q2 D r kk s i i)) : IsMin v 1099511627776 (Q1 D r kk s (i + 1)) :=
  h.congr fun d => ⟨fun h => h.elim (fun ⟨a, h1, h2⟩ => ⟨a, by omega, h2⟩) fun h => ⟨i, by omega, h⟩, fun ⟨a, h1, h2⟩ => by
    by_cases e : a = i
    · subst e; exact .inr h2
    · exact .inl ⟨a, by omega, h2⟩⟩
theorem q1e {v : Int} {bs n' : Nat} (hbs : D.base = bs) (hk : kk = n' - (r + 1)) (hp : D.places.length = n') (h : IsMin v 1099511627776 (Q1 D r kk s bs)) : IsMin v 1099511627776 (DfF D (r + 1) s) := by
  subst hp
  refine h.congr fun d => ?_
  constructor
  · rintro ⟨a, h1, h2⟩
    refine ⟨a, by unfold IsDg; omega, ?_⟩
    rw [← hk]
    exact h2.imp id fun ⟨b, h3, d', h4, h5⟩ => ⟨b, by unfold IsDg; omega, by omega, d', h4, h5⟩
  · rintro ⟨a, h1, h2⟩
    rw [← hk] at h2
    unfold IsDg at h1
    rcases h2 with h2 | ⟨b, hb, hne, d', h4, h5⟩
    · exact ⟨a, by omega, .inl h2⟩
    · unfold IsDg at hb
      rcases Nat.lt_or_ge b a with h6 | h6
      · exact ⟨a, by omega, .inr ⟨b, h6, d', h4, h5⟩⟩
      · exact ⟨b, by omega, .inr ⟨a, by omega, d', ApF.symm D r _ _ _ h4, h5⟩⟩
end
end Go.Proofs.Ytaiieodllhoelaa

/- Walks: the least distance of checked words, in the program. -/
namespace Go.Proofs.Ytaiieodllhoelaa
set_option maxRecDepth 100000
open Go.RowKit

/-- the least distance; far without one -/
def RetLd (D : Ch) (w : World) (e : Ending) (w' : World) : Prop :=
  ∃ v : Int, e = .returned (.int .i64 v) ∧ IsMin v 1099511627776 (DfF D D.places.length D.start) ∧ Ext w w'
/-- a grid and a row are made, in whatever order -/
def CutM (w : World) (S : Nat) (s3 s4 : Value) (wx : World) : Prop :=
  ∃ g gs, s3 = .slice (some ⟨g, 0, none⟩) S S ∧ s4 = .slice (some ⟨gs, 0, none⟩) S S ∧ Own wx w.heap.size 25 (some ⟨g, 0, none⟩) S S (List.replicate S (.slice none 0 0)) ∧ Own wx w.heap.size 2 (some ⟨gs, 0, none⟩) S S (List.replicate S (.int .i64 0)) ∧ g ≠ gs ∧ gs < wx.heap.size ∧ Ext w wx
theorem cutM_a {w : World} {S : Nat} {m1 m2 : Array Value} (O1 : ∀ W : World, Own (W.alloc (.cells m1 25)) W.heap.size 25 (some ⟨W.heap.size, 0, none⟩) S S (List.replicate S (.slice none 0 0))) (O2 : ∀ W : World, Own (W.alloc (.cells m2 2)) W.heap.size 2 (some ⟨W.heap.size, 0, none⟩) S S (List.replicate S (.int .i64 0))) :
    CutM w S (.slice (some ⟨w.heap.size, 0, none⟩) S S) (.slice (some ⟨w.heap.size + 1, 0, none⟩) S S) ((w.alloc (.cells m1 25)).alloc (.cells m2 2)).drew := by
  have h2 := O2 (w.alloc (.cells m1 25))
  rw [show (w.alloc (.cells m1 25)).heap.size = w.heap.size + 1 by simp] at h2
  exact ⟨_, _, rfl, rfl, (O1 w).ext ((Ext.refl _).alloc _).drew, (h2.mono (Nat.le_succ _)).ext (Ext.refl _).drew, by omega, by simp, ((Ext.refl _).alloc _).alloc _ |>.drew⟩
theorem cutM_b {w : World} {S : Nat} {m1 m2 : Array Value} (O1 : ∀ W : World, Own (W.alloc (.cells m1 25)) W.heap.size 25 (some ⟨W.heap.size, 0, none⟩) S S (List.replicate S (.slice none 0 0))) (O2 : ∀ W : World, Own (W.alloc (.cells m2 2)) W.heap.size 2 (some ⟨W.heap.size, 0, none⟩) S S (List.replicate S (.int .i64 0))) :
    CutM w S (.slice (some ⟨w.heap.size + 1, 0, none⟩) S S) (.slice (some ⟨w.heap.size, 0, none⟩) S S) ((w.alloc (.cells m2 2)).alloc (.cells m1 25)).drew := by
  have h2 := O1 (w.alloc (.cells m2 2))
  rw [show (w.alloc (.cells m2 2)).heap.size = w.heap.size + 1 by simp] at h2
  exact ⟨_, _, rfl, rfl, (h2.mono (Nat.le_succ _)).ext (Ext.refl _).drew, (O2 w).ext ((Ext.refl _).alloc _).drew, by omega, by simp; omega, ((Ext.refl _).alloc _).alloc _ |>.drew⟩
/-- the rows up to k are laid, all far; beside, the numbers up to k are far -/
structure LdA (w wr : World) (g gs S k : Nat) (vs : List Value) (G : Nat → Nat) (ls : List Int) : Prop where
  grid : GridU wr w.heap.size 25 2 g S S S k vs (fun _ _ => 1099511627776) G
  ne : ∀ j, j < k → G j ≠ gs
  row : Own wr w.heap.size 2 (some ⟨gs, 0, none⟩) S S (I ls)
  far : ∀ x, x < k → gi ls x = 1099511627776
  ext' : Ext w wr
theorem LdA.step {w wr w5 : World} {g gs S k g5 : Nat} {vs : List Value} {G : Nat → Nat} {ls : List Int} (h : LdA w wr g gs S k vs G ls) (hx : Ext wr w5) (ho : Own w5 g5 2 (some ⟨g5, 0, none⟩) S S (I (List.replicate S 1099511627776))) (hg5 : wr.heap.size ≤ g5) (hk : k < S) (hne : g ≠ gs) (hgl : gs < wr.heap.size) (hgw : w.heap.size ≤ g) (hgsw : w.heap.size ≤ gs) :
    LdA w ((w5.setCell ⟨g, k, none⟩ (.slice (some ⟨g5, 0, none⟩) S S)).setCell ⟨gs, k, none⟩ (.int .i64 1099511627776)) g gs S (k + 1) (vs.set k (.slice (some ⟨g5, 0, none⟩) S S)) (fun j => if j = k then g5 else G j) (ls.set k 1099511627776) := by
  have hl := h.row.len
  rw [I_len] at hl
  have hne2 : ∀ j, j < k + 1 → (if j = k then g5 else G j) ≠ gs := fun j hj => by
    by_cases e : j = k
    · rw [if_pos e]; omega
    · rw [if_neg e]; exact h.ne j (by omega)
  have h1 := h.grid.layR hx (fun _ => 1099511627776) (by rw [show (List.range S).map (fun _ => (1099511627776 : Int)) = List.replicate S 1099511627776 by simp [List.map_const']]; exact ho) hg5 hk h.ext'.le (by decide)
  have h2 := (h1.congr (F' := fun _ _ => 1099511627776) (fun j _ y _ => by simp)).other k (.int .i64 1099511627776) hne hne2
  have h3 := (own_beside (h.row.ext hx) k (.slice (some ⟨g5, 0, none⟩) S S) (fun h => hne h.symm)).set k (.int .i64 1099511627776)
  rw [I_set] at h3
  refine ⟨h2, hne2, h3, fun x hx2 => ?_, Ext.setCell (Ext.setCell (h.ext'.trans hx) hgw _) hgsw _⟩
  by_cases e : x = k
  · subst e
    unfold gi
    rw [List.getD_eq_getElem?_getD, List.getElem?_set_self (by omega)]; rfl
  · rw [gi_set_ne (fun h => e h.symm)]; exact h.far x (by omega)
/-- k rows are laid, the first s of them done; beside, the first s numbers are done -/
structure LdX (D : Ch) (r : Nat) (wo wr : World) (g8 g9 S s k : Nat) (vs : List Value) (F : Nat → Nat → Int) (G : Nat → Nat) (l9 : List Int) : Prop where
  grid : GridU wr wo.heap.size 25 2 g8 S S S k vs F G
  ne : ∀ j, j < k → G j ≠ g9
  row : Own wr wo.heap.size 2 (some ⟨g9, 0, none⟩) S S (I l9)
  hF : ∀ x, x < s → ∀ y, y < S → IsMin (F x y) 1099511627776 (ApF D (r + 1) x y)
  hD : ∀ x : Nat, x < s → IsMin (gi l9 x) 1099511627776 (DfF D (r + 1) x)
  ext' : Ext wo wr
section
variable {D : Ch} {r : Nat} {wo wr w5 : World} {g8 g9 S s k : Nat} {vs : List Value} {F : Nat → Nat → Int} {G : Nat → Nat} {l9 : List Int}
theorem LdX.ext (h : LdX D r wo wr g8 g9 S s k vs F G l9) (hx : Ext wr w5) : LdX D r wo w5 g8 g9 S s k vs F G l9 := ⟨h.grid.ext hx, h.ne, h.row.ext hx, h.hF, h.hD, h.ext'.trans hx⟩
theorem LdX.ln (h : LdX D r wo wr g8 g9 S s k vs F G l9) : l9.length = S := (I_len l9).symm.trans h.row.len
theorem LdX.lay (h : LdX D r wo wr g8 g9 S s s vs F G l9) (hx : Ext wr w5) (ho : Own w5 wr.heap.size 2 (some ⟨wr.heap.size, 0, none⟩) S S (List.replicate S (.int .i64 0))) (hs : s < S) (hne : g8 ≠ g9) :
    LdX D r wo (w5.setCell ⟨g8, s, none⟩ (.slice (some ⟨wr.heap.size, 0, none⟩) S S)) g8 g9 S s (s + 1) (vs.set s (.slice (some ⟨wr.heap.size, 0, none⟩) S S)) (fun j y => if j = s then 0 else F j y) (fun j => if j = s then wr.heap.size else G j) l9 :=
  ⟨h.grid.layR hx (fun _ => 0) (by rw [show (List.range S).map (fun _ => (0 : Int)) = List.replicate S 0 by simp [List.map_const'], I_replicate]; exact ho) (Nat.le_refl _) hs h.ext'.le (by decide),
    fun j hj => by
      by_cases e : j = s
      · rw [if_pos e]; have := h.row.lt.2; omega
      · rw [if_neg e]; exact h.ne j (by omega),
    own_beside (h.row.ext hx) s _ (fun h => hne h.symm), fun x hx2 y hy => by rw [if_neg (by omega)]; exact h.hF x hx2 y hy, h.hD, Ext.setCell (h.ext'.trans hx) h.grid.outer.lt.1 _⟩
theorem LdX.setG (h : LdX D r wo wr g8 g9 S s (s + 1) vs F G l9) {t : Nat} (ht : t < S) (v : Int) : LdX D r wo (wr.setCell ⟨G s, t, none⟩ (.int .i64 v)) g8 g9 S s (s + 1) vs (upd F s t v) G l9 :=
  ⟨h.grid.set (i := s) (by omega) ht v (by decide), h.ne, own_beside h.row t _ (fun e => h.ne s (by omega) e.symm), fun x hx y hy => by rw [upd_row (by omega)]; exact h.hF x hx y hy, h.hD, Ext.setCell h.ext' (h.grid.ge (by omega)).1 _⟩
theorem LdX.setR (h : LdX D r wo wr g8 g9 S s k vs F G l9) (hne : g8 ≠ g9) (v : Int) : LdX D r wo (wr.setCell ⟨g9, s, none⟩ (.int .i64 v)) g8 g9 S s k vs F G (l9.set s v) :=
  ⟨h.grid.other s _ hne h.ne, h.ne, by rw [← I_set]; exact h.row.set s _, h.hF, fun x hx => by rw [gi_set_ne (by omega)]; exact h.hD x hx, Ext.setCell h.ext' h.row.lt.1 _⟩
theorem LdX.at9 (h : LdX D r wo wr g8 g9 S s k vs F G l9) (hs : s < S) (v : Int) : gi (l9.set s v) s = v := by
  have := h.ln
  unfold gi
  rw [List.getD_eq_getElem?_getD, List.getElem?_set_self (by omega)]; rfl
theorem LdX.next (h : LdX D r wo wr g8 g9 S s (s + 1) vs F G l9) (h1 : ∀ y, y < S → IsMin (F s y) 1099511627776 (ApF D (r + 1) s y)) (h2 : IsMin (gi l9 s) 1099511627776 (DfF D (r + 1) s)) : LdX D r wo wr g8 g9 S (s + 1) (s + 1) vs F G l9 :=
  ⟨h.grid, h.ne, h.row, fun x hx y hy => by
    by_cases e : x = s
    · subst e; exact h1 y hy
    · exact h.hF x (by omega) y hy, fun x hx => by
    by_cases e : x = s
    · subst e; exact h2
    · exact h.hD x (by omega), h.ext'⟩
end
set_option maxHeartbeats 8000000 in
theorem impl_least (D : Ch) (q : Nat) (a : Option Addr) (n c : Nat) (a' : Option Addr) (n' c' : Nat) (w : World) (hv : ChAt w q D a n c a' n' c') (hok : OkCh D) (hb12 : D.base ≤ 12) (hS3 : D.states = 4 ∨ D.states = 9 ∨ D.states = 25) :
    Calls Try.prog 150 #[.pointer (some ⟨q, 0, none⟩)] w (RetLd D w) := by
  have HP := Lib.hid hv.ps.len
  have HV := Lib.hid hv
  have HOK := Lib.hid hok
  obtain ⟨k0, k1, k2, k3, k4, k5, _, _⟩ := hv
  have p20 := hok.p20
  rw [HP.out] at p20
  have b2 := hok.b2
  have b36 := hok.b36
  obtain ⟨S, hS⟩ := Int.eq_ofNat_of_zero_le (show 0 ≤ D.states by have := hok.s1; omega)
  obtain ⟨e, he⟩ := Int.eq_ofNat_of_zero_le hok.en0
  obtain ⟨st, hst⟩ := Int.eq_ofNat_of_zero_le hok.st0
  obtain ⟨bs, hbs⟩ := Int.eq_ofNat_of_zero_le (show 0 ≤ D.base by omega)
  have heS : e < S := by have := hok.en1; omega
  have hstS : st < S := by have := hok.st1; omega
  simp only [hS] at k1
  simp only [hst] at k2
  simp only [he] at k3
  simp only [hbs] at k0
  have hS36' : S ≤ 36 := by omega
  have hbs' : bs ≤ 36 := by omega
  have HNx := Lib.hid (fun (i x d : Nat) (hi : i < n') (hx : x < S) (hd : d < bs) => hok.next (p := i) (x := x) (d := d) (by omega) (by rw [HP.out]; omega) (by omega) (by omega) (by omega) (by omega))
  have HB12 := Lib.hid hb12
  have HS3 := Lib.hid (show (S : Int) = 4 ∨ (S : Int) = 9 ∨ (S : Int) = 25 by omega)
  have HhS := Lib.hid hS; clear hS; have Hhe := Lib.hid he; clear he; have Hhst := Lib.hid hst; clear hst; have Hhbs := Lib.hid hbs; clear hbs
  clear hok hb12 hS3
  go_enter Try.func150, Try.ntmps150
  have hww : Ext w w := Ext.refl _
  go_wp2_with fail
  go_cut [3, 4] from 13 to 22 (fun s3 s4 wx => CutM w S s3 s4 wx)
  case first =>
    obtain ⟨m1, e1, o1⟩ := make_eq (P := Try.prog) 88 25 (.slice none 0 0) 24 und_grid info_row1 rfl S (by omega) (by unfold maxLen; omega)
    obtain ⟨m2, e2, o2⟩ := make_eq (P := Try.prog) 25 2 (.int .i64 0) 8 und_int64s info_int64 rfl S (by omega) (by unfold maxLen; omega)
    have O1 := Lib.hid o1
    have O2 := Lib.hid o2
    clear o1 o2
    go_region_held3 (fun w' => Ext w w') ((exact (by repeat (first | (with_reducible exact Ext.refl _) | (with_reducible assumption) | (with_reducible refine Ext.drewN ?_ _) | (with_reducible refine Ext.drew ?_) | (with_reducible refine Ext.alloc ?_ _) | ((with_reducible refine Ext.setCell ?_ ?_ _); rotate_left; focus (first | (simp; done) | (simp; omega) | omega)) | (with_reducible refine Ext.trans ?_ (by with_reducible assumption)))))) ((first | (simp only [e1]) | (simp only [e2])))
    all_goals (go_wp2_with fail; go_meet)
    all_goals (first | exact cutM_a O1.out O2.out | exact cutM_b O1.out O2.out)
  case rest =>
    rename World => w3
    obtain ⟨g, gs, rfl, rfl, hog, hos, hgne, hgl, hx3⟩ := hcut
    have HOg := Lib.hid hog
    have HOs := Lib.hid (show Own w3 w.heap.size 2 (some ⟨gs, 0, none⟩) S S (I (List.replicate S 0)) by rw [I_replicate]; exact hos)
    have hgw := hog.lt.1
    have hgsw := hos.lt.1
    have hgne2 : gs ≠ g := fun h => hgne h.symm
    clear hog hos
    go_wp2_with fail
    have HA0 : Hid (LdA w w3 g gs S 0 (List.replicate S (.slice none 0 0)) (fun _ => 0) (List.replicate S 0)) := Lib.hid ⟨⟨HOg.out, fun j hj => by omega, fun j hj => by omega, fun j j' hj => by omega⟩, fun j hj => by omega, HOs.out, fun x hx => by omega, hx3⟩
    go_loopw [25] (fun v25 wr => ∃ (k : Nat) (vs : List Value) (G : Nat → Nat) (ls : List Int), k ≤ S ∧ v25 = .int .i64 k ∧ Hid (LdA w wr g gs S k vs G ls) ∧ gs < wr.heap.size) (fun v25 _ => S - (intOf v25).toNat)
    case atStart => exact ⟨0, _, _, _, Nat.zero_le _, rfl, HA0, hgl⟩
    case round =>
      clear HA0 HOg HOs hgl hx3
      obtain ⟨k, vs, G, ls, hk, rfl, HA, hgl⟩ := hrel
      have hxr := HA.out.ext'
      by_cases hlk : k < S
      · go_wp2_with (go_at_call 181; (with_reducible refine (repeatOne _ 0 1 1099511627776 S _ (by go_simp) HS3.out).mono ?_); rintro e w5 ⟨g5, rfl, hg5, ho5, hy5⟩; have hx5 : Ext wr w5 := Ext.trans (by repeat (first | (with_reducible exact Ext.refl _) | (with_reducible assumption) | (with_reducible refine Ext.drewN ?_ _) | (with_reducible refine Ext.drew ?_) | (with_reducible refine Ext.alloc ?_ _) | ((with_reducible refine Ext.setCell ?_ ?_ _); rotate_left; focus (first | (simp; done) | (simp; omega) | omega)) | (with_reducible refine Ext.trans ?_ (by with_reducible assumption)))) hy5; have HO5 := Lib.hid ho5; have hg5w : wr.heap.size ≤ g5 := (by simp at hg5; omega); obtain ⟨hia5, hce5, hfr5⟩ := (HA.out.grid.outer.ext hx5).at (P := Try.prog) 88 und_grid cell_row1 k hlk .i64; obtain ⟨y5, hy5'⟩ : ∃ y, y = vs.getD k undef := ⟨_, rfl⟩; rw [← hy5'] at hce5; obtain ⟨hia6, hce6, hfr6⟩ := (HA.out.row.ext hx5).at (P := Try.prog) 25 und_int64s cell_int64 k hlk .i64; obtain ⟨y6, hy6'⟩ : ∃ y, y = (I ls).getD k undef := ⟨_, rfl⟩; rw [← hy6'] at hce6; clear ho5 hg5 hy5 hy5' hy6')
        exact ⟨⟨k + 1, _, _, _, by omega, by go_num, Lib.hid (HA.out.step hx5 HO5.out hg5w hlk hgne hgl hgw hgsw), by have := hx5.le; simp; omega⟩, by simp [intOf]; omega⟩
      · obtain rfl : S = k := by omega
        have HGr := Lib.hid HA.out.grid.done
        obtain ⟨bz, oz, f1, f2, f3, f4, f5⟩ := HGr.out.one (P := Try.prog) 88 25 und_grid cell_row1 und_int64s cell_int64 (i := e) (x := e) heS heS
        have hge := (HGr.out.ge (k := e) heS).1
        go_wp2
        (refine wp_region_upl 12 wr (by repeat (first | (with_reducible exact Ext.refl _) | (with_reducible refine Ext.drewN ?_ _) | (with_reducible refine Ext.drew ?_) | (with_reducible refine Ext.alloc ?_ _) | ((with_reducible refine Ext.setCell ?_ ?_ _); rotate_left; focus (first | (simp; done) | (simp; omega) | omega)) | assumption | (with_reducible refine Ext.trans ?_ (by assumption)))) rfl (by kernel_rfl) (by kernel_rfl) (seqB_of (by kernel_rfl)) (lastB_of (by kernel_rfl)) ?_; simp only [List.take_succ_cons, List.take_zero, List.drop_succ_cons, List.drop_zero]; (repeat (first | (refine mix_q rfl ?_; go_big_quiet_step (fail); refine wpQuiet_nil ?_; show wpMix _ _ _ _ _ _ _) | (refine mix_s rfl ?_; go_wp2_with (fail); first | refine ⟨up_of (by repeat (first | (with_reducible exact Ext.refl _) | (with_reducible refine Ext.drewN ?_ _) | (with_reducible refine Ext.drew ?_) | (with_reducible refine Ext.alloc ?_ _) | ((with_reducible refine Ext.setCell ?_ ?_ _); rotate_left; focus (first | (simp; done) | (simp; omega) | omega)) | assumption | (with_reducible refine Ext.trans ?_ (by assumption)))), ?_⟩ | refine ⟨rfl, rfl, up_of (by repeat (first | (with_reducible exact Ext.refl _) | (with_reducible refine Ext.drewN ?_ _) | (with_reducible refine Ext.drew ?_) | (with_reducible refine Ext.alloc ?_ _) | ((with_reducible refine Ext.setCell ?_ ?_ _); rotate_left; focus (first | (simp; done) | (simp; omega) | omega)) | assumption | (with_reducible refine Ext.trans ?_ (by assumption)))), ?_⟩))); refine mix_nil ?_)
        go_wp2
        have HG0 := Lib.hid ((HGr.out.set (i := e) (x := e) heS heS 0 (by decide)).ext (Ext.refl _).drew)
        have HR0 := Lib.hid ((own_beside HA.out.row e (.int .i64 0) (fun h => HA.out.ne e heS h.symm)).ext (Ext.refl _).drew)
        have HFar := Lib.hid HA.out.far
        have hxs : Ext w (wr.setCell ⟨G e, e, none⟩ (.int .i64 0)).drew := (Ext.setCell hxr hge _).drew
        clear f1 f2 f3 f4 f5 HA HGr
        go_loopw [3, 4, 6] (fun v3 v4 v6 wr => ∃ (r : Nat) (z : Int) (gg gs : Nat) (F : Nat → Nat → Int) (G : Nat → Nat) (ls : List Int), r ≤ n' ∧ v6 = .int .i64 z ∧ z + 1 + r = (n' : Int) ∧ v3 = .slice (some ⟨gg, 0, none⟩) S S ∧ v4 = .slice (some ⟨gs, 0, none⟩) S S ∧ Hid (Grid wr w.heap.size 25 2 (some ⟨gg, 0, none⟩) S S S F G (fun _ => S)) ∧ Hid (Own wr w.heap.size 2 (some ⟨gs, 0, none⟩) S S (I ls)) ∧ Hid (∀ x, x < S → ∀ y, y < S → IsMin (F x y) 1099511627776 (ApF D r x y)) ∧ Hid (∀ x : Nat, x < S → IsMin (gi ls x) 1099511627776 (DfF D r x)) ∧ Ext w wr) (fun _ _ v6 _ => (intOf v6 + 1).toNat)
        case atStart => exact ⟨0, (n' : Int) - 1, g, gs, _, _, _, Nat.zero_le _, rfl, by omega, rfl, rfl, HG0, HR0, Lib.hid (fun x _ y _ => apF0 D x y e Hhe.out), Lib.hid (fun x hx => by rw [HFar.out x hx]; exact dfF0 D x), hxs⟩
        case round =>
          clear HG0 HR0 HFar hxs
          obtain ⟨r, z, gg, gs, F, G, ls, hr, rfl, hz, rfl, rfl, HGo, HRo, HFo, HDo, hxo⟩ := hrel
          by_cases hrp : r < n'
          · obtain ⟨kk, rfl⟩ := Int.eq_ofNat_of_zero_le (show 0 ≤ z by omega)
            have hkk : kk < n' := by omega
            have HKk := Lib.hid (show kk = n' - (r + 1) by omega)
            have HZ := Lib.hid hz
            have HRp := Lib.hid hrp
            obtain ⟨wo, hwo⟩ : ∃ W, W = wr := ⟨_, rfl⟩
            rw [← hwo] at HGo HRo hxo ⊢
            clear hwo hz hr hrp
            have hwoo : Ext wo wo := Ext.refl _
            go_wp2_with fail
            go_cut [7, 8] from 63 to 72 (fun s7 s8 wx => CutM wo S s7 s8 wx)
            case first =>
              obtain ⟨m1, e1, o1⟩ := make_eq (P := Try.prog) 88 25 (.slice none 0 0) 24 und_grid info_row1 rfl S (by omega) (by unfold maxLen; omega)
              obtain ⟨m2, e2, o2⟩ := make_eq (P := Try.prog) 25 2 (.int .i64 0) 8 und_int64s info_int64 rfl S (by omega) (by unfold maxLen; omega)
              have O1 := Lib.hid o1
              have O2 := Lib.hid o2
              clear o1 o2
              go_region_held3 (fun w' => Ext w w') ((exact (by repeat (first | (with_reducible exact Ext.refl _) | (with_reducible assumption) | (with_reducible refine Ext.drewN ?_ _) | (with_reducible refine Ext.drew ?_) | (with_reducible refine Ext.alloc ?_ _) | ((with_reducible refine Ext.setCell ?_ ?_ _); rotate_left; focus (first | (simp; done) | (simp; omega) | omega)) | (with_reducible refine Ext.trans ?_ (by with_reducible assumption)))))) ((first | (simp only [e1]) | (simp only [e2])))
              all_goals (go_wp2_with fail; go_meet)
              all_goals (first | exact cutM_a O1.out O2.out | exact cutM_b O1.out O2.out)
            case rest =>
              rename World => w4
              obtain ⟨g8, g9, rfl, rfl, hog, hos, hne, hg9l, hx4⟩ := hcut
              have HOg := Lib.hid hog
              have HOs := Lib.hid (show Own w4 wo.heap.size 2 (some ⟨g9, 0, none⟩) S S (I (List.replicate S 0)) by rw [I_replicate]; exact hos)
              have hg8w := hog.lt.1
              have hg9w := hos.lt.1
              have hne2 : g9 ≠ g8 := fun h => hne h.symm
              have hxw4 : Ext w w4 := hxo.trans hx4
              clear hog hos
              go_wp2_with fail
              have HX0 : Hid (LdX D r wo w4 g8 g9 S 0 0 (List.replicate S (.slice none 0 0)) (fun _ _ => 0) (fun _ => 0) (List.replicate S 0)) := Lib.hid ⟨⟨HOg.out, fun j hj => by omega, fun j hj => by omega, fun j j' hj => by omega⟩, fun j hj => by omega, HOs.out, fun x hx => by omega, fun x hx => by omega, hx4⟩
              go_loopw [77] (fun v77 wr => ∃ (s : Nat) (vs : List Value) (F2 : Nat → Nat → Int) (G2 : Nat → Nat) (l9 : List Int), s ≤ S ∧ v77 = .int .i64 s ∧ Hid (LdX D r wo wr g8 g9 S s s vs F2 G2 l9)) (fun v77 _ => S - (intOf v77).toNat)
              case atStart => exact ⟨0, _, _, _, _, Nat.zero_le _, rfl, HX0⟩
              case round =>
                clear HX0 HOg HOs hg9l hx4 hxw4
                obtain ⟨s, vs, F2, G2, l9, hs, rfl, HX⟩ := hrel
                have hxou := HX.out.ext'
                have hxwu : Ext w wr := hxo.trans hxou
                by_cases hls : s < S
                · go_wp2_with (at_make; refine law_make _ rfl _ _ 25 rfl 2 (.int .i64 0) 8 und_int64s info_int64 rfl _ _ S rfl rfl (by omega) (by unfold maxLen; omega) ?_; intro w5 hown5 hx5 hsz5; obtain ⟨hia5, hce5, hfr5⟩ := (HX.out.grid.outer.ext hx5).at (P := Try.prog) 88 und_grid cell_row1 s hls .i64; obtain ⟨y5, hy5⟩ : ∃ y, y = vs.getD s undef := ⟨_, rfl⟩; rw [← hy5] at hce5; have HO5 := Lib.hid hown5; have hxw5 : Ext w w5 := hxwu.trans hx5; have hxg5 : Ext w (w5.setCell ⟨g8, s, none⟩ (.slice (some ⟨wr.heap.size, 0, none⟩) S S)) := Ext.setCell hxw5 (Nat.le_trans hxo.le hg8w) _; clear hown5 hy5 hsz5)
                  have HL := Lib.hid (HX.out.lay hx5 HO5.out hls hne)
                  generalize vs.set s (.slice (some ⟨wr.heap.size, 0, none⟩) S S) = vs' at HL
                  generalize (fun j => if j = s then wr.heap.size else G2 j) = G' at HL
                  generalize (fun j y => if j = s then (0 : Int) else F2 j y) = F3 at HL
                  clear HX hia5 hce5 hfr5 HO5
                  generalize w5.setCell ⟨g8, s, none⟩ (.slice (some ⟨wr.heap.size, 0, none⟩) S S) = w6 at *
                  have hx66 : Ext w6 w6 := Ext.refl _
                  go_wp2_with fail
                  go_loopw [92] (fun v92 wr => ∃ (t : Nat) (F3 : Nat → Nat → Int), t ≤ S ∧ v92 = .int .i64 t ∧ Hid (LdX D r wo wr g8 g9 S s (s + 1) vs' F3 G' l9) ∧ Hid (∀ y, y < t → IsMin (F3 s y) 1099511627776 (ApF D (r + 1) s y))) (fun v92 _ => S - (intOf v92).toNat)
                  case atStart => exact ⟨0, F3, Nat.zero_le _, rfl, HL, Lib.hid (fun y hy => by omega)⟩
                  case round =>
                    clear HL hxg5 hxw5 hx5
                    obtain ⟨t, F3, ht, rfl, HL, HT⟩ := hrel
                    have hxot := HL.out.ext'
                    have hxwt : Ext w wr := hxo.trans hxot
                    by_cases hlt : t < S
                    · have HSt := Lib.hid (fun W (h : Ext wo W) => impl_step D q a n c a' n' c' r kk s t S bs w.heap.size gg F G W (HV.out.ext (hxo.trans h)) HOK.out HB12.out HhS.out Hhbs.out hkk HKk.out hls hlt (HGo.out.ext h) HFo.out)
                      obtain ⟨b1, o1, f1, f2, f3, f4, f5⟩ := HL.out.grid.one (P := Try.prog) 88 25 und_grid cell_row1 und_int64s cell_int64 (i := s) (x := t) (by omega) (by omega) hlt
                      have hgi := (HL.out.grid.ge (j := s) (by omega)).1
                      go_wp2_with fail
                      (refine wp_region_upl 12 wr (by repeat (first | (with_reducible exact Ext.refl _) | (with_reducible refine Ext.drewN ?_ _) | (with_reducible refine Ext.drew ?_) | (with_reducible refine Ext.alloc ?_ _) | ((with_reducible refine Ext.setCell ?_ ?_ _); rotate_left; focus (first | (simp; done) | (simp; omega) | omega)) | assumption | (with_reducible refine Ext.trans ?_ (by assumption)))) rfl (by kernel_rfl) (by kernel_rfl) (seqB_of (by kernel_rfl)) (lastB_of (by kernel_rfl)) ?_; simp only [List.take_succ_cons, List.take_zero, List.drop_succ_cons, List.drop_zero]; (repeat (first | (refine mix_q rfl ?_; go_big_quiet_step (fail); refine wpQuiet_nil ?_; show wpMix _ _ _ _ _ _ _) | (refine mix_s rfl ?_; go_wp2_with (((with_reducible refine (HSt.out _ (Ext.trans hxot (by repeat (first | (with_reducible exact Ext.refl _) | (with_reducible assumption) | (with_reducible refine Ext.drewN ?_ _) | (with_reducible refine Ext.drew ?_) | (with_reducible refine Ext.alloc ?_ _) | ((with_reducible refine Ext.setCell ?_ ?_ _); rotate_left; focus (first | (simp; done) | (simp; omega) | omega)) | (with_reducible refine Ext.trans ?_ (by with_reducible assumption)))))).mono ?_); rintro e w7 ⟨v7, rfl, hv7, hy7⟩; have HV7 := Lib.hid hv7; have hxr7 : Ext wr w7 := Ext.trans (by repeat (first | (with_reducible exact Ext.refl _) | (with_reducible assumption) | (with_reducible refine Ext.drewN ?_ _) | (with_reducible refine Ext.drew ?_) | (with_reducible refine Ext.alloc ?_ _) | ((with_reducible refine Ext.setCell ?_ ?_ _); rotate_left; focus (first | (simp; done) | (simp; omega) | omega)) | (with_reducible refine Ext.trans ?_ (by with_reducible assumption)))) hy7; have hxw7 : Ext w w7 := hxwt.trans hxr7; clear hy7 hv7)); first | refine ⟨up_of (by repeat (first | (with_reducible exact Ext.refl _) | (with_reducible refine Ext.drewN ?_ _) | (with_reducible refine Ext.drew ?_) | (with_reducible refine Ext.alloc ?_ _) | ((with_reducible refine Ext.setCell ?_ ?_ _); rotate_left; focus (first | (simp; done) | (simp; omega) | omega)) | assumption | (with_reducible refine Ext.trans ?_ (by assumption)))), ?_⟩ | refine ⟨rfl, rfl, up_of (by repeat (first | (with_reducible exact Ext.refl _) | (with_reducible refine Ext.drewN ?_ _) | (with_reducible refine Ext.drew ?_) | (with_reducible refine Ext.alloc ?_ _) | ((with_reducible refine Ext.setCell ?_ ?_ _); rotate_left; focus (first | (simp; done) | (simp; omega) | omega)) | assumption | (with_reducible refine Ext.trans ?_ (by assumption)))), ?_⟩))); refine mix_nil ?_)
                      go_wp2_with fail
                      exact ⟨⟨t + 1, _, by omega, by go_num, Lib.hid ((HL.out.ext hxr7).setG hlt v7), Lib.hid (fun y hy => by
                        by_cases e : y = t
                        · subst e; rw [upd_same]; exact HV7.out
                        · rw [upd_col e]; exact HT.out y (by omega))⟩, by simp [intOf]; omega⟩
                    · obtain rfl : S = t := by omega
                      obtain ⟨hia6, hce6, hfr6⟩ := HL.out.row.at (P := Try.prog) 25 und_int64s cell_int64 s hls .i64
                      obtain ⟨y6, hy6'⟩ : ∃ y, y = (I l9).getD s undef := ⟨_, rfl⟩
                      rw [← hy6'] at hce6
                      clear hy6'
                      have hxf : Ext w (wr.setCell ⟨g9, s, none⟩ (.int .i64 1099511627776)) := Ext.setCell hxwt (Nat.le_trans hxo.le hg9w) _
                      go_wp2_with fail
                      have HL0 := Lib.hid (HL.out.setR hne 1099511627776)
                      have HQ0 : Hid (IsMin (gi (l9.set s 1099511627776) s) 1099511627776 (Q1 D r kk s 0)) := Lib.hid (by rw [HL.out.at9 hls]; exact q10)
                      go_loopw [115] (fun v115 wr => ∃ (d : Nat) (l9 : List Int), d ≤ bs ∧ v115 = .int .i64 d ∧ Hid (LdX D r wo wr g8 g9 S s (s + 1) vs' F3 G' l9) ∧ Hid (IsMin (gi l9 s) 1099511627776 (Q1 D r kk s d))) (fun v115 _ => bs - (intOf v115).toNat)
                      case atStart => exact ⟨0, _, Nat.zero_le _, rfl, HL0, HQ0⟩
                      case round =>
                        clear HL0 HQ0 hxf hce6 hfr6 hxwt hxot HL
                        obtain ⟨d, l9, hd, rfl, HL, HQ⟩ := hrel
                        have hxod := HL.out.ext'
                        have hxwd : Ext w wr := hxo.trans hxod
                        by_cases hld : d < bs
                        · obtain ⟨ya0, ya1⟩ := HNx.out kk s d hkk hls hld
                          obtain ⟨ya, hya⟩ := Int.eq_ofNat_of_zero_le ya0
                          have hyaS : ya < S := by have := HhS.out; omega
                          have HC1 := Lib.hid (fun W (h : Ext w W) => impl_next D q a n c a' n' c' (kk : Int) (s : Int) (d : Int) W (HV.out.ext h) HOK.out (by omega) (by have := HP.out; omega) (by omega) (by have := HhS.out; omega) (by omega) (by have := Hhbs.out; omega))
                          rw [hya] at HC1
                          have HYa := Lib.hid hya
                          have HD1 := HDo.out ya hyaS
                          rw [show ((ya : Nat) : Int) = nextS D kk s d from hya.symm] at HD1
                          have HQ2 := Lib.hid (q20 HQ.out HD1)
                          obtain ⟨hia7, hce7, hfr7⟩ := HL.out.row.at (P := Try.prog) 25 und_int64s cell_int64 s hls .i64
                          rw [I_getD _ _ (by rw [HL.out.ln]; exact hls)] at hce7
                          have c7 : ∀ W, Ext wr W → W.cell? ⟨g9, s, none⟩ = some (.int .i64 (gi l9 s)) := fun W h => h.cell hce7
                          have z7 : ∀ W, Ext wr W → W.frozen? ⟨g9, s, none⟩ = false := fun W h => (Below.frozen h (World.block_lt_of_cell? _ _ hce7)).trans hfr7
                          obtain ⟨bq, oq, p1, p2⟩ := (HRo.out.ext hxod).ints.one (P := Try.prog) 25 2 und_int64s cell_int64 (ya : Int) (by omega) (by omega)
                          rw [Int.toNat_natCast] at p2
                          clear ya0 ya1 hya HD1 hce7 hfr7 HQ
                          go_wp2_with fail
                          (refine wp_region_upl 16 wr (by repeat (first | (with_reducible exact Ext.refl _) | (with_reducible refine Ext.drewN ?_ _) | (with_reducible refine Ext.drew ?_) | (with_reducible refine Ext.alloc ?_ _) | ((with_reducible refine Ext.setCell ?_ ?_ _); rotate_left; focus (first | (simp; done) | (simp; omega) | omega)) | assumption | (with_reducible refine Ext.trans ?_ (by assumption)))) rfl (by kernel_rfl) (by kernel_rfl) (seqB_of (by kernel_rfl)) (lastB_of (by kernel_rfl)) ?_; simp only [List.take_succ_cons, List.take_zero, List.drop_succ_cons, List.drop_zero]; (repeat (first | (refine mix_q rfl ?_; go_big_quiet_step (fail); refine wpQuiet_nil ?_; show wpMix _ _ _ _ _ _ _) | (refine mix_s rfl ?_; go_wp2_with (((with_reducible refine (HC1.out _ (by repeat (first | (with_reducible exact Ext.refl _) | (with_reducible assumption) | (with_reducible refine Ext.drewN ?_ _) | (with_reducible refine Ext.drew ?_) | (with_reducible refine Ext.alloc ?_ _) | ((with_reducible refine Ext.setCell ?_ ?_ _); rotate_left; focus (first | (simp; done) | (simp; omega) | omega)) | (with_reducible refine Ext.trans ?_ (by with_reducible assumption))))).mono ?_); rintro e w7 ⟨rfl, hy7⟩; have hxr7 : Ext wr w7 := Ext.trans (by repeat (first | (with_reducible exact Ext.refl _) | (with_reducible assumption) | (with_reducible refine Ext.drewN ?_ _) | (with_reducible refine Ext.drew ?_) | (with_reducible refine Ext.alloc ?_ _) | ((with_reducible refine Ext.setCell ?_ ?_ _); rotate_left; focus (first | (simp; done) | (simp; omega) | omega)) | (with_reducible refine Ext.trans ?_ (by with_reducible assumption)))) hy7; have hxw7 : Ext w w7 := hxwd.trans hxr7; clear hy7)); first | refine ⟨up_of (by repeat (first | (with_reducible exact Ext.refl _) | (with_reducible refine Ext.drewN ?_ _) | (with_reducible refine Ext.drew ?_) | (with_reducible refine Ext.alloc ?_ _) | ((with_reducible refine Ext.setCell ?_ ?_ _); rotate_left; focus (first | (simp; done) | (simp; omega) | omega)) | assumption | (with_reducible refine Ext.trans ?_ (by assumption)))), ?_⟩ | refine ⟨rfl, rfl, up_of (by repeat (first | (with_reducible exact Ext.refl _) | (with_reducible refine Ext.drewN ?_ _) | (with_reducible refine Ext.drew ?_) | (with_reducible refine Ext.alloc ?_ _) | ((with_reducible refine Ext.setCell ?_ ?_ _); rotate_left; focus (first | (simp; done) | (simp; omega) | omega)) | assumption | (with_reducible refine Ext.trans ?_ (by assumption)))), ?_⟩))); refine mix_nil ?_)
                          go_wp2_with fail
                          have HL1 := Lib.hid ((HL.out.ext hxr7).setR hne (min (gi l9 s) (gi ls ya)))
                          have HQ3 : Hid (IsMin (gi (l9.set s (min (gi l9 s) (gi ls ya))) s) 1099511627776 (Q2 D r kk s d 0)) := Lib.hid (by rw [HL.out.at9 hls]; exact HQ2.out)
                          generalize l9.set s (min (gi l9 s) (gi ls ya)) = l8 at HL1 HQ3
                          generalize w7.setCell ⟨g9, s, none⟩ (.int .i64 (min (gi l9 s) (gi ls ya))) = w8 at *
                          clear HL HQ2 c7 z7 p1 p2 hxr7 hxw7
                          go_loopw [135] (fun v135 wr => ∃ (f : Nat) (l9 : List Int), f ≤ d ∧ v135 = .int .i64 f ∧ Hid (LdX D r wo wr g8 g9 S s (s + 1) vs' F3 G' l9) ∧ Hid (IsMin (gi l9 s) 1099511627776 (Q2 D r kk s d f))) (fun v135 _ => d - (intOf v135).toNat)
                          case atStart => exact ⟨0, _, Nat.zero_le _, rfl, HL1, HQ3⟩
                          case round =>
                            clear HL1 HQ3 hxwd hxod
                            obtain ⟨f, l9, hf, rfl, HL, HQ⟩ := hrel
                            have hxod := HL.out.ext'
                            have hxwd : Ext w wr := hxo.trans hxod
                            by_cases hlf : f < d
                            · obtain ⟨yb0, yb1⟩ := HNx.out kk s f hkk hls (by omega)
                              obtain ⟨yb, hyb⟩ := Int.eq_ofNat_of_zero_le yb0
                              have hybS : yb < S := by have := HhS.out; omega
                              have HC2 := Lib.hid (fun W (h : Ext w W) => impl_next D q a n c a' n' c' (kk : Int) (s : Int) (f : Int) W (HV.out.ext h) HOK.out (by omega) (by have := HP.out; omega) (by omega) (by have := HhS.out; omega) (by omega) (by have := Hhbs.out; omega))
                              rw [hyb] at HC2
                              have HF1 := HFo.out ya hyaS yb hybS
                              obtain ⟨u3, u4⟩ := HF1.bd (by decide)
                              have HQ2 := Lib.hid (q21 HQ.out (u := F ya yb) (by rw [HYa.out, hyb]; exact HF1))
                              obtain ⟨hia7, hce7, hfr7⟩ := HL.out.row.at (P := Try.prog) 25 und_int64s cell_int64 s hls .i64
                              rw [I_getD _ _ (by rw [HL.out.ln]; exact hls)] at hce7
                              have c7 : ∀ W, Ext wr W → W.cell? ⟨g9, s, none⟩ = some (.int .i64 (gi l9 s)) := fun W h => h.cell hce7
                              have z7 : ∀ W, Ext wr W → W.frozen? ⟨g9, s, none⟩ = false := fun W h => (Below.frozen h (World.block_lt_of_cell? _ _ hce7)).trans hfr7
                              obtain ⟨b2', o2, p1, p2, p3, p4, _⟩ := (HGo.out.ext hxod).one (P := Try.prog) 88 25 und_grid cell_row1 und_int64s cell_int64 (i := ya) (x := yb) hyaS hybS
                              clear yb0 yb1 hyb HF1 hce7 hfr7 HQ
                              go_wp2_with fail
                              (refine wp_region_upl 24 wr (by repeat (first | (with_reducible exact Ext.refl _) | (with_reducible refine Ext.drewN ?_ _) | (with_reducible refine Ext.drew ?_) | (with_reducible refine Ext.alloc ?_ _) | ((with_reducible refine Ext.setCell ?_ ?_ _); rotate_left; focus (first | (simp; done) | (simp; omega) | omega)) | assumption | (with_reducible refine Ext.trans ?_ (by assumption)))) rfl (by kernel_rfl) (by kernel_rfl) (seqB_of (by kernel_rfl)) (lastB_of (by kernel_rfl)) ?_; simp only [List.take_succ_cons, List.take_zero, List.drop_succ_cons, List.drop_zero]; (repeat (first | (refine mix_q rfl ?_; go_big_quiet_step (fail); refine wpQuiet_nil ?_; show wpMix _ _ _ _ _ _ _) | (refine mix_s rfl ?_; go_wp2_with (first | ((with_reducible refine (HC1.out _ (by repeat (first | (with_reducible exact Ext.refl _) | (with_reducible assumption) | (with_reducible refine Ext.drewN ?_ _) | (with_reducible refine Ext.drew ?_) | (with_reducible refine Ext.alloc ?_ _) | ((with_reducible refine Ext.setCell ?_ ?_ _); rotate_left; focus (first | (simp; done) | (simp; omega) | omega)) | (with_reducible refine Ext.trans ?_ (by with_reducible assumption))))).mono ?_); rintro e w7 ⟨rfl, hy7⟩; have hxr7 : Ext wr w7 := Ext.trans (by repeat (first | (with_reducible exact Ext.refl _) | (with_reducible assumption) | (with_reducible refine Ext.drewN ?_ _) | (with_reducible refine Ext.drew ?_) | (with_reducible refine Ext.alloc ?_ _) | ((with_reducible refine Ext.setCell ?_ ?_ _); rotate_left; focus (first | (simp; done) | (simp; omega) | omega)) | (with_reducible refine Ext.trans ?_ (by with_reducible assumption)))) hy7; have hxw7 : Ext w w7 := hxwd.trans hxr7; clear hy7) | ((with_reducible refine (HC2.out _ (by repeat (first | (with_reducible exact Ext.refl _) | (with_reducible assumption) | (with_reducible refine Ext.drewN ?_ _) | (with_reducible refine Ext.drew ?_) | (with_reducible refine Ext.alloc ?_ _) | ((with_reducible refine Ext.setCell ?_ ?_ _); rotate_left; focus (first | (simp; done) | (simp; omega) | omega)) | (with_reducible refine Ext.trans ?_ (by with_reducible assumption))))).mono ?_); rintro e w9 ⟨rfl, hy9⟩; have hxr9 : Ext wr w9 := Ext.trans (by repeat (first | (with_reducible exact Ext.refl _) | (with_reducible assumption) | (with_reducible refine Ext.drewN ?_ _) | (with_reducible refine Ext.drew ?_) | (with_reducible refine Ext.alloc ?_ _) | ((with_reducible refine Ext.setCell ?_ ?_ _); rotate_left; focus (first | (simp; done) | (simp; omega) | omega)) | (with_reducible refine Ext.trans ?_ (by with_reducible assumption)))) hy9; have hxw9 : Ext w w9 := hxwd.trans hxr9; clear hy9)); first | refine ⟨up_of (by repeat (first | (with_reducible exact Ext.refl _) | (with_reducible refine Ext.drewN ?_ _) | (with_reducible refine Ext.drew ?_) | (with_reducible refine Ext.alloc ?_ _) | ((with_reducible refine Ext.setCell ?_ ?_ _); rotate_left; focus (first | (simp; done) | (simp; omega) | omega)) | assumption | (with_reducible refine Ext.trans ?_ (by assumption)))), ?_⟩ | refine ⟨rfl, rfl, up_of (by repeat (first | (with_reducible exact Ext.refl _) | (with_reducible refine Ext.drewN ?_ _) | (with_reducible refine Ext.drew ?_) | (with_reducible refine Ext.alloc ?_ _) | ((with_reducible refine Ext.setCell ?_ ?_ _); rotate_left; focus (first | (simp; done) | (simp; omega) | omega)) | assumption | (with_reducible refine Ext.trans ?_ (by assumption)))), ?_⟩))); refine mix_nil ?_)
                              go_wp2_with fail
                              exact ⟨⟨f + 1, _, by omega, by go_num, Lib.hid ((HL.out.ext hxr9).setR hne _), Lib.hid (by rw [HL.out.at9 hls]; exact HQ2.out)⟩, by simp [intOf]; omega⟩
                            · obtain rfl : f = d := by omega
                              have HQe := Lib.hid (q2e HQ.out)
                              go_wp2_with fail
                              exact ⟨⟨f + 1, l9, by omega, by go_num, HL, HQe⟩, by simp [intOf]; omega⟩
                        · obtain rfl : d = bs := by omega
                          have HLn := Lib.hid (HL.out.next HT.out (q1e Hhbs.out HKk.out HP.out HQ.out))
                          go_wp2_with fail
                          exact ⟨⟨s + 1, vs', F3, G', l9, by omega, by go_num, HLn⟩, by simp [intOf]; omega⟩
                · obtain rfl : s = S := by omega
                  have HGd := Lib.hid (HX.out.grid.done.mono hxo.le)
                  have HRd := Lib.hid (HX.out.row.mono hxo.le)
                  go_wp2_with fail
                  exact ⟨⟨r + 1, (kk : Int) - 1, g8, g9, F2, G2, l9, by have := HRp.out; omega, rfl, by have := HZ.out; omega, rfl, rfl, HGd, HRd, Lib.hid HX.out.hF, Lib.hid HX.out.hD, hxwu⟩, by simp [intOf]⟩
          · obtain rfl : r = n' := by omega
            have hzp : ¬ (0 : Int) ≤ z := by omega
            clear hz hrp hr
            obtain ⟨bz, oz, f1, f2⟩ := HRo.out.ints.one (P := Try.prog) 25 2 und_int64s cell_int64 (st : Int) (by omega) (by omega)
            rw [Int.toNat_natCast] at f2
            go_wp2_with fail
            go_ret
            exact ⟨_, rfl, by rw [HP.out, Hhst.out]; exact HDo.out st hstS, hxo⟩
end Go.Proofs.Ytaiieodllhoelaa

/- Walks: the distance of a pair of weightings, in the program. -/
namespace Go.Proofs.Ytaiieodllhoelaa
set_option maxRecDepth 100000
open Go.RowKit

/-- the least number of P and true, or 0 and false -/
def IsD (P : Nat → Prop) (v : Int) (f : Bool) : Prop := (f = true ∧ ∃ d : Nat, P d ∧ v = (d : Int) ∧ ∀ d', P d' → d ≤ d') ∨ (f = false ∧ v = 0 ∧ ∀ d, ¬ P d)
theorem IsD.uniq {P : Nat → Prop} {v v' : Int} {f f' : Bool} (h : IsD P v f) (h' : IsD P v' f') : v' = v ∧ f' = f := by
  rcases h with ⟨rfl, d, h1, rfl, h2⟩ | ⟨rfl, rfl, h1⟩ <;> rcases h' with ⟨rfl, d', h3, rfl, h4⟩ | ⟨rfl, rfl, h3⟩
  · have := h2 d' h3; have := h4 d h1; exact ⟨by omega, rfl⟩
  · exact absurd h1 (h3 d)
  · exact absurd h3 (h1 d')
  · exact ⟨rfl, rfl⟩
theorem IsMin.no {v F : Int} {P : Nat → Prop} (h : IsMin v F P) (hv : F ≤ v) (hF : ∀ d, P d → (d : Int) < F) : IsD P 0 false :=
  .inr ⟨rfl, rfl, fun d hd => by have := h.lb d hd; have := hF d hd; omega⟩
theorem IsMin.yes {v F : Int} {P : Nat → Prop} (h : IsMin v F P) (hv : v < F) : IsD P v true := by
  rcases h.at' with h1 | ⟨d, h1, h2⟩
  · omega
  · exact .inl ⟨rfl, d, h1, h2, fun d' hd => by have := h.lb d' hd; omega⟩
theorem isD_iff {P Q : Nat → Prop} {v : Int} {f : Bool} (h : ∀ d, P d ↔ Q d) (k : IsD P v f) : IsD Q v f :=
  k.imp (fun ⟨h1, d, h2, h3, h4⟩ => ⟨h1, d, (h d).1 h2, h3, fun d' hd => h4 d' ((h d').2 hd)⟩) fun ⟨h1, h2, h3⟩ => ⟨h1, h2, fun d hd => h3 d ((h d).2 hd)⟩
def RetPD (P : Nat → Prop) (w : World) (e : Ending) (w' : World) : Prop := ∃ v f, e = .returned (.tuple #[.int .i64 v, .bool f]) ∧ IsD P v f ∧ Ext w w'
theorem pair_facts {b : Int} {l1 l2 : List Int} (h : pairB b l1 l2 = true) : validCh (pairCh b l1 l2) = true ∧ (pairCh b l1 l2).base ≤ 12 ∧ ((pairCh b l1 l2).states = 4 ∨ (pairCh b l1 l2).states = 9 ∨ (pairCh b l1 l2).states = 25) := by
  have h1 : pbB b = true := by unfold pairB at h; simp only [Bool.and_eq_true] at h; exact h.1.1
  have hf := pair_fit h
  have hc : pairCh b l1 l2 = joinCh (wtCh (pW b l1)) (wtCh (pW b l2)) := by unfold pairCh; rw [if_pos h]
  rw [hc]
  refine ⟨hf.valid, ?_, ?_⟩
  · show b ≤ 12
    rcases pbB_t h1 with rfl | rfl | rfl <;> decide
  · show b * b = 4 ∨ b * b = 9 ∨ b * b = 25
    rcases pbB_t h1 with rfl | rfl | rfl <;> decide
/-- the words of a pair: their distances -/
def PairD (b : Int) (l1 l2 : List Int) (d : Nat) : Prop := pairB b l1 l2 = true ∧ DfF (pairCh b l1 l2) (pairCh b l1 l2).places.length (pairCh b l1 l2).start d
set_option maxHeartbeats 2000000 in
theorem impl_LeastDistance (D : Ch) (a : Option Addr) (n c : Nat) (a' : Option Addr) (n' c' : Nat) (w : World) (hv : ChIn w D a n c a' n' c') (hval : validCh D = true) (hb12 : D.base ≤ 12) (hS3 : D.states = 4 ∨ D.states = 9 ∨ D.states = 25) :
    Calls Try.prog 102 #[.agg #[.int .i64 D.base, .int .i64 D.states, .int .i64 D.start, .int .i64 D.fin, .slice a n c, .slice a' n' c']] w (RetPD (DfF D D.places.length D.start) w) := by
  have HB := Lib.hid (hv.box 27)
  have HVal := Lib.hid (fun W h => impl_ValidChain D a n c a' n' c' W (Cube.ext hv.ts h) (hv.ps.ext h) hv.hn hv.hn' hv.sm)
  have hok := validCh_ok hval
  have hlt : ∀ d, DfF D D.places.length D.start d → (d : Int) < 1099511627776 := fun d hd => by have := DfF.le D _ _ _ hd; have := hok.p20; omega
  have HLt := Lib.hid hlt
  rw [hval] at HVal
  have HL := Lib.hid (fun W q (h : ChAt W q D a n c a' n' c') => impl_least D q a n c a' n' c' W h hok hb12 hS3)
  clear hv hval hok hb12 hS3 hlt
  go_enter Try.func102, Try.ntmps102
  go_wp2_with fail
  obtain ⟨wb, hwb⟩ : ∃ wb, wb = w.alloc (.cells #[.int .i64 D.base, .int .i64 D.states, .int .i64 D.start, .int .i64 D.fin, .slice a n c, .slice a' n' c'] 27) := ⟨_, rfl⟩
  have hxb : Ext w wb := by rw [hwb]; exact (by repeat (first | (with_reducible exact Ext.refl _) | (with_reducible refine Ext.drewN ?_ _) | (with_reducible refine Ext.drew ?_) | (with_reducible refine Ext.alloc ?_ _) | ((with_reducible refine Ext.setCell ?_ ?_ _); rotate_left; focus (first | (simp; done) | (simp; omega) | omega)) | assumption | (with_reducible refine Ext.trans ?_ (by assumption))))
  rw [← hwb] at HB ⊢
  generalize w.heap.size = q at *
  clear hwb
  refine (HVal.out _ hxb).mono ?_
  rintro e w1 ⟨rfl, hx1⟩
  have HB1 := Lib.hid (HB.out.ext hx1)
  have hxw1 : Ext w w1 := hxb.trans hx1
  go_wp2_with (go_at_call 150; (with_reducible refine (HL.out _ q HB1.out).mono ?_); rintro e w2 ⟨v, rfl, hv2, hy2⟩; have HV2 := Lib.hid hv2; have hxw2 : Ext w w2 := hxw1.trans hy2; clear hv2 hy2)
  · rename_i hge
    go_ret2
    exact ⟨_, _, rfl, HV2.out.no hge HLt.out, hxw2⟩
  · rename_i hge
    go_ret2
    exact ⟨_, _, rfl, HV2.out.yes hge, hxw2⟩
set_option maxHeartbeats 2000000 in
theorem impl_PairDistance (b : Int) (a : Option Addr) (n c : Nat) (l1 : List Int) (a2 : Option Addr) (n2 c2 : Nat) (l2 : List Int) (w : World) (h1 : Ints w a n c l1) (h2 : Ints w a2 n2 c2 l2) :
    Calls Try.prog 44 #[.int .i64 b, .slice a n c, .slice a2 n2 c2] w (RetPD (PairD b l1 l2) w) := by
  have HI1 := Lib.hid h1
  have HI2 := Lib.hid h2
  have HC := Lib.hid (fun W (h : Ext w W) => impl_PairChain b a n c l1 a2 n2 c2 l2 W (h1.ext h) (h2.ext h))
  clear h1 h2
  obtain ⟨q, hq⟩ : ∃ q, q = w.heap.size := ⟨_, rfl⟩
  have hqw : w.heap.size ≤ q := by omega
  cases hok : pairB b l1 l2
  · rw [hok] at HC
    have HNo : Hid (∀ d, ¬ PairD b l1 l2 d) := Lib.hid (fun d hd => by have := hd.1; rw [hok] at this; cases this)
    clear hok
    go_enter Try.func44, Try.ntmps44
    go_wp2_with (go_at_call 38; (with_reducible refine (HC.out _ (by repeat (first | (with_reducible exact Ext.refl _) | (with_reducible refine Ext.drewN ?_ _) | (with_reducible refine Ext.drew ?_) | (with_reducible refine Ext.alloc ?_ _) | ((with_reducible refine Ext.setCell ?_ ?_ _); rotate_left; focus (first | (simp; done) | (simp; omega) | omega)) | assumption | (with_reducible refine Ext.trans ?_ (by assumption))))).mono ?_); rintro e w1 ⟨ca, cx, cc, cb, cy, cd, rfl, hcx, hcy, hcp, hy1⟩; have HY1 := Lib.hid hy1)
    go_ret2
    exact ⟨0, false, rfl, .inr ⟨rfl, rfl, HNo.out⟩, hy1.alloc _⟩
  · rw [hok] at HC
    obtain ⟨hval, hb12, hS3⟩ := pair_facts hok
    have HL := Lib.hid (fun W xa xn xc ya yn yc (h : ChIn W (pairCh b l1 l2) xa xn xc ya yn yc) => impl_LeastDistance (pairCh b l1 l2) xa xn xc ya yn yc W h hval hb12 hS3)
    have HSm := Lib.hid (show SmallCh (pairCh b l1 l2) from by unfold pairCh; rw [if_pos hok]; exact (pair_fit hok).small)
    have HD : Hid (∀ d, DfF (pairCh b l1 l2) (pairCh b l1 l2).places.length (pairCh b l1 l2).start d ↔ PairD b l1 l2 d) := Lib.hid (fun d => ⟨fun h => ⟨hok, h⟩, fun h => h.2⟩)
    clear hval hb12 hS3 hok
    generalize pairCh b l1 l2 = D at HC HL HSm HD
    go_enter Try.func44, Try.ntmps44
    go_wp2_with (first | (go_at_call 38; (with_reducible refine (HC.out _ (by repeat (first | (with_reducible exact Ext.refl _) | (with_reducible refine Ext.drewN ?_ _) | (with_reducible refine Ext.drew ?_) | (with_reducible refine Ext.alloc ?_ _) | ((with_reducible refine Ext.setCell ?_ ?_ _); rotate_left; focus (first | (simp; done) | (simp; omega) | omega)) | assumption | (with_reducible refine Ext.trans ?_ (by assumption))))).mono ?_); rintro e w1 ⟨ca, cx, cc, cb, cy, cd, rfl, hcx, hcy, hcp, hy1⟩; have HY1 := Lib.hid hy1; have HI := Lib.hid (show ChIn w1 D ca cx cc cb cy cd from hcp.inn hcx hcy HSm.out); clear hcp hy1) | (go_at_call 102; (with_reducible refine (HL.out _ _ _ _ _ _ _ (HI.out.ext ((Ext.refl _).alloc _))).mono ?_); rintro e w2 ⟨v, f, rfl, hd, hy2⟩; have HD2 := Lib.hid hd; have HY2 := Lib.hid hy2; clear hd hy2))
    go_ret2
    obtain ⟨rfl, _⟩ | ⟨rfl, _⟩ := HD2.out
    all_goals exact ⟨_, _, rfl, isD_iff HD.out HD2.out, HY1.out.trans (((Ext.refl _).alloc _).trans HY2.out)⟩
end Go.Proofs.Ytaiieodllhoelaa
