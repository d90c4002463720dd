/- Walks: barcodes: which are valid. -/
import Derived.Test.YtnmkckghfckgbaaPat
namespace Go.Proofs.Ytnmkckghfckgbaa
set_option maxRecDepth 100000
open Go.RowKit

structure Bc where
  start : ByteArray
  stop : ByteArray
  pats : List ByteArray
  gap : Int

/-- the block b holds a barcode, in this world and behind it -/
structure BcAt (w : World) (b : Nat) (D : Bc) (a : Option Addr) (n c : Nat) : Prop where
  c0 : ∀ w', Ext w w' → w'.cell? ⟨b, 0, none⟩ = some (.string D.start)
  c1 : ∀ w', Ext w w' → w'.cell? ⟨b, 1, none⟩ = some (.string D.stop)
  c2 : ∀ w', Ext w w' → w'.cell? ⟨b, 2, none⟩ = some (.slice a n c)
  c3 : ∀ w', Ext w w' → w'.cell? ⟨b, 3, none⟩ = some (.int .i64 D.gap)
  ps : Strs w a n c D.pats
theorem BcAt.ext {w w' : World} {b : Nat} {D : Bc} {a : Option Addr} {n c : Nat} (h : BcAt w b D a n c) (hx : Ext w w') : BcAt w' b D a n c :=
  ⟨fun w' h' => h.c0 w' (hx.trans h'), fun w' h' => h.c1 w' (hx.trans h'), fun w' h' => h.c2 w' (hx.trans h'), fun w' h' => h.c3 w' (hx.trans h'), h.ps.ext hx⟩
theorem bc_box (w : World) (D : Bc) (a : Option Addr) (n c : Nat) (T : TypeId) (h : Strs w a n c D.pats) :
    BcAt (w.alloc (.cells #[.string D.start, .string D.stop, .slice a n c, .int .i64 D.gap] T)) w.heap.size D a n c :=
  ⟨fun w' hx => hx.cell (by go_simp), fun w' hx => hx.cell (by go_simp), fun w' hx => hx.cell (by go_simp), fun w' hx => hx.cell (by go_simp), h.ext ((Ext.refl w).alloc _)⟩

def pl (p : ByteArray) : List UInt8 := p.data.toList
theorem pl_len (p : ByteArray) : (pl p).length = p.size := size_eq p
/-- pattern k is one, and as the first one, and none of the earlier ones -/
def oneB (pats : List ByteArray) (k : Nat) : Bool :=
  patB (pl (gs pats k)) && (decide (((gs pats k).size : Int) = (gs pats 0).size) && (decide ((elsL (pl (gs pats k))).sum = (elsL (pl (gs pats 0))).sum) && !(pats.take k).any fun p => (gs pats k).toList == p.toList))
def allB (pats : List ByteArray) : Nat → Bool
  | 0 => true
  | k + 1 => allB pats k && oneB pats k
def headB (D : Bc) : Bool := patB (pl D.start) && (patB (pl D.stop) && (inB D.pats.length 1 36 && inB D.gap 0 4))
def tailB (D : Bc) : Bool := ((D.stop.size : Int) % 2 == 1) && (((gs D.pats 0).size : Int) % 2 == (D.start.size : Int) % 2 && (((D.start.size : Int) % 2 == 1) == decide (0 < D.gap)))
def validBc (D : Bc) : Bool := headB D && (allB D.pats D.pats.length && tailB D)
theorem allB_le {pats : List ByteArray} {n k : Nat} (h : allB pats n = true) (hk : k < n) : oneB pats k = true := by
  induction n with
  | zero => omega
  | succ n ih =>
    simp only [allB, Bool.and_eq_true] at h
    by_cases h2 : k = n
    · subst h2; exact h.2
    · exact ih h.1 (by omega)
theorem allB_no {pats : List ByteArray} {n k : Nat} (h : oneB pats k = false) (hk : k < n) : allB pats n = false := by
  cases ha : allB pats n with
  | false => rfl
  | true => rw [allB_le ha hk] at h; cases h

theorem und_strings : Try.prog.underlying 22 = some (.slice 9) := Try.underlying22
theorem elem_strings : Try.prog.elem 22 = 9 := by kernel_rfl
theorem cell_string : Try.prog.cellsOf 9 = 1 := by kernel_rfl

/-! ### strings among others -/
theorem NoneIn.stepS {p : ByteArray → Bool} {l : List ByteArray} {k : Nat} (hk : k < l.length) (h : p (gs l k) = false) (hp : NoneIn p (l.take k)) : NoneIn p (l.take (k + 1)) := NoneIn.step (d := .empty) hk rfl h hp
theorem idx_hitS {p : ByteArray → Bool} {l : List ByteArray} {k : Nat} (hk : k < l.length) (hp : NoneIn p (l.take k)) (h : p (gs l k) = true) : idx p l = k := idx_hit (d := .empty) hk rfl h hp
set_option maxHeartbeats 400000 in
theorem index_strs (a : Option Addr) (n c : Nat) (l : List ByteArray) (s : ByteArray) (w : World) (hv : Strs w a n c l) (hn : n ≤ 4294967296) :
    Calls Try.prog 121 #[.slice a n c, .string s] w (Same (.int .i64 (idx (fun x => s.toList == x.toList) l)) w) := by
  have HL := Lib.hid hv.len
  obtain ⟨b, off, hix, hcell⟩ := hv.ix (P := Try.prog) 22 9 und_strings cell_string
  have Hhv := Lib.hid hv; clear hv
  go_enter Try.func121, Try.ntmps121
  go_wp2
  go_loop [5, 8] (fun _ i => ∃ k : Nat, k ≤ n ∧ i = .int .i64 k ∧ NoneIn (fun x => s.toList == x.toList) (l.take k)) (fun _ i => n - (intOf i).toNat)
  case atStart => exact ⟨0, Nat.zero_le _, rfl, by simp [NoneIn]⟩
  case round =>
    obtain ⟨k, hk, rfl, hp⟩ := hrel
    have Hhp := Lib.hid hp; clear hp
    by_cases hlt : k < n
    · have hkl : k < l.length := by rw [HL.out]; exact hlt
      have HS := Lib.hid (fun h => NoneIn.stepS (p := fun x => s.toList == x.toList) hkl h Hhp.out)
      have HT := Lib.hid (idx_hitS (p := fun x => s.toList == x.toList) hkl Hhp.out)
      clear hkl
      go_wp2
      · go_ret
        exact ⟨ri (HT.out (by assumption)).symm, rfl⟩
      · exact ⟨⟨k + 1, by omega, by go_num, HS.out (by assumption)⟩, by simp [intOf]; omega⟩
    · go_wp2
      go_ret
      exact ⟨ri (idx_none (by have := Hhp.out; rwa [take_full (by rw [HL.out]; omega)] at this)).symm, rfl⟩
set_option maxHeartbeats 400000 in
theorem contains_strs (a : Option Addr) (n c : Nat) (l : List ByteArray) (s : ByteArray) (w : World) (hv : Strs w a n c l) (hn : n ≤ 4294967296) :
    Calls Try.prog 89 #[.slice a n c, .string s] w (Same (.bool (l.any fun x => s.toList == x.toList)) w) := by
  have HA := Lib.hid (idx_ge (fun x => s.toList == x.toList) l)
  go_enter Try.func89, Try.ntmps89
  go_wp2_with (go_at_call 121; refine (index_strs a n c l s _ hv hn).mono ?_; rintro e w' ⟨rfl, rfl⟩)
  go_ret
  exact ⟨rb HA.out, rfl⟩
set_option maxHeartbeats 2000000 in
theorem impl_ValidBarcode (D : Bc) (a : Option Addr) (n c : Nat) (w : World) (hv : Strs w a n c D.pats) (hn : n ≤ 1048576) (hs : D.start.size ≤ 1048576) (ht : D.stop.size ≤ 1048576) (hp : ∀ p ∈ D.pats, p.size ≤ 1048576) :
    Calls Try.prog 45 #[.agg #[.string D.start, .string D.stop, .slice a n c, .int .i64 D.gap]] w (Ret (.bool (validBc D)) w) := by
  have HL := Lib.hid hv.len
  have HB := Lib.hid (bc_box w D a n c 28 hv)
  have HP := Lib.hid (fun k (hk : k < n) => hp _ (gs_mem (by rw [HL.out]; exact hk)))
  have Hhv := Lib.hid hv; clear hv; have Hhp := Lib.hid hp; clear hp
  go_enter Try.func45, Try.ntmps45
  go_wp2_with fail
  obtain ⟨wb, hwb⟩ : ∃ wb, wb = w.alloc (.cells #[.string D.start, .string D.stop, .slice a n c, .int .i64 D.gap] 28) := ⟨_, rfl⟩
  rw [← hwb] at HB ⊢
  have hxb : Ext w wb := by rw [hwb]; exact (by repeat (first | (with_reducible exact Ext.refl _) | (with_reducible refine Ext.drewN ?_ _) | (with_reducible refine Ext.drew ?_) | (with_reducible refine Ext.alloc ?_ _) | ((with_reducible refine Ext.setCell ?_ ?_ _); rotate_left; focus (first | (simp; done) | (simp; omega) | omega)) | assumption | (with_reducible refine Ext.trans ?_ (by assumption))))
  obtain ⟨c0, c1, c2, c3, hps⟩ := HB.out
  obtain ⟨b, off, hix, hcell⟩ := hps.ix (P := Try.prog) 22 9 und_strings cell_string
  have HPre := Lib.hid (fun k hk => hps.pre (P := Try.prog) 22 9 und_strings cell_string elem_strings k hk)
  have Hhps := Lib.hid hps; clear hps
  generalize w.heap.size = p at *
  clear hwb
  go_wp2_with (first | (go_at_call 86; refine (impl_isPattern _ _ (by omega)).mono ?_; rintro e w1 ⟨rfl, hy⟩; have hxw1 : Ext wb w1 := Ext.trans (by repeat (first | (with_reducible exact Ext.refl _) | (with_reducible refine Ext.drewN ?_ _) | (with_reducible refine Ext.drew ?_) | (with_reducible refine Ext.alloc ?_ _) | ((with_reducible refine Ext.setCell ?_ ?_ _); rotate_left; focus (first | (simp; done) | (simp; omega) | omega)) | assumption | (with_reducible refine Ext.trans ?_ (by assumption)))) hy; clear hy) | (go_at_call 87; refine (impl_in _ _ _ _).mono ?_; rintro e w' ⟨rfl, rfl⟩))
  rotate_left
  all_goals try (go_ret; exact ⟨rb (by simp_all [validBc, headB, pl, HL.out]), (by repeat (first | (with_reducible exact Ext.refl _) | (with_reducible refine Ext.drewN ?_ _) | (with_reducible refine Ext.drew ?_) | (with_reducible refine Ext.alloc ?_ _) | ((with_reducible refine Ext.setCell ?_ ?_ _); rotate_left; focus (first | (simp; done) | (simp; omega) | omega)) | assumption | (with_reducible refine Ext.trans ?_ (by assumption))))⟩)
  have hh : headB D = true := by simp_all [headB, pl, HL.out]
  have hn1 : 1 ≤ n := by unfold headB at hh; simp only [Bool.and_eq_true] at hh; have := inB_t.1 hh.2.2.1; rw [HL.out] at this; omega
  have HV := Lib.hid (show validBc D = (allB D.pats n && tailB D) by rw [validBc, hh, HL.out]; rfl)
  have hg : inB D.gap 0 4 = true := by unfold headB at hh; simp only [Bool.and_eq_true] at hh; exact hh.2.2.2
  simp only [hg, Bool.not_true]
  clear hh hg
  go_loopw [33] (fun i wr => ∃ k : Nat, k ≤ n ∧ i = .int .i64 k ∧ allB D.pats k = true ∧ Ext wb wr) (fun i _ => n - (intOf i).toNat)
  case atStart => exact ⟨0, Nat.zero_le _, rfl, rfl, by assumption⟩
  case round =>
    obtain ⟨k, hk, rfl, hal, hx⟩ := hrel
    have Hhal := Lib.hid hal; clear hal
    by_cases hlt : k < n
    · have hz : 0 < n := by omega
      have hcell0 : ∀ w', Ext wb w' → w'.cell? ⟨b, off, none⟩ = some (.string (gs D.pats 0)) := fun w' h => hcell 0 w' (by omega) h
      have hp0 := HP.out 0 (by omega)
      have hpk := HP.out k hlt
      obtain ⟨a', hpre, hvp⟩ := HPre.out k hk
      have HVp := Lib.hid hvp
      have HIP := Lib.hid (fun W => impl_isPattern (gs D.pats k) W hpk)
      have HNo := Lib.hid (fun h => allB_no (pats := D.pats) (k := k) (n := n) h hlt)
      clear hvp
      cases h1 : patB (gs D.pats k).data.toList
      · rw [h1] at HIP
        have HF := Lib.hid (HNo.out (by rw [oneB, pl, h1]; rfl))
        clear h1
        go_wp2_with (go_at_call 86; refine (HIP.out _).mono ?_; rintro e w1 ⟨rfl, hy⟩; have hxw1 : Ext wb w1 := Ext.trans (by repeat (first | (with_reducible exact Ext.refl _) | (with_reducible refine Ext.drewN ?_ _) | (with_reducible refine Ext.drew ?_) | (with_reducible refine Ext.alloc ?_ _) | ((with_reducible refine Ext.setCell ?_ ?_ _); rotate_left; focus (first | (simp; done) | (simp; omega) | omega)) | assumption | (with_reducible refine Ext.trans ?_ (by assumption)))) hy; clear hy)
        go_ret
        exact ⟨rb (by rw [HV.out, HF.out]; rfl), (by repeat (first | (with_reducible exact Ext.refl _) | (with_reducible refine Ext.drewN ?_ _) | (with_reducible refine Ext.drew ?_) | (with_reducible refine Ext.alloc ?_ _) | ((with_reducible refine Ext.setCell ?_ ?_ _); rotate_left; focus (first | (simp; done) | (simp; omega) | omega)) | assumption | (with_reducible refine Ext.trans ?_ (by assumption))))⟩
      · rw [h1] at HIP
        have hc1 : charsB (gs D.pats k).data.toList = true := by unfold patB at h1; simp only [Bool.and_eq_true] at h1; exact h1.1
        have hc0 : charsB (gs D.pats 0).data.toList = true := by
          by_cases hk0 : k = 0
          · subst hk0; exact hc1
          · have := allB_le Hhal.out (k := 0) (by omega); unfold oneB patB pl at this; simp only [Bool.and_eq_true] at this; exact this.1.1
        have HO := Lib.hid (show oneB D.pats k = (decide (((gs D.pats k).size : Int) = (gs D.pats 0).size) && (decide ((elsL (gs D.pats k).data.toList).sum = (elsL (gs D.pats 0).data.toList).sum) && !(D.pats.take k).any fun p => (gs D.pats k).toList == p.toList)) by rw [oneB, pl, h1]; rfl)
        have HEk := Lib.hid (fun W => impl_elements (gs D.pats k) W hpk hc1)
        have HE0 := Lib.hid (fun W => impl_elements (gs D.pats 0) W hp0 hc0)
        have HSk := Lib.hid (fun a c W h => impl_sum a (gs D.pats k).size c (elsL (gs D.pats k).data.toList) W h (fun x hx => by have := elsL_bd hc1 x hx; omega) (by omega))
        have HS0 := Lib.hid (fun a c W h => impl_sum a (gs D.pats 0).size c (elsL (gs D.pats 0).data.toList) W h (fun x hx => by have := elsL_bd hc0 x hx; omega) (by omega))
        have HCo := Lib.hid (fun W h => contains_strs a' k c (D.pats.take k) (gs D.pats k) W h (by omega))
        clear h1 hc1 hc0
        go_wp2_with (first | (go_at_call 86; refine (HIP.out _).mono ?_; rintro e w1 ⟨rfl, hy⟩; have hxw1 : Ext wb w1 := Ext.trans (by repeat (first | (with_reducible exact Ext.refl _) | (with_reducible refine Ext.drewN ?_ _) | (with_reducible refine Ext.drew ?_) | (with_reducible refine Ext.alloc ?_ _) | ((with_reducible refine Ext.setCell ?_ ?_ _); rotate_left; focus (first | (simp; done) | (simp; omega) | omega)) | assumption | (with_reducible refine Ext.trans ?_ (by assumption)))) hy; clear hy) | ((with_reducible refine (HEk.out _).mono ?_); rintro e w2 ⟨a2, c2, rfl, ho2, hy⟩; rw [I_len, elsL_len, size_eq] at ho2 ⊢; have hx2 : Ext wb w2 := Ext.trans (by repeat (first | (with_reducible exact Ext.refl _) | (with_reducible refine Ext.drewN ?_ _) | (with_reducible refine Ext.drew ?_) | (with_reducible refine Ext.alloc ?_ _) | ((with_reducible refine Ext.setCell ?_ ?_ _); rotate_left; focus (first | (simp; done) | (simp; omega) | omega)) | assumption | (with_reducible refine Ext.trans ?_ (by assumption)))) hy; clear hy; have HO2 := Lib.hid ho2; clear ho2) | ((with_reducible refine (HSk.out _ _ _ HO2.out.ints).mono ?_); rintro e w' ⟨rfl, rfl⟩) | ((with_reducible refine (HE0.out _).mono ?_); rintro e w3 ⟨a3, c3, rfl, ho3, hy⟩; rw [I_len, elsL_len, size_eq] at ho3 ⊢; have hx3 : Ext wb w3 := Ext.trans (by repeat (first | (with_reducible exact Ext.refl _) | (with_reducible refine Ext.drewN ?_ _) | (with_reducible refine Ext.drew ?_) | (with_reducible refine Ext.alloc ?_ _) | ((with_reducible refine Ext.setCell ?_ ?_ _); rotate_left; focus (first | (simp; done) | (simp; omega) | omega)) | assumption | (with_reducible refine Ext.trans ?_ (by assumption)))) hy; clear hy; have HO3 := Lib.hid ho3; clear ho3) | ((with_reducible refine (HS0.out _ _ _ HO3.out.ints).mono ?_); rintro e w' ⟨rfl, rfl⟩) | (go_at_call 89; refine (HCo.out _ (HVp.out.ext (by repeat (first | (with_reducible exact Ext.refl _) | (with_reducible refine Ext.drewN ?_ _) | (with_reducible refine Ext.drew ?_) | (with_reducible refine Ext.alloc ?_ _) | ((with_reducible refine Ext.setCell ?_ ?_ _); rotate_left; focus (first | (simp; done) | (simp; omega) | omega)) | assumption | (with_reducible refine Ext.trans ?_ (by assumption)))))).mono ?_; rintro e w' ⟨rfl, rfl⟩))
        rotate_left
        · exact ⟨⟨k + 1, by omega, by go_num, by rw [allB, Hhal.out, HO.out]; simp_all, (by repeat (first | (with_reducible exact Ext.refl _) | (with_reducible refine Ext.drewN ?_ _) | (with_reducible refine Ext.drew ?_) | (with_reducible refine Ext.alloc ?_ _) | ((with_reducible refine Ext.setCell ?_ ?_ _); rotate_left; focus (first | (simp; done) | (simp; omega) | omega)) | assumption | (with_reducible refine Ext.trans ?_ (by assumption))))⟩, by simp [intOf]; omega⟩
        all_goals
          have hf : oneB D.pats k = false := by rw [HO.out]; simp_all
          go_ret
          exact ⟨rb (by rw [HV.out, HNo.out hf]; rfl), (by repeat (first | (with_reducible exact Ext.refl _) | (with_reducible refine Ext.drewN ?_ _) | (with_reducible refine Ext.drew ?_) | (with_reducible refine Ext.alloc ?_ _) | ((with_reducible refine Ext.setCell ?_ ?_ _); rotate_left; focus (first | (simp; done) | (simp; omega) | omega)) | assumption | (with_reducible refine Ext.trans ?_ (by assumption))))⟩
    · obtain rfl : k = n := by omega
      have hz : 0 < k := by omega
      have hcell0 : ∀ w', Ext wb w' → w'.cell? ⟨b, off, none⟩ = some (.string (gs D.pats 0)) := fun w' h => hcell 0 w' (by omega) h
      have HT := Lib.hid (show validBc D = tailB D by rw [HV.out, Hhal.out]; rfl)
      go_wp2
      all_goals (go_ret; exact ⟨rb (by rw [HT.out]; simp_all [tailB]), (by repeat (first | (with_reducible exact Ext.refl _) | (with_reducible refine Ext.drewN ?_ _) | (with_reducible refine Ext.drew ?_) | (with_reducible refine Ext.alloc ?_ _) | ((with_reducible refine Ext.setCell ?_ ?_ _); rotate_left; focus (first | (simp; done) | (simp; omega) | omega)) | assumption | (with_reducible refine Ext.trans ?_ (by assumption))))⟩)
end Go.Proofs.Ytnmkckghfckgbaa
