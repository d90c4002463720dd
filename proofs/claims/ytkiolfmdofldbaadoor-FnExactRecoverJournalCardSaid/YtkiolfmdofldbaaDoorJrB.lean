/- Walks: check numbers, decimals, texts cut at a mark, in the program and in the reference. -/
import Derived.Test.YtkiolfmdofldbaaDoorJrM
import Derived.Test.YtkiolfmdofldbaaDoorVar
import Derived.Test.YtkiolfmdofldbaaDoorShelf
import Derived.Test.YtkiolfmdofldbaaDoorText
import Derived.Test.YtkiolfmdofldbaaDoorPut
import Derived.Lib.AppendIntMem
import Derived.Shelf.Strings.BuilderF
namespace Go.Proofs.YtkiolfmdofldbaaDoor
set_option maxRecDepth 100000
open Go.RowKit Go.Sort

/-- the library's table of powers of ten -/
def TabW (w : World) : Prop := Lib.TabIs Tryd.prog w "internal/strconv.uint64pow10" .u64 Lib.pow10Tab
theorem TabW.ext {w w' : World} (h : TabW w) (hx : Ext w w') : TabW w' := by
  unfold TabW Lib.TabIs World.var? at *
  rw [Option.bind_eq_some_iff] at *
  obtain ⟨g, h1, h2⟩ := h
  refine ⟨g, h1, ?_⟩
  cases ho : w.heap[g]? with
  | none => rw [ho] at h2; cases h2
  | some o => rw [hx.heap ho]; rw [ho] at h2; exact h2
theorem bld_ext {T e : TypeId} {B b : Nat} {bs : List Value} {w w' : World} (h : Lib.IsBuilderF T e B b bs w) (hx : Ext w w') : Lib.IsBuilderF T e B b bs w' := by
  have key : ∀ p, Lib.BuilderAtF T e B b p bs w → Lib.BuilderAtF T e B b p bs w' := fun p h => by
    obtain ⟨h1, v, h2, h3, h4⟩ := h
    refine ⟨h1, v, hx.heap h2, ⟨h3.1, ?_⟩, h4⟩
    rcases h3.2 with h5 | ⟨g, cap, cur, fz, hv, hb, hg, r⟩
    · exact .inl h5
    · exact .inr ⟨g, cap, cur, fz, hv, hb, hx.heap hg, r⟩
  rcases h with h | h
  · exact .inl (key _ h)
  · exact .inr (key _ h)
set_option maxHeartbeats 400000 in
theorem impl_Decimal (n : Int) (w : World) (h0 : -9223372036854775808 ≤ n) (h1 : n ≤ 9223372036854775807) (ht : TabW w) : Calls Tryd.prog 24 #[.int .i64 n] w (Ret (.string (decS n)) w) := by
  have HF := Lib.hid (Tryd.strconv_FormatInt_10 n h0 h1 w ht)
  clear ht
  go_enter Tryd.func24, Tryd.ntmps24
  go_wp2_with (refine HF.out.mono ?_; rintro e w1 ⟨rfl, k, os, rfl⟩)
  go_ret
  exact ⟨rfl, Lib.below_grow w.heap.size w (Nat.le_refl _) k os⟩
set_option maxHeartbeats 1000000 in
theorem impl_CheckOf (n : Int) (s : ByteArray) (w : World) (h0 : 0 ≤ n) (h1 : n ≤ 32748) (hs : s.size ≤ 4611686018427387904) : Calls Tryd.prog 22 #[.int .i64 n, .string s] w (Same (.tuple #[.int .i64 (ckS n s), .bool true]) w) := by
  have HI := Lib.hid (impl_in n 0 32748 w)
  rw [show inB n 0 32748 = true from inB_t.2 ⟨h0, h1⟩] at HI
  go_enter Tryd.func22, Tryd.ntmps22
  go_wp2_with (refine HI.out.mono ?_; rintro e w1 ⟨rfl, rfl⟩)
  go_loop [0, 6, 12] (fun v _ i => ∃ (k : Nat) (m : Int), k ≤ s.size ∧ i = .int .i64 k ∧ v = .int .i64 m ∧ Hid (m = ckL n ((bl s).take k)) ∧ 0 ≤ m ∧ m ≤ 32748) (fun _ _ i => s.size - (intOf i).toNat)
  case atStart => exact ⟨0, n, Nat.zero_le _, rfl, rfl, rfl, h0, h1⟩
  case round =>
    obtain ⟨k, m, hk, rfl, rfl, HM, hm0, hm1⟩ := hrel
    by_cases hlt : k < s.size
    · have HS := Lib.hid (ckL_step n s k hlt)
      have hb : (s[k].toNat : Int) ≤ 255 := by have := s[k].toNat_lt; omega
      have hb0 : (0 : Int) ≤ (s[k].toNat : Int) := by omega
      go_wp2
      exact ⟨⟨k + 1, ckB m s[k], by omega, by go_num, by unfold ckB; first | rfl | (congr 1; omega), by rw [Hid, HS.out, ← HM.out], (ckB_bd hm0).1, (ckB_bd hm0).2⟩, by simp [intOf]; omega⟩
    · go_wp2
      go_ret2
      obtain rfl : k = s.size := by omega
      rw [← ckL_full n s s.size (Nat.le_refl _), ← HM.out]
      exact ⟨rfl, rfl⟩
set_option maxHeartbeats 1000000 in
theorem spec_check (n : Int) (s : ByteArray) (w : World) (h0 : 0 ≤ n) (h1 : n ≤ 32748) (hs : s.size ≤ 4611686018427387904) : Calls Tryd.prog 27 #[.int .i64 n, .string s] w (Same (.int .i64 (ckS n s)) w) := by
  go_enter Tryd.func27, Tryd.ntmps27
  go_wp2
  go_loop [0, 5] (fun v i => ∃ (k : Nat) (m : Int), k ≤ s.size ∧ i = .int .i64 k ∧ v = .int .i64 m ∧ Hid (m = ckL n ((bl s).take k)) ∧ 0 ≤ m ∧ m ≤ 32748) (fun _ i => s.size - (intOf i).toNat)
  case atStart => exact ⟨0, n, Nat.zero_le _, rfl, rfl, rfl, h0, h1⟩
  case round =>
    obtain ⟨k, m, hk, rfl, rfl, HM, hm0, hm1⟩ := hrel
    by_cases hlt : k < s.size
    · have HS := Lib.hid (ckL_step n s k hlt)
      have hb : (s[k].toNat : Int) ≤ 255 := by have := s[k].toNat_lt; omega
      have hb0 : (0 : Int) ≤ (s[k].toNat : Int) := by omega
      go_wp2
      exact ⟨⟨k + 1, ckB m s[k], by omega, by go_num, by unfold ckB; first | rfl | (congr 1; omega), by rw [Hid, HS.out, ← HM.out], (ckB_bd hm0).1, (ckB_bd hm0).2⟩, by simp [intOf]; omega⟩
    · go_wp2
      go_ret
      obtain rfl : k = s.size := by omega
      exact ⟨ri (by rw [HM.out, ckL_full _ _ _ (Nat.le_refl _)]), rfl⟩
/-! ### decimals of the reference -/
def dgs (l : List UInt8) : List Int := l.map fun b => (b.toNat : Int)
theorem str_dgs (l : List UInt8) : strOfNums (dgs l) = ⟨l.toArray⟩ := by
  have h : ((fun n : Int => UInt8.ofNat n.toNat) ∘ fun b : UInt8 => (b.toNat : Int)) = id := by funext b; simp
  unfold strOfNums dgs
  rw [List.map_map]
  first | rw [h, List.map_id] | (congr 1; simp [h])
theorem dec_step (m : Nat) : Lib.decDigits m = (if m / 10 = 0 then [] else Lib.decDigits (m / 10)) ++ [UInt8.ofNat (48 + m % 10)] := by
  by_cases h : m < 10
  · rw [Lib.decDigits_one h, if_pos (by omega), List.nil_append, Nat.mod_eq_of_lt h]
  · rw [if_neg (by omega)]
    conv => lhs; rw [Lib.decDigits, dif_neg h]
def DecI (n : Nat) (L : List UInt8) (m : Nat) : Prop := (L = [] ∧ m = n) ∨ (L ≠ [] ∧ Lib.decDigits n = (if m = 0 then [] else Lib.decDigits m) ++ L)
theorem DecI.step {n m : Nat} {L : List UInt8} (h : DecI n L m) (hg : m ≠ 0 ∨ L = []) : DecI n (UInt8.ofNat (48 + m % 10) :: L) (m / 10) := by
  refine .inr ⟨by simp, ?_⟩
  rcases h with ⟨rfl, rfl⟩ | ⟨h1, h2⟩
  · exact dec_step m
  · rcases hg with hg | hg
    · rw [h2, if_neg hg, dec_step m, List.append_assoc]; rfl
    · exact absurd hg h1
theorem DecI.fin {n m : Nat} {L : List UInt8} (h : DecI n L m) (hm : m = 0) (hL : L ≠ []) : L = Lib.decDigits n := by
  rcases h with ⟨rfl, _⟩ | ⟨_, h2⟩
  · exact absurd rfl hL
  · rw [h2, if_pos hm, List.nil_append]
theorem dgs_cons (b : UInt8) (l : List UInt8) : dgs (b :: l) = (b.toNat : Int) :: dgs l := rfl
theorem dig_nat (m : Nat) : ((UInt8.ofNat (48 + m % 10)).toNat : Int) = 48 + (m : Int) % 10 := by
  rw [UInt8.toNat_ofNat']; omega
theorem DecI.len {n m : Nat} {L : List UInt8} (h : DecI n L m) (hn : n ≤ 9223372036854775807) : L.length ≤ 20 := by
  rcases h with ⟨rfl, _⟩ | ⟨_, h2⟩
  · simp
  · have h3 := congrArg List.length h2
    rw [Lib.decDigits_length, List.length_append] at h3
    have := Lib.nDigits_le20 n (by omega)
    omega
def lenOf : Value → Nat | .slice _ n _ => n | _ => 0
theorem Own.lit1 (w : World) (E : TypeId) (u : Value) : Own (w.alloc (.cells #[u] E)) w.heap.size E (Option.some ⟨w.heap.size, 0, Option.none⟩) 1 1 [u] :=
  World.ownsRow_lit (e := E) (size := 1) w #[u] 1 (Nat.le_refl _) (by unfold maxLen; omega) rfl
theorem oneU (l : List Int) : ∀ u ∈ U l, u.oneCell' = true := fun u hu => by
  obtain ⟨x, _, rfl⟩ := List.mem_map.1 hu; rfl
theorem U_len (l : List Int) : (U l).length = l.length := by simp [U]
theorem dgs_len (l : List UInt8) : (dgs l).length = l.length := by simp [dgs]
set_option maxHeartbeats 2000000 in
theorem spec_dec (n : Nat) (w : World) (h1 : n ≤ 9223372036854775807) : Calls Tryd.prog 28 #[.int .i64 (n : Int)] w (Ret (.string (decS n)) w) := by
  have HD := Lib.hid (show ∀ L, L = Lib.decDigits n → decS n = strOfNums (dgs L) from fun L hL => by rw [str_dgs, hL]; unfold decS Lib.itoa; rw [if_neg (by omega)]; simp)
  go_enter Tryd.func28, Tryd.ntmps28
  go_wp2_with fail
  go_loopw [3, 4, 5] (fun v r _ wr => ∃ (L : List UInt8) (m : Nat) (ad : Option Addr) (c : Nat), r = .int .i64 (m : Int) ∧ v = .slice ad L.length c ∧ Hid (DecI n L m) ∧ m ≤ n ∧ Hid (Own wr w.heap.size 5 ad L.length c (U (dgs L))) ∧ Ext w wr) (fun v r _ _ => (intOf r).toNat + (1 - lenOf v))
  case atStart => exact ⟨[], n, _, _, rfl, rfl, .inl ⟨rfl, rfl⟩, Nat.le_refl _, Own.lit0 w _, (by repeat (first | (with_reducible exact Ext.refl _) | (with_reducible refine Ext.drewN ?_ _) | (with_reducible refine Ext.drew ?_) | (with_reducible refine Ext.alloc ?_ _) | ((with_reducible refine Ext.setCell ?_ ?_ _); rotate_left; focus (first | (simp; done) | (simp; omega) | omega)) | assumption | (with_reducible refine Ext.trans ?_ (by assumption))))⟩
  case round =>
    obtain ⟨L, m, ad, c, rfl, rfl, HI, hm, HO, hx⟩ := hrel
    have hL := HI.out.len h1
    have hrr : Ext wr wr := Ext.refl _
    by_cases hg : m ≠ 0 ∨ L = []
    · have HN := Lib.hid (HI.out.step hg)
      have hd := dig_nat m
      obtain ⟨u, hu⟩ : ∃ u, u = UInt8.ofNat (48 + m % 10) := ⟨_, rfl⟩
      rw [← hu] at HN hd
      clear hu
      have hms : m / 10 + (1 - (L.length + 1)) < m + (1 - L.length) := by
        rcases hg with hg | hg
        · omega
        · subst hg; simp; omega
      obtain ⟨p, hp⟩ : ∃ p, p = L.length := ⟨_, rfl⟩
      have hgp : m ≠ 0 ∨ p = 0 := by
        rcases hg with hg | hg
        · exact .inl hg
        · right; rw [hp, hg]; rfl
      have HP := Lib.hid hp
      rw [← hp] at hms hL ⊢
      have HO2 := Lib.hid (show Own wr w.heap.size 5 ad p c (U (dgs L)) from by rw [hp]; exact HO.out)
      clear hp hg HO
      by_cases hm0 : m = 0
      · have hp0 : p = 0 := by omega
        subst hm0
        clear hgp
        go_wp2_with (at_builtin; refine law_appendsO _ rfl _ _ 32 rfl 5 (.int .u8 0) 1 und_u8s info_u8 rfl wr.heap.size _ 1 1 [_] ad p c (U (dgs L)) (oneU _) rfl rfl (Own.lit1 wr _ _) (Sl.ext HO2.out.sl (by repeat (first | (with_reducible exact Ext.refl _) | (with_reducible assumption) | (with_reducible refine Ext.drewN ?_ _) | (with_reducible refine Ext.drew ?_) | (with_reducible refine Ext.alloc ?_ _) | ((with_reducible refine Ext.setCell ?_ ?_ _); rotate_left; focus (first | (simp; done) | (simp; omega) | omega)) | (with_reducible refine Ext.trans ?_ (by with_reducible assumption))))) (by simp) (by omega) (by omega) ?_; intro ad1 cc1 w1 ho1 hb1 hg1; have hx1 : Ext wr w1 := Ext.below (by repeat (first | (with_reducible exact Ext.refl _) | (with_reducible assumption) | (with_reducible refine Ext.drewN ?_ _) | (with_reducible refine Ext.drew ?_) | (with_reducible refine Ext.alloc ?_ _) | ((with_reducible refine Ext.setCell ?_ ?_ _); rotate_left; focus (first | (simp; done) | (simp; omega) | omega)) | (with_reducible refine Ext.trans ?_ (by with_reducible assumption)))) hb1; clear hg1)
        exact ⟨⟨u :: L, 0, ad1, cc1, by go_num, by rw [List.length_cons, ← HP.out, hp0], HN.out, by omega, by
          rw [Hid, List.length_cons, ← HP.out, Nat.add_comm p 1, dgs_cons, hd]
          exact Own.mono ho1 hx.le, hx.trans hx1⟩, by simp [intOf, lenOf]; omega⟩
      · have hq0 : ((m : Int) != 0) = true := by simp; omega
        clear hgp
        go_wp2_with (at_builtin; refine law_appendsO _ rfl _ _ 32 rfl 5 (.int .u8 0) 1 und_u8s info_u8 rfl wr.heap.size _ 1 1 [_] ad p c (U (dgs L)) (oneU _) rfl rfl (Own.lit1 wr _ _) (Sl.ext HO2.out.sl (by repeat (first | (with_reducible exact Ext.refl _) | (with_reducible assumption) | (with_reducible refine Ext.drewN ?_ _) | (with_reducible refine Ext.drew ?_) | (with_reducible refine Ext.alloc ?_ _) | ((with_reducible refine Ext.setCell ?_ ?_ _); rotate_left; focus (first | (simp; done) | (simp; omega) | omega)) | (with_reducible refine Ext.trans ?_ (by with_reducible assumption))))) (by simp) (by omega) (by omega) ?_; intro ad1 cc1 w1 ho1 hb1 hg1; have hx1 : Ext wr w1 := Ext.below (by repeat (first | (with_reducible exact Ext.refl _) | (with_reducible assumption) | (with_reducible refine Ext.drewN ?_ _) | (with_reducible refine Ext.drew ?_) | (with_reducible refine Ext.alloc ?_ _) | ((with_reducible refine Ext.setCell ?_ ?_ _); rotate_left; focus (first | (simp; done) | (simp; omega) | omega)) | (with_reducible refine Ext.trans ?_ (by with_reducible assumption)))) hb1; clear hg1)
        exact ⟨⟨u :: L, m / 10, ad1, cc1, by go_num, by rw [List.length_cons, ← HP.out, Nat.add_comm], HN.out, by omega, by
          rw [Hid, List.length_cons, ← HP.out, Nat.add_comm p 1, dgs_cons, hd]
          exact Own.mono ho1 hx.le, hx.trans hx1⟩, by simp [intOf, lenOf]; omega⟩
    · have hm0 : m = 0 := by omega
      have hL0 : L ≠ [] := fun h => hg (.inr h)
      have HE := Lib.hid (HD.out L (HI.out.fin hm0 hL0))
      have hpos : L.length ≠ 0 := fun h => hL0 (List.eq_nil_of_length_eq_zero h)
      have hr := run_bytes_text wr _ ad L.length c _ HO.out
      obtain ⟨p, hp⟩ : ∃ p, p = L.length := ⟨_, rfl⟩
      rw [← hp] at hpos hL hr ⊢
      subst hm0
      clear hp hg hL0 HO HI
      go_wp2
      go_ret
      rw [HE.out]
      exact ⟨rfl, hx⟩
end Go.Proofs.YtkiolfmdofldbaaDoor
