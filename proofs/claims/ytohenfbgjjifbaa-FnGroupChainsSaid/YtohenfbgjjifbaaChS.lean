/- Walks: CheckSymbols. -/
import Derived.Test.YtohenfbgjjifbaaChW
import Derived.Test.YtohenfbgjjifbaaText
import Derived.Test.YtohenfbgjjifbaaMark
import Derived.Test.YtohenfbgjjifbaaLInts
namespace Go.Proofs.Ytohenfbgjjifbaa
set_option maxRecDepth 100000
open Go.RowKit

def csHit (D : Ch) (ds : List Int) (p : Nat) (d : Int) : Bool := runS D 0 D.start (ds.set p d) == D.fin
def csL (D : Ch) (ds : List Int) (p k : Nat) : List Int := ((List.range k).filter fun (d : Nat) => csHit D ds p (d : Int)).map fun (d : Nat) => (d : Int)
theorem csL_succ (D : Ch) (ds : List Int) (p k : Nat) : csL D ds p (k + 1) = csL D ds p k ++ (if csHit D ds p k then [(k : Int)] else []) := by
  unfold csL
  rw [List.range_succ, List.filter_append, List.map_append]
  congr 1
  by_cases h : csHit D ds p k = true <;> simp [h]
theorem csL_len (D : Ch) (ds : List Int) (p k : Nat) : (csL D ds p k).length ≤ k := by
  unfold csL; rw [List.length_map]; exact Nat.le_trans (List.length_filter_le _ _) (by simp)
theorem csL_dig (D : Ch) (ds : List Int) (p k : Nat) (h : k ≤ 36) : Dig36 (csL D ds p k) := fun d hd => by
  obtain ⟨i, hi, rfl⟩ := List.mem_map.1 hd
  have := List.mem_range.1 (List.mem_filter.1 hi).1
  omega
def csOk (D : Ch) (s : ByteArray) (x : Int) : Bool := runOk D s && inB x 0 ((s.size : Int) - 1)
def csT (D : Ch) (s : ByteArray) (x : Int) : ByteArray := if csOk D s x then textOf (csL D (digC s) x.toNat D.base.toNat) else .empty
theorem digC_set {D : Ch} {ds : List Int} (h : DigC D ds) {p k : Nat} (hk : (k : Int) < D.base) : DigC D (ds.set p k) := fun d hd => by
  rcases List.mem_or_eq_of_mem_set hd with h1 | rfl
  · exact h d h1
  · omega
set_option maxHeartbeats 1000000 in
theorem impl_checks (D : Ch) (q : Nat) (a : Option Addr) (n c : Nat) (a' : Option Addr) (n' c' : Nat) (b : Option Addr) (m e : Nat) (ds : List Int) (w : World) (hv : ChAt w q D a n c a' n' c') (hok : OkCh D)
    (hi : Ints w b m e ds) (hd : DigC D ds) (hpm : m ≤ D.places.length) :
    Calls Try.prog 32 #[.pointer (some ⟨q, 0, none⟩), .slice b m e] w (Ret (.bool (runS D 0 D.start ds == D.fin)) w) := by
  have HLd := Lib.hid (fun W h => impl_leads D q a n c a' n' c' 0 D.start b m e ds W (hv.ext h) hok (by omega) hok.st0 hok.st1 (hi.ext h) hd (by omega))
  obtain ⟨k0, k1, k2, k3, k4, k5, _, _⟩ := hv
  clear hok hi hd hpm
  generalize runS D 0 D.start ds = r at *
  go_enter Try.func32, Try.ntmps32
  go_wp2
  (refine wp_region_from w (by repeat (first | (with_reducible exact Ext.refl _) | (with_reducible refine Ext.drewN ?_ _) | (with_reducible refine Ext.drew ?_) | (with_reducible refine Ext.alloc ?_ _) | ((with_reducible refine Ext.setCell ?_ ?_ _); rotate_left; focus (first | (simp; done) | (simp; omega) | omega)) | assumption | (with_reducible refine Ext.trans ?_ (by assumption)))) (by kernel_rfl) (by kernel_rfl) (by kernel_rfl) ?_; (repeat (first | (refine mix_q rfl ?_; go_big_quiet_step (fail); refine wpQuiet_nil ?_; show wpMix _ _ _ _ _ _ _) | (refine mix_s rfl ?_; go_wp2_with ((with_reducible refine (HLd.out _ (by repeat (first | (with_reducible exact Ext.refl _) | (with_reducible refine Ext.drewN ?_ _) | (with_reducible refine Ext.drew ?_) | (with_reducible refine Ext.alloc ?_ _) | ((with_reducible refine Ext.setCell ?_ ?_ _); rotate_left; focus (first | (simp; done) | (simp; omega) | omega)) | assumption | (with_reducible refine Ext.trans ?_ (by assumption))))).mono ?_); rintro e w1 ⟨rfl, hy1⟩; have hxw1 : Ext w w1 := Ext.trans (by repeat (first | (with_reducible exact Ext.refl _) | (with_reducible refine Ext.drewN ?_ _) | (with_reducible refine Ext.drew ?_) | (with_reducible refine Ext.alloc ?_ _) | ((with_reducible refine Ext.setCell ?_ ?_ _); rotate_left; focus (first | (simp; done) | (simp; omega) | omega)) | assumption | (with_reducible refine Ext.trans ?_ (by assumption)))) hy1; have hz1 := hy1; clear hy1); first | refine ⟨up_of (by repeat (first | (with_reducible exact Ext.refl _) | (with_reducible refine Ext.drewN ?_ _) | (with_reducible refine Ext.drew ?_) | (with_reducible refine Ext.alloc ?_ _) | ((with_reducible refine Ext.setCell ?_ ?_ _); rotate_left; focus (first | (simp; done) | (simp; omega) | omega)) | assumption | (with_reducible refine Ext.trans ?_ (by assumption)))), ?_⟩ | refine ⟨rfl, rfl, up_of (by repeat (first | (with_reducible exact Ext.refl _) | (with_reducible refine Ext.drewN ?_ _) | (with_reducible refine Ext.drew ?_) | (with_reducible refine Ext.alloc ?_ _) | ((with_reducible refine Ext.setCell ?_ ?_ _); rotate_left; focus (first | (simp; done) | (simp; omega) | omega)) | assumption | (with_reducible refine Ext.trans ?_ (by assumption)))), ?_⟩))); refine mix_nil ?_)
  go_wp2
  go_ret
  exact ⟨rfl, (by repeat (first | (with_reducible exact Ext.refl _) | (with_reducible refine Ext.drewN ?_ _) | (with_reducible refine Ext.drew ?_) | (with_reducible refine Ext.alloc ?_ _) | ((with_reducible refine Ext.setCell ?_ ?_ _); rotate_left; focus (first | (simp; done) | (simp; omega) | omega)) | assumption | (with_reducible refine Ext.trans ?_ (by assumption))))⟩
set_option maxHeartbeats 2000000 in
theorem impl_CheckSymbols (D : Ch) (a : Option Addr) (n c : Nat) (a' : Option Addr) (n' c' : Nat) (s : ByteArray) (x : Int) (w : World) (hv : ChIn w D a n c a' n' c') (hs : s.size ≤ 1048576) (_hx : In64 x) :
    Calls Try.prog 12 #[.agg #[.int .i64 D.base, .int .i64 D.states, .int .i64 D.start, .int .i64 D.fin, .slice a n c, .slice a' n' c'], .string s, .int .i64 x] w (Ret2 (.string (csT D s x)) (.bool (csOk D s x)) w) := by
  have HB := Lib.hid (hv.box 34)
  have HVal := Lib.hid (fun W h => impl_ValidChain D a n c a' n' c' W (Cube.ext hv.ts h) (hv.ps.ext h) hv.hn hv.hn' hv.sm)
  have HDl := Lib.hid (digC_len s)
  clear hv
  cases hval : validCh D
  · rw [hval] at HVal
    have HF := Lib.hid (show csOk D s x = false by rw [csOk, runOk, hval]; rfl)
    clear hval
    go_enter Try.func12, Try.ntmps12
    go_wp2_with (refine (HVal.out _ ((Ext.refl w).alloc _)).mono ?_; rintro e w1 ⟨rfl, hx1⟩)
    go_ret2
    exact ⟨by rw [csT, HF.out]; rfl, ((Ext.refl w).alloc _).trans hx1⟩
  rw [hval] at HVal
  have hok := validCh_ok hval
  have HS := Lib.hid (show csOk D s x = (wordCh D s && inB x 0 ((s.size : Int) - 1)) by rw [csOk, runOk, hval]; rfl)
  have b2 := hok.b2
  have b36 := hok.b36
  have Hhok := Lib.hid hok; clear hok
  clear hval
  go_enter Try.func12, Try.ntmps12
  go_wp2_with fail
  obtain ⟨wb, hwb⟩ : ∃ wb, wb = w.alloc (.cells #[.int .i64 D.base, .int .i64 D.states, .int .i64 D.start, .int .i64 D.fin, .slice a n c, .slice a' n' c'] 34) := ⟨_, rfl⟩
  have hxb : Ext w wb := by rw [hwb]; exact (by repeat (first | (with_reducible exact Ext.refl _) | (with_reducible refine Ext.drewN ?_ _) | (with_reducible refine Ext.drew ?_) | (with_reducible refine Ext.alloc ?_ _) | ((with_reducible refine Ext.setCell ?_ ?_ _); rotate_left; focus (first | (simp; done) | (simp; omega) | omega)) | assumption | (with_reducible refine Ext.trans ?_ (by assumption))))
  rw [← hwb] at HB ⊢
  generalize w.heap.size = q at *
  clear hwb
  refine (HVal.out _ hxb).mono ?_
  rintro e w1 ⟨rfl, hx1⟩
  have hxw1 : Ext w w1 := hxb.trans hx1
  have HW := Lib.hid (impl_chWord D q a n c a' n' c' s w1 (HB.out.ext hx1) hs)
  cases hw : wordCh D s
  · rw [hw] at HW HS
    go_wp2_with (refine HW.out.mono ?_; rintro e w2 ⟨a2, n2, c2', rfl, hx2, _⟩)
    go_ret2
    exact ⟨by rw [csT, HS.out]; rfl, hxw1.trans hx2⟩
  obtain ⟨hdg, hdl, hd20⟩ := wordCh_t hw
  rw [hw, Bool.true_and] at HS
  rw [hw] at HW
  obtain ⟨k0, k1, k2, k3, k4, k5, _, _⟩ := HB.out
  have Hhdg := Lib.hid hdg; clear hdg; have Hhw := Lib.hid hw; clear hw; have Hhdl := Lib.hid hdl; clear hdl
  go_wp2_with fail
  refine HW.out.mono ?_
  rintro e w2 ⟨a2, n2, c2', rfl, hx2, ho2⟩
  have ho := ho2 rfl
  have hl : s.size = n2 := by have := ho.len; rw [I_len] at this; rw [← HDl.out]; exact this
  have hx12 : Ext wb w2 := hx1.trans hx2
  have hxw2 : Ext w w2 := hxw1.trans hx2
  have hn20 : n2 ≤ 20 := by omega
  have HPl := Lib.hid (show n2 = D.places.length by rw [← hl]; exact Hhdl.out)
  rw [hl] at HS
  have HDl2 := Lib.hid (show (digC s).length = n2 by rw [HDl.out, hl])
  clear ho2 HW
  cases hin : inB x 0 ((n2 : Int) - 1)
  · rw [hin] at HS
    have Hhl := Lib.hid hl; clear hl; have Hhin := Lib.hid hin; clear hin; have Hho := Lib.hid ho; clear ho
    have HIn := Lib.hid (fun W => impl_in x 0 ((n2 : Int) - 1) W)
    rw [Hhin.out] at HIn
    go_wp2_with ((with_reducible refine (HIn.out _).mono ?_); rintro e w3 ⟨rfl, rfl⟩)
    go_ret2
    exact ⟨by rw [csT, HS.out]; rfl, hxw2⟩
  obtain ⟨hx0, hxn⟩ := inB_t.1 hin
  obtain ⟨p, rfl⟩ := Int.eq_ofNat_of_zero_le hx0
  have hpn : p < n2 := by omega
  obtain ⟨g, rfl⟩ := ho.some (by omega)
  rw [hin] at HS
  have HIn := Lib.hid (fun W => impl_in (p : Int) 0 ((n2 : Int) - 1) W)
  rw [hin] at HIn
  have HD2 := Lib.hid ho
  have hgl := ho.lt
  have hgb : wb.heap.size ≤ g := Nat.le_trans hx1.le hgl.1
  have HT := Lib.hid (show csT D s p = textOf (csL D (digC s) p D.base.toNat) by rw [csT, HS.out]; rfl)
  have Hhl := Lib.hid hl; clear hl; have Hhin := Lib.hid hin; clear hin; have Hho := Lib.hid ho; clear ho; have Hhx0 := Lib.hid hx0; clear hx0; have Hhxn := Lib.hid hxn; clear hxn; have Hhgl := Lib.hid hgl; clear hgl
  generalize digC s = ds at *
  go_wp2_with ((with_reducible refine (HIn.out _).mono ?_); rintro e w3 ⟨rfl, rfl⟩)
  go_loopw [10, 11, 33] (fun v _ i wr => ∃ (k : Nat) (ad : Option Addr) (kk cc : Nat) (dt : List Int), (k : Int) ≤ D.base ∧ i = .int .i64 k ∧ v = .slice ad kk cc ∧ kk = (csL D ds p k).length ∧ Own wr w2.heap.size 2 ad kk cc (I (csL D ds p k)) ∧ Own wr w1.heap.size 2 (some ⟨g, 0, none⟩) n2 c2' (I dt) ∧ (∀ d, dt.set p d = ds.set p d) ∧ w2.heap.size ≤ wr.heap.size ∧ Ext wb wr) (fun _ _ i _ => (D.base - intOf i).toNat)
  case atStart => exact ⟨0, _, 0, 0, ds, by omega, rfl, rfl, rfl, Own.lit0 w2 _, HD2.out.ext (by repeat (first | (with_reducible exact Ext.refl _) | (with_reducible refine Ext.drewN ?_ _) | (with_reducible refine Ext.drew ?_) | (with_reducible refine Ext.alloc ?_ _) | ((with_reducible refine Ext.setCell ?_ ?_ _); rotate_left; focus (first | (simp; done) | (simp; omega) | omega)) | assumption | (with_reducible refine Ext.trans ?_ (by assumption)))), fun _ => rfl, by simp, (by repeat (first | (with_reducible exact Ext.refl _) | (with_reducible refine Ext.drewN ?_ _) | (with_reducible refine Ext.drew ?_) | (with_reducible refine Ext.alloc ?_ _) | ((with_reducible refine Ext.setCell ?_ ?_ _); rotate_left; focus (first | (simp; done) | (simp; omega) | omega)) | assumption | (with_reducible refine Ext.trans ?_ (by assumption))))⟩
  case round =>
    obtain ⟨k, ad, kk, cc, dt, hk, rfl, rfl, hkk, hor, hod, hset, hx2r, hx⟩ := hrel
    have hkb : kk ≤ k := by rw [hkk]; exact csL_len D ds p k
    have Hhkk := Lib.hid hkk; clear hkk; have Hhset := Lib.hid hset; clear hset; have Hhx2r := Lib.hid hx2r; clear hx2r
    have hxr : Ext wb wr := hx
    by_cases hlt : (k : Int) < D.base
    · have HOO := Lib.hid hor
      have HOd := Lib.hid hod
      have hne := own_ne HD2.out hor (Nat.le_refl _)
      obtain ⟨hia, hce, hfr⟩ := hod.at (P := Try.prog) 28 und_int64s cell_int64 p hpn .i64
      obtain ⟨y, hy⟩ : ∃ y, y = (I dt).getD p undef := ⟨_, rfl⟩
      rw [← hy] at hce
      have hos := hod.set p (.int .i64 k)
      rw [I_set, Hhset.out] at hos
      have hxs : Ext wb (wr.setCell ⟨g, p, none⟩ (.int .i64 k)) := hx.setCell hgb _
      have HOs := Lib.hid hos
      have HOt := Lib.hid (Own.other hor (p := ⟨g, p, none⟩) (.int .i64 k) (fun g' hg' => (hne ⟨g, 0, none⟩ g' rfl hg').symm))
      have HCk := Lib.hid (impl_checks D q a n c a' n' c' (some ⟨g, 0, none⟩) n2 c2' (ds.set p k) (wr.setCell ⟨g, p, none⟩ (.int .i64 k)) (HB.out.ext hxs) Hhok.out hos.ints (digC_set Hhdg.out hlt) (by rw [HPl.out]; exact Nat.le_refl _))
      have HSc := Lib.hid (csL_succ D ds p k)
      have HHit := Lib.hid (show csHit D ds p k = (runS D 0 D.start (ds.set p k) == D.fin) from rfl)
      rw [← HHit.out] at HCk
      have Hhne := Lib.hid hne; clear hne
      clear hor hod hos hy
      cases hh : csHit D ds p k
      · rw [hh] at HCk HSc
        clear hh
        go_wp2_with (refine HCk.out.mono ?_; rintro e w5 ⟨rfl, hx5⟩)
        refine ⟨⟨k + 1, ad, kk, cc, ds.set p k, by omega, by go_num, rfl, ?_, ?_, HOs.out.ext hx5, (fun d => by rw [List.set_set]), by have := hx5.le; simp at this; exact Nat.le_trans Hhx2r.out this, hxs.trans hx5⟩, by simp [intOf]; omega⟩
        · rw [HSc.out]; simpa using Hhkk.out
        · rw [HSc.out]; simpa using HOt.out.ext hx5
      · rw [hh] at HCk HSc
        clear hh
        go_wp2_with fail
        refine HCk.out.mono ?_
        rintro e w5 ⟨rfl, hx5⟩
        have HO5 := Lib.hid (HOt.out.ext hx5)
        have HD5 := Lib.hid (HOs.out.ext hx5)
        have hxb5 : Ext wb w5 := hxs.trans hx5
        have h25 : w2.heap.size ≤ w5.heap.size := by
          have h1 := HOO.out
          have := hx5.le
          simp at this
          exact Nat.le_trans Hhx2r.out this
        go_wp2_with (at_builtin; refine law_append1 _ rfl _ _ 28 rfl 2 (.int .i64 0) 8 und_int64s info_int64 rfl w2.heap.size ad kk cc _ _ rfl rfl rfl HO5.out h25 (by omega) (by omega) ?_; intro ad6 c6 w6 ho6 hb6 hg6)
        have hxb6 : Ext wb w6 := Ext.below hxb5 (Below.mono hb6 hx12.le)
        refine ⟨⟨k + 1, ad6, kk + 1, c6, ds.set p k, by omega, by go_num, rfl, ?_, ?_, ?_, (fun d => by rw [List.set_set]), Nat.le_trans h25 hb6.size, hxb6⟩, by simp [intOf]; omega⟩
        · rw [HSc.out]; simp; exact Hhkk.out
        · rw [HSc.out, I_append]; exact ho6
        · refine HD5.out.grown hg6 fun g' hg' => ?_
          cases ad with
          | none => simp [Value.ownBlock]
          | some g2 =>
            simp [Value.ownBlock]
            exact Hhne.out g' g2 hg' rfl
    · have hkb2 : k = D.base.toNat := by omega
      have HKb := Lib.hid hkb2
      clear hkb2
      have HWd := Lib.hid (impl_wordOf ad kk cc (csL D ds p k) wr hor.ints (csL_dig D ds p k (by omega)) (by omega))
      clear hor hod
      go_wp2_with (refine HWd.out.mono ?_; rintro e w7 ⟨rfl, hx7⟩)
      go_ret2
      exact ⟨by rw [HT.out, HS.out, ← HKb.out]; rfl, hxb.trans (hx.trans hx7)⟩
end Go.Proofs.Ytohenfbgjjifbaa
