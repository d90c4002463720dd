/- Walks: chains: the word of a rank. -/
import Derived.Test.YtccoopnoakhedaaEnum
import Derived.Test.YtccoopnoakhedaaEnds
import Derived.Test.YtccoopnoakhedaaText
import Derived.Test.YtccoopnoakhedaaChW
namespace Go.Proofs.Ytccoopnoakhedaa
set_option maxRecDepth 100000
open Go.RowKit

/-- the grid of ends as lists -/
def endsL (D : Ch) : List (List Int) := (List.range (D.places.length + 1)).map fun k => (List.range D.states.toNat).map fun (x : Nat) => endsS D (D.places.length - k) k x
theorem endsL_gl {D : Ch} {k : Nat} (h : k ≤ D.places.length) : gl (endsL D) k = (List.range D.states.toNat).map fun (x : Nat) => endsS D (D.places.length - k) k x := by
  simp [gl, endsL, show k < D.places.length + 1 by omega]
theorem RetEnds.matL {D : Ch} {w w' : World} {e : Ending} (h : RetEnds D w e w') : ∃ a c, e = .returned (.slice a (D.places.length + 1) c) ∧ Mat w' a (D.places.length + 1) c (endsL D) ∧ Ext w w' := by
  obtain ⟨a, c, F, G, C, rfl, hg, hr, hx⟩ := h
  refine ⟨a, c, rfl, ⟨by simp [endsL], _, hg.outer.sl, fun k hk => ?_⟩, hx⟩
  refine ⟨Option.some ⟨G k, 0, none⟩, D.states.toNat, C k, ?_, ?_⟩
  · simp [gv, hk, slR]
  · rw [endsL_gl (by omega)]
    have h1 := (hg.row k hk).ints
    have h2 : rowF F D.states.toNat k = (List.range D.states.toNat).map fun (x : Nat) => endsS D (D.places.length - k) k x := by
      unfold rowF
      apply List.map_congr_left
      intro y hy
      exact hr.hi k (Nat.zero_le _) (by omega) y (List.mem_range.1 hy)
    rw [h2] at h1
    exact h1
/-- where one number of the grid lies -/
theorem endsL_at {D : Ch} {w : World} {a : Option Addr} {n c : Nat} (h : Mat w a (n + 1) c (endsL D)) (hn : D.places.length = n) (T : TypeId) (ht : Try.prog.underlying T = some (.slice 25)) (i x : Int) (h0 : 0 ≤ i) (h1 : i ≤ n) (h2 : 0 ≤ x) (h3 : x < D.states) :
    ∃ b off a1 n1 c1 b2 off2, One Try.prog T w a (n + 1) c i b off (.slice a1 n1 c1) ∧ One Try.prog 25 w a1 n1 c1 x b2 off2 (.int .i64 (endsS D (n - i.toNat) i x)) := by
  obtain ⟨b, off, a1, n1, c1, f1, hr⟩ := h.one (P := Try.prog) T 25 ht cell_row1 i h0 (by omega)
  have hgl := endsL_gl (D := D) (k := i.toNat) (by omega)
  rw [hn] at hgl
  rw [hgl] at hr
  have hl := hr.len
  simp only [List.length_map, List.length_range] at hl
  obtain ⟨b2, off2, f2⟩ := hr.one (P := Try.prog) 25 2 und_int64s cell_int64 x h2 (by omega)
  refine ⟨b, off, a1, n1, c1, b2, off2, f1, ?_⟩
  have : gi ((List.range D.states.toNat).map fun (x : Nat) => endsS D (n - i.toNat) (i.toNat : Int) x) x.toNat = endsS D (n - i.toNat) i x := by
    rw [gi_get (by simp; omega)]
    simp [Int.toNat_of_nonneg h0, Int.toNat_of_nonneg h2]
  rw [this] at f2
  exact f2
theorem words_zero_get {D : Ch} {p x : Int} {r : Nat} (h : (r : Int) < endsS D 0 p x) : (wordsS D 0 p x).getD r [] = [] := by
  unfold endsS at h
  unfold wordsS
  by_cases e : x = D.fin
  · rw [if_pos e] at h ⊢
    obtain rfl : r = 0 := by omega
    rfl
  · rw [if_neg e]; rfl
set_option maxHeartbeats 4000000 in
theorem impl_wordAt (D : Ch) (q : Nat) (a : Option Addr) (n c : Nat) (a' : Option Addr) (n' c' : Nat) (ge : Option Addr) (gc : Nat) (r : Nat) (w : World) (hv : ChAt w q D a n c a' n' c') (hok : OkCh D)
    (hg : Mat w ge (n' + 1) gc (endsL D)) (hr : (r : Int) < endsS D n' 0 D.start) :
    Calls Try.prog 25 #[.pointer (some ⟨q, 0, none⟩), .slice ge (n' + 1) gc, .int .i64 r] w (RetOwn 2 (I ((wordsS D n' 0 D.start).getD r [])) w) := by
  have HP := Lib.hid hv.ps.len
  have HV := Lib.hid hv
  have HOK := Lib.hid hok
  have HG := Lib.hid hg
  obtain ⟨k0, k1, k2, k3, k4, k5, _, _⟩ := hv
  have p20 := hok.p20
  rw [HP.out] at p20
  have b36 := hok.b36
  have b2 := hok.b2
  have s36 := hok.s36
  obtain ⟨W, hW⟩ : ∃ W, W = (wordsS D n' 0 D.start).getD r [] := ⟨_, rfl⟩
  rw [← hW]
  have hst := hok.st0
  have hst1 := hok.st1
  have HhW := Lib.hid hW; clear hW; have Hhr := Lib.hid hr; clear hr
  clear hg hok
  go_enter Try.func25, Try.ntmps25
  go_wp2
  (refine wp_region_from w (by repeat (first | (with_reducible exact Ext.refl _) | (with_reducible refine Ext.drewN ?_ _) | (with_reducible refine Ext.drew ?_) | (with_reducible refine Ext.alloc ?_ _) | ((with_reducible refine Ext.setCell ?_ ?_ _); rotate_left; focus (first | (simp; done) | (simp; omega) | omega)) | assumption | (with_reducible refine Ext.trans ?_ (by assumption)))) (by kernel_rfl) (by kernel_rfl) (by kernel_rfl) ?_; (repeat (first | (refine mix_q rfl ?_; go_big_quiet_step (fail); refine wpQuiet_nil ?_; show wpMix _ _ _ _ _ _ _) | (refine mix_s rfl ?_; go_wp2_with (fail); first | refine ⟨up_of (by repeat (first | (with_reducible exact Ext.refl _) | (with_reducible refine Ext.drewN ?_ _) | (with_reducible refine Ext.drew ?_) | (with_reducible refine Ext.alloc ?_ _) | ((with_reducible refine Ext.setCell ?_ ?_ _); rotate_left; focus (first | (simp; done) | (simp; omega) | omega)) | assumption | (with_reducible refine Ext.trans ?_ (by assumption)))), ?_⟩ | refine ⟨rfl, rfl, up_of (by repeat (first | (with_reducible exact Ext.refl _) | (with_reducible refine Ext.drewN ?_ _) | (with_reducible refine Ext.drew ?_) | (with_reducible refine Ext.alloc ?_ _) | ((with_reducible refine Ext.setCell ?_ ?_ _); rotate_left; focus (first | (simp; done) | (simp; omega) | omega)) | assumption | (with_reducible refine Ext.trans ?_ (by assumption)))), ?_⟩))); refine mix_nil ?_)
  go_wp2
  go_loopw [2, 7, 8, 9, 10, 21] (fun rk out st _ _ i wr => ∃ (k R : Nat) (x : Int) (ad : Option Addr) (cc : Nat) (ds : List Int), k ≤ n' ∧ i = .int .i64 k ∧ rk = .int .i64 R ∧ st = .int .i64 x ∧ out = .slice ad k cc ∧ Own wr w.heap.size 2 ad k cc (I ds) ∧
      Hid (W = ds ++ (wordsS D (n' - k) (k : Int) x).getD R []) ∧ Hid ((R : Int) < endsS D (n' - k) (k : Int) x) ∧ 0 ≤ x ∧ x < D.states ∧ Ext w wr) (fun _ _ _ _ _ i _ => n' - (intOf i).toNat)
  case atStart => exact ⟨0, r, D.start, _, 0, [], Nat.zero_le _, rfl, rfl, rfl, rfl, (Own.lit0 _ _).mono (by simp), Lib.hid (by rw [HhW.out]; rfl), Lib.hid Hhr.out, hst, hst1, (by repeat (first | (with_reducible exact Ext.refl _) | (with_reducible refine Ext.drewN ?_ _) | (with_reducible refine Ext.drew ?_) | (with_reducible refine Ext.alloc ?_ _) | ((with_reducible refine Ext.setCell ?_ ?_ _); rotate_left; focus (first | (simp; done) | (simp; omega) | omega)) | assumption | (with_reducible refine Ext.trans ?_ (by assumption))))⟩
  case round =>
    obtain ⟨k, R, x, ad, cc, ds, hk, rfl, rfl, rfl, rfl, ho, HW, HR, hx0, hx1, hx⟩ := hrel
    have hxr : Ext w wr := hx
    have Hho := Lib.hid ho; clear ho
    by_cases hlt : k < n'
    · have HT0 := Lib.hid (show W = ds ++ (tailS D (n' - k - 1) (k : Int) x 0).getD R [] by rw [HW.out, show n' - k = (n' - k - 1) + 1 by omega, words_succ]; rfl)
      have HL0 := Lib.hid (show R < (tailS D (n' - k - 1) (k : Int) x 0).length by
        have h1 := HR.out
        rw [show n' - k = (n' - k - 1) + 1 by omega, ← words_len, words_succ] at h1
        omega)
      have hRb : (R : Int) ≤ 1000000000000000 := by have h1 := HR.out; have h2 := HOK.out.ends (f := n' - k) (by rw [HP.out]; omega) (k : Int) x; omega
      go_wp2
      go_loopw [2, 10] (fun rk dd wr => ∃ (d R' : Nat), (d : Int) < D.base ∧ dd = .int .i64 d ∧ rk = .int .i64 R' ∧ R' ≤ R ∧ Hid (W = ds ++ (tailS D (n' - k - 1) (k : Int) x d).getD R' []) ∧ Hid (R' < (tailS D (n' - k - 1) (k : Int) x d).length) ∧ Ext w wr ∧ Own wr w.heap.size 2 ad k cc (I ds)) (fun _ dd _ => (D.base - intOf dd).toNat)
      case atStart => exact ⟨0, R, by omega, rfl, rfl, Nat.le_refl _, HT0, HL0, hx, Hho.out⟩
      case round =>
        obtain ⟨d, R', hd, rfl, rfl, hRR, HT, HLn, hx, ho⟩ := hrel
        have hxr : Ext w wr := hx
        have Hho2 := Lib.hid ho
        clear ho
        obtain ⟨y0, y1⟩ := HOK.out.next (p := (k : Int)) (x := x) (d := (d : Int)) (by omega) (by have := HP.out; omega) hx0 hx1 (by omega) hd
        have HNx := Lib.hid (fun U (h : Ext w U) => impl_next D q a n c a' n' c' (k : Int) x (d : Int) U (HV.out.ext h) HOK.out (by omega) (by have := HP.out; omega) hx0 hx1 (by omega) hd)
        have HTg := Lib.hid (tail_get_ge (D := D) (f := n' - k - 1) (p := (k : Int)) (x := x) (d := d) (r := R') (by omega))
        have HTl := Lib.hid (tail_get_lt (D := D) (f := n' - k - 1) (p := (k : Int)) (x := x) (d := d) (r := R') (by omega))
        have HTn := Lib.hid (tail_len (D := D) (f := n' - k - 1) (p := (k : Int)) (x := x) (d := d) (by omega))
        have heb := HOK.out.ends (f := n' - k - 1) (by rw [HP.out]; omega) ((k : Int) + 1) (nextS D (k : Int) x (d : Int))
        obtain ⟨bb, oo, a1, n1, c1, b2', o2, ⟨g1, g2⟩, ⟨g3, g4⟩⟩ := endsL_at HG.out HP.out 54 und_grid ((k : Int) + 1) (nextS D (k : Int) x (d : Int)) (by omega) (by omega) y0 y1
        rw [show n' - ((k : Int) + 1).toNat = n' - k - 1 by omega] at g4
        generalize nextS D (k : Int) x (d : Int) = y at *
        by_cases hge : endsS D (n' - k - 1) ((k : Int) + 1) y ≤ (R' : Int)
        · have HW2 := Lib.hid (HT.out.trans (congrArg (ds ++ ·) (HTg.out hge)))
          have HL2 := Lib.hid (show R' - (endsS D (n' - k - 1) ((k : Int) + 1) y).toNat < (tailS D (n' - k - 1) (k : Int) x (d + 1)).length by have h1 := HTn.out; have h2 := HLn.out; omega)
          have hd1 : ((d + 1 : Nat) : Int) < D.base := by
            have h1 : tailS D (n' - k - 1) (k : Int) x (d + 1) ≠ [] := fun h => by have := HL2.out; rw [h] at this; simp at this
            have := tail_ends h1
            omega
          generalize endsS D (n' - k - 1) ((k : Int) + 1) y = ev at *
          obtain ⟨v, rfl⟩ := Int.eq_ofNat_of_zero_le heb.1
          rw [Int.toNat_natCast] at HW2 HL2
          have hRv : v ≤ R' := by omega
          clear hge HTl HTg HTn
          go_wp2
          (refine wp_region_from w (by repeat (first | (with_reducible exact Ext.refl _) | (with_reducible refine Ext.drewN ?_ _) | (with_reducible refine Ext.drew ?_) | (with_reducible refine Ext.alloc ?_ _) | ((with_reducible refine Ext.setCell ?_ ?_ _); rotate_left; focus (first | (simp; done) | (simp; omega) | omega)) | assumption | (with_reducible refine Ext.trans ?_ (by assumption)))) (by kernel_rfl) (by kernel_rfl) (seqB_of (by kernel_rfl)) ?_; (repeat (first | (refine mix_q rfl ?_; go_big_quiet_step (fail); refine wpQuiet_nil ?_; show wpMix _ _ _ _ _ _ _) | (refine mix_s rfl ?_; go_wp2_with (((with_reducible refine (HNx.out _ (by repeat (first | (with_reducible exact Ext.refl _) | (with_reducible refine Ext.drewN ?_ _) | (with_reducible refine Ext.drew ?_) | (with_reducible refine Ext.alloc ?_ _) | ((with_reducible refine Ext.setCell ?_ ?_ _); rotate_left; focus (first | (simp; done) | (simp; omega) | omega)) | assumption | (with_reducible refine Ext.trans ?_ (by assumption))))).mono ?_); rintro e w4 ⟨rfl, hy4⟩; have hxw4 : Ext w w4 := Ext.trans (by repeat (first | (with_reducible exact Ext.refl _) | (with_reducible refine Ext.drewN ?_ _) | (with_reducible refine Ext.drew ?_) | (with_reducible refine Ext.alloc ?_ _) | ((with_reducible refine Ext.setCell ?_ ?_ _); rotate_left; focus (first | (simp; done) | (simp; omega) | omega)) | assumption | (with_reducible refine Ext.trans ?_ (by assumption)))) hy4; have hz4 := hy4; clear hy4)); first | refine ⟨up_of (by repeat (first | (with_reducible exact Ext.refl _) | (with_reducible refine Ext.drewN ?_ _) | (with_reducible refine Ext.drew ?_) | (with_reducible refine Ext.alloc ?_ _) | ((with_reducible refine Ext.setCell ?_ ?_ _); rotate_left; focus (first | (simp; done) | (simp; omega) | omega)) | assumption | (with_reducible refine Ext.trans ?_ (by assumption)))), ?_⟩ | refine ⟨rfl, rfl, up_of (by repeat (first | (with_reducible exact Ext.refl _) | (with_reducible refine Ext.drewN ?_ _) | (with_reducible refine Ext.drew ?_) | (with_reducible refine Ext.alloc ?_ _) | ((with_reducible refine Ext.setCell ?_ ?_ _); rotate_left; focus (first | (simp; done) | (simp; omega) | omega)) | assumption | (with_reducible refine Ext.trans ?_ (by assumption)))), ?_⟩))); refine mix_nil ?_)
          go_wp2
          (refine wp_region_from w (by repeat (first | (with_reducible exact Ext.refl _) | (with_reducible refine Ext.drewN ?_ _) | (with_reducible refine Ext.drew ?_) | (with_reducible refine Ext.alloc ?_ _) | ((with_reducible refine Ext.setCell ?_ ?_ _); rotate_left; focus (first | (simp; done) | (simp; omega) | omega)) | assumption | (with_reducible refine Ext.trans ?_ (by assumption)))) (by kernel_rfl) (by kernel_rfl) (seqB_of (by kernel_rfl)) ?_; (repeat (first | (refine mix_q rfl ?_; go_big_quiet_step (fail); refine wpQuiet_nil ?_; show wpMix _ _ _ _ _ _ _) | (refine mix_s rfl ?_; go_wp2_with (((with_reducible refine (HNx.out _ (by repeat (first | (with_reducible exact Ext.refl _) | (with_reducible refine Ext.drewN ?_ _) | (with_reducible refine Ext.drew ?_) | (with_reducible refine Ext.alloc ?_ _) | ((with_reducible refine Ext.setCell ?_ ?_ _); rotate_left; focus (first | (simp; done) | (simp; omega) | omega)) | assumption | (with_reducible refine Ext.trans ?_ (by assumption))))).mono ?_); rintro e w5 ⟨rfl, hy5⟩; have hxw5 : Ext w w5 := Ext.trans (by repeat (first | (with_reducible exact Ext.refl _) | (with_reducible refine Ext.drewN ?_ _) | (with_reducible refine Ext.drew ?_) | (with_reducible refine Ext.alloc ?_ _) | ((with_reducible refine Ext.setCell ?_ ?_ _); rotate_left; focus (first | (simp; done) | (simp; omega) | omega)) | assumption | (with_reducible refine Ext.trans ?_ (by assumption)))) hy5; have hz5 := hy5; clear hy5)); first | refine ⟨up_of (by repeat (first | (with_reducible exact Ext.refl _) | (with_reducible refine Ext.drewN ?_ _) | (with_reducible refine Ext.drew ?_) | (with_reducible refine Ext.alloc ?_ _) | ((with_reducible refine Ext.setCell ?_ ?_ _); rotate_left; focus (first | (simp; done) | (simp; omega) | omega)) | assumption | (with_reducible refine Ext.trans ?_ (by assumption)))), ?_⟩ | refine ⟨rfl, rfl, up_of (by repeat (first | (with_reducible exact Ext.refl _) | (with_reducible refine Ext.drewN ?_ _) | (with_reducible refine Ext.drew ?_) | (with_reducible refine Ext.alloc ?_ _) | ((with_reducible refine Ext.setCell ?_ ?_ _); rotate_left; focus (first | (simp; done) | (simp; omega) | omega)) | assumption | (with_reducible refine Ext.trans ?_ (by assumption)))), ?_⟩))); refine mix_nil ?_)
          go_wp2
          exact ⟨⟨d + 1, R' - v, hd1, by go_num, by go_num, by omega, HW2, HL2, (by repeat (first | (with_reducible exact Ext.refl _) | (with_reducible refine Ext.drewN ?_ _) | (with_reducible refine Ext.drew ?_) | (with_reducible refine Ext.alloc ?_ _) | ((with_reducible refine Ext.setCell ?_ ?_ _); rotate_left; focus (first | (simp; done) | (simp; omega) | omega)) | assumption | (with_reducible refine Ext.trans ?_ (by assumption)))), Hho2.out.ext (show Ext wr _ from (by repeat (first | (with_reducible exact Ext.refl _) | (with_reducible refine Ext.drewN ?_ _) | (with_reducible refine Ext.drew ?_) | (with_reducible refine Ext.alloc ?_ _) | ((with_reducible refine Ext.setCell ?_ ?_ _); rotate_left; focus (first | (simp; done) | (simp; omega) | omega)) | assumption | (with_reducible refine Ext.trans ?_ (by assumption)))))⟩, by simp [intOf]; omega⟩
        · have HW2 := Lib.hid (HT.out.trans (congrArg (ds ++ ·) (HTl.out (by omega))))
          have HR2 := Lib.hid (show (R' : Int) < endsS D (n' - (k + 1)) (((k + 1 : Nat) : Int)) y by rw [show n' - (k + 1) = n' - k - 1 by omega]; exact Int.not_le.1 hge)
          have HW3 := Lib.hid (show W = (ds ++ [(d : Int)]) ++ (wordsS D (n' - (k + 1)) (((k + 1 : Nat) : Int)) y).getD R' [] by rw [HW2.out, show n' - (k + 1) = n' - k - 1 by omega, List.append_assoc]; rfl)
          generalize endsS D (n' - k - 1) ((k : Int) + 1) y = ev at *
          have hlt2 : (R' : Int) < ev := Int.not_le.1 hge
          clear hge HTl HTg HTn
          go_wp2
          (refine wp_region_from w (by repeat (first | (with_reducible exact Ext.refl _) | (with_reducible refine Ext.drewN ?_ _) | (with_reducible refine Ext.drew ?_) | (with_reducible refine Ext.alloc ?_ _) | ((with_reducible refine Ext.setCell ?_ ?_ _); rotate_left; focus (first | (simp; done) | (simp; omega) | omega)) | assumption | (with_reducible refine Ext.trans ?_ (by assumption)))) (by kernel_rfl) (by kernel_rfl) (seqB_of (by kernel_rfl)) ?_; (repeat (first | (refine mix_q rfl ?_; go_big_quiet_step (fail); refine wpQuiet_nil ?_; show wpMix _ _ _ _ _ _ _) | (refine mix_s rfl ?_; go_wp2_with (((with_reducible refine (HNx.out _ (by repeat (first | (with_reducible exact Ext.refl _) | (with_reducible refine Ext.drewN ?_ _) | (with_reducible refine Ext.drew ?_) | (with_reducible refine Ext.alloc ?_ _) | ((with_reducible refine Ext.setCell ?_ ?_ _); rotate_left; focus (first | (simp; done) | (simp; omega) | omega)) | assumption | (with_reducible refine Ext.trans ?_ (by assumption))))).mono ?_); rintro e w4 ⟨rfl, hy4⟩; have hxw4 : Ext w w4 := Ext.trans (by repeat (first | (with_reducible exact Ext.refl _) | (with_reducible refine Ext.drewN ?_ _) | (with_reducible refine Ext.drew ?_) | (with_reducible refine Ext.alloc ?_ _) | ((with_reducible refine Ext.setCell ?_ ?_ _); rotate_left; focus (first | (simp; done) | (simp; omega) | omega)) | assumption | (with_reducible refine Ext.trans ?_ (by assumption)))) hy4; have hz4 := hy4; clear hy4)); first | refine ⟨up_of (by repeat (first | (with_reducible exact Ext.refl _) | (with_reducible refine Ext.drewN ?_ _) | (with_reducible refine Ext.drew ?_) | (with_reducible refine Ext.alloc ?_ _) | ((with_reducible refine Ext.setCell ?_ ?_ _); rotate_left; focus (first | (simp; done) | (simp; omega) | omega)) | assumption | (with_reducible refine Ext.trans ?_ (by assumption)))), ?_⟩ | refine ⟨rfl, rfl, up_of (by repeat (first | (with_reducible exact Ext.refl _) | (with_reducible refine Ext.drewN ?_ _) | (with_reducible refine Ext.drew ?_) | (with_reducible refine Ext.alloc ?_ _) | ((with_reducible refine Ext.setCell ?_ ?_ _); rotate_left; focus (first | (simp; done) | (simp; omega) | omega)) | assumption | (with_reducible refine Ext.trans ?_ (by assumption)))), ?_⟩))); refine mix_nil ?_)
          have HO4 := Lib.hid (Hho2.out.ext (show Ext wr w4 from (by repeat (first | (with_reducible exact Ext.refl _) | (with_reducible refine Ext.drewN ?_ _) | (with_reducible refine Ext.drew ?_) | (with_reducible refine Ext.alloc ?_ _) | ((with_reducible refine Ext.setCell ?_ ?_ _); rotate_left; focus (first | (simp; done) | (simp; omega) | omega)) | assumption | (with_reducible refine Ext.trans ?_ (by assumption))))))
          go_wp2_with (first | (at_builtin; refine law_append1 _ rfl _ _ 25 rfl 2 (.int .i64 0) 8 und_int64s info_int64 rfl w.heap.size ad k cc _ _ rfl rfl rfl HO4.out (hxw4).le (by omega) (by omega) ?_; intro ad' c' w1 ho1 hb1 hg1; have hxw1 : Ext w w1 := Ext.below (hxw4) hb1) | (go_at_call 49; refine (HNx.out _ hxw1).mono ?_; rintro e w6 ⟨rfl, hy6⟩))
          exact ⟨⟨k + 1, R', y, _, _, ds ++ [(d : Int)], by omega, by go_num, rfl, rfl, rfl, by rw [I_append]; exact ho1.ext hy6, HW3, HR2, y0, y1, hxw1.trans hy6⟩, by simp [intOf]; omega⟩
    · obtain rfl : k = n' := by omega
      go_wp2
      go_ret
      have h1 : W = ds := by
        have h2 := HR.out
        rw [Nat.sub_self] at h2
        have := HW.out
        rw [Nat.sub_self, words_zero_get h2, List.append_nil] at this
        exact this
      rw [h1]
      exact RetOwn.mk Hho.out (by have := Hho.out.len; rwa [I_len] at this) hx
end Go.Proofs.Ytccoopnoakhedaa

/- Plain: digits and texts; the checked words of a chain, in order. -/
namespace Go.Proofs.Ytccoopnoakhedaa
set_option maxRecDepth 100000
open Go.RowKit

theorem dig36_of {D : Ch} (hb : D.base ≤ 36) {ds : List Int} (h : DigC D ds) : Dig36 ds := fun d hd => by have := h d hd; omega
theorem dig_sym_all : ∀ m : Fin 36, dig (UInt8.ofNat (sym (m.val : Int)).toNat) = (m.val : Int) := by decide +kernel
theorem dig_sym {d : Int} (h0 : 0 ≤ d) (h1 : d ≤ 35) : dig (UInt8.ofNat (sym d).toNat) = d := by
  have := dig_sym_all ⟨d.toNat, by omega⟩
  simp only [Int.toNat_of_nonneg h0] at this
  exact this
theorem digC_text {ds : List Int} (h : Dig36 ds) : digC (textOf ds) = ds := by
  unfold digC textOf digs
  rw [strOfNums_data, List.map_map, List.map_map]
  have : ∀ l : List Int, (∀ d ∈ l, 0 ≤ d ∧ d ≤ 35) → l.map (dig ∘ (fun n => UInt8.ofNat n.toNat) ∘ sym) = l := by
    intro l
    induction l with
    | nil => intro _; rfl
    | cons d l ih => intro hl; rw [List.map_cons, ih fun e he => hl e (List.mem_cons_of_mem _ he)]; simp only [Function.comp]; rw [dig_sym (hl d (List.mem_cons_self ..)).1 (hl d (List.mem_cons_self ..)).2]
  exact this ds h

/-- the checked words, in order -/
def wordsA (D : Ch) : List (List Int) := wordsS D D.places.length 0 D.start
theorem wordsA_mem {D : Ch} (hok : OkCh D) {ds : List Int} (h : ds ∈ wordsA D) : ds.length = D.places.length ∧ DigC D ds ∧ Dig36 ds := by
  obtain ⟨h1, h2, _⟩ := (mem_words (by have := hok.b2; omega) _ _ _ _).1 h
  exact ⟨h1, h2, dig36_of hok.b36 h2⟩
/-- the word of a rank; ahead of all of them the empty one -/
def wordR (D : Ch) (k : Nat) : ByteArray := match k with | 0 => .empty | k + 1 => textOf ((wordsA D).getD k [])
theorem getD_mem' {α : Type} {l : List α} {d : α} {k : Nat} (h : k < l.length) : l.getD k d ∈ l := by
  rw [List.getD_eq_getElem?_getD, List.getElem?_eq_getElem h]; exact List.getElem_mem h
theorem wordR_len {D : Ch} (hok : OkCh D) {k : Nat} (h : k < (wordsA D).length) : (wordR D (k + 1)).size = D.places.length := by
  obtain ⟨h1, _, _⟩ := wordsA_mem hok (getD_mem' (l := wordsA D) (d := []) (k := k) h)
  exact (textOf_size _).trans h1
theorem wordsA_ends (D : Ch) : ((wordsA D).length : Int) = endsS D D.places.length 0 D.start := words_len D _ _ _
end Go.Proofs.Ytccoopnoakhedaa
