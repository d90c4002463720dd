/- Walks: how many ways lead from each state at each place to the end, in the program and in the reference. -/
import Derived.Test.YtccoopnoakhedaaEnum
import Derived.Test.YtccoopnoakhedaaGridP
namespace Go.Proofs.Ytccoopnoakhedaa
set_option maxRecDepth 100000
open Go.RowKit

theorem GridTo.step {w w5 : World} {B B' : Nat} {E1 E0 : TypeId} {g n c S k : Nat} {vs : List Value} {G : Nat → Nat} (h : GridTo w B E1 E0 (some ⟨g, 0, none⟩) n c S k vs G) (hx : Ext w w5)
    (hr : Own w5 B' E0 (some ⟨w.heap.size, 0, none⟩) S S (List.replicate S (.int .i64 0))) (hk : k < n) (hB : B ≤ w.heap.size) (hE : E1 ≠ E0) :
    GridTo (w5.setCell ⟨g, k, none⟩ (.slice (some ⟨w.heap.size, 0, none⟩) S S)) B E1 E0 (some ⟨g, 0, none⟩) n c S (k + 1) (vs.set k (.slice (some ⟨w.heap.size, 0, none⟩) S S)) (fun j => if j = k then w.heap.size else G j) := by
  have ho5 := h.outer.ext hx
  have hl := h.outer.len
  have hrI : Own w5 B E0 (some ⟨w.heap.size, 0, none⟩) S S (I (List.replicate S 0)) := by
    rw [I_replicate]
    refine ⟨hr.1, ?_⟩
    rcases hr.2 with h2 | ⟨b, cap, cur, hv, _, r⟩
    · exact .inl h2
    · simp only [Value.slice.injEq, Option.some.injEq, Addr.mk.injEq, true_and, and_true] at hv
      exact .inr ⟨b, cap, cur, by simp [hv.1, hv.2], by omega, r⟩
  have nw : ∀ j, j < k → G j < w.heap.size := fun j hj => (h.row j hj).lt.2
  refine ⟨ho5.set k _, fun j hj => ?_, fun j hj => ?_, fun j j' hj hj' he => ?_⟩
  · by_cases e : j = k
    · subst e
      simp [gv, List.getD_eq_getElem?_getD, show j < vs.length by omega]
    · have h1 := h.at' j (by omega)
      simp only [gv, List.getD_eq_getElem?_getD] at h1 ⊢
      rw [List.getElem?_set_ne (fun h => e h.symm), h1, if_neg e]
  · have hne : ∀ {b : Nat} {vs' : List Value} {S' c' : Nat} {B2 : Nat}, Own w5 B2 E0 (some ⟨b, 0, none⟩) S' c' vs' → Own (w5.setCell ⟨g, k, none⟩ (.slice (some ⟨w.heap.size, 0, none⟩) S S)) B2 E0 (some ⟨b, 0, none⟩) S' c' vs' := fun ho => by
      refine ho.other _ fun g' hg' => ?_
      exact own_ne_type ho ho5 (fun h => hE h.symm) g' ⟨g, 0, none⟩ hg' rfl
    by_cases e : j = k
    · rw [if_pos e]; exact hne hrI
    · rw [if_neg e]; exact hne ((h.row j (by omega)).ext hx)
  · by_cases e : j = k <;> by_cases e' : j' = k
    · omega
    · rw [if_pos e, if_neg e'] at he; have := nw j' (by omega); omega
    · rw [if_neg e, if_pos e'] at he; have := nw j (by omega); omega
    · rw [if_neg e, if_neg e'] at he; exact h.inj j j' (by omega) (by omega) he
theorem GridTo.push {w w5 w6 : World} {B B' : Nat} {E1 E0 : TypeId} {a a6 : Option Addr} {c c6 S k : Nat} {vs : List Value} {G : Nat → Nat} (h : GridTo w B E1 E0 a k c S k vs G) (hx : Ext w w5)
    (hr : Own w5 B' E0 (some ⟨w.heap.size, 0, none⟩) S S (List.replicate S (.int .i64 0))) (hB : B ≤ w.heap.size) (hE : E1 ≠ E0)
    (ho6 : Own w6 B E1 a6 (k + 1) c6 (vs ++ [.slice (some ⟨w.heap.size, 0, none⟩) S S])) (hg : w5.grownBy w6 (Value.slice a k c).ownBlock) :
    GridTo w6 B E1 E0 a6 (k + 1) c6 S (k + 1) (vs ++ [.slice (some ⟨w.heap.size, 0, none⟩) S S]) (fun j => if j = k then w.heap.size else G j) := by
  have ho5 := h.outer.ext hx
  have hl := h.outer.len
  have hrI : Own w5 B E0 (some ⟨w.heap.size, 0, none⟩) S S (I (List.replicate S 0)) := by
    rw [I_replicate]
    refine ⟨hr.1, ?_⟩
    rcases hr.2 with h2 | ⟨b, cap, cur, hv, _, r⟩
    · exact .inl h2
    · simp only [Value.slice.injEq, Option.some.injEq, Addr.mk.injEq, true_and, and_true] at hv
      exact .inr ⟨b, cap, cur, by simp [hv.1, hv.2], by omega, r⟩
  have nw : ∀ j, j < k → G j < w.heap.size := fun j hj => (h.row j hj).lt.2
  refine ⟨ho6, fun j hj => ?_, fun j hj => ?_, fun j j' hj hj' he => ?_⟩
  · by_cases e : j = k
    · subst e
      rw [gv_last hl, if_pos rfl]
    · rw [gv_lt (by omega), if_neg e]; exact h.at' j (by omega)
  · by_cases e : j = k
    · rw [if_pos e]; exact hrI.grownT ho5 hg (fun h => hE h.symm)
    · rw [if_neg e]; exact ((h.row j (by omega)).ext hx).grownT ho5 hg (fun h => hE h.symm)
  · by_cases e : j = k <;> by_cases e' : j' = k
    · omega
    · rw [if_pos e, if_neg e'] at he; have := nw j' (by omega); omega
    · rw [if_neg e, if_pos e'] at he; have := nw j (by omega); omega
    · rw [if_neg e, if_neg e'] at he; exact h.inj j j' (by omega) (by omega) he

/-- the rows from i on are done, the others are 0 -/
structure RowsTo (D : Ch) (n S i : Nat) (F : Nat → Nat → Int) : Prop where
  hi : ∀ j, i ≤ j → j ≤ n → ∀ y, y < S → F j y = endsS D (n - j) j y
  lo : ∀ j, j < i → ∀ y, y < S → F j y = 0
/-- row i is done up to x, there up to d -/
structure EndsTo (D : Ch) (n S i x d : Nat) (F : Nat → Nat → Int) : Prop where
  hi : ∀ j, i < j → j ≤ n → ∀ y, y < S → F j y = endsS D (n - j) j y
  lt : ∀ y, y < x → y < S → F i y = endsS D (n - i) i y
  at' : x < S → F i x = partS D (n - i - 1) i x d
  gt : ∀ y, x < y → y < S → F i y = 0
  lo : ∀ j, j < i → ∀ y, y < S → F j y = 0
theorem RowsTo.start {D : Ch} {n S e : Nat} (he : D.fin = (e : Int)) : RowsTo D n S n (upd (fun _ _ => 0) n e 1) := by
  refine ⟨fun j h1 h2 y hy => ?_, fun j hj y hy => by rw [upd_row (by omega)]⟩
  obtain rfl : j = n := by omega
  rw [Nat.sub_self]
  unfold endsS upd
  by_cases h : y = e
  · subst h; rw [if_pos ⟨rfl, rfl⟩, if_pos he.symm]
  · rw [if_neg (fun h' => h h'.2), if_neg (by rw [he]; omega)]
theorem RowsTo.row {D : Ch} {n S i : Nat} {F : Nat → Nat → Int} (h : RowsTo D n S (i + 1) F) : EndsTo D n S i 0 0 F :=
  ⟨fun j h1 h2 => h.hi j h1 h2, fun y hy => by omega, fun hx => by rw [part_zero]; exact h.lo i (by omega) 0 hx, fun y _ hy => h.lo i (by omega) y hy, fun j hj => h.lo j (by omega)⟩
theorem EndsTo.rows {D : Ch} {n S i d : Nat} {F : Nat → Nat → Int} (h : EndsTo D n S i S d F) : RowsTo D n S i F :=
  ⟨fun j h1 h2 y hy => by
    rcases Nat.eq_or_lt_of_le h1 with rfl | h1
    · exact h.lt y hy hy
    · exact h.hi j h1 h2 y hy, h.lo⟩
theorem EndsTo.next {D : Ch} {n S i x : Nat} {F : Nat → Nat → Int} (hi : i < n) (h : EndsTo D n S i x D.base.toNat F) : EndsTo D n S i (x + 1) 0 F :=
  ⟨h.hi, fun y hy hys => by
    rcases Nat.lt_or_ge y x with h1 | h1
    · exact h.lt y h1 hys
    · obtain rfl : y = x := by omega
      rw [h.at' hys, show n - i = (n - i - 1) + 1 by omega, ends_succ]
      rfl, fun hx => by rw [part_zero]; exact h.gt (x + 1) (by omega) hx, fun y hy => h.gt y (by omega), h.lo⟩
theorem EndsTo.step {D : Ch} {n S i x d : Nat} {F : Nat → Nat → Int} {y : Nat} (hi : i < n) (hx : x < S) (hy : y < S) (hn : nextS D i x d = (y : Int)) (h : EndsTo D n S i x d F) : EndsTo D n S i x (d + 1) (upd F i x (F i x + F (i + 1) y)) :=
  ⟨fun j h1 h2 z hz => by rw [upd_row (by omega)]; exact h.hi j h1 h2 z hz, fun z hz hzs => by rw [upd_col (by omega)]; exact h.lt z hz hzs,
    fun _ => by
      rw [upd_same, part_succ, hn, h.at' hx, h.hi (i + 1) (by omega) (by omega) y hy, show n - (i + 1) = n - i - 1 by omega]
      rfl, fun z hz hzs => by rw [upd_col (by omega)]; exact h.gt z hz hzs, fun j hj z hz => by rw [upd_row (by omega)]; exact h.lo j hj z hz⟩

/-- all rows -/
def RetEnds (D : Ch) (w : World) (e : Ending) (w' : World) : Prop :=
  ∃ a c F G C, e = .returned (.slice a (D.places.length + 1) c) ∧ Grid w' w.heap.size 25 2 a (D.places.length + 1) c D.states.toNat F G C ∧ RowsTo D D.places.length D.states.toNat 0 F ∧ Ext w w'

theorem RetEnds.mk {D : Ch} {w w' : World} {a : Option Addr} {c n' S : Nat} {F : Nat → Nat → Int} {G C : Nat → Nat} (hn : D.places.length = n') (hS : D.states.toNat = S) (hg : Grid w' w.heap.size 25 2 a (n' + 1) c S F G C) (hr : RowsTo D n' S 0 F) (hx : Ext w w') :
    RetEnds D w (.returned (.slice a (n' + 1) c)) w' := by
  subst hn; subst hS; exact ⟨a, c, F, G, C, rfl, hg, hr, hx⟩
theorem und_grid : Try.prog.underlying 54 = some (.slice 25) := by kernel_rfl
theorem elem_grid : Try.prog.elem 54 = 25 := by kernel_rfl
set_option maxHeartbeats 4000000 in
theorem impl_ends (D : Ch) (q : Nat) (a : Option Addr) (n c : Nat) (a' : Option Addr) (n' c' : Nat) (w : World) (hv : ChAt w q D a n c a' n' c') (hok : OkCh D) :
    Calls Try.prog 22 #[.pointer (some ⟨q, 0, none⟩)] w (RetEnds D w) := by
  have HP := Lib.hid hv.ps.len
  have HV := Lib.hid hv
  have HOK := Lib.hid hok
  obtain ⟨k0, k1, k2, k3, k4, k5, _, _⟩ := hv
  have p20 := hok.p20
  have p1 := hok.p1
  rw [HP.out] at p20 p1
  have b2 := hok.b2
  have b36 := hok.b36
  have hS36 := hok.s36
  obtain ⟨S, hS⟩ := Int.eq_ofNat_of_zero_le (show 0 ≤ D.states by have := hok.s1; omega)
  obtain ⟨e, he⟩ := Int.eq_ofNat_of_zero_le hok.en0
  obtain ⟨bs, hbs⟩ := Int.eq_ofNat_of_zero_le (show 0 ≤ D.base by omega)
  have heS : e < S := by have := hok.en1; omega
  simp only [hS] at k1
  simp only [he] at k3
  simp only [hbs] at k0
  have hS36' : S ≤ 36 := by omega
  have hbs' : bs ≤ 36 := by omega
  have HNx := Lib.hid (fun (i x d : Nat) (hi : i < n') (hx : x < S) (hd : d < bs) => hok.next (p := i) (x := x) (d := d) (by omega) (by rw [HP.out]; omega) (by omega) (by omega) (by omega) (by omega))
  have HhS := Lib.hid hS; clear hS; have Hhe := Lib.hid he; clear he; have Hhbs := Lib.hid hbs; clear hbs; have HhS36 := Lib.hid hS36; clear hS36
  clear hok
  go_enter Try.func22, Try.ntmps22
  go_wp2_with (at_make; refine law_make _ rfl _ _ 54 rfl 25 (.slice none 0 0) 24 und_grid info_row1 rfl _ _ (n' + 1) rfl rfl (by omega) (by unfold maxLen; omega) ?_; intro w1 hown hx hsz)
  obtain ⟨g, hg⟩ : ∃ g, g = w.heap.size := ⟨_, rfl⟩
  rw [← hg] at hown ⊢
  have hgw : w.heap.size ≤ g := by omega
  have Hhown := Lib.hid hown; clear hown; have Hhg := Lib.hid hg; clear hg
  clear hsz
  go_wp2
  go_loopw [19] (fun i wr => ∃ (k : Nat) (vs : List Value) (G : Nat → Nat), k ≤ n' + 1 ∧ i = .int .i64 k ∧ GridTo wr w.heap.size 25 2 (some ⟨g, 0, none⟩) (n' + 1) (n' + 1) S k vs G ∧ Ext w wr) (fun i _ => n' + 1 - (intOf i).toNat)
  case atStart => exact ⟨0, _, fun _ => 0, Nat.zero_le _, rfl, ⟨Hhown.out.mono (by rw [Hhg.out]; exact Nat.le_refl _), (fun j hj => by omega), (fun j hj => by omega), (fun j j' hj => by omega)⟩, hx⟩
  case round =>
    obtain ⟨k, vs, G, hk, rfl, hgt, hxr⟩ := hrel
    have HGt := Lib.hid hgt
    have hxq0 : Ext w wr := hxr
    clear hgt
    by_cases hlk : k < n' + 1
    · go_wp2_with (at_make; refine law_make _ rfl _ _ 25 rfl 2 (.int .i64 0) 8 und_int64s info_int64 rfl _ _ S rfl rfl (by omega) (by unfold maxLen; omega) ?_; intro w5 hown5 hx5 hsz5; obtain ⟨hia5, hce5, hfr5⟩ := (HGt.out.outer.ext hx5).at (P := Try.prog) 54 und_grid cell_row1 k hlk .i64; obtain ⟨y5, hy5⟩ : ∃ y, y = vs.getD k undef := ⟨_, rfl⟩; rw [← hy5] at hce5; have HO5 := Lib.hid hown5; clear hown5 hy5 hsz5)
      exact ⟨⟨k + 1, _, _, by omega, by go_num, GridTo.step HGt.out hx5 HO5.out hlk hxr.le (by decide), Ext.setCell (hxr.trans hx5) hgw _⟩, by simp [intOf]; omega⟩
    obtain rfl : k = n' + 1 := by omega
    rw [show ((n' + 1 : Nat) : Int) = (n' : Int) + 1 from rfl]
    have HGr := Lib.hid HGt.out.done
    obtain ⟨bz, oz, f1, f2, f3, f4, f5⟩ := HGr.out.one (P := Try.prog) 54 25 und_grid cell_row1 und_int64s cell_int64 (i := n') (x := e) (by omega) heS
    have hge := (HGr.out.ge (k := n') (by omega)).1
    go_wp2
    (refine wp_region_upl 9 wr (by repeat (first | (with_reducible exact Ext.refl _) | (with_reducible refine Ext.drewN ?_ _) | (with_reducible refine Ext.drew ?_) | (with_reducible refine Ext.alloc ?_ _) | ((with_reducible refine Ext.setCell ?_ ?_ _); rotate_left; focus (first | (simp; done) | (simp; omega) | omega)) | assumption | (with_reducible refine Ext.trans ?_ (by assumption)))) rfl (by kernel_rfl) (by kernel_rfl) (seqB_of (by kernel_rfl)) (lastB_of (by kernel_rfl)) ?_; simp only [List.take_succ_cons, List.take_zero, List.drop_succ_cons, List.drop_zero]; (repeat (first | (refine mix_q rfl ?_; go_big_quiet_step (fail); refine wpQuiet_nil ?_; show wpMix _ _ _ _ _ _ _) | (refine mix_s rfl ?_; go_wp2_with (fail); first | refine ⟨up_of (by repeat (first | (with_reducible exact Ext.refl _) | (with_reducible refine Ext.drewN ?_ _) | (with_reducible refine Ext.drew ?_) | (with_reducible refine Ext.alloc ?_ _) | ((with_reducible refine Ext.setCell ?_ ?_ _); rotate_left; focus (first | (simp; done) | (simp; omega) | omega)) | assumption | (with_reducible refine Ext.trans ?_ (by assumption)))), ?_⟩ | refine ⟨rfl, rfl, up_of (by repeat (first | (with_reducible exact Ext.refl _) | (with_reducible refine Ext.drewN ?_ _) | (with_reducible refine Ext.drew ?_) | (with_reducible refine Ext.alloc ?_ _) | ((with_reducible refine Ext.setCell ?_ ?_ _); rotate_left; focus (first | (simp; done) | (simp; omega) | omega)) | assumption | (with_reducible refine Ext.trans ?_ (by assumption)))), ?_⟩))); refine mix_nil ?_)
    go_wp2
    go_loopw [6] (fun v wr => ∃ (j : Nat) (z : Int) (F : Nat → Nat → Int), j ≤ n' ∧ v = .int .i64 z ∧ z + j + 1 = n' ∧ Grid wr w.heap.size 25 2 (some ⟨g, 0, none⟩) (n' + 1) (n' + 1) S F G (fun _ => S) ∧ RowsTo D n' S (n' - j) F ∧ Ext w wr) (fun v _ => (intOf v + 1).toNat)
    case atStart => exact ⟨0, (n' : Int) - 1, _, Nat.zero_le _, rfl, by omega, (HGr.out.set (i := n') (x := e) (by omega) heS 1 (by decide)).ext (Ext.refl _).drew, RowsTo.start Hhe.out, (Ext.setCell hxr hge _).drew⟩
    case round =>
      obtain ⟨j, z, F, hj, rfl, hz, hgr, hrt, hx⟩ := hrel
      have hxq : Ext w wr := hx
      have Hhgr := Lib.hid hgr; clear hgr; have Hhrt := Lib.hid hrt; clear hrt
      clear f1 f2 f3 f4 f5
      by_cases hlt : j < n'
      · obtain ⟨i, rfl⟩ := Int.eq_ofNat_of_zero_le (show 0 ≤ z by omega)
        have hin : i < n' := by omega
        have HRt := Lib.hid (show RowsTo D n' S (i + 1) F by have := Hhrt.out; rwa [show n' - j = i + 1 by omega] at this)
        have HJ := Lib.hid hz
        have hz0 : 0 ≤ (i : Int) := by omega
        clear hz
        go_wp2
        go_loopw [50] (fun v wr => ∃ (x : Nat) (F : Nat → Nat → Int), x ≤ S ∧ v = .int .i64 x ∧ Grid wr w.heap.size 25 2 (some ⟨g, 0, none⟩) (n' + 1) (n' + 1) S F G (fun _ => S) ∧ EndsTo D n' S i x 0 F ∧ Ext w wr) (fun v _ => S - (intOf v).toNat)
        case atStart => exact ⟨0, F, Nat.zero_le _, rfl, Hhgr.out, HRt.out.row, hx⟩
        case round =>
          obtain ⟨x, F, hxS, rfl, hgr, het, hx⟩ := hrel
          have hxq : Ext w wr := hx
          have Hhgr := Lib.hid hgr; clear hgr; have Hhet := Lib.hid het; clear het
          by_cases hlx : x < S
          · go_wp2
            go_loopw [57] (fun v wr => ∃ (d : Nat) (F : Nat → Nat → Int), d ≤ bs ∧ v = .int .i64 d ∧ Grid wr w.heap.size 25 2 (some ⟨g, 0, none⟩) (n' + 1) (n' + 1) S F G (fun _ => S) ∧ EndsTo D n' S i x d F ∧ Ext w wr) (fun v _ => bs - (intOf v).toNat)
            case atStart => exact ⟨0, F, Nat.zero_le _, rfl, Hhgr.out, Hhet.out, hx⟩
            case round =>
              obtain ⟨d, F, hdb, rfl, hgr, het, hx⟩ := hrel
              have hxq : Ext w wr := hx
              have Hhgr := Lib.hid hgr; clear hgr; have Hhet := Lib.hid het; clear het
              by_cases hld : d < bs
              · obtain ⟨y0, y1⟩ := HNx.out i x d hin hlx hld
                obtain ⟨y, hy⟩ := Int.eq_ofNat_of_zero_le y0
                have hyS : y < S := by have := HhS.out; omega
                have HCN := Lib.hid (fun W (h : Ext w W) => impl_next D q a n c a' n' c' (i : Int) (x : Int) (d : Int) W (HV.out.ext h) HOK.out (by omega) (by have := HP.out; omega) (by omega) (by have := HhS.out; omega) (by omega) (by have := Hhbs.out; omega))
                have HY := Lib.hid hy
                rw [hy] at HCN
                clear y0 y1 hy
                obtain ⟨b1, o1, f1, f2, f3, f4, f5⟩ := Hhgr.out.one (P := Try.prog) 54 25 und_grid cell_row1 und_int64s cell_int64 (i := i) (x := x) (by omega) hlx
                obtain ⟨b2', o2, g1, g2, g3, g4, _⟩ := Hhgr.out.one (P := Try.prog) 54 25 und_grid cell_row1 und_int64s cell_int64 (i := i + 1) (x := y) (by omega) hyS
                have g1' : ∀ (K : IntKind) (w' : World), (Instr.indexAt 54 (.slice (some ⟨g, 0, none⟩) (n' + 1) (n' + 1)) (.int K ((i : Int) + 1))).run Try.prog w' = .ok (.pointer (some ⟨b2', o2, none⟩)) w' := g1
                have hgi := (Hhgr.out.ge (k := i) (by omega)).1
                have hv1 : 0 ≤ F i x ∧ F i x ≤ 1000000000000000 := by
                  rw [Hhet.out.at' hlx]
                  exact HOK.out.part (by rw [HP.out]; omega) _ _ _ (by have := Hhbs.out; omega)
                have hv2 : 0 ≤ F (i + 1) y ∧ F (i + 1) y ≤ 1000000000000000 := by
                  rw [Hhet.out.hi (i + 1) (by omega) (by omega) y hyS]
                  exact HOK.out.ends (by rw [HP.out]; omega) _ _
                obtain ⟨u1, u2⟩ := hv1
                obtain ⟨u3, u4⟩ := hv2
                clear g1
                go_wp2
                (refine wp_region_upl 21 wr (by repeat (first | (with_reducible exact Ext.refl _) | (with_reducible refine Ext.drewN ?_ _) | (with_reducible refine Ext.drew ?_) | (with_reducible refine Ext.alloc ?_ _) | ((with_reducible refine Ext.setCell ?_ ?_ _); rotate_left; focus (first | (simp; done) | (simp; omega) | omega)) | assumption | (with_reducible refine Ext.trans ?_ (by assumption)))) rfl (by kernel_rfl) (by kernel_rfl) (seqB_of (by kernel_rfl)) (lastB_of (by kernel_rfl)) ?_; simp only [List.take_succ_cons, List.take_zero, List.drop_succ_cons, List.drop_zero]; (repeat (first | (refine mix_q rfl ?_; go_big_quiet_step (fail); refine wpQuiet_nil ?_; show wpMix _ _ _ _ _ _ _) | (refine mix_s rfl ?_; go_wp2_with (((with_reducible refine (HCN.out _ (Ext.trans hxq (by repeat (first | (with_reducible exact Ext.refl _) | (with_reducible refine Ext.drewN ?_ _) | (with_reducible refine Ext.drew ?_) | (with_reducible refine Ext.alloc ?_ _) | ((with_reducible refine Ext.setCell ?_ ?_ _); rotate_left; focus (first | (simp; done) | (simp; omega) | omega)) | assumption | (with_reducible refine Ext.trans ?_ (by assumption)))))).mono ?_); rintro e w4 ⟨rfl, hy4⟩; have hxw4 : Ext wr w4 := Ext.trans (by repeat (first | (with_reducible exact Ext.refl _) | (with_reducible refine Ext.drewN ?_ _) | (with_reducible refine Ext.drew ?_) | (with_reducible refine Ext.alloc ?_ _) | ((with_reducible refine Ext.setCell ?_ ?_ _); rotate_left; focus (first | (simp; done) | (simp; omega) | omega)) | assumption | (with_reducible refine Ext.trans ?_ (by assumption)))) hy4; have hz4 := hy4; clear hy4)); first | refine ⟨up_of (by repeat (first | (with_reducible exact Ext.refl _) | (with_reducible refine Ext.drewN ?_ _) | (with_reducible refine Ext.drew ?_) | (with_reducible refine Ext.alloc ?_ _) | ((with_reducible refine Ext.setCell ?_ ?_ _); rotate_left; focus (first | (simp; done) | (simp; omega) | omega)) | assumption | (with_reducible refine Ext.trans ?_ (by assumption)))), ?_⟩ | refine ⟨rfl, rfl, up_of (by repeat (first | (with_reducible exact Ext.refl _) | (with_reducible refine Ext.drewN ?_ _) | (with_reducible refine Ext.drew ?_) | (with_reducible refine Ext.alloc ?_ _) | ((with_reducible refine Ext.setCell ?_ ?_ _); rotate_left; focus (first | (simp; done) | (simp; omega) | omega)) | assumption | (with_reducible refine Ext.trans ?_ (by assumption)))), ?_⟩))); refine mix_nil ?_)
                go_wp2
                exact ⟨⟨d + 1, _, by omega, by go_num, (Hhgr.out.ext hxw4).set (i := i) (by omega) hlx _ (by decide), EndsTo.step hin hlx hyS HY.out Hhet.out, Ext.setCell (hxq.trans hxw4) hgi _⟩, by simp [intOf]; omega⟩
              · obtain rfl : d = bs := by omega
                have HE := Lib.hid (show EndsTo D n' S i (x + 1) 0 F from EndsTo.next hin (by have := Hhet.out; rwa [show D.base.toNat = d by have := Hhbs.out; omega]))
                go_wp2
                exact ⟨⟨x + 1, F, by omega, by go_num, Hhgr.out, HE.out, hx⟩, by simp [intOf]; omega⟩
          · obtain rfl : x = S := by omega
            have HE := Lib.hid (Hhet.out.rows)
            go_wp2
            exact ⟨⟨j + 1, (i : Int) - 1, F, by omega, rfl, by have := HJ.out; omega, Hhgr.out, by rw [show n' - (j + 1) = i by have := HJ.out; omega]; exact HE.out, hx⟩, by simp [intOf]⟩
      · have hz0 : z < 0 := by omega
        have HJ := Lib.hid hz
        have HSt := Lib.hid (show D.states.toNat = S by have := HhS.out; omega)
        clear hz
        go_wp2
        go_ret
        exact RetEnds.mk HP.out HSt.out Hhgr.out (by have := Hhrt.out; rwa [show n' - j = 0 by omega] at this) hx
end Go.Proofs.Ytccoopnoakhedaa
