/- Walks: how many words lead two states to the end, in the program. -/
import Derived.Test.YtccoopnoakhedaaEnds
namespace Go.Proofs.Ytccoopnoakhedaa
set_option maxRecDepth 100000
open Go.RowKit

/-! ### rows that are laid from the first one upwards -/
/-- the rows up to k are laid -/
structure GridU (w : World) (B : Nat) (E1 E0 : TypeId) (g n c S k : Nat) (vs : List Value) (F : Nat → Nat → Int) (G : Nat → Nat) : Prop where
  outer : Own w B E1 (some ⟨g, 0, none⟩) n c vs
  at' : ∀ j, j < k → gv vs j = .slice (some ⟨G j, 0, none⟩) S S
  row : ∀ j, j < k → Own w B E0 (Option.some ⟨G j, 0, none⟩) S S (I (rowF F S j))
  inj : ∀ j j', j < k → j' < k → G j = G j' → j = j'
section
variable {w w' : World} {B : Nat} {E1 E0 : TypeId} {g n c S k : Nat} {vs : List Value} {F : Nat → Nat → Int} {G : Nat → Nat}
theorem GridU.ext (h : GridU w B E1 E0 g n c S k vs F G) (hx : Ext w w') : GridU w' B E1 E0 g n c S k vs F G := ⟨h.outer.ext hx, h.at', fun j h1 => (h.row j h1).ext hx, h.inj⟩
theorem GridU.ge (h : GridU w B E1 E0 g n c S k vs F G) {j : Nat} (h1 : j < k) : B ≤ G j ∧ G j < w.heap.size := (h.row j h1).lt
theorem GridU.set (h : GridU w B E1 E0 g n c S k vs F G) {i x : Nat} (hi : i < k) (hx : x < S) (v : Int) (hE : E1 ≠ E0) : GridU (w.setCell ⟨G i, x, none⟩ (.int .i64 v)) B E1 E0 g n c S k vs (upd F i x v) G := by
  refine ⟨?_, h.at', fun j h1 => ?_, h.inj⟩
  · refine Own.other h.outer _ fun g' hg => ?_
    exact own_ne_type h.outer (h.row i hi) hE g' ⟨G i, 0, none⟩ hg rfl
  · by_cases e : j = i
    · subst e
      rw [rowF_upd_same hx, ← I_set]
      exact (h.row j h1).set x _
    · rw [rowF_upd_ne e]
      refine Own.other (h.row j h1) _ fun g' hg => ?_
      simp only [Option.some.injEq] at hg
      subst hg
      exact fun he => e (h.inj j i h1 hi he)
theorem GridU.one {P : Program} (h : GridU w B E1 E0 g n c S k vs F G) (T1 T0 : TypeId) (ht1 : P.underlying T1 = some (.slice E1)) (he1 : P.cellsOf E1 = 1) (ht0 : P.underlying T0 = some (.slice E0)) (he0 : P.cellsOf E0 = 1) {i x : Nat} (hi : i < k) (hn : k ≤ n) (hx : x < S) :
    ∃ b off, GOne P T1 T0 w (some ⟨g, 0, none⟩) n c S F G (fun _ => S) i x b off := by
  obtain ⟨b, off, h1, h2⟩ := h.outer.sl.one (P := P) T1 E1 ht1 he1 (i : Int) (by omega) (by omega)
  rw [show gv vs (i : Int).toNat = .slice (some ⟨G i, 0, none⟩) S S from h.at' i hi] at h2
  obtain ⟨h3, h4, h5⟩ := (h.row i hi).at (P := P) T0 ht0 he0 x hx .i64
  have h6 : (I (rowF F S i)).getD x undef = .int .i64 (F i x) := by rw [I_getD _ _ (by rw [rowF_len]; exact hx), show (rowF F S i).getD x 0 = gi (rowF F S i) x from rfl, rowF_gi hx]
  rw [h6] at h4
  refine ⟨b, off, h1, h2, fun K w' => ?_, fun w' hxx => hxx.cell h4, fun w' hxx => ?_⟩
  · exact ((h.row i hi).at (P := P) T0 ht0 he0 x hx K).1 w'
  · exact (Below.frozen hxx (h.ge hi).2).trans h5
theorem GridU.congr {F' : Nat → Nat → Int} (h : GridU w B E1 E0 g n c S k vs F G) (he : ∀ j, j < k → ∀ y, y < S → F j y = F' j y) : GridU w B E1 E0 g n c S k vs F' G :=
  ⟨h.outer, h.at', fun j hj => by rw [← rowF_congr (he j hj)]; exact h.row j hj, h.inj⟩
/-- one row more, all 0 -/
theorem GridU.lay {w5 : World} {B' : Nat} (h : GridU w B E1 E0 g n c S k vs F G) (hx : Ext w w5)
    (hr : Own w5 B' E0 (some ⟨w.heap.size, 0, none⟩) S S (List.replicate S (.int .i64 0))) (hk : k < n) (hB : B ≤ w.heap.size) (hE : E1 ≠ E0) :
    GridU (w5.setCell ⟨g, k, none⟩ (.slice (some ⟨w.heap.size, 0, none⟩) S S)) B E1 E0 g n c S (k + 1) (vs.set k (.slice (some ⟨w.heap.size, 0, none⟩) S S)) (fun j y => if j = k then 0 else F j y) (fun j => if j = k then w.heap.size else G j) := by
  have ho5 := h.outer.ext hx
  have hl := h.outer.len
  have hrI : Own w5 B E0 (some ⟨w.heap.size, 0, none⟩) S S (I (rowF (fun j y => if j = k then 0 else F j y) S k)) := by
    rw [show rowF (fun j y => if j = k then 0 else F j y) S k = List.replicate S 0 by simp [rowF, List.map_const'], I_replicate]
    refine ⟨hr.1, ?_⟩
    rcases hr.2 with h2 | ⟨b, cap, cur, hv, _, r⟩
    · exact .inl h2
    · simp only [Value.slice.injEq, Option.some.injEq, Addr.mk.injEq, true_and, and_true] at hv
      exact .inr ⟨b, cap, cur, by simp [hv.1, hv.2], by omega, r⟩
  have nw : ∀ j, j < k → G j < w.heap.size := fun j h1 => (h.row j h1).lt.2
  refine ⟨ho5.set k _, fun j h1 => ?_, fun j h1 => ?_, fun j j' h1 h1' he => ?_⟩
  · by_cases e : j = k
    · subst e
      simp [gv, List.getD_eq_getElem?_getD, show j < vs.length by omega]
    · have h3 := h.at' j (by omega)
      simp only [gv, List.getD_eq_getElem?_getD] at h3 ⊢
      rw [List.getElem?_set_ne (fun h => e h.symm), h3, if_neg e]
  · have hne : ∀ {b : Nat} {vs' : List Value} {S' c' : Nat} {B2 : Nat}, Own w5 B2 E0 (some ⟨b, 0, none⟩) S' c' vs' → Own (w5.setCell ⟨g, k, none⟩ (.slice (some ⟨w.heap.size, 0, none⟩) S S)) B2 E0 (some ⟨b, 0, none⟩) S' c' vs' := fun ho => by
      refine ho.other _ fun g' hg' => ?_
      exact own_ne_type ho ho5 (fun h => hE h.symm) g' ⟨g, 0, none⟩ hg' rfl
    by_cases e : j = k
    · subst e; rw [if_pos rfl]; exact hne hrI
    · rw [if_neg e, rowF_congr (F' := F) (fun y _ => if_neg e)]; exact hne ((h.row j (by omega)).ext hx)
  · by_cases e : j = k <;> by_cases e' : j' = k
    · omega
    · rw [if_pos e, if_neg e'] at he; have := nw j' (by omega); omega
    · rw [if_neg e, if_pos e'] at he; have := nw j (by omega); omega
    · rw [if_neg e, if_neg e'] at he; exact h.inj j j' (by omega) (by omega) he
theorem GridU.done (h : GridU w B E1 E0 g n c S n vs F G) : Grid w B E1 E0 (some ⟨g, 0, none⟩) n c S F G (fun _ => S) := by
  have hl := h.outer.len
  have hvs : vs = (List.range n).map (slR G (fun _ => S) S) := by
    apply List.ext_getElem
    · simpa using hl
    · intro k h1 h2
      have hk : k < n := by omega
      have := h.at' k hk
      simp [gv, List.getD_eq_getElem?_getD, h1] at this
      simp [slR, this]
  exact ⟨by rw [← hvs]; exact h.outer, h.row, h.inj⟩
end

/-! ### plain -/
/-- how many words of r symbols lead two states to the end -/
def bothS (D : Ch) (n : Nat) : Nat → Int → Int → Int
  | 0, s, t => if s = D.fin ∧ t = D.fin then 1 else 0
  | r + 1, s, t => ((List.range D.base.toNat).map fun (d : Nat) => bothS D n r (nextS D ((n - (r + 1) : Nat) : Int) s d) (nextS D ((n - (r + 1) : Nat) : Int) t d)).sum
def partB (D : Ch) (n r : Nat) (s t : Int) (d : Nat) : Int := ((List.range d).map fun (e : Nat) => bothS D n r (nextS D ((n - (r + 1) : Nat) : Int) s e) (nextS D ((n - (r + 1) : Nat) : Int) t e)).sum
theorem partB_zero (D : Ch) (n r : Nat) (s t : Int) : partB D n r s t 0 = 0 := rfl
theorem partB_succ (D : Ch) (n r : Nat) (s t : Int) (d : Nat) : partB D n r s t (d + 1) = partB D n r s t d + bothS D n r (nextS D ((n - (r + 1) : Nat) : Int) s d) (nextS D ((n - (r + 1) : Nat) : Int) t d) := by
  simp [partB, List.range_succ]
theorem bothS_bd {D : Ch} (hb : 0 ≤ D.base) (n : Nat) : ∀ (r : Nat) (s t : Int), 0 ≤ bothS D n r s t ∧ bothS D n r s t ≤ D.base ^ r
  | 0, s, t => by unfold bothS; split <;> simp
  | r + 1, s, t => by
    have h : ∀ d : Nat, 0 ≤ partB D n r s t d ∧ partB D n r s t d ≤ d * D.base ^ r := by
      intro d
      induction d with
      | zero => simp [partB]
      | succ d ih =>
        have := bothS_bd hb n r (nextS D ((n - (r + 1) : Nat) : Int) s d) (nextS D ((n - (r + 1) : Nat) : Int) t d)
        rw [partB_succ, show (((d + 1 : Nat) : Int) * D.base ^ r) = (d : Int) * D.base ^ r + D.base ^ r by rw [Int.natCast_add, Int.add_mul]; simp]
        omega
    have h1 := h D.base.toNat
    rw [Int.toNat_of_nonneg hb, Int.mul_comm, ← Int.pow_succ] at h1
    exact h1
theorem partB_bd {D : Ch} (hb : 0 ≤ D.base) (n r : Nat) (s t : Int) (d : Nat) (hd : (d : Int) ≤ D.base) : 0 ≤ partB D n r s t d ∧ partB D n r s t d ≤ D.base ^ (r + 1) := by
  have h : ∀ d : Nat, 0 ≤ partB D n r s t d ∧ partB D n r s t d ≤ d * D.base ^ r := by
    intro d
    induction d with
    | zero => simp [partB]
    | succ d ih =>
      have := bothS_bd hb n r (nextS D ((n - (r + 1) : Nat) : Int) s d) (nextS D ((n - (r + 1) : Nat) : Int) t d)
      rw [partB_succ, show (((d + 1 : Nat) : Int) * D.base ^ r) = (d : Int) * D.base ^ r + D.base ^ r by rw [Int.natCast_add, Int.add_mul]; simp]
      omega
  have h1 := h d
  refine ⟨h1.1, Int.le_trans h1.2 ?_⟩
  rw [Int.pow_succ, Int.mul_comm]
  exact Int.mul_le_mul_of_nonneg_left hd (Int.pow_nonneg hb)
theorem pow_le_n {D : Ch} (hok : OkCh D) {r : Nat} (hr : r ≤ D.places.length) : D.base ^ r ≤ 1000000000000000 := by
  obtain ⟨j, hj⟩ := Nat.exists_eq_add_of_le hr
  have h := hok.pw
  have hb := hok.b2
  rw [hj, Int.pow_add] at h
  have g1 : 0 < D.base ^ r := Int.pow_pos (by omega)
  have g2 : 0 < D.base ^ j := Int.pow_pos (by omega)
  have : D.base ^ r * 1 ≤ D.base ^ r * D.base ^ j := Int.mul_le_mul_of_nonneg_left (by omega) (by omega)
  omega
/-- the rows up to x are done; there up to y, there up to d -/
structure BothTo (D : Ch) (n S r x y d : Nat) (F : Nat → Nat → Int) : Prop where
  hi : ∀ s, s < x → s < S → ∀ t, t < S → F s t = bothS D n (r + 1) s t
  lt : x < S → ∀ t, t < y → t < S → F x t = bothS D n (r + 1) x t
  at' : x < S → y < S → F x y = partB D n r x y d
  gt : x < S → ∀ t, y < t → t < S → F x t = 0
theorem BothTo.next {D : Ch} {n S r x y : Nat} {F : Nat → Nat → Int} (h : BothTo D n S r x y D.base.toNat F) : BothTo D n S r x (y + 1) 0 F :=
  ⟨h.hi, fun hx t h1 h2 => by
    rcases Nat.lt_or_ge t y with h3 | h3
    · exact h.lt hx t h3 h2
    · obtain rfl : t = y := by omega
      rw [h.at' hx h2]; rfl, fun hx hy => by rw [partB_zero]; exact h.gt hx (y + 1) (by omega) hy, fun hx t h1 h2 => h.gt hx t (by omega) h2⟩
theorem BothTo.row {D : Ch} {n S r x d : Nat} {F : Nat → Nat → Int} (h : BothTo D n S r x S d F) : ∀ s, s < x + 1 → s < S → ∀ t, t < S → F s t = bothS D n (r + 1) s t := fun s h1 h2 t h3 => by
  rcases Nat.lt_or_ge s x with h4 | h4
  · exact h.hi s h4 h2 t h3
  · obtain rfl : s = x := by omega
    exact h.lt h2 t h3 h3
theorem BothTo.step {D : Ch} {n S r x y d y1 y2 : Nat} {F F0 : Nat → Nat → Int} (hx : x < S) (hy : y < S) (h : BothTo D n S r x y d F) (h0 : F0 y1 y2 = bothS D n r y1 y2)
    (e1 : nextS D ((n - (r + 1) : Nat) : Int) x d = (y1 : Int)) (e2 : nextS D ((n - (r + 1) : Nat) : Int) y d = (y2 : Int)) : BothTo D n S r x y (d + 1) (upd F x y (F x y + F0 y1 y2)) :=
  ⟨fun s h1 h2 t h3 => by rw [upd_row (by omega)]; exact h.hi s h1 h2 t h3, fun _ t h1 h2 => by rw [upd_col (by omega)]; exact h.lt hx t h1 h2,
    fun _ _ => by rw [upd_same, partB_succ, h.at' hx hy, h0, e1, e2], fun _ t h1 h2 => by rw [upd_col (by omega)]; exact h.gt hx t h1 h2⟩

/-- the numbers for all pairs of states -/
def RetBoth (D : Ch) (r : Nat) (w : World) (e : Ending) (w' : World) : Prop :=
  ∃ a c F G C, e = .returned (.slice a D.states.toNat c) ∧ Grid w' w.heap.size 25 2 a D.states.toNat c D.states.toNat F G C ∧ (∀ s, s < D.states.toNat → ∀ t, t < D.states.toNat → F s t = bothS D D.places.length r s t) ∧ Ext w w'
set_option maxHeartbeats 8000000 in
theorem impl_both (D : Ch) (q : Nat) (a : Option Addr) (n c : Nat) (a' : Option Addr) (n' c' : Nat) (p : Nat) (w : World) (hv : ChAt w q D a n c a' n' c') (hok : OkCh D) (hp : p ≤ n') :
    Calls Try.prog 43 #[.pointer (some ⟨q, 0, none⟩), .int .i64 p] w (RetBoth D (n' - p) w) := by
  have HP := Lib.hid hv.ps.len
  have HV := Lib.hid hv
  have HOK := Lib.hid hok
  obtain ⟨k0, k1, k2, k3, k4, k5, _, _⟩ := hv
  have p20 := hok.p20
  rw [HP.out] at p20
  have b2 := hok.b2
  have b36 := hok.b36
  have hS36 := hok.s36
  obtain ⟨S, hS⟩ := Int.eq_ofNat_of_zero_le (show 0 ≤ D.states by have := hok.s1; omega)
  obtain ⟨e, he⟩ := Int.eq_ofNat_of_zero_le hok.en0
  obtain ⟨bs, hbs⟩ := Int.eq_ofNat_of_zero_le (show 0 ≤ D.base by omega)
  have heS : e < S := by have := hok.en1; omega
  have HSt := Lib.hid (show D.states.toNat = S by omega)
  have HBs := Lib.hid (show D.base.toNat = bs by omega)
  simp only [hS] at k1
  simp only [he] at k3
  simp only [hbs] at k0
  have hS36' : S ≤ 36 := by omega
  have hbs' : bs ≤ 36 := by omega
  have HNx := Lib.hid (fun (i x d : Nat) (hi : i < n') (hx : x < S) (hd : d < bs) => hok.next (p := i) (x := x) (d := d) (by omega) (by rw [HP.out]; omega) (by omega) (by omega) (by omega) (by omega))
  have hb0 : 0 ≤ D.base := by omega
  have HhS := Lib.hid hS; clear hS; have Hhe := Lib.hid he; clear he; have Hhbs := Lib.hid hbs; clear hbs; have HhS36 := Lib.hid hS36; clear hS36
  clear hok
  go_enter Try.func43, Try.ntmps43
  go_wp2_with (at_make; refine law_make _ rfl _ _ 54 rfl 25 (.slice none 0 0) 24 und_grid info_row1 rfl _ _ S rfl rfl (by omega) (by unfold maxLen; omega) ?_; intro w1 hown hx hsz)
  obtain ⟨g, hg⟩ : ∃ g, g = w.heap.size := ⟨_, rfl⟩
  rw [← hg] at hown ⊢
  have hgw : w.heap.size ≤ g := by omega
  have Hhown := Lib.hid hown; clear hown; have Hhg := Lib.hid hg; clear hg
  clear hsz
  go_wp2
  go_loopw [19] (fun i wr => ∃ (k : Nat) (vs : List Value) (G : Nat → Nat), k ≤ S ∧ i = .int .i64 k ∧ GridTo wr w.heap.size 25 2 (some ⟨g, 0, none⟩) S S S k vs G ∧ Ext w wr) (fun i _ => S - (intOf i).toNat)
  case atStart => exact ⟨0, _, fun _ => 0, Nat.zero_le _, rfl, ⟨Hhown.out.mono (by rw [Hhg.out]; exact Nat.le_refl _), (fun j hj => by omega), (fun j hj => by omega), (fun j j' hj => by omega)⟩, hx⟩
  case round =>
    obtain ⟨k, vs, G, hk, rfl, hgt, hxr⟩ := hrel
    have HGt := Lib.hid hgt
    have hxq0 : Ext w wr := hxr
    clear hgt
    by_cases hlk : k < S
    · go_wp2_with (at_make; refine law_make _ rfl _ _ 25 rfl 2 (.int .i64 0) 8 und_int64s info_int64 rfl _ _ S rfl rfl (by omega) (by unfold maxLen; omega) ?_; intro w5 hown5 hx5 hsz5; obtain ⟨hia5, hce5, hfr5⟩ := (HGt.out.outer.ext hx5).at (P := Try.prog) 54 und_grid cell_row1 k hlk .i64; obtain ⟨y5, hy5⟩ : ∃ y, y = vs.getD k undef := ⟨_, rfl⟩; rw [← hy5] at hce5; have HO5 := Lib.hid hown5; clear hown5 hy5 hsz5)
      exact ⟨⟨k + 1, _, _, by omega, by go_num, GridTo.step HGt.out hx5 HO5.out hlk hxr.le (by decide), Ext.setCell (hxr.trans hx5) hgw _⟩, by simp [intOf]; omega⟩
    obtain rfl : S = k := by omega
    have HGr := Lib.hid HGt.out.done
    obtain ⟨bz, oz, f1, f2, f3, f4, f5⟩ := HGr.out.one (P := Try.prog) 54 25 und_grid cell_row1 und_int64s cell_int64 (i := e) (x := e) heS heS
    have hge := (HGr.out.ge (k := e) heS).1
    go_wp2
    (refine wp_region_upl 12 wr (by repeat (first | (with_reducible exact Ext.refl _) | (with_reducible refine Ext.drewN ?_ _) | (with_reducible refine Ext.drew ?_) | (with_reducible refine Ext.alloc ?_ _) | ((with_reducible refine Ext.setCell ?_ ?_ _); rotate_left; focus (first | (simp; done) | (simp; omega) | omega)) | assumption | (with_reducible refine Ext.trans ?_ (by assumption)))) rfl (by kernel_rfl) (by kernel_rfl) (seqB_of (by kernel_rfl)) (lastB_of (by kernel_rfl)) ?_; simp only [List.take_succ_cons, List.take_zero, List.drop_succ_cons, List.drop_zero]; (repeat (first | (refine mix_q rfl ?_; go_big_quiet_step (fail); refine wpQuiet_nil ?_; show wpMix _ _ _ _ _ _ _) | (refine mix_s rfl ?_; go_wp2_with (fail); first | refine ⟨up_of (by repeat (first | (with_reducible exact Ext.refl _) | (with_reducible refine Ext.drewN ?_ _) | (with_reducible refine Ext.drew ?_) | (with_reducible refine Ext.alloc ?_ _) | ((with_reducible refine Ext.setCell ?_ ?_ _); rotate_left; focus (first | (simp; done) | (simp; omega) | omega)) | assumption | (with_reducible refine Ext.trans ?_ (by assumption)))), ?_⟩ | refine ⟨rfl, rfl, up_of (by repeat (first | (with_reducible exact Ext.refl _) | (with_reducible refine Ext.drewN ?_ _) | (with_reducible refine Ext.drew ?_) | (with_reducible refine Ext.alloc ?_ _) | ((with_reducible refine Ext.setCell ?_ ?_ _); rotate_left; focus (first | (simp; done) | (simp; omega) | omega)) | assumption | (with_reducible refine Ext.trans ?_ (by assumption)))), ?_⟩))); refine mix_nil ?_)
    go_wp2
    have HG0 := Lib.hid ((HGr.out.set (i := e) (x := e) heS heS 1 (by decide)).ext (Ext.refl _).drew)
    have HF0 := Lib.hid (show ∀ s, s < S → ∀ t, t < S → upd (fun _ _ => (0 : Int)) e e 1 s t = bothS D n' 0 s t from fun s hs t ht => by
      have h := Hhe.out
      unfold upd bothS
      by_cases h1 : s = e ∧ t = e
      · rw [if_pos h1, if_pos (by obtain ⟨rfl, rfl⟩ := h1; omega)]
      · rw [if_neg h1, if_neg (by rw [h]; omega)])
    clear f1 f2 f3 f4 f5 HGt
    go_loopw [5, 7] (fun v5 v7 wr => ∃ (r : Nat) (z : Int) (gg : Nat) (F : Nat → Nat → Int) (G : Nat → Nat), r ≤ n' - p ∧ v7 = .int .i64 z ∧ z + 1 + r = (n' : Int) ∧ v5 = .slice (some ⟨gg, 0, none⟩) S S ∧ Hid (Grid wr w.heap.size 25 2 (some ⟨gg, 0, none⟩) S S S F G (fun _ => S)) ∧ Hid (∀ s, s < S → ∀ t, t < S → F s t = bothS D n' r s t) ∧ Ext w wr) (fun _ v7 _ => (intOf v7 + 1).toNat)
    case atStart => exact ⟨0, (n' : Int) - 1, g, _, _, Nat.zero_le _, rfl, by omega, rfl, HG0.out, HF0.out, (Ext.setCell hxr hge _).drew⟩
    case round =>
      clear HG0 HF0 HGr
      obtain ⟨r, z, gg, F, G, hr, rfl, hz, rfl, HGo, HFo, hxo⟩ := hrel
      by_cases hrp : r < n' - p
      · obtain ⟨kk, rfl⟩ := Int.eq_ofNat_of_zero_le (show 0 ≤ z by omega)
        have hkk : kk < n' := by omega
        have hpk : (p : Int) ≤ (kk : Int) := by omega
        have HKk := Lib.hid (show kk = n' - (r + 1) by omega)
        have HZ := Lib.hid hz
        have HRp := Lib.hid hrp
        obtain ⟨wo, hwo⟩ : ∃ W, W = wr := ⟨_, rfl⟩
        rw [← hwo] at HGo hxo ⊢
        clear hwo hz hr hrp
        go_wp2_with (at_make; refine law_make _ rfl _ _ 54 rfl 25 (.slice none 0 0) 24 und_grid info_row1 rfl _ _ S rfl rfl (by omega) (by unfold maxLen; omega) ?_; intro w2 hown2 hx2 hsz2; have hxw2 : Ext w w2 := hxo.trans hx2)
        obtain ⟨g8, hg8⟩ : ∃ g8, g8 = wo.heap.size := ⟨_, rfl⟩
        rw [← hg8] at hown2 ⊢
        have HO2 := Lib.hid (hown2.mono (show wo.heap.size ≤ g8 by omega))
        have HX2 := Lib.hid hx2
        have hg8w : wo.heap.size ≤ g8 := by omega
        clear hown2 hsz2 hg8 hx2
        go_loopw [63] (fun v63 wr => ∃ (s : Nat) (vs : List Value) (F2 : Nat → Nat → Int) (G2 : Nat → Nat), s ≤ S ∧ v63 = .int .i64 s ∧ Hid (GridU wr wo.heap.size 25 2 g8 S S S s vs F2 G2) ∧ Hid (∀ s', s' < s → s' < S → ∀ t, t < S → F2 s' t = bothS D n' (r + 1) s' t) ∧ Ext wo wr) (fun v63 _ => S - (intOf v63).toNat)
        case atStart => exact ⟨0, _, fun _ _ => 0, fun _ => 0, Nat.zero_le _, rfl, ⟨HO2.out, (fun j hj => by omega), (fun j hj => by omega), (fun j j' hj => by omega)⟩, (fun s' hs' => by omega), HX2.out⟩
        case round =>
          clear HO2 HX2
          obtain ⟨s, vs, F2, G2, hs, rfl, HGu, HFu, hxu⟩ := hrel
          have hxwr : Ext w wr := hxo.trans hxu
          by_cases hls : s < S
          · go_wp2_with (at_make; refine law_make _ rfl _ _ 25 rfl 2 (.int .i64 0) 8 und_int64s info_int64 rfl _ _ S rfl rfl (by omega) (by unfold maxLen; omega) ?_; intro w5 hown5 hx5 hsz5; obtain ⟨hia5, hce5, hfr5⟩ := (HGu.out.outer.ext hx5).at (P := Try.prog) 54 und_grid cell_row1 s hls .i64; obtain ⟨y5, hy5⟩ : ∃ y, y = vs.getD s undef := ⟨_, rfl⟩; rw [← hy5] at hce5; have HO5 := Lib.hid hown5; have hxw5 : Ext w w5 := hxwr.trans hx5; have hxg5 : Ext w (w5.setCell ⟨g8, s, none⟩ (.slice (some ⟨wr.heap.size, 0, none⟩) S S)) := Ext.setCell hxw5 (Nat.le_trans hxo.le hg8w) _; clear hown5 hy5 hsz5)
            have HGl := Lib.hid (HGu.out.lay hx5 HO5.out hls hxu.le (by decide))
            have HBl := Lib.hid (show BothTo D n' S r s 0 0 (fun j y => if j = s then 0 else F2 j y) from
              ⟨fun s' h1 h2 t h3 => by rw [if_neg (by omega)]; exact HFu.out s' h1 h2 t h3, fun _ t h1 => by omega, fun _ _ => by rw [partB_zero, if_pos rfl], fun _ t _ _ => if_pos rfl⟩)
            have hxl : Ext wo (w5.setCell ⟨g8, s, none⟩ (.slice (some ⟨wr.heap.size, 0, none⟩) S S)) := Ext.setCell (hxu.trans hx5) hg8w _
            generalize vs.set s (.slice (some ⟨wr.heap.size, 0, none⟩) S S) = vs' at HGl
            generalize (fun j => if j = s then wr.heap.size else G2 j) = G' at HGl
            generalize (fun j y => if j = s then (0 : Int) else F2 j y) = F3 at HGl HBl
            clear HGu HFu hia5 hce5 hfr5 HO5
            go_loopw [78] (fun v78 wr => ∃ (t : Nat) (F3 : Nat → Nat → Int), t ≤ S ∧ v78 = .int .i64 t ∧ Hid (GridU wr wo.heap.size 25 2 g8 S S S (s + 1) vs' F3 G') ∧ Hid (BothTo D n' S r s t 0 F3) ∧ Ext wo wr) (fun v78 _ => S - (intOf v78).toNat)
            case atStart => exact ⟨0, F3, Nat.zero_le _, rfl, HGl.out, HBl.out, hxl⟩
            case round =>
              clear HGl HBl hxl hxg5
              obtain ⟨t, F3, ht, rfl, HG3, HB3, hx3⟩ := hrel
              have hxw3 : Ext w wr := hxo.trans hx3
              by_cases hlt : t < S
              · go_wp2
                go_loopw [85] (fun v85 wr => ∃ (d : Nat) (F4 : Nat → Nat → Int), d ≤ bs ∧ v85 = .int .i64 d ∧ Hid (GridU wr wo.heap.size 25 2 g8 S S S (s + 1) vs' F4 G') ∧ Hid (BothTo D n' S r s t d F4) ∧ Ext wo wr) (fun v85 _ => bs - (intOf v85).toNat)
                case atStart => exact ⟨0, F3, Nat.zero_le _, rfl, HG3.out, HB3.out, hx3⟩
                case round =>
                  obtain ⟨d, F4, hd, rfl, HG4, HB4, hx4⟩ := hrel
                  have hxw4 : Ext w wr := hxo.trans hx4
                  by_cases hld : d < bs
                  · obtain ⟨ya0, ya1⟩ := HNx.out kk s d hkk hls hld
                    obtain ⟨yb0, yb1⟩ := HNx.out kk t d hkk hlt hld
                    obtain ⟨ya, hya⟩ := Int.eq_ofNat_of_zero_le ya0
                    obtain ⟨yb, hyb⟩ := Int.eq_ofNat_of_zero_le yb0
                    have hyaS : ya < S := by have := HhS.out; omega
                    have hybS : yb < S := by have := HhS.out; omega
                    have HC1 := Lib.hid (fun W (h : Ext w W) => impl_next D q a n c a' n' c' (kk : Int) (s : Int) (d : Int) W (HV.out.ext h) HOK.out (by omega) (by have := HP.out; omega) (by omega) (by have := HhS.out; omega) (by omega) (by have := Hhbs.out; omega))
                    have HC2 := Lib.hid (fun W (h : Ext w W) => impl_next D q a n c a' n' c' (kk : Int) (t : Int) (d : Int) W (HV.out.ext h) HOK.out (by omega) (by have := HP.out; omega) (by omega) (by have := HhS.out; omega) (by omega) (by have := Hhbs.out; omega))
                    have HYa := Lib.hid hya
                    have HYb := Lib.hid hyb
                    rw [hya] at HC1
                    rw [hyb] at HC2
                    obtain ⟨b1, o1, f1, f2, f3, f4, f5⟩ := HG4.out.one (P := Try.prog) 54 25 und_grid cell_row1 und_int64s cell_int64 (i := s) (x := t) (by omega) (by omega) hlt
                    obtain ⟨b2', o2, g1, g2, g3, g4, _⟩ := HGo.out.one (P := Try.prog) 54 25 und_grid cell_row1 und_int64s cell_int64 (i := ya) (x := yb) hyaS hybS
                    have hgi := (HG4.out.ge (j := s) (by omega)).1
                    have hrn := HRp.out
                    have hv1 : 0 ≤ F4 s t ∧ F4 s t ≤ 1000000000000000 := by
                      rw [HB4.out.at' hls hlt]
                      have h1 := partB_bd hb0 n' r s t d (by have := Hhbs.out; omega)
                      have h2 := pow_le_n HOK.out (r := r + 1) (by rw [HP.out]; omega)
                      omega
                    have hv2 : 0 ≤ F ya yb ∧ F ya yb ≤ 1000000000000000 := by
                      rw [HFo.out ya hyaS yb hybS]
                      have h1 := bothS_bd hb0 n' r ya yb
                      have h2 := pow_le_n HOK.out (r := r) (by rw [HP.out]; omega)
                      omega
                    obtain ⟨u1, u2⟩ := hv1
                    obtain ⟨u3, u4⟩ := hv2
                    have HStp := Lib.hid (HB4.out.step (F0 := F) hls hlt (HFo.out ya hyaS yb hybS) (by rw [← HKk.out]; exact HYa.out) (by rw [← HKk.out]; exact HYb.out))
                    clear ya0 ya1 yb0 yb1 hya hyb
                    go_wp2
                    (refine wp_region_upl 24 wr (by repeat (first | (with_reducible exact Ext.refl _) | (with_reducible refine Ext.drewN ?_ _) | (with_reducible refine Ext.drew ?_) | (with_reducible refine Ext.alloc ?_ _) | ((with_reducible refine Ext.setCell ?_ ?_ _); rotate_left; focus (first | (simp; done) | (simp; omega) | omega)) | assumption | (with_reducible refine Ext.trans ?_ (by assumption)))) rfl (by kernel_rfl) (by kernel_rfl) (seqB_of (by kernel_rfl)) (lastB_of (by kernel_rfl)) ?_; simp only [List.take_succ_cons, List.take_zero, List.drop_succ_cons, List.drop_zero]; (repeat (first | (refine mix_q rfl ?_; go_big_quiet_step (fail); refine wpQuiet_nil ?_; show wpMix _ _ _ _ _ _ _) | (refine mix_s rfl ?_; go_wp2_with (first | ((with_reducible refine (HC1.out _ (by repeat (first | (with_reducible exact Ext.refl _) | (with_reducible assumption) | (with_reducible refine Ext.drewN ?_ _) | (with_reducible refine Ext.drew ?_) | (with_reducible refine Ext.alloc ?_ _) | ((with_reducible refine Ext.setCell ?_ ?_ _); rotate_left; focus (first | (simp; done) | (simp; omega) | omega)) | (with_reducible refine Ext.trans ?_ (by with_reducible assumption))))).mono ?_); rintro e w6 ⟨rfl, hy6⟩; have hxr6 : Ext wr w6 := Ext.trans (by repeat (first | (with_reducible exact Ext.refl _) | (with_reducible assumption) | (with_reducible refine Ext.drewN ?_ _) | (with_reducible refine Ext.drew ?_) | (with_reducible refine Ext.alloc ?_ _) | ((with_reducible refine Ext.setCell ?_ ?_ _); rotate_left; focus (first | (simp; done) | (simp; omega) | omega)) | (with_reducible refine Ext.trans ?_ (by with_reducible assumption)))) hy6; have hxo6 : Ext wo w6 := hx4.trans hxr6; have hxw6 : Ext w w6 := hxo.trans hxo6; clear hy6) | ((with_reducible refine (HC2.out _ (by repeat (first | (with_reducible exact Ext.refl _) | (with_reducible assumption) | (with_reducible refine Ext.drewN ?_ _) | (with_reducible refine Ext.drew ?_) | (with_reducible refine Ext.alloc ?_ _) | ((with_reducible refine Ext.setCell ?_ ?_ _); rotate_left; focus (first | (simp; done) | (simp; omega) | omega)) | (with_reducible refine Ext.trans ?_ (by with_reducible assumption))))).mono ?_); rintro e w7 ⟨rfl, hy7⟩; have hxr7 : Ext wr w7 := Ext.trans (by repeat (first | (with_reducible exact Ext.refl _) | (with_reducible assumption) | (with_reducible refine Ext.drewN ?_ _) | (with_reducible refine Ext.drew ?_) | (with_reducible refine Ext.alloc ?_ _) | ((with_reducible refine Ext.setCell ?_ ?_ _); rotate_left; focus (first | (simp; done) | (simp; omega) | omega)) | (with_reducible refine Ext.trans ?_ (by with_reducible assumption)))) hy7; have hxo7 : Ext wo w7 := hx4.trans hxr7; have hxw7 : Ext w w7 := hxo.trans hxo7; clear hy7)); first | refine ⟨up_of (by repeat (first | (with_reducible exact Ext.refl _) | (with_reducible refine Ext.drewN ?_ _) | (with_reducible refine Ext.drew ?_) | (with_reducible refine Ext.alloc ?_ _) | ((with_reducible refine Ext.setCell ?_ ?_ _); rotate_left; focus (first | (simp; done) | (simp; omega) | omega)) | assumption | (with_reducible refine Ext.trans ?_ (by assumption)))), ?_⟩ | refine ⟨rfl, rfl, up_of (by repeat (first | (with_reducible exact Ext.refl _) | (with_reducible refine Ext.drewN ?_ _) | (with_reducible refine Ext.drew ?_) | (with_reducible refine Ext.alloc ?_ _) | ((with_reducible refine Ext.setCell ?_ ?_ _); rotate_left; focus (first | (simp; done) | (simp; omega) | omega)) | assumption | (with_reducible refine Ext.trans ?_ (by assumption)))), ?_⟩))); refine mix_nil ?_)
                    go_wp2
                    exact ⟨⟨d + 1, _, by omega, by go_num, (HG4.out.ext hxr7).set (i := s) (by omega) hlt _ (by decide), HStp.out, Ext.setCell hxo7 hgi _⟩, by simp [intOf]; omega⟩
                  · obtain rfl : d = bs := by omega
                    have HE := Lib.hid (show BothTo D n' S r s (t + 1) 0 F4 from BothTo.next (by rw [HBs.out]; exact HB4.out))
                    go_wp2
                    exact ⟨⟨t + 1, F4, by omega, by go_num, HG4.out, HE.out, hx4⟩, by simp [intOf]; omega⟩
              · obtain rfl : t = S := by omega
                have HE := Lib.hid HB3.out.row
                go_wp2
                exact ⟨⟨s + 1, vs', F3, G', by omega, by go_num, HG3.out, HE.out, hx3⟩, by simp [intOf]; omega⟩
          · obtain rfl : s = S := by omega
            have HGd := Lib.hid (HGu.out.done.mono hxo.le)
            go_wp2
            exact ⟨⟨r + 1, (kk : Int) - 1, g8, F2, G2, by have := HRp.out; omega, rfl, by have := HZ.out; omega, rfl, HGd.out, (fun x hx y hy => HFu.out x hx hx y hy), hxwr⟩, by simp [intOf]⟩
      · obtain rfl : r = n' - p := by omega
        have hzp : ¬ (p : Int) ≤ z := by omega
        clear hz hrp hr
        go_wp2
        go_ret
        exact ⟨some ⟨gg, 0, none⟩, S, F, G, fun _ => S, by rw [HSt.out]; rfl, by rw [HSt.out]; exact HGo.out, by rw [HSt.out, HP.out]; exact HFo.out, hxo⟩
end Go.Proofs.Ytccoopnoakhedaa

/- Walks: how many beginnings lead to each state, in the program. -/
namespace Go.Proofs.Ytccoopnoakhedaa
set_option maxRecDepth 100000
open Go.RowKit

/-! ### plain -/
def begD (D : Ch) (k : Nat) (v : Int) (x : Nat) : Nat → List Int → List Int
  | 0, l => l
  | d + 1, l => (begD D k v x d l).set (nextS D k x d).toNat (gi (begD D k v x d l) (nextS D k x d).toNat + v)
def begR (D : Ch) (k : Nat) (vs : List Int) (S : Nat) : Nat → List Int
  | 0 => List.replicate S 0
  | x + 1 => begD D k (gi vs x) x D.base.toNat (begR D k vs S x)
/-- the numbers of beginnings of k symbols, for all states -/
def begL (D : Ch) (S : Nat) : Nat → List Int
  | 0 => (List.replicate S 0).set D.start.toNat 1
  | k + 1 => begR D k (begL D S k) S S
theorem begD_len (D : Ch) (k : Nat) (v : Int) (x d : Nat) (l : List Int) : (begD D k v x d l).length = l.length := by
  induction d with
  | zero => rfl
  | succ d ih => simp [begD, ih]
theorem begR_len (D : Ch) (k : Nat) (vs : List Int) (S x : Nat) : (begR D k vs S x).length = S := by
  induction x with
  | zero => simp [begR]
  | succ x ih => rw [begR, begD_len, ih]
theorem begL_len (D : Ch) (S k : Nat) : (begL D S k).length = S := by
  cases k with
  | zero => simp [begL]
  | succ k => rw [begL, begR_len]
theorem gi_set2 (l : List Int) (i j : Nat) (u : Int) : gi (l.set i u) j = if i = j ∧ i < l.length then u else gi l j := by
  unfold gi
  rw [List.getD_eq_getElem?_getD, List.getElem?_set, List.getD_eq_getElem?_getD]
  by_cases h : i = j
  · subst h
    by_cases h2 : i < l.length
    · simp [h2]
    · simp [h2]
  · simp [h]
theorem sum_setG : ∀ (l : List Int) (y : Nat) (v : Int), y < l.length → (l.set y (gi l y + v)).sum = l.sum + v
  | [], y, v, h => by simp at h
  | x :: xs, 0, v, _ => by simp [gi]; omega
  | x :: xs, y + 1, v, h => by
    have := sum_setG xs y v (by simpa using h)
    simp only [gi, List.set_cons_succ, List.sum_cons, List.getD_cons_succ] at this ⊢
    omega
/-- no number is below 0 -/
def NN (l : List Int) : Prop := ∀ j, 0 ≤ gi l j
theorem NN.set {l : List Int} (h : NN l) (i : Nat) {u : Int} (hu : 0 ≤ u) : NN (l.set i u) := fun j => by
  rw [gi_set2]; split
  · exact hu
  · exact h j
theorem NN.le_sum : ∀ {l : List Int}, NN l → ∀ j, gi l j ≤ l.sum
  | [], _, j => by simp [gi]
  | x :: xs, h, j => by
    have hx : 0 ≤ x := h 0
    have hxs : NN xs := fun i => h (i + 1)
    have hs : 0 ≤ xs.sum := by
      have h0 := NN.le_sum hxs 0
      have := hxs 0
      omega
    cases j with
    | zero => rw [List.sum_cons]; show x ≤ _; omega
    | succ j => have := NN.le_sum hxs j; rw [List.sum_cons]; show gi xs j ≤ _; omega
theorem NN.take_sum {l : List Int} (h : NN l) : ∀ k, k ≤ l.length → 0 ≤ (l.take k).sum ∧ (l.take k).sum ≤ l.sum := by
  have hd : ∀ (l : List Int), NN l → 0 ≤ l.sum := fun l h => by have := NN.le_sum h 0; have := h 0; omega
  intro k hk
  have h1 : NN (l.take k) := fun j => by
    unfold gi
    rw [List.getD_eq_getElem?_getD, List.getElem?_take]
    split
    · have := h j; unfold gi at this; rwa [List.getD_eq_getElem?_getD] at this
    · simp
  have h2 : NN (l.drop k) := fun j => by
    have := h (k + j)
    unfold gi at this ⊢
    rw [List.getD_eq_getElem?_getD] at this ⊢
    rwa [List.getElem?_drop]
  have h3 : l.sum = (l.take k).sum + (l.drop k).sum := by conv => lhs; rw [← List.take_append_drop k l, List.sum_append]
  have := hd _ h1
  have := hd _ h2
  omega
section
variable {D : Ch} {n' S : Nat}
theorem begD_sum (hok : OkCh D) (hS : D.states = (S : Int)) {k x : Nat} (hk : k < D.places.length) (hx : x < S) {v : Int} (hv : 0 ≤ v) {l : List Int} (hl : l.length = S) (hn : NN l) : ∀ d : Nat, (d : Int) ≤ D.base → (begD D k v x d l).sum = l.sum + d * v ∧ NN (begD D k v x d l)
  | 0, _ => ⟨by simp [begD], hn⟩
  | d + 1, hd => by
    obtain ⟨h1, h2⟩ := begD_sum hok hS hk hx hv hl hn d (by omega)
    have hy := hok.next (p := (k : Int)) (x := (x : Int)) (d := (d : Int)) (by omega) (by omega) (by omega) (by omega) (by omega) (by omega)
    rw [begD, sum_setG _ _ _ (by rw [begD_len, hl]; omega), h1]
    refine ⟨by rw [Int.natCast_add, Int.add_mul]; simp; omega, h2.set _ (by have := h2 (nextS D k x d).toNat; omega)⟩
theorem begR_sum (hok : OkCh D) (hS : D.states = (S : Int)) {k : Nat} (hk : k < D.places.length) {vs : List Int} (hvl : vs.length = S) (hn : NN vs) : ∀ x, x ≤ S → (begR D k vs S x).sum = D.base * (vs.take x).sum ∧ NN (begR D k vs S x)
  | 0, _ => ⟨by
      have : ∀ n : Nat, (List.replicate n (0 : Int)).sum = 0 := fun n => by
        induction n with
        | zero => rfl
        | succ n ih => rw [List.replicate_succ, List.sum_cons, ih]; rfl
      simp [begR, this], fun j => by simp [begR, gi, List.getD_eq_getElem?_getD, List.getElem?_replicate]; split <;> simp⟩
  | x + 1, hx => by
    obtain ⟨h1, h2⟩ := begR_sum hok hS hk hvl hn x (by omega)
    have hb := hok.b2
    obtain ⟨h3, h4⟩ := begD_sum hok hS hk (x := x) (by omega) (hn x) (begR_len D k vs S x) h2 D.base.toNat (by omega)
    rw [begR]
    refine ⟨?_, h4⟩
    rw [h3, h1, take_gi (by omega), List.sum_append, Int.mul_add, Int.toNat_of_nonneg (by omega)]
    simp
theorem begL_sum (hok : OkCh D) (hS : D.states = (S : Int)) : ∀ k, k ≤ D.places.length → (begL D S k).sum = D.base ^ k ∧ NN (begL D S k)
  | 0, _ => by
    have h0 := hok.st0; have h1 := hok.st1
    have hr : ∀ n : Nat, (List.replicate n (0 : Int)).sum = 0 := fun n => by
      induction n with
      | zero => rfl
      | succ n ih => rw [List.replicate_succ, List.sum_cons, ih]; rfl
    have hz : NN (List.replicate S (0 : Int)) := fun j => by simp [gi, List.getD_eq_getElem?_getD, List.getElem?_replicate]; split <;> simp
    have hg : gi (List.replicate S (0 : Int)) D.start.toNat = 0 := by
      simp [gi, List.getD_eq_getElem?_getD, List.getElem?_replicate]; split <;> simp
    have h2 := sum_setG (List.replicate S (0 : Int)) D.start.toNat 1 (by simp; omega)
    rw [hg, hr] at h2
    exact ⟨by rw [begL]; simpa using h2, hz.set _ (by omega)⟩
  | k + 1, hk => by
    obtain ⟨h1, h2⟩ := begL_sum hok hS k (by omega)
    obtain ⟨h3, h4⟩ := begR_sum hok hS (k := k) (by omega) (begL_len D S k) h2 S (Nat.le_refl _)
    rw [begL]
    refine ⟨?_, h4⟩
    rw [h3, take_full (by rw [begL_len]; exact Nat.le_refl _), h1, Int.pow_succ, Int.mul_comm]
/-- which states beginnings lead to -/
theorem begL_in (hok : OkCh D) (hS : D.states = (S : Int)) (R : Nat → Int → Prop) (h0 : R 0 D.start) (hR : ∀ (k : Nat) (x d : Int), k < D.places.length → 0 ≤ x → x < S → R k x → 0 ≤ d → d < D.base → R (k + 1) (nextS D k x d)) :
    ∀ k, k ≤ D.places.length → ∀ s, s < S → gi (begL D S k) s ≠ 0 → R k s
  | 0, _, s, hs, hne => by
    rw [begL, gi_set2] at hne
    have e := hok.st0
    split at hne
    · rename_i h
      have : ((s : Nat) : Int) = D.start := by omega
      rw [this]; exact h0
    · simp [gi, List.getD_eq_getElem?_getD, List.getElem?_replicate] at hne
      split at hne <;> simp at hne
  | k + 1, hk, s, hs, hne => by
    have ih := begL_in hok hS R h0 hR k (by omega)
    have hb := hok.b2
    have hD : ∀ (x : Nat) (l : List Int) (d : Nat), x < S → (d : Int) ≤ D.base → (∀ t, t < S → gi l t ≠ 0 → R (k + 1) t) → ∀ t, t < S → gi (begD D k (gi (begL D S k) x) x d l) t ≠ 0 → R (k + 1) t := by
      intro x l d hx
      induction d with
      | zero => intro _ hl; exact hl
      | succ d ihd =>
        intro hd hl t ht hne2
        rw [begD, gi_set2] at hne2
        have hy := hok.next (p := (k : Int)) (x := (x : Int)) (d := (d : Int)) (by omega) (by omega) (by omega) (by omega) (by omega) (by omega)
        split at hne2
        · rename_i h
          by_cases hv : gi (begL D S k) x = 0
          · have hne3 : gi (begD D k (gi (begL D S k) x) x d l) (nextS D k x d).toNat ≠ 0 := by omega
            exact ihd (by omega) hl t ht (by rw [← h.1]; exact hne3)
          · have := hR k x d (by omega) (by omega) (by omega) (ih x hx hv) (by omega) (by omega)
            have e : nextS D k x d = (t : Int) := by omega
            rwa [e] at this
        · exact ihd (by omega) hl t ht hne2
    have hX : ∀ x, x ≤ S → ∀ t, t < S → gi (begR D k (begL D S k) S x) t ≠ 0 → R (k + 1) t := by
      intro x
      induction x with
      | zero =>
        intro _ t _ h
        simp [begR, gi, List.getD_eq_getElem?_getD, List.getElem?_replicate] at h
        split at h <;> simp at h
      | succ x ihx =>
        intro hx t ht h
        exact hD x _ D.base.toNat (by omega) (by omega) (ihx (by omega)) t ht h
    exact hX S (Nat.le_refl _) s hs hne
theorem beg_bd (hok : OkCh D) (hS : D.states = (S : Int)) {k x d : Nat} (hk : k < D.places.length) (hx : x < S) (hd : (d : Int) ≤ D.base) (j : Nat) :
    0 ≤ gi (begD D k (gi (begL D S k) x) x d (begR D k (begL D S k) S x)) j ∧ gi (begD D k (gi (begL D S k) x) x d (begR D k (begL D S k) S x)) j ≤ 1000000000000000 ∧ 0 ≤ gi (begL D S k) x ∧ gi (begL D S k) x ≤ 1000000000000000 := by
  obtain ⟨h1, h2⟩ := begL_sum hok hS k (by omega)
  have hl := begL_len D S k
  obtain ⟨h3, h4⟩ := begR_sum hok hS hk hl h2 x (by omega)
  obtain ⟨h5, h6⟩ := begD_sum hok hS hk hx (h2 x) (begR_len D k (begL D S k) S x) h4 d hd
  have hb := hok.b2
  have t1 := h2.take_sum (x + 1) (by omega)
  rw [take_gi (by omega), List.sum_append] at t1
  simp only [List.sum_cons, List.sum_nil] at t1
  have e1 : D.base * ((begL D S k).take x).sum + (d : Int) * gi (begL D S k) x ≤ D.base * (begL D S k).sum := by
    have g1 : (d : Int) * gi (begL D S k) x ≤ D.base * gi (begL D S k) x := Int.mul_le_mul_of_nonneg_right hd (h2 x)
    have g2 : D.base * (((begL D S k).take x).sum + gi (begL D S k) x) ≤ D.base * (begL D S k).sum := Int.mul_le_mul_of_nonneg_left (by omega) (by omega)
    rw [Int.mul_add] at g2
    omega
  have e2 : D.base * (begL D S k).sum = D.base ^ (k + 1) := by rw [h1, Int.pow_succ, Int.mul_comm]
  have e3 := pow_le_n hok (r := k + 1) (by omega)
  have e4 := pow_le_n hok (r := k) (by omega)
  have e5 := h6.le_sum j
  have e6 := h2.le_sum x
  exact ⟨h6 j, by omega, h2 x, by omega⟩
end

/-! ### the walk -/
/-- an element of an own row: its place, its value, and that it may be written, in this world and behind it -/
structure OneJ (P : Program) (T : TypeId) (w : World) (g n c : Nat) (l : List Int) (x : Int) (k : Nat) : Prop where
  run : ∀ (K : IntKind) (w' : World), (Instr.indexAt T (.slice (some ⟨g, 0, none⟩) n c) (.int K x)).run P w' = .ok (.pointer (some ⟨g, k, none⟩)) w'
  cell : ∀ w', Ext w w' → w'.cell? ⟨g, k, none⟩ = some (.int .i64 (Go.Proofs.Ytccoopnoakhedaa.gi l k))
  fr : ∀ w', Ext w w' → w'.frozen? ⟨g, k, none⟩ = false
theorem own_oneJ {P : Program} {w : World} {B : Nat} {E : TypeId} {g n c : Nat} {l : List Int} (h : Own w B E (some ⟨g, 0, none⟩) n c (I l)) (T : TypeId) (ht : P.underlying T = some (.slice E)) (he : P.cellsOf E = 1)
    (k : Nat) (hk : k < n) {x : Int} (hx : x = (k : Int)) : OneJ P T w g n c l x k := by
  subst hx
  obtain ⟨h1, h2, h3⟩ := h.at (P := P) T ht he k hk .i64
  have hl := h.len
  rw [I_len] at hl
  refine ⟨fun K w' => (h.at (P := P) T ht he k hk K).1 w', fun w' hx => hx.cell ?_, fun w' hx => ?_⟩
  · rw [h2, I_getD _ _ (by rw [hl]; exact hk)]; rfl
  · exact (Below.frozen hx (p := ⟨g, k, none⟩) h.lt.2).trans h3
set_option maxHeartbeats 8000000 in
theorem impl_begins (D : Ch) (q : Nat) (a : Option Addr) (n c : Nat) (a' : Option Addr) (n' c' : Nat) (p : Nat) (w : World) (hv : ChAt w q D a n c a' n' c') (hok : OkCh D) (hp : p ≤ n') :
    Calls Try.prog 42 #[.pointer (some ⟨q, 0, none⟩), .int .i64 p] w (RetOwn 2 (I (begL D D.states.toNat p)) w) := by
  have HP := Lib.hid hv.ps.len
  have HV := Lib.hid hv
  have HOK := Lib.hid hok
  obtain ⟨k0, k1, k2, k3, k4, k5, _, _⟩ := hv
  have p20 := hok.p20
  rw [HP.out] at p20
  have b2 := hok.b2
  have b36 := hok.b36
  have hS36 := hok.s36
  obtain ⟨S, hS⟩ := Int.eq_ofNat_of_zero_le (show 0 ≤ D.states by have := hok.s1; omega)
  obtain ⟨st, hst⟩ := Int.eq_ofNat_of_zero_le hok.st0
  obtain ⟨bs, hbs⟩ := Int.eq_ofNat_of_zero_le (show 0 ≤ D.base by omega)
  have hsS : st < S := by have := hok.st1; omega
  have HSt := Lib.hid (show D.states.toNat = S by omega)
  have HBs := Lib.hid (show D.base.toNat = bs by omega)
  have HSn := Lib.hid (show D.start.toNat = st by omega)
  simp only [hS] at k1
  simp only [hst] at k2
  simp only [hbs] at k0
  have hS36' : S ≤ 36 := by omega
  have hbs' : bs ≤ 36 := by omega
  have HNx := Lib.hid (fun (i x d : Nat) (hi : i < n') (hx : x < S) (hd : d < bs) => hok.next (p := i) (x := x) (d := d) (by omega) (by rw [HP.out]; omega) (by omega) (by omega) (by omega) (by omega))
  rw [HSt.out]
  have HhS := Lib.hid hS; clear hS; have Hhst := Lib.hid hst; clear hst; have Hhbs := Lib.hid hbs; clear hbs; have HhS36 := Lib.hid hS36; clear hS36
  clear hok
  go_enter Try.func42, Try.ntmps42
  go_wp2_with (at_make; refine law_make _ rfl _ _ 25 rfl 2 (.int .i64 0) 8 und_int64s info_int64 rfl _ _ S rfl rfl (by omega) (by unfold maxLen; omega) ?_; intro w1 hown hx hsz; obtain ⟨hia0, hce0, hfr0⟩ := own_oneJ (l := List.replicate S 0) (by rw [I_replicate]; exact hown) (P := Try.prog) 25 und_int64s cell_int64 st hsS (x := (st : Int)) rfl; have hx1 : Ext w1 w1 := Ext.refl _)
  have HO := Lib.hid (show Own (w1.setCell ⟨w.heap.size, st, none⟩ (.int .i64 1)) w.heap.size 2 (some ⟨w.heap.size, 0, none⟩) S S (I (begL D S 0)) from by rw [begL, HSn.out, ← I_set, I_replicate]; exact hown.set st _)
  have hxs : Ext w (w1.setCell ⟨w.heap.size, st, none⟩ (.int .i64 1)) := Ext.setCell hx (Nat.le_refl _) _
  clear hown hsz hia0 hce0 hfr0
  go_loopw [5, 23] (fun v5 v23 wr => ∃ (k b : Nat), k ≤ p ∧ v23 = .int .i64 k ∧ v5 = .slice (some ⟨b, 0, none⟩) S S ∧ Hid (Own wr w.heap.size 2 (some ⟨b, 0, none⟩) S S (I (begL D S k))) ∧ Ext w wr) (fun _ v23 _ => p - (intOf v23).toNat)
  case atStart => exact ⟨0, _, Nat.zero_le _, rfl, rfl, HO.out, hxs⟩
  case round =>
    clear HO hxs hx hx1
    obtain ⟨k, b, hk, rfl, rfl, HO, hxr⟩ := hrel
    by_cases hlt : k < p
    · obtain ⟨wo, hwo⟩ : ∃ wo, wo = wr := ⟨_, rfl⟩
      rw [← hwo] at HO hxr ⊢
      clear hwo
      have hkn : k < n' := by omega
      go_wp2_with (at_make; refine law_make _ rfl _ _ 25 rfl 2 (.int .i64 0) 8 und_int64s info_int64 rfl _ _ S rfl rfl (by omega) (by unfold maxLen; omega) ?_; intro w2 hown2 hx2 hsz2; have hxw2 : Ext w w2 := hxr.trans hx2)
      obtain ⟨g, hg⟩ : ∃ g, g = wo.heap.size := ⟨_, rfl⟩
      rw [← hg] at hown2 ⊢
      have hgo : wo.heap.size ≤ g := by omega
      have HO2 := Lib.hid (show Own w2 wo.heap.size 2 (some ⟨g, 0, none⟩) S S (I (begR D k (begL D S k) S 0)) from by rw [begR, I_replicate]; exact hown2.mono hgo)
      have HX2 := Lib.hid hx2
      clear hown2 hsz2 hg hx2
      go_loopw [33] (fun v33 wr => ∃ (x : Nat), x ≤ S ∧ v33 = .int .i64 x ∧ Hid (Own wr wo.heap.size 2 (some ⟨g, 0, none⟩) S S (I (begR D k (begL D S k) S x))) ∧ Ext wo wr) (fun v33 _ => S - (intOf v33).toNat)
      case atStart => exact ⟨0, Nat.zero_le _, rfl, HO2.out, HX2.out⟩
      case round =>
        clear HO2 HX2
        obtain ⟨x, hx, rfl, HO3, hx3⟩ := hrel
        have hxw3 : Ext w wr := hxr.trans hx3
        by_cases hlx : x < S
        · obtain ⟨e1, e2, _⟩ := own_oneJ HO.out (P := Try.prog) 25 und_int64s cell_int64 x hlx (x := (x : Int)) rfl
          go_wp2
          go_loopw [42] (fun v42 wr => ∃ (d : Nat), d ≤ bs ∧ v42 = .int .i64 d ∧ Hid (Own wr wo.heap.size 2 (some ⟨g, 0, none⟩) S S (I (begD D k (gi (begL D S k) x) x d (begR D k (begL D S k) S x)))) ∧ Ext wo wr) (fun v42 _ => bs - (intOf v42).toNat)
          case atStart => exact ⟨0, Nat.zero_le _, rfl, HO3.out, hx3⟩
          case round =>
            obtain ⟨d, hd, rfl, HO4, hx4⟩ := hrel
            have hxw4 : Ext w wr := hxr.trans hx4
            by_cases hld : d < bs
            · obtain ⟨y0, y1⟩ := HNx.out k x d hkn hlx hld
              obtain ⟨y, hy⟩ := Int.eq_ofNat_of_zero_le y0
              have hyS : y < S := by have := HhS.out; omega
              have HCN := Lib.hid (fun W (h : Ext w W) => impl_next D q a n c a' n' c' (k : Int) (x : Int) (d : Int) W (HV.out.ext h) HOK.out (by omega) (by have := HP.out; omega) (by omega) (by have := HhS.out; omega) (by omega) (by have := Hhbs.out; omega))
              rw [hy] at HCN
              have HB := Lib.hid (beg_bd HOK.out HhS.out (k := k) (x := x) (d := d) (by rw [HP.out]; exact hkn) hlx (by have := Hhbs.out; omega) y)
              obtain ⟨u1, u2, u3, u4⟩ := HB.out
              have HN := Lib.hid (show begD D k (gi (begL D S k) x) x (d + 1) (begR D k (begL D S k) S x) = (begD D k (gi (begL D S k) x) x d (begR D k (begL D S k) S x)).set y (gi (begD D k (gi (begL D S k) x) x d (begR D k (begL D S k) S x)) y + gi (begL D S k) x) from by rw [begD, hy, Int.toNat_natCast])
              obtain ⟨f1, f2, f3⟩ := own_oneJ HO4.out (P := Try.prog) 25 und_int64s cell_int64 y hyS (x := (y : Int)) rfl
              have hgl := HO4.out.lt.2
              obtain ⟨x1, hx1e⟩ : ∃ x1, x1 = gi (begD D k (gi (begL D S k) x) x d (begR D k (begL D S k) S x)) y := ⟨_, rfl⟩
              rw [← hx1e] at f2 u1 u2 HN
              clear y0 y1 hy hx1e
              go_wp2_with (go_at_call 49; (with_reducible refine (HCN.out _ (by repeat (first | (with_reducible exact Ext.refl _) | (with_reducible assumption) | (with_reducible refine Ext.drewN ?_ _) | (with_reducible refine Ext.drew ?_) | (with_reducible refine Ext.alloc ?_ _) | ((with_reducible refine Ext.setCell ?_ ?_ _); rotate_left; focus (first | (simp; done) | (simp; omega) | omega)) | (with_reducible refine Ext.trans ?_ (by with_reducible assumption))))).mono ?_); rintro e w6 ⟨rfl, hy6⟩; have hxr6 : Ext wr w6 := hy6; have hxo6 : Ext wo w6 := hx4.trans hy6; clear hy6)
              refine ⟨⟨d + 1, by omega, by go_num, ?_, Ext.setCell hxo6 hgo _⟩, by simp [intOf]; omega⟩
              have h9 := (HO4.out.ext hxr6).set y (.int .i64 (x1 + gi (begL D S k) x))
              rw [I_set, ← HN.out] at h9
              exact h9
            · obtain rfl : d = bs := by omega
              have HE := Lib.hid (show Own wr wo.heap.size 2 (some ⟨g, 0, none⟩) S S (I (begR D k (begL D S k) S (x + 1))) from by rw [begR, HBs.out]; exact HO4.out)
              go_wp2
              exact ⟨⟨x + 1, by omega, by go_num, HE.out, hx4⟩, by simp [intOf]; omega⟩
        · obtain rfl : x = S := by omega
          have HE := Lib.hid (show Own wr w.heap.size 2 (some ⟨g, 0, none⟩) x x (I (begL D x (k + 1))) from by rw [begL]; exact HO3.out.mono hxr.le)
          go_wp2
          exact ⟨⟨k + 1, g, by omega, by go_num, rfl, HE.out, hxw3⟩, by simp [intOf]; omega⟩
    · obtain rfl : k = p := by omega
      go_wp2
      go_ret
      exact RetOwn.mk HO.out (begL_len D S k) hxr
end Go.Proofs.Ytccoopnoakhedaa
