/- Walks: tables that are made, and the chain of a group, in the program. -/
import Derived.Test.YtohenfbgjjifbaaGrI
import Derived.Test.YtohenfbgjjifbaaGridP
import Derived.Test.YtohenfbgjjifbaaEnds
import Derived.Test.YtohenfbgjjifbaaMark
import Derived.RegionTactic
namespace Go.Proofs.Ytohenfbgjjifbaa
set_option maxRecDepth 100000
open Go.RowKit

def RetBlank (n : Nat) (w : World) (e : Ending) (w' : World) : Prop :=
  ∃ a c G, e = .returned (.slice a n c) ∧ Grid w' w.heap.size 28 2 a n c n (fun _ _ => 0) G (fun _ => n) ∧ Ext w w'
set_option maxHeartbeats 2000000 in
theorem impl_blank (n : Nat) (w : World) (hn : n ≤ 1048576) : Calls Try.prog 47 #[.int .i64 n] w (RetBlank n w) := by
  go_enter Try.func47, Try.ntmps47
  go_wp2_with (at_make; refine law_make _ rfl _ _ 24 rfl 28 (.slice none 0 0) 24 und_rows info_row1 rfl _ _ n rfl rfl (by omega) (by unfold maxLen; omega) ?_; intro w1 hown hx hsz)
  obtain ⟨g, hg⟩ : ∃ g, g = w.heap.size := ⟨_, rfl⟩
  rw [← hg] at hown ⊢
  have hgw : w.heap.size ≤ g := by omega
  have Hhown := Lib.hid hown; clear hown; have Hhg := Lib.hid hg; clear hg
  clear hsz
  go_wp2
  go_loopw [9] (fun i wr => ∃ (k : Nat) (vs : List Value) (G : Nat → Nat), k ≤ n ∧ i = .int .i64 k ∧ GridTo wr w.heap.size 28 2 (some ⟨g, 0, none⟩) n n n k vs G ∧ Ext w wr) (fun i _ => n - (intOf i).toNat)
  case atStart => exact ⟨0, _, fun _ => 0, Nat.zero_le _, rfl, ⟨Hhown.out.mono (by rw [Hhg.out]; exact Nat.le_refl _), (fun j hj => by omega), (fun j hj => by omega), (fun j j' hj => by omega)⟩, hx⟩
  case round =>
    obtain ⟨k, vs, G, hk, rfl, hgt, hxr⟩ := hrel
    have HGt := Lib.hid hgt
    have hxq0 : Ext w wr := hxr
    clear hgt
    by_cases hlk : k < n
    · go_wp2_with (at_make; refine law_make _ rfl _ _ 28 rfl 2 (.int .i64 0) 8 und_int64s info_int64 rfl _ _ n rfl rfl (by omega) (by unfold maxLen; omega) ?_; intro w5 hown5 hx5 hsz5; obtain ⟨hia5, hce5, hfr5⟩ := (HGt.out.outer.ext hx5).at (P := Try.prog) 24 und_rows cell_row1 k hlk .i64; obtain ⟨y5, hy5⟩ : ∃ y, y = vs.getD k undef := ⟨_, rfl⟩; rw [← hy5] at hce5; have HO5 := Lib.hid hown5; clear hown5 hy5 hsz5)
      exact ⟨⟨k + 1, _, _, by omega, by go_num, GridTo.step HGt.out hx5 HO5.out hlk hxr.le (by decide), Ext.setCell (hxr.trans hx5) hgw _⟩, by simp [intOf]; omega⟩
    obtain rfl : k = n := by omega
    have HGr := Lib.hid HGt.out.done
    go_wp2
    go_ret
    exact ⟨_, _, _, rfl, HGr.out, hxr⟩
def rowsF (F : Nat → Nat → Int) (n : Nat) : List (List Int) := (List.range n).map (rowF F n)
theorem rowsF_len (F : Nat → Nat → Int) (n : Nat) : (rowsF F n).length = n := by simp [rowsF]
theorem rowsF_gl {F : Nat → Nat → Int} {n k : Nat} (h : k < n) : gl (rowsF F n) k = rowF F n k := by
  rw [gl_get (by rw [rowsF_len]; exact h)]; simp [rowsF]
theorem Grid.mat {w : World} {B : Nat} {E1 E0 : TypeId} {a : Option Addr} {n c : Nat} {F : Nat → Nat → Int} {G C : Nat → Nat} (h : Grid w B E1 E0 a n c n F G C) : OwnMat w B E1 E0 a n c (rowsF F n) :=
  ⟨rowsF_len F n, _, h.outer, fun k hk => ⟨some ⟨G k, 0, none⟩, n, C k, by simp [gv, hk, slR], by rw [rowsF_gl hk]; exact h.row k hk⟩⟩
def RetMade (F : Nat → Nat → Int) (n : Nat) (w : World) (e : Ending) (w' : World) : Prop :=
  ∃ a c, e = .returned (.slice a n c) ∧ OwnMat w' w.heap.size 28 2 a n c (rowsF F n) ∧ Ext w w'
set_option maxHeartbeats 4000000 in
theorem impl_made (F : Nat → Nat → Int) (n f : Nat) (caps : Array Value) (w : World) (hn : n ≤ 1048576)
    (he : ∀ args w', (callFunc f args).run Try.prog w' = .ok (.enter f args) w')
    (hf : ∀ x y, x < n → y < n → ∀ W, Ext w W → Calls Try.prog f (#[.int .i64 (x : Int), .int .i64 (y : Int)] ++ caps) W (Ret (.int .i64 (F x y)) W)) :
    Calls Try.prog 21 #[.int .i64 n, .func (.func f) #[] caps] w (RetMade F n w) := by
  have HB := Lib.hid (fun W => impl_blank n W hn)
  have Hhf := Lib.hid hf; clear hf
  go_enter Try.func21, Try.ntmps21
  go_wp2_with (go_at_call 47; (with_reducible refine (HB.out _).mono ?_); rintro e w1 ⟨a, c, G, rfl, hg1, hx1⟩; have HG1 := Lib.hid hg1; clear hg1)
  go_loopw [12] (fun i wr => ∃ (x : Nat) (F' : Nat → Nat → Int), x ≤ n ∧ i = .int .i64 x ∧ Hid (Grid wr w.heap.size 28 2 a n c n F' G (fun _ => n)) ∧ Hid (∀ i, i < x → ∀ j, j < n → F' i j = F i j) ∧ Ext w wr) (fun i _ => n - (intOf i).toNat)
  case atStart => exact ⟨0, _, Nat.zero_le _, rfl, HG1.out, (fun i hi => by omega), hx1⟩
  case round =>
    clear HG1 hx1
    obtain ⟨x, F1, hxn, rfl, HG, HF, hx⟩ := hrel
    by_cases hlx : x < n
    · obtain ⟨bz, oz, ⟨f1, f2, _, _, _⟩⟩ := HG.out.one (P := Try.prog) 24 28 und_rows cell_row1 und_int64s cell_int64 (i := x) (x := x) hlx hlx
      go_wp2_with fail
      clear f1 f2
      go_loopw [20] (fun i wr => ∃ (y : Nat) (F' : Nat → Nat → Int), y ≤ n ∧ i = .int .i64 y ∧ Hid (Grid wr w.heap.size 28 2 a n c n F' G (fun _ => n)) ∧ Hid ((∀ i, i < x → ∀ j, j < n → F' i j = F i j) ∧ ∀ j, j < y → F' x j = F x j) ∧ Ext w wr) (fun i _ => n - (intOf i).toNat)
      case atStart => exact ⟨0, F1, Nat.zero_le _, rfl, HG.out, ⟨HF.out, (fun j hj => by omega)⟩, hx⟩
      case round =>
        clear HG HF hx
        obtain ⟨y, F2, hyn, rfl, HG, HF, hx⟩ := hrel
        by_cases hly : y < n
        · obtain ⟨bz, oz, ⟨f1, f2, f3, f4, f5⟩⟩ := HG.out.one (P := Try.prog) 24 28 und_rows cell_row1 und_int64s cell_int64 (i := x) (x := y) hlx hly
          have hge := (HG.out.ge (k := x) hlx).1
          have hgl := (HG.out.ge (k := x) hlx).2
          have HC := Lib.hid (fun W (h : Ext w W) => Hhf.out x y hlx hly W h)
          obtain ⟨v, hv⟩ : ∃ v, v = F x y := ⟨_, rfl⟩
          rw [← hv] at HC
          have HVv := Lib.hid hv
          clear hv
          go_wp2_with fail
          (refine wp_region_upl 10 wr (by repeat (first | (with_reducible exact Ext.refl _) | (with_reducible refine Ext.drewN ?_ _) | (with_reducible refine Ext.drew ?_) | (with_reducible refine Ext.alloc ?_ _) | ((with_reducible refine Ext.setCell ?_ ?_ _); rotate_left; focus (first | (simp; done) | (simp; omega) | omega)) | assumption | (with_reducible refine Ext.trans ?_ (by assumption)))) rfl (by kernel_rfl) (by kernel_rfl) (seqB_of (by kernel_rfl)) (lastB_of (by kernel_rfl)) ?_; simp only [List.take_succ_cons, List.take_zero, List.drop_succ_cons, List.drop_zero]; (repeat (first | (refine mix_q rfl ?_; go_big_quiet_step (fail); refine wpQuiet_nil ?_; show wpMix _ _ _ _ _ _ _) | (refine mix_s rfl ?_; go_wp2_with (((with_reducible refine (HC.out _ (Ext.trans hx (by repeat (first | (with_reducible exact Ext.refl _) | (with_reducible assumption) | (with_reducible refine Ext.drewN ?_ _) | (with_reducible refine Ext.drew ?_) | (with_reducible refine Ext.alloc ?_ _) | ((with_reducible refine Ext.setCell ?_ ?_ _); rotate_left; focus (first | (simp; done) | (simp; omega) | omega)) | (with_reducible refine Ext.trans ?_ (by with_reducible assumption)))))).mono ?_); rintro e w6 ⟨rfl, hy6⟩; have hxr6 : Ext wr w6 := Ext.trans (by repeat (first | (with_reducible exact Ext.refl _) | (with_reducible assumption) | (with_reducible refine Ext.drewN ?_ _) | (with_reducible refine Ext.drew ?_) | (with_reducible refine Ext.alloc ?_ _) | ((with_reducible refine Ext.setCell ?_ ?_ _); rotate_left; focus (first | (simp; done) | (simp; omega) | omega)) | (with_reducible refine Ext.trans ?_ (by with_reducible assumption)))) hy6; clear hy6)); first | refine ⟨up_of (by repeat (first | (with_reducible exact Ext.refl _) | (with_reducible refine Ext.drewN ?_ _) | (with_reducible refine Ext.drew ?_) | (with_reducible refine Ext.alloc ?_ _) | ((with_reducible refine Ext.setCell ?_ ?_ _); rotate_left; focus (first | (simp; done) | (simp; omega) | omega)) | assumption | (with_reducible refine Ext.trans ?_ (by assumption)))), ?_⟩ | refine ⟨rfl, rfl, up_of (by repeat (first | (with_reducible exact Ext.refl _) | (with_reducible refine Ext.drewN ?_ _) | (with_reducible refine Ext.drew ?_) | (with_reducible refine Ext.alloc ?_ _) | ((with_reducible refine Ext.setCell ?_ ?_ _); rotate_left; focus (first | (simp; done) | (simp; omega) | omega)) | assumption | (with_reducible refine Ext.trans ?_ (by assumption)))), ?_⟩))); refine mix_nil ?_)
          have hgl6 : G x < w6.heap.size := Nat.lt_of_lt_of_le hgl hxr6.le
          have HG6 := Lib.hid (HG.out.ext hxr6)
          have c6 := f4 w6 hxr6
          have fr6 := f5 w6 hxr6
          go_wp2_with fail
          refine ⟨⟨y + 1, upd F2 x y v, by omega, by go_num, (HG6.out.set hlx hly v (by decide)).ext (Ext.refl _), ⟨?_, ?_⟩, Ext.setCell (hx.trans hxr6) hge _⟩, by simp [intOf]; omega⟩
          · intro i hi j hj
            rw [upd_row (by omega)]; exact HF.out.1 i hi j hj
          · intro j hj
            by_cases hjy : j = y
            · subst hjy; rw [upd_same]; exact HVv.out
            · rw [upd_col hjy]; exact HF.out.2 j (by omega)
        · obtain rfl : y = n := by omega
          go_wp2_with fail
          refine ⟨⟨x + 1, F2, by omega, by go_num, HG.out, ?_, hx⟩, by simp [intOf]; omega⟩
          intro i hi j hj
          rcases Nat.lt_or_ge i x with h | h
          · exact HF.out.1 i h j hj
          · obtain rfl : i = x := by omega
            exact HF.out.2 j hj
    · obtain rfl : x = n := by omega
      have HGf := Lib.hid ((HG.out.congr (F' := F) HF.out).mat)
      go_wp2_with fail
      go_ret
      exact ⟨_, _, rfl, HGf.out, hx⟩
end Go.Proofs.Ytohenfbgjjifbaa

/- Walks: the chain of a group, in the program. -/
namespace Go.Proofs.Ytohenfbgjjifbaa
set_option maxRecDepth 100000
open Go.RowKit

theorem OrdL.ordB {n : Nat} {g : List Int} (h : OrdL n g) : ordB g = true := by
  refine ordB_all (fun x hx => ?_) ?_
  · obtain ⟨i, hi, rfl⟩ := List.mem_iff_getElem.1 hx
    have h1 := h.len
    have := h.bd i (by omega)
    rw [gi_get hi] at this
    omega
  · refine List.pairwise_iff_getElem.2 fun i j hi hj hij he => ?_
    have h1 := h.len
    have := h.inj i (by omega) j (by omega) (by rw [gi_get hi, gi_get hj, he])
    omega
set_option maxHeartbeats 2000000 in
theorem group1 {T : List (List Int)} {n : Nat} {m : List Int} {x d qg qm : Nat} {a : Option Addr} {c : Nat} {a' : Option Addr} {c' : Nat} {w : World} (hv : Mat w a n c T) (hs : SqT T n) (hm : Ints w a' n c' m) (ho : OrdL n m) (hx : x < n) (hd : d < n)
    (hg : ∀ w', Ext w w' → w'.cell? ⟨qg, 0, none⟩ = some (.slice a n c)) (hq : ∀ w', Ext w w' → w'.cell? ⟨qm, 0, none⟩ = some (.slice a' n c')) :
    Calls Try.prog 22 (#[.int .i64 (x : Int), .int .i64 (d : Int)] ++ #[.pointer (some ⟨qg, 0, none⟩), .pointer (some ⟨qm, 0, none⟩)]) w (Ret (.int .i64 (tp T (gq m d) x)) w) := by
  have q1 := ho.q hd
  rw [(hs.q q1.2 hx).1]
  obtain ⟨b1, o1, a1, c1, b2, o2, ⟨f1, f2⟩, ⟨f3, f4⟩⟩ := sq_cell hv hs q1.2 hx
  obtain ⟨b3, o3, f5, f6⟩ := hm.one (P := Try.prog) 28 2 und_int64s cell_int64 (d : Int) (by omega) (by omega)
  rw [Int.toNat_natCast, q1.1] at f6
  generalize tq T (gq m d) x = u at *
  generalize gq m d = v at *
  clear hv hs hm ho q1
  go_enter Try.func22, Try.ntmps22
  go_wp2
  (refine wp_region_up (by kernel_rfl) (by kernel_rfl) (by kernel_rfl) ?_; (repeat (first | (refine mix_q rfl ?_; go_big_quiet_step (fail); refine wpQuiet_nil ?_; show wpMix _ _ _ _ _ _ _) | (refine mix_s rfl ?_; go_wp2_with (fail); first | refine ⟨up_of (by repeat (first | (with_reducible exact Ext.refl _) | (with_reducible refine Ext.drewN ?_ _) | (with_reducible refine Ext.drew ?_) | (with_reducible refine Ext.alloc ?_ _) | ((with_reducible refine Ext.setCell ?_ ?_ _); rotate_left; focus (first | (simp; done) | (simp; omega) | omega)) | assumption | (with_reducible refine Ext.trans ?_ (by assumption)))), ?_⟩ | refine ⟨rfl, rfl, up_of (by repeat (first | (with_reducible exact Ext.refl _) | (with_reducible refine Ext.drewN ?_ _) | (with_reducible refine Ext.drew ?_) | (with_reducible refine Ext.alloc ?_ _) | ((with_reducible refine Ext.setCell ?_ ?_ _); rotate_left; focus (first | (simp; done) | (simp; omega) | omega)) | assumption | (with_reducible refine Ext.trans ?_ (by assumption)))), ?_⟩))); refine mix_nil ?_)
  go_wp2
  go_ret
  exact ⟨rfl, (by repeat (first | (with_reducible exact Ext.refl _) | (with_reducible assumption) | (with_reducible refine Ext.drewN ?_ _) | (with_reducible refine Ext.drew ?_) | (with_reducible refine Ext.alloc ?_ _) | ((with_reducible refine Ext.setCell ?_ ?_ _); rotate_left; focus (first | (simp; done) | (simp; omega) | omega)) | (with_reducible refine Ext.trans ?_ (by with_reducible assumption))))⟩
/-- a chain whose blocks are all of the call's own, and yes -/
def RetChG (D : Ch) (w : World) (e : Ending) (w' : World) : Prop :=
  ∃ a x c b y d, e = .returned (.tuple #[.agg #[.int .i64 D.base, .int .i64 D.states, .int .i64 D.start, .int .i64 D.fin, .slice a x c, .slice b y d], .bool true]) ∧ (∀ V, KeepB w.heap.size w'.heap.size w' V → ChIn V D a x c b y d) ∧ Ext w w'
set_option maxHeartbeats 16000000 in
theorem impl_GroupChain (T : List (List Int)) (n e : Nat) (fin : Int) (maps : List (List Int)) (a : Option Addr) (c : Nat) (ma : Option Addr) (p mc : Nat) (w : World) (hv : Mat w a n c T) (hm : Mat w ma p mc maps) (hok : GrOk T n e fin maps) :
    Calls Try.prog 8 #[.agg #[.slice a n c], .slice ma p mc, .int .i64 fin] w (RetChG (grpCh T n e fin maps) w) := by
  have HV := Lib.hid hv
  have HM := Lib.hid hm
  have HOK := Lib.hid hok
  have hp := hm.len
  have HP := Lib.hid hp
  have n10 := hok.g.n10
  have n2 := hok.n2
  have l1 := hok.l1
  have l4 := hok.l4
  have f0 := hok.f0
  have f1 := hok.f1
  rw [hp] at l1 l4
  have HI := Lib.hid (fun W (h : Ext w W) => (ident8 T n a c W (hv.ext h) hok.g.sq (by omega)).mono (R' := Ret (.int .i64 (e : Int)) W) (by
    rintro en w1 ⟨v, rfl, hvv, hx1⟩
    rcases hvv with ⟨rfl, hno⟩ | ⟨i, hi, rfl, hid⟩
    · exact absurd hok.g.isId (hno e hok.g.e0)
    · rw [hok.g.uniqI hi hid]
      exact ⟨rfl, hx1⟩))
  have HIn := Lib.hid (fun W => impl_in (p : Int) 1 20 W)
  rw [show inB (p : Int) 1 20 = true from inB_t.2 (by omega)] at HIn
  clear hv hm hok hp
  go_enter Try.func8, Try.ntmps8
  go_wp2_with fail
  obtain ⟨q0, hq0⟩ : ∃ q, q = w.heap.size := ⟨_, rfl⟩
  obtain ⟨q1, hq1⟩ : ∃ q, q = q0 + 1 := ⟨_, rfl⟩
  obtain ⟨wb, hwb⟩ : ∃ W, W = (w.alloc (.cells #[.slice a n c] 26)).alloc (.cells #[.int .i64 0, .int .i64 0, .int .i64 0, .int .i64 0, .slice none 0 0, .slice none 0 0] 34) := ⟨_, rfl⟩
  have hxb : Ext w wb := by rw [hwb]; exact (by repeat (first | (with_reducible exact Ext.refl _) | (with_reducible refine Ext.drewN ?_ _) | (with_reducible refine Ext.drew ?_) | (with_reducible refine Ext.alloc ?_ _) | ((with_reducible refine Ext.setCell ?_ ?_ _); rotate_left; focus (first | (simp; done) | (simp; omega) | omega)) | assumption | (with_reducible refine Ext.trans ?_ (by assumption))))
  have HQ0 := Lib.hid (show SAt wb q0 26 #[.slice a n c] from by rw [hwb, hq0]; exact (SAt.new' w #[.slice a n c] 26 rfl).alloc _)
  have HQ1 := Lib.hid (show SAt wb q1 34 #[.int .i64 0, .int .i64 0, .int .i64 0, .int .i64 0, .slice none 0 0, .slice none 0 0] from by rw [hwb, hq1, hq0]; exact SAt.new' _ _ _ (by simp))
  have hwq1 : w.heap.size ≤ q1 := by omega
  have hq01 : q0 < q1 := by omega
  rw [← hwb, ← hq0, ← hq1]
  clear hwb hq0 hq1
  have g0 : ∀ w', Ext wb w' → w'.cell? ⟨q0, 0, none⟩ = some (.slice a n c) := fun w' h => h.cell (HQ0.out.cell 0 (by simp))
  have g00 := g0 wb (Ext.refl _)
  have HHas := Lib.hid (impl_has T n e q0 fin a c wb (HV.out.ext hxb) HOK.out.g g0 f0 f1)
  go_wp2_with (first | (go_at_call 17; (with_reducible refine HHas.out.mono ?_); rintro e1 w1 ⟨rfl, hx1⟩; have g01 := g0 w1 hx1) | (go_at_call 18; (with_reducible refine (HIn.out _).mono ?_); rintro e1 w2 ⟨rfl, rfl⟩) | (go_at_call 19; (with_reducible refine (HI.out _ (Ext.trans hxb hx1)).mono ?_); rintro e1 w3 ⟨rfl, hy3⟩; have hx3 : Ext wb w3 := Ext.trans hx1 hy3; clear hy3))
  obtain ⟨q, hq⟩ : ∃ q, q = w3.heap.size := ⟨_, rfl⟩
  obtain ⟨w4, hw4⟩ : ∃ W, W = w3.alloc (.cells #[.int .i64 n, .int .i64 n, .int .i64 e, .int .i64 fin, .slice none 0 0, .slice none 0 0] 34) := ⟨_, rfl⟩
  have hx34 : Ext w3 w4 := by rw [hw4]; exact (by repeat (first | (with_reducible exact Ext.refl _) | (with_reducible refine Ext.drewN ?_ _) | (with_reducible refine Ext.drew ?_) | (with_reducible refine Ext.alloc ?_ _) | ((with_reducible refine Ext.setCell ?_ ?_ _); rotate_left; focus (first | (simp; done) | (simp; omega) | omega)) | assumption | (with_reducible refine Ext.trans ?_ (by assumption))))
  have hx4 : Ext wb w4 := hx3.trans hx34
  have HZ4 := Lib.hid (HQ1.out.ext hx4)
  have hqq : q1 < q := by have h1 := HQ1.out.lt; have h2 := hx3.le; omega
  have HD4 := Lib.hid (show AI w q n n e fin (.slice none 0 0) (.slice none 0 0) none 0 0 [] [] none 0 0 [] none 0 0 [] w4 from
    ⟨by rw [hw4, hq]; exact SAt.new' _ _ _ rfl, Own.nil _ _ _, Own.nil _ _ _, Own.nil _ _ _, fun j hj => by omega, hxb.trans hx4, by omega⟩)
  rw [← hw4, ← hq]
  clear hw4 hq hx34 g01 g00 HHas
  have hx4w := hx4
  clear hx4 hx3 hx1
  go_loopw [40] (fun v40 wr => ∃ (k : Nat) (ad : Option Addr) (cc : Nat) (vs : List Value) (pd : Option Addr) (pc : Nat), k ≤ p ∧ v40 = .int .i64 k ∧
      Hid (AI w q n n e fin (.slice ad k cc) (.slice pd k pc) ad k cc vs ((maps.map (tabG T n)).take k) pd k pc ((idL p).take k) none 0 0 [] wr) ∧ Hid (SAt wr q1 34 #[.int .i64 0, .int .i64 0, .int .i64 0, .int .i64 0, .slice none 0 0, .slice none 0 0]) ∧ Hid (SAt wr q0 26 #[.slice a n c])) (fun v40 _ => p - (intOf v40).toNat)
  case atStart => exact ⟨0, none, 0, [], none, 0, Nat.zero_le _, rfl, HD4.out, HZ4.out, HQ0.out.ext hx4w⟩
  case round =>
    clear HD4 HZ4
    obtain ⟨k, ad, cc, vs, pd, pc, hk, rfl, HD, HZ, HG⟩ := hrel
    have hxr : Ext w wr := HD.out.h
    by_cases hlt : k < p
    · obtain ⟨b0, o0, a', n', c', ⟨f2, f3⟩, hrow⟩ := (HM.out.ext hxr).one (P := Try.prog) 24 28 und_rows cell_row1 (k : Int) (by omega) (by omega)
      rw [Int.toNat_natCast] at hrow
      have f30 := f3 wr (Ext.refl _)
      have hor := HOK.out.o k (by rw [HP.out]; exact hlt)
      obtain rfl : n' = n := by have h1 := hrow.len; have h2 := hor.len; omega
      have HRow := Lib.hid hrow
      have HOr := Lib.hid hor
      have HIo := Lib.hid (fun W (h : Ext wr W) => impl_IsOrder a' n' c' (gl maps k) W (hrow.ext h) (by omega) (by omega))
      rw [hor.ordB] at HIo
      clear hrow hor
      go_wp2_with fail
      obtain ⟨qm, hqm⟩ : ∃ q, q = wr.heap.size := ⟨_, rfl⟩
      obtain ⟨wm, hwm⟩ : ∃ W, W = wr.alloc (.cells #[.slice a' n' c'] 28) := ⟨_, rfl⟩
      have hxm : Ext wr wm := by rw [hwm]; exact (by repeat (first | (with_reducible exact Ext.refl _) | (with_reducible refine Ext.drewN ?_ _) | (with_reducible refine Ext.drew ?_) | (with_reducible refine Ext.alloc ?_ _) | ((with_reducible refine Ext.setCell ?_ ?_ _); rotate_left; focus (first | (simp; done) | (simp; omega) | omega)) | assumption | (with_reducible refine Ext.trans ?_ (by assumption))))
      have HBox := Lib.hid (show SAt wm qm 28 #[.slice a' n' c'] from by rw [hwm, hqm]; exact SAt.new' _ _ _ rfl)
      rw [← hwm, ← hqm]
      clear hwm hqm
      have m0 : ∀ w', Ext wm w' → w'.cell? ⟨qm, 0, none⟩ = some (.slice a' n' c') := fun w' h => h.cell (HBox.out.cell 0 (by simp))
      have m00 := m0 wm (Ext.refl _)
      go_upto_region 10 with (go_at_call 20; (with_reducible refine (HIo.out _ hxm).mono ?_); rintro e1 w5 ⟨rfl, hx5⟩)
      have hxr5 : Ext wr w5 := hxm.trans hx5
      have hxw5 : Ext w w5 := hxr.trans hxr5
      have HD5 := Lib.hid (HD.out.ext hxr5)
      have HZ5 := Lib.hid (HZ.out.ext hxr5)
      have HG5 := Lib.hid (HG.out.ext hxr5)
      have gq0 : ∀ w', Ext w5 w' → w'.cell? ⟨q0, 0, none⟩ = some (.slice a n' c) := fun w' h => h.cell (HG5.out.cell 0 (by simp))
      have hq5 : q < w5.heap.size := HD5.out.s.lt
      have HMd := Lib.hid (impl_made (fun x d => tp T (gq (gl maps k) d) x) n' 22 #[.pointer (some ⟨q0, 0, none⟩), .pointer (some ⟨qm, 0, none⟩)] w5.drew (by omega) (fun _ _ => rfl) (fun x d hx hd W hW => by
        have hW5 : Ext w5 W := (Ext.drew (Ext.refl w5)).trans hW
        exact group1 (HV.out.ext (hxw5.trans hW5)) HOK.out.g.sq (HRow.out.ext (hxr5.trans hW5)) HOr.out hx hd (fun w' h => gq0 w' (hW5.trans h)) (fun w' h => m0 w' (hx5.trans (hW5.trans h)))))
      have hml : ((maps.map (tabG T n')).take k).length = k := by rw [List.length_take, List.length_map, HP.out]; omega
      have HBl := Lib.hid (show (∀ g, ad = some g → g.block < w5.heap.size) ∧ (∀ g, pd = some g → g.block < w5.heap.size) ∧ (∀ g, (none : Option Addr) = some g → g.block < w5.heap.size) from ⟨own_blk HD5.out.o, own_blk HD5.out.p, own_blk HD5.out.k⟩)
      obtain ⟨C0, hC0⟩ : ∃ C : World → Prop, C = fun w' => Ext w w' ∧ SAt w' q 34 #[.int .i64 n', .int .i64 n', .int .i64 e, .int .i64 fin, .slice ad k cc, .slice pd k pc] := ⟨_, rfl⟩
      have hin : C0 w5.drew := by rw [hC0]; exact ⟨hxw5.drew, HD5.out.s.drew⟩
      have hpk : ∀ z', Ext w (World.pk C0 w5.drew z') ∧ SAt (World.pk C0 w5.drew z') q 34 #[.int .i64 n', .int .i64 n', .int .i64 e, .int .i64 fin, .slice ad k cc, .slice pd k pc] := fun z' => by have := pk_in hin z'; rw [hC0] at this; rw [hC0]; exact this
      have k4 : ∀ z', (World.pk C0 w5.drew z').cell? ⟨q, 4, none⟩ = some (.slice ad k cc) := fun z' => (hpk z').2.cell 4 (by simp)
      have hle5 : w.heap.size ≤ w5.heap.size := hxw5.le
      clear f2 f3 f30 m00 gq0 m0 hx5 hxm hxr5
      have Hhpk := Lib.hid hpk; clear hpk; have Hhin := Lib.hid hin; clear hin; have HhC0 := Lib.hid hC0; clear hC0
      refine wp_region_pk C0 8 Hhin.out rfl (by kernel_rfl) (by kernel_rfl) (by kernel_rfl) (by kernel_rfl) ?_
      simp only [List.take_succ_cons, List.take_zero, List.drop_succ_cons, List.drop_zero]
      (repeat (first | (refine mix_q rfl ?_; go_big_quiet_step (fail); refine wpQuiet_nil ?_; show wpMix _ _ _ _ _ _ _) | (refine mix_s rfl ?_; go_wp2_with (first
        | (go_at_call 21; (with_reducible refine HMd.out.mono ?_); rintro e1 w6 ⟨ta, tc, rfl, hm6, hy6⟩; have HM6 := Lib.hid (show OwnMat w6 w5.heap.size 28 2 ta n' tc (tabG T n' (gl maps k)) from hm6); have HD6 := Lib.hid (HD5.out.ext (Ext.trans ((Ext.refl w5).drew) hy6)); have HZ6 := Lib.hid (HZ5.out.ext (Ext.trans ((Ext.refl w5).drew) hy6)); have HG6 := Lib.hid (HG5.out.ext (Ext.trans ((Ext.refl w5).drew) hy6)); have hle6 := HD6.out.h.le; clear hm6 hy6)
        | (at_builtin; refine law_append1_at w6 rfl _ _ 32 rfl 24 (.slice none 0 0) 24 und_tabs info_tab1 rfl w.heap.size ad k cc _ _ rfl rfl (by simp [Act.eval, go_sem]) HD6.out.o hle6 (by omega) (by omega) ?_; intro ad' cc' w7 ho7 hb7 hg7 hk7; have HD7 := Lib.hid (HD6.out.app hml HM6.out hq5 HBl.out.1 HBl.out.2.1 HBl.out.2.2 hb7 hg7 ho7 hk7); have HZ7 := Lib.hid (HZ6.out.grown hg7 (row_ne_s (HD6.out.o.ne_s HZ6.out (by decide)))); have HG7 := Lib.hid (HG6.out.grown hg7 (row_ne_s (HD6.out.o.ne_s HG6.out (by decide)))); clear hb7 hg7 ho7 hk7)); first | refine ⟨pk_of (by rw [HhC0.out]; exact ⟨HD7.out.h, HD7.out.s⟩), ?_⟩ | refine ⟨rfl, rfl, pk_of (by rw [HhC0.out]; exact ⟨HD7.out.h, HD7.out.s⟩), ?_⟩ | refine ⟨pk_of (by rw [HhC0.out]; exact ⟨HD6.out.h, HD6.out.s⟩), ?_⟩ | refine ⟨rfl, rfl, pk_of (by rw [HhC0.out]; exact ⟨HD6.out.h, HD6.out.s⟩), ?_⟩ | refine ⟨pk_of (by rw [HhC0.out]; exact ⟨HD6.out.h.alloc _, HD6.out.s.alloc _⟩), ?_⟩ | refine ⟨rfl, rfl, pk_of (by rw [HhC0.out]; exact ⟨HD6.out.h.alloc _, HD6.out.s.alloc _⟩), ?_⟩ | refine ⟨pk_of Hhin.out, ?_⟩ | refine ⟨rfl, rfl, pk_of Hhin.out, ?_⟩)))
      refine mix_nil ?_
      have c4 := HD7.out.s.cell 4 (by simp)
      have fr7 := HD7.out.s.frozen 4
      have hlt7 := HD7.out.s.lt
      try simp only [List.getElem_toArray, List.getElem_cons_succ, List.getElem_cons_zero] at c4
      have HD8 := Lib.hid (HD7.out.set 4 (.slice ad' (k + 1) cc') rfl)
      have HZ8 := Lib.hid (HZ7.out.other (p := ⟨q, 4, none⟩) (.slice ad' (k + 1) cc') (by simp only; omega))
      have HG8 := Lib.hid (HG7.out.other (p := ⟨q, 4, none⟩) (.slice ad' (k + 1) cc') (by simp only; omega))
      have hle8 := HD8.out.h.le
      have c58 := HD8.out.s.cell 5 (by simp)
      have fr8 := fun j => HD8.out.s.frozen j
      have hlt8 := HD8.out.s.lt
      try simp only [List.getElem_toArray, List.getElem_cons_succ, List.getElem_cons_zero] at c58
      have HSm := Lib.hid (take_gm (l := maps.map (tabG T n')) (k := k) (by rw [List.length_map, HP.out]; exact hlt))
      have HSg := Lib.hid (show gm (maps.map (tabG T n')) k = tabG T n' (gl maps k) from by rw [gm_get (by rw [List.length_map, HP.out]; exact hlt), List.getElem_map, gl_get (by rw [HP.out]; exact hlt)])
      have HSi := Lib.hid (idL_step hlt)
      go_wp2_with (at_builtin; refine law_append1_at _ rfl _ _ 28 rfl 2 (.int .i64 0) 8 und_int64s info_int64 rfl w.heap.size pd k pc _ _ rfl rfl (by simp [Act.eval, go_sem]) HD8.out.p hle8 (by omega) (by omega) ?_; intro pd' pc' w9 ho9 hb9 hg9 hk9; have HD9 := Lib.hid (HD8.out.put hb9 hg9 ho9 hk9); have HZ9 := Lib.hid (HZ8.out.grown hg9 (row_ne_s (HD8.out.p.ne_s HZ8.out (by decide)))); have HG9 := Lib.hid (HG8.out.grown hg9 (row_ne_s (HD8.out.p.ne_s HG8.out (by decide)))); have c59 := HD9.out.s.cell 5 (by simp); have fr9 := fun j => HD9.out.s.frozen j; have hlt9 := HD9.out.s.lt; clear ho9 hb9 hg9 hk9; (try simp only [List.getElem_toArray, List.getElem_cons_succ, List.getElem_cons_zero] at c59))
      refine ⟨⟨k + 1, ad', cc', vs ++ [.slice ta n' tc], pd', pc', by omega, by go_num, ?_, HZ9.out.other _ (by simp only; omega), HG9.out.other _ (by simp only; omega)⟩, by simp [intOf]; omega⟩
      rw [Hid, HSm.out, HSg.out, HSi.out]
      exact HD9.out.set 5 (.slice pd' (k + 1) pc') rfl
    · obtain rfl : k = p := by omega
      have HDe := Lib.hid (show grpCh T n e fin maps = ⟨n, n, e, fin, (maps.map (tabG T n)).take k, (idL k).take k⟩ from by
        unfold grpCh
        rw [HP.out, List.take_of_length_le (l := idL k) (by rw [idL_len]; exact Nat.le_refl _), List.take_of_length_le (l := maps.map (tabG T n)) (by rw [List.length_map, HP.out]; exact Nat.le_refl _)])
      have HSm := Lib.hid (grp_small HOK.out)
      have HVl := Lib.hid (grp_valid HOK.out)
      have hml : ((maps.map (tabG T n)).take k).length = k := by rw [List.length_take, List.length_map, HP.out]; omega
      rw [HDe.out] at HSm HVl
      have hci := HD.out.chIn hml (by omega) (by omega) HSm.out
      have HVC := Lib.hid (fun W (h : Ext wr W) => impl_ValidChain ⟨n, n, e, fin, (maps.map (tabG T n)).take k, (idL k).take k⟩ ad k cc pd k pc W (Cube.ext hci.ts h) (hci.ps.ext h) hci.hn hci.hn' hci.sm)
      rw [HVl.out] at HVC
      have HML := Lib.hid hml
      clear hci hml
      have e0 := HD.out.s.cell 0 (by simp)
      have e1 := HD.out.s.cell 1 (by simp)
      have e2 := HD.out.s.cell 2 (by simp)
      have e3 := HD.out.s.cell 3 (by simp)
      have e4 := HD.out.s.cell 4 (by simp)
      have e5 := HD.out.s.cell 5 (by simp)
      try simp only [List.getElem_toArray, List.getElem_cons_succ, List.getElem_cons_zero] at e0 e1 e2 e3 e4 e5
      have hxrr : Ext wr wr := Ext.refl _
      go_wp2_with (go_at_call 23; (with_reducible refine (HVC.out _ (by repeat (first | (with_reducible exact Ext.refl _) | (with_reducible assumption) | (with_reducible refine Ext.drewN ?_ _) | (with_reducible refine Ext.drew ?_) | (with_reducible refine Ext.alloc ?_ _) | ((with_reducible refine Ext.setCell ?_ ?_ _); rotate_left; focus (first | (simp; done) | (simp; omega) | omega)) | (with_reducible refine Ext.trans ?_ (by with_reducible assumption))))).mono ?_); rintro e1 w9 ⟨rfl, hy9⟩; have hx9 : Ext wr w9 := hy9; have HD9 := Lib.hid (HD.out.ext hx9); have HZ9 := Lib.hid (HZ.out.ext hx9); have g0 := HD9.out.s.cell 0 (by simp); have g1 := HD9.out.s.cell 1 (by simp); have g2 := HD9.out.s.cell 2 (by simp); have g3 := HD9.out.s.cell 3 (by simp); have g4 := HD9.out.s.cell 4 (by simp); have g5 := HD9.out.s.cell 5 (by simp); have z0 := HZ9.out.cell 0 (by simp); have z1 := HZ9.out.cell 1 (by simp); have z2 := HZ9.out.cell 2 (by simp); have z3 := HZ9.out.cell 3 (by simp); have z4 := HZ9.out.cell 4 (by simp); have z5 := HZ9.out.cell 5 (by simp); have zf := (fun j => HZ9.out.frozen j); have zl := HZ9.out.lt; (try simp only [List.getElem_toArray, List.getElem_cons_succ, List.getElem_cons_zero] at g0 g1 g2 g3 g4 g5 z0 z1 z2 z3 z4 z5))
      refine bodyPost_ret (v := .tuple #[.agg #[.int .i64 n, .int .i64 n, .int .i64 e, .int .i64 fin, .slice ad k cc, .slice pd k pc], .bool true]) ?_ rfl ?_
      · simp [results, Try.results8, go_sem, z0, z1, z2, z3, z4, z5]
      · have d := HD9.out
        have hz := HZ9.out
        have d5 := (((((d.setZ hz hqq hwq1 0 (.int .i64 n)).setZ (hz.set 0 (.int .i64 n)) hqq hwq1 1 (.int .i64 n)).setZ ((hz.set 0 (.int .i64 n)).set 1 (.int .i64 n)) hqq hwq1 2 (.int .i64 e)).setZ (((hz.set 0 (.int .i64 n)).set 1 (.int .i64 n)).set 2 (.int .i64 e)) hqq hwq1 3 (.int .i64 fin)).setZ ((((hz.set 0 (.int .i64 n)).set 1 (.int .i64 n)).set 2 (.int .i64 e)).set 3 (.int .i64 fin)) hqq hwq1 4 (.slice ad k cc)).setZ (((((hz.set 0 (.int .i64 n)).set 1 (.int .i64 n)).set 2 (.int .i64 e)).set 3 (.int .i64 fin)).set 4 (.slice ad k cc)) hqq hwq1 5 (.slice pd k pc)
        rw [HDe.out]
        exact ⟨ad, k, cc, pd, k, pc, rfl, fun V hV => d5.chInK HML.out (by omega) (by omega) HSm.out hV, d5.h⟩
end Go.Proofs.Ytohenfbgjjifbaa

/- Walks: the dihedral group of ten elements and its chain, in the program. -/
namespace Go.Proofs.Ytohenfbgjjifbaa
set_option maxRecDepth 100000
open Go.RowKit

/-! ### a list of slices turned round -/
def revV (l : List Value) (k : Nat) : List Value := (List.range l.length).map fun i => if i < k ∨ l.length ≤ i + k then gv l (l.length - 1 - i) else gv l i
theorem revV_len (l : List Value) (k : Nat) : (revV l k).length = l.length := by simp [revV]
theorem gv_get {l : List Value} {k : Nat} (h : k < l.length) : gv l k = l[k] := by simp [gv, h]
theorem revV_gv {l : List Value} {k i : Nat} (h : i < l.length) : gv (revV l k) i = if i < k ∨ l.length ≤ i + k then gv l (l.length - 1 - i) else gv l i := by
  rw [gv_get (by rw [revV_len]; exact h)]; simp [revV]
theorem revV_zero (l : List Value) : revV l 0 = l := by
  apply List.ext_getElem
  · exact revV_len l 0
  · intro i h1 h2
    rw [← gv_get h1, ← gv_get h2, revV_gv h2, if_neg (by omega)]
theorem revV_full {l : List Value} {k j : Nat} (h : k + j + 1 = l.length) (hk : ¬ k < j) (hkj : k ≤ j + 1) : revV l k = l.reverse := by
  apply List.ext_getElem
  · rw [revV_len, List.length_reverse]
  · intro i h1 h2
    rw [revV_len] at h1
    have h3 : (l.reverse)[i] = gv l (l.length - 1 - i) := by rw [gv_get (by omega), List.getElem_reverse]
    rw [← gv_get (by rw [revV_len]; exact h1), h3, revV_gv h1]
    split
    · rfl
    · rw [show l.length - 1 - i = i by omega]
theorem revV_step {l : List Value} {k j : Nat} (h : k + j + 1 = l.length) (hk : k < j) : ((revV l k).set k (gv l j)).set j (gv l k) = revV l (k + 1) := by
  apply List.ext_getElem
  · simp [revV_len]
  · intro i h1 h2
    rw [revV_len] at h2
    rw [← gv_get (l := revV l (k + 1)) (by rw [revV_len]; exact h2), revV_gv h2, List.getElem_set, List.getElem_set]
    have h3 : (revV l k)[i]'(by rw [revV_len]; exact h2) = gv (revV l k) i := (gv_get _).symm
    rw [h3, revV_gv h2]
    by_cases e1 : j = i
    · subst e1; rw [if_pos rfl, if_pos (by omega)]; congr 1; omega
    · rw [if_neg e1]
      by_cases e2 : k = i
      · subst e2; rw [if_pos rfl, if_pos (by omega)]; congr 1; omega
      · rw [if_neg e2]
        by_cases e3 : i < k ∨ l.length ≤ i + k
        · rw [if_pos e3, if_pos (by omega)]
        · rw [if_neg e3, if_neg (by omega)]
theorem Mk.drewG {B : Nat} {a : Option Addr} {w w' : World} (h : Mk B a w w') : Mk B a w w'.drew := ⟨h.below.drew, h.size, h.block⟩
def RevVPost (B : Nat) (E : TypeId) (a : Option Addr) (n c : Nat) (l : List Value) (w : World) (e : Ending) (w' : World) : Prop := e = .returned (.tuple #[]) ∧ Mk B a w w' ∧ Own w' B E a n c l.reverse
set_option maxHeartbeats 2000000 in
theorem reverse_rows (g n c : Nat) (l : List Value) (B : Nat) (w : World) (ho : Own w B 28 (some ⟨g, 0, none⟩) n c l) (hn : n ≤ 4194304) (h0 : 0 < n) (hrow : ∀ k, k < n → ∃ a' n' c', gv l k = .slice a' n' c') :
    Calls Try.prog 27 #[.slice (some ⟨g, 0, none⟩) n c] w (RevVPost B 28 (some ⟨g, 0, none⟩) n c l w) := by
  have HL := Lib.hid ho.len
  have HO := Lib.hid ho
  have hg := ho.lt
  have HRow := Lib.hid hrow
  clear ho hrow
  go_enter Try.func27, Try.ntmps27
  go_wp2
  go_loopw [2, 3] (fun i j wr => ∃ (k m : Nat), i = .int .i64 k ∧ j = .int .i64 m ∧ k + m + 1 = n ∧ k ≤ m + 1 ∧ Mk B (some ⟨g, 0, none⟩) w wr ∧ Own wr B 28 (some ⟨g, 0, none⟩) n c (revV l k)) (fun i _ _ => n - (intOf i).toNat)
  case atStart => exact ⟨0, n - 1, rfl, (by congr 1; omega), by omega, by omega, Mk.refl _ _ _, by rw [revV_zero]; exact HO.out⟩
  case round =>
    obtain ⟨k, m, rfl, rfl, hkm, hk1, hm, hor⟩ := hrel
    have HM := Lib.hid hm
    have HR := Lib.hid hor
    by_cases hlt : k < m
    · obtain ⟨i1, c1, f1⟩ := hor.at (P := Try.prog) 24 und_rows cell_row1 k (by omega) .i64
      obtain ⟨i2, c2, f2⟩ := hor.at (P := Try.prog) 24 und_rows cell_row1 m (by omega) .i64
      have v1 : (revV l k).getD k undef = gv l k := by rw [show (revV l k).getD k undef = gv (revV l k) k from rfl, revV_gv (by rw [HL.out]; omega), if_neg (by rw [HL.out]; omega)]
      have v2 : (revV l k).getD m undef = gv l m := by rw [show (revV l k).getD m undef = gv (revV l k) m from rfl, revV_gv (by rw [HL.out]; omega), if_neg (by rw [HL.out]; omega)]
      rw [v1] at c1
      rw [v2] at c2
      have HS := Lib.hid (revV_step (l := l) (k := k) (j := m) (by rw [HL.out]; omega) hlt)
      clear hm hor v1 v2
      have hkmn : k ≠ m := by omega
      have hmkn : m ≠ k := by omega
      obtain ⟨x1, y1, z1, hu1⟩ := HRow.out k (by omega)
      obtain ⟨x2, y2, z2, hu2⟩ := HRow.out m (by omega)
      rw [hu1] at c1 HS
      rw [hu2] at c2 HS
      clear hu1 hu2
      go_wp2_with fail
      go_region
      go_wp2
      refine ⟨⟨k + 1, m - 1, by go_num, (by congr 1; omega), by omega, by omega, ?_, ?_⟩, by simp [intOf]; omega⟩
      · exact (HM.out.trans ((Mk.set wr k _ hg.1).trans (Mk.set _ m _ hg.1))).drewG
      · have h9 := ((HR.out.set k (.slice x2 y2 z2)).set m (.slice x1 y1 z1)).drew
        rw [HS.out] at h9
        exact h9
    · go_wp2
      refine bodyPost_ret (v := .tuple #[]) (by simp [results, Try.results27, go_sem]) rfl ?_
      refine ⟨rfl, HM.out, ?_⟩
      rw [← revV_full (l := l) (k := k) (j := m) (by rw [HL.out]; exact hkm) hlt hk1]
      exact HR.out
/-! ### orders one behind the other -/
set_option maxHeartbeats 1000000 in
theorem impl_compose (a : Option Addr) (n c : Nat) (g : List Int) (a' : Option Addr) (n' c' : Nat) (f : List Int) (w : World) (hg : Ints w a n c g) (hf : Ints w a' n' c' f) (hn : n' ≤ 1048576) (hb : ∀ x ∈ f, 0 ≤ x ∧ x < n) :
    Calls Try.prog 26 #[.slice a n c, .slice a' n' c'] w (RetOwn 2 (I (compL g f)) w) := by
  have HL := Lib.hid hf.len
  have HLg := Lib.hid hg.len
  obtain ⟨b, off, hix, hcell⟩ := hf.ix (P := Try.prog) 28 2 und_int64s cell_int64
  have HG := Lib.hid hg
  have HB := Lib.hid hb
  clear hg hf hb
  go_enter Try.func26, Try.ntmps26
  go_wp2_with fail
  go_loopw [5, 11] (fun v5 v11 wr => ∃ (k : Nat) (ra : Option Addr) (rc : Nat), k ≤ n' ∧ v11 = .int .i64 k ∧ v5 = .slice ra k rc ∧ Hid (Own wr w.heap.size 2 ra k rc (I ((compL g f).take k))) ∧ Ext w wr) (fun _ v11 _ => n' - (intOf v11).toNat)
  case atStart => exact ⟨0, _, _, Nat.zero_le _, rfl, rfl, Own.lit0 _ _, (Ext.refl _).alloc _⟩
  case round =>
    obtain ⟨k, ra, rc, hk, rfl, rfl, HR, hx⟩ := hrel
    by_cases hlt : k < n'
    · have hbd := HB.out (gi f k) (gi_mem (by rw [HL.out]; exact hlt))
      obtain ⟨b1, o1, f1, f2⟩ := HG.out.one (P := Try.prog) 28 2 und_int64s cell_int64 (gi f k) hbd.1 hbd.2
      have HN := Lib.hid (show (compL g f).take (k + 1) = (compL g f).take k ++ [gi g (gi f k).toNat] from by
        rw [take_gi (by rw [compL_len, HL.out]; exact hlt), compL_gi (by rw [HL.out]; exact hlt)]; rfl)
      go_wp2_with (at_builtin; refine law_append1 _ rfl _ _ 28 rfl 2 (.int .i64 0) 8 und_int64s info_int64 rfl w.heap.size ra k rc _ _ rfl rfl rfl HR.out hx.le (by omega) (by omega) ?_; intro ra' rc' w6 ho6 hb6 _; have hxo6 : Ext w w6 := Ext.below hx hb6)
      exact ⟨⟨k + 1, ra', rc', by omega, by go_num, rfl, by rw [Hid, HN.out, I_append]; exact ho6, hxo6⟩, by simp [intOf]; omega⟩
    · obtain rfl : k = n' := by omega
      go_wp2_with fail
      go_ret
      have h := HR.out
      rw [take_full (by rw [compL_len, HL.out]; exact Nat.le_refl _)] at h
      exact RetOwn.mk h (by rw [compL_len, HL.out]) hx
/-! ### the dihedral group of ten elements -/
def dihF (x y : Nat) : Int := if x < 5 ∧ y < 5 then ((x : Int) + y) % 5 else if x < 5 then 5 + ((x : Int) + y - 5) % 5 else if y < 5 then 5 + ((x : Int) - 5 - y) % 5 else ((x : Int) - y) % 5
def dihT : List (List Int) := rowsF dihF 10
def dihO : List Int := [1, 5, 7, 6, 2, 8, 3, 0, 9, 4]
theorem all10 {p : Nat → Bool} (h : (List.range 10).all p = true) {x : Nat} (hx : x < 10) : p x = true := List.all_eq_true.1 h x (List.mem_range.2 hx)
theorem dih_row : (List.range 10).all (fun x => decide ((gl dihT x).length = 10)) = true := by decide +kernel
theorem dih_bd : (List.range 10).all (fun x => (List.range 10).all fun y => decide (0 ≤ tp dihT x y ∧ tp dihT x y < 10)) = true := by decide +kernel
theorem dih_il : (List.range 10).all (fun x => decide (tp dihT 0 x = x ∧ tp dihT x 0 = x)) = true := by decide +kernel
theorem dih_inv : (List.range 10).all (fun x => (List.range 10).any fun y => decide (tp dihT x y = 0 ∧ tp dihT y x = 0)) = true := by decide +kernel
theorem dih_ass : (List.range 10).all (fun x => (List.range 10).all fun y => (List.range 10).all fun z => decide (tp dihT (tq dihT x y) z = tp dihT x (tq dihT y z))) = true := by decide +kernel
theorem dih_grp : GrpT dihT 10 0 := by
  refine ⟨⟨rfl, fun _ hx => of_decide_eq_true (all10 dih_row hx), fun _ hx _ hy => of_decide_eq_true (all10 (all10 dih_bd hx) hy)⟩, by omega, by omega, by omega, fun _ hx => (of_decide_eq_true (all10 dih_il hx)).1, fun _ hx => (of_decide_eq_true (all10 dih_il hx)).2, fun _ hx => ?_, fun _ hx _ hy _ hz => of_decide_eq_true (all10 (all10 (all10 dih_ass hx) hy) hz)⟩
  obtain ⟨y, hy, h⟩ := List.any_eq_true.1 (all10 dih_inv hx)
  exact ⟨y, List.mem_range.1 hy, of_decide_eq_true h⟩
theorem dihO_bd : (List.range 10).all (fun x => decide (0 ≤ gi dihO x ∧ gi dihO x < 10)) = true := by decide +kernel
theorem dihO_inj : (List.range 10).all (fun x => (List.range 10).all fun y => decide (gi dihO x = gi dihO y → x = y)) = true := by decide +kernel
theorem dihO_anti : (List.range 10).all (fun x => (List.range 10).all fun y => decide (x ≠ y → tp dihT x (gq dihO y) ≠ tp dihT y (gq dihO x))) = true := by decide +kernel
theorem dih_anti : AntiT dihT 10 dihO :=
  ⟨⟨rfl, fun _ hx => of_decide_eq_true (all10 dihO_bd hx), fun _ hx _ hy => of_decide_eq_true (all10 (all10 dihO_inj hx) hy)⟩, fun _ hx _ hy => of_decide_eq_true (all10 (all10 dihO_anti hx) hy)⟩
theorem rest5 : ∀ k : Nat, k < 40 → (((k : Int) - 20).tmod 5 + 5) % 5 = ((k : Int) - 20) % 5 := by decide
set_option maxHeartbeats 400000 in
theorem impl_rest5 (a : Int) (w : World) (h0 : -20 ≤ a) (h1 : a < 20) : Calls Try.prog 57 #[.int .i64 a, .int .i64 5] w (Same (.int .i64 (a % 5)) w) := by
  have hr := rest5 (a + 20).toNat (by omega)
  rw [show (((a + 20).toNat : Nat) : Int) - 20 = a by omega] at hr
  have hm0 : 0 ≤ a % 5 ∧ a % 5 < 5 := by omega
  have HM := Lib.hid hr.symm
  have hb : -5 < a.tmod 5 ∧ a.tmod 5 < 5 := ⟨by have h := Int.tmod_lt_of_pos (-a) (show (0:Int) < 5 by decide); rw [Int.neg_tmod] at h; omega, Int.tmod_lt_of_pos a (by decide)⟩
  clear hr
  go_enter Try.func57, Try.ntmps57
  go_wp2
  go_ret
  exact ⟨ri HM.out.symm, rfl⟩
end Go.Proofs.Ytohenfbgjjifbaa

/- Walks: the chain of the dihedral group of ten elements, in the program. -/
namespace Go.Proofs.Ytohenfbgjjifbaa
set_option maxRecDepth 100000
open Go.RowKit

def RetDih (w : World) (e : Ending) (w' : World) : Prop := ∃ a c, e = .returned (.agg #[.slice a 10 c]) ∧ Mat w' a 10 c dihT ∧ Ext w w'
set_option maxHeartbeats 2000000 in
theorem dihed1 {x y q : Nat} {w : World} (hx : x < 10) (hy : y < 10) (hq : ∀ w', Ext w w' → w'.cell? ⟨q, 0, none⟩ = some (.int .i64 5)) :
    Calls Try.prog 56 (#[.int .i64 (x : Int), .int .i64 (y : Int)] ++ #[.pointer (some ⟨q, 0, none⟩)]) w (Ret (.int .i64 (dihF x y)) w) := by
  have q0 := hq w (Ext.refl _)
  have HF := Lib.hid (show dihF x y = if x < 5 ∧ y < 5 then ((x : Int) + y) % 5 else if x < 5 then 5 + ((x : Int) + y - 5) % 5 else if y < 5 then 5 + ((x : Int) - 5 - y) % 5 else ((x : Int) - y) % 5 from rfl)
  by_cases h1 : x < 5
  · by_cases h2 : y < 5
    · have HR := Lib.hid (fun W => impl_rest5 ((x : Int) + y) W (by omega) (by omega))
      have HE := Lib.hid (show dihF x y = ((x : Int) + y) % 5 from by rw [HF.out, if_pos ⟨h1, h2⟩])
      go_enter Try.func56, Try.ntmps56
      go_wp2_with (go_at_call 57; (with_reducible refine (HR.out _).mono ?_); rintro e w1 ⟨rfl, rfl⟩)
      go_ret
      exact ⟨ri HE.out.symm, Ext.refl _⟩
    · have HR := Lib.hid (fun W => impl_rest5 ((x : Int) + y - 5) W (by omega) (by omega))
      have HE := Lib.hid (show dihF x y = 5 + ((x : Int) + y - 5) % 5 from by rw [HF.out, if_neg (by omega), if_pos h1])
      have hb : 0 ≤ ((x : Int) + y - 5) % 5 ∧ ((x : Int) + y - 5) % 5 < 5 := by omega
      go_enter Try.func56, Try.ntmps56
      go_wp2_with fail
      (refine wp_region_up (by kernel_rfl) (by kernel_rfl) (by kernel_rfl) ?_; (repeat (first | (refine mix_q rfl ?_; go_big_quiet_step (fail); refine wpQuiet_nil ?_; show wpMix _ _ _ _ _ _ _) | (refine mix_s rfl ?_; go_wp2_with ((go_at_call 57; (with_reducible refine (HR.out _).mono ?_); rintro e w1 ⟨rfl, rfl⟩)); first | refine ⟨up_of (by repeat (first | (with_reducible exact Ext.refl _) | (with_reducible refine Ext.drewN ?_ _) | (with_reducible refine Ext.drew ?_) | (with_reducible refine Ext.alloc ?_ _) | ((with_reducible refine Ext.setCell ?_ ?_ _); rotate_left; focus (first | (simp; done) | (simp; omega) | omega)) | assumption | (with_reducible refine Ext.trans ?_ (by assumption)))), ?_⟩ | refine ⟨rfl, rfl, up_of (by repeat (first | (with_reducible exact Ext.refl _) | (with_reducible refine Ext.drewN ?_ _) | (with_reducible refine Ext.drew ?_) | (with_reducible refine Ext.alloc ?_ _) | ((with_reducible refine Ext.setCell ?_ ?_ _); rotate_left; focus (first | (simp; done) | (simp; omega) | omega)) | assumption | (with_reducible refine Ext.trans ?_ (by assumption)))), ?_⟩))); refine mix_nil ?_)
      go_wp2
      go_ret
      exact ⟨ri (by first | (rw [HE.out]; done) | (rw [HE.out]; omega)), (by repeat (first | (with_reducible exact Ext.refl _) | (with_reducible assumption) | (with_reducible refine Ext.drewN ?_ _) | (with_reducible refine Ext.drew ?_) | (with_reducible refine Ext.alloc ?_ _) | ((with_reducible refine Ext.setCell ?_ ?_ _); rotate_left; focus (first | (simp; done) | (simp; omega) | omega)) | (with_reducible refine Ext.trans ?_ (by with_reducible assumption))))⟩
  · by_cases h2 : y < 5
    · have HR := Lib.hid (fun W => impl_rest5 ((x : Int) - 5 - y) W (by omega) (by omega))
      have HE := Lib.hid (show dihF x y = 5 + ((x : Int) - 5 - y) % 5 from by rw [HF.out, if_neg (by omega), if_neg h1, if_pos h2])
      have hb : 0 ≤ ((x : Int) - 5 - y) % 5 ∧ ((x : Int) - 5 - y) % 5 < 5 := by omega
      go_enter Try.func56, Try.ntmps56
      go_wp2_with fail
      (refine wp_region_up (by kernel_rfl) (by kernel_rfl) (by kernel_rfl) ?_; (repeat (first | (refine mix_q rfl ?_; go_big_quiet_step (fail); refine wpQuiet_nil ?_; show wpMix _ _ _ _ _ _ _) | (refine mix_s rfl ?_; go_wp2_with ((go_at_call 57; (with_reducible refine (HR.out _).mono ?_); rintro e w1 ⟨rfl, rfl⟩)); first | refine ⟨up_of (by repeat (first | (with_reducible exact Ext.refl _) | (with_reducible refine Ext.drewN ?_ _) | (with_reducible refine Ext.drew ?_) | (with_reducible refine Ext.alloc ?_ _) | ((with_reducible refine Ext.setCell ?_ ?_ _); rotate_left; focus (first | (simp; done) | (simp; omega) | omega)) | assumption | (with_reducible refine Ext.trans ?_ (by assumption)))), ?_⟩ | refine ⟨rfl, rfl, up_of (by repeat (first | (with_reducible exact Ext.refl _) | (with_reducible refine Ext.drewN ?_ _) | (with_reducible refine Ext.drew ?_) | (with_reducible refine Ext.alloc ?_ _) | ((with_reducible refine Ext.setCell ?_ ?_ _); rotate_left; focus (first | (simp; done) | (simp; omega) | omega)) | assumption | (with_reducible refine Ext.trans ?_ (by assumption)))), ?_⟩))); refine mix_nil ?_)
      go_wp2
      go_ret
      exact ⟨ri (by first | (rw [HE.out]; done) | (rw [HE.out]; omega)), (by repeat (first | (with_reducible exact Ext.refl _) | (with_reducible assumption) | (with_reducible refine Ext.drewN ?_ _) | (with_reducible refine Ext.drew ?_) | (with_reducible refine Ext.alloc ?_ _) | ((with_reducible refine Ext.setCell ?_ ?_ _); rotate_left; focus (first | (simp; done) | (simp; omega) | omega)) | (with_reducible refine Ext.trans ?_ (by with_reducible assumption))))⟩
    · have HR := Lib.hid (fun W => impl_rest5 ((x : Int) - y) W (by omega) (by omega))
      have HE := Lib.hid (show dihF x y = ((x : Int) - y) % 5 from by rw [HF.out, if_neg (by omega), if_neg h1, if_neg h2])
      go_enter Try.func56, Try.ntmps56
      go_wp2_with (go_at_call 57; (with_reducible refine (HR.out _).mono ?_); rintro e w1 ⟨rfl, rfl⟩)
      go_ret
      exact ⟨ri HE.out.symm, Ext.refl _⟩
set_option maxHeartbeats 2000000 in
theorem impl_dihedral (w : World) : Calls Try.prog 28 #[.int .i64 5] w (RetDih w) := by
  go_enter Try.func28, Try.ntmps28
  go_wp2_with fail
  obtain ⟨q0, hq0⟩ : ∃ q, q = w.heap.size := ⟨_, rfl⟩
  obtain ⟨q1, hq1⟩ : ∃ q, q = q0 + 1 := ⟨_, rfl⟩
  obtain ⟨wb, hwb⟩ : ∃ W, W = (w.alloc (.cells #[.int .i64 5] 2)).alloc (.cells #[.slice none 0 0] 26) := ⟨_, rfl⟩
  have hxb : Ext w wb := by rw [hwb]; exact (by repeat (first | (with_reducible exact Ext.refl _) | (with_reducible refine Ext.drewN ?_ _) | (with_reducible refine Ext.drew ?_) | (with_reducible refine Ext.alloc ?_ _) | ((with_reducible refine Ext.setCell ?_ ?_ _); rotate_left; focus (first | (simp; done) | (simp; omega) | omega)) | assumption | (with_reducible refine Ext.trans ?_ (by assumption))))
  have HQ0 := Lib.hid (show SAt wb q0 2 #[.int .i64 5] from by rw [hwb, hq0]; exact (SAt.new' w #[.int .i64 5] 2 rfl).alloc _)
  have HQ1 := Lib.hid (show SAt wb q1 26 #[.slice none 0 0] from by rw [hwb, hq1, hq0]; exact SAt.new' _ _ _ (by simp))
  have hwq1 : w.heap.size ≤ q1 := by omega
  rw [← hwb, ← hq0, ← hq1]
  clear hwb hq0 hq1
  have g0 : ∀ w', Ext wb w' → w'.cell? ⟨q0, 0, none⟩ = some (.int .i64 5) := fun w' h => h.cell (HQ0.out.cell 0 (by simp))
  have g00 := g0 wb (Ext.refl _)
  have HMd := Lib.hid (impl_made dihF 10 56 #[.pointer (some ⟨q0, 0, none⟩)] wb (by omega) (fun _ _ => rfl) (fun x y hx hy W hW => dihed1 hx hy (fun w' h => g0 w' (hW.trans h))))
  rw [show ((10 : Nat) : Int) = 10 from rfl] at HMd
  go_wp2_with (go_at_call 21; (with_reducible refine HMd.out.mono ?_); rintro e w6 ⟨ta, tc, rfl, hm6, hy6⟩; have HM6 := Lib.hid hm6; have HQ6 := Lib.hid (HQ1.out.ext hy6); have z0 := HQ6.out.cell 0 (by simp); have zf := HQ6.out.frozen 0; have zl := HQ6.out.lt; (try simp only [List.getElem_toArray, List.getElem_cons_zero] at z0); clear hm6)
  refine bodyPost_ret (v := .agg #[.slice ta 10 tc]) ?_ rfl ?_
  · simp [results, Try.results28, go_sem, z0]
  · refine ⟨ta, tc, rfl, ?_, Ext.setCell (hxb.trans hy6) hwq1 _⟩
    exact (OwnMat.keepB HM6.out (fun r h1 _ => Below.heap_setCell w6 ⟨q1, 0, none⟩ _ r (by have := HQ1.out.lt; simp only; omega))).mat
set_option maxHeartbeats 8000000 in
theorem impl_DihedralChain (p : Nat) (w : World) (h1 : 1 ≤ p) (h4 : p ≤ 4) : Calls Try.prog 10 #[.int .i64 p] w (RetChG (grpCh dihT 10 0 0 (mapsL 10 dihO p)) w) := by
  have HIn := Lib.hid (fun W => impl_in (p : Int) 1 15 W)
  rw [show inB (p : Int) 1 15 = true from inB_t.2 (by omega)] at HIn
  have HSo := Lib.hid (fun W => impl_sameOrder 10 W (by omega))
  rw [show ((10 : Nat) : Int) = 10 from rfl] at HSo
  have HDi := Lib.hid (fun W => impl_dihedral W)
  have HOk := Lib.hid (maps_ok (e := 0) (fin := 0) dih_grp (by omega) (by omega) (by omega) dih_anti h1 h4)
  go_enter Try.func10, Try.ntmps10
  go_upto_region 4 with (go_at_call 18; (with_reducible refine (HIn.out _).mono ?_); rintro e1 w2 ⟨rfl, rfl⟩)
  obtain ⟨q0, hq0⟩ : ∃ q, q = w.heap.size := ⟨_, rfl⟩
  obtain ⟨wz, hwz⟩ : ∃ W, W = w.alloc (.cells #[.int .i64 0, .int .i64 0, .int .i64 0, .int .i64 0, .slice none 0 0, .slice none 0 0] 34) := ⟨_, rfl⟩
  have hxz : Ext w wz := by rw [hwz]; exact (by repeat (first | (with_reducible exact Ext.refl _) | (with_reducible refine Ext.drewN ?_ _) | (with_reducible refine Ext.drew ?_) | (with_reducible refine Ext.alloc ?_ _) | ((with_reducible refine Ext.setCell ?_ ?_ _); rotate_left; focus (first | (simp; done) | (simp; omega) | omega)) | assumption | (with_reducible refine Ext.trans ?_ (by assumption))))
  have HQ0 := Lib.hid (show SAt wz q0 34 #[.int .i64 0, .int .i64 0, .int .i64 0, .int .i64 0, .slice none 0 0, .slice none 0 0] from by rw [hwz, hq0]; exact SAt.new' _ _ _ rfl)
  obtain ⟨wf, hwf⟩ : ∃ W, W = wz.alloc (.cells #[.int .i64 1, .int .i64 5, .int .i64 7, .int .i64 6, .int .i64 2, .int .i64 8, .int .i64 3, .int .i64 0, .int .i64 9, .int .i64 4] 2) := ⟨_, rfl⟩
  obtain ⟨q1, hq1⟩ : ∃ q, q = w.heap.size + 1 := ⟨_, rfl⟩
  have hzs : wz.heap.size = q1 := by rw [hwz, hq1]; simp
  have hxf : Ext wz wf := by rw [hwf]; exact (by repeat (first | (with_reducible exact Ext.refl _) | (with_reducible refine Ext.drewN ?_ _) | (with_reducible refine Ext.drew ?_) | (with_reducible refine Ext.alloc ?_ _) | ((with_reducible refine Ext.setCell ?_ ?_ _); rotate_left; focus (first | (simp; done) | (simp; omega) | omega)) | assumption | (with_reducible refine Ext.trans ?_ (by assumption))))
  have HFo := Lib.hid (show Own wf wz.heap.size 2 (some ⟨q1, 0, none⟩) 10 10 (I dihO) from by
    rw [hwf, ← hzs]
    exact World.ownsRow_lit (e := 2) (size := 1) wz #[.int .i64 1, .int .i64 5, .int .i64 7, .int .i64 6, .int .i64 2, .int .i64 8, .int .i64 3, .int .i64 0, .int .i64 9, .int .i64 4] 10 (Nat.le_refl _) (by decide) rfl)
  have HFi := Lib.hid (show Ints wf (some ⟨q1, 0, none⟩) 10 10 dihO from HFo.out.ints)
  obtain ⟨wm, hwm⟩ : ∃ W, W = wf.alloc (.cells #[] 28) := ⟨_, rfl⟩
  have hfs : wf.heap.size = q1 + 1 := by rw [hwf]; simp [hzs]
  obtain ⟨q2, hq2⟩ : ∃ q, q = q1 + 1 := ⟨_, rfl⟩
  have hxm : Ext wf wm := by rw [hwm]; exact (by repeat (first | (with_reducible exact Ext.refl _) | (with_reducible refine Ext.drewN ?_ _) | (with_reducible refine Ext.drew ?_) | (with_reducible refine Ext.alloc ?_ _) | ((with_reducible refine Ext.setCell ?_ ?_ _); rotate_left; focus (first | (simp; done) | (simp; omega) | omega)) | assumption | (with_reducible refine Ext.trans ?_ (by assumption))))
  have HM0 := Lib.hid (show OwnMat wm q2 28 2 (some ⟨q2, 0, none⟩) 0 0 [] from by
    rw [hwm, hq2, ← hfs]
    exact OwnMat.lit0 wf _ _)
  have HQm := Lib.hid (HQ0.out.ext (hxf.trans hxm))
  rw [← hwz, ← hwf, ← hwm, ← hq1, ← hq2, ← hq0]
  have hfq : wf.heap.size = q2 := by omega
  have hq0w : w.heap.size ≤ q0 := by omega
  have hq01 : q0 < q2 := by omega
  have hwf2 : Ext w wf := hxz.trans hxf
  have hmq : q2 ≤ wm.heap.size := by have := hxm.le; omega
  clear hwz hwf hwm hq1 hq2 hq0 hzs hfs HFo hxz hxf
  go_wp2_with (go_at_call 25; (with_reducible refine (HSo.out _).mono ?_); rintro e w3 ⟨na, nc, rfl, ho3, hy3⟩; rw [I_len, idL_len] at ho3 ⊢; have HO3 := Lib.hid (ho3.mono hmq); have HM3 := Lib.hid (HM0.out.ext hy3); have hx3 : Ext wf w3 := hxm.trans hy3; have HQ3 := Lib.hid (HQm.out.ext hy3); clear ho3 hy3)
  go_loopw [5, 6, 17] (fun v5 v6 v17 wr => ∃ (k : Nat) (ma : Option Addr) (mc : Nat) (na : Option Addr) (nc : Nat), k ≤ p ∧ v17 = .int .i64 k ∧ v5 = .slice ma k mc ∧ v6 = .slice na 10 nc ∧ Hid (OwnMat wr q2 28 2 ma k mc ((List.range k).map (pwL 10 dihO))) ∧ Hid (Own wr q2 2 na 10 nc (I (pwL 10 dihO k))) ∧ Hid (SAt wr q0 34 #[.int .i64 0, .int .i64 0, .int .i64 0, .int .i64 0, .slice none 0 0, .slice none 0 0]) ∧ Ext wf wr) (fun _ _ v17 _ => p - (intOf v17).toNat)
  case atStart => exact ⟨0, _, _, _, _, Nat.zero_le _, rfl, rfl, rfl, HM3.out, HO3.out, HQ3.out, hx3⟩
  case round =>
    clear HM0 HM3 HO3 HQ3 HQm hx3
    obtain ⟨k, ma, mc, na, nc, hk, rfl, rfl, rfl, HM, HO, HQ, hx⟩ := hrel
    have hqr : q2 ≤ wr.heap.size := by have := hx.le; omega
    by_cases hlt : k < p
    · obtain ⟨tvs, htv, htp⟩ := HM.out.rows
      have HTV := Lib.hid htv
      have HTP := Lib.hid htp
      clear htv htp
      have HCo := Lib.hid (fun a c W (h : Ints W a 10 c (pwL 10 dihO k)) (h' : Ext wf W) => impl_compose a 10 c (pwL 10 dihO k) (some ⟨q1, 0, none⟩) 10 10 dihO W h (HFi.out.ext h') (by omega) (by decide))
      go_wp2_with (first | (at_builtin; refine law_append1 _ rfl _ _ 24 rfl 28 (.slice none 0 0) 24 und_rows info_row1 rfl q2 ma k mc _ _ rfl rfl rfl HTV.out hqr (by omega) (by omega) ?_; intro ma' mc' w6 ho6 hb6 hg6; have hx6 : Ext wf w6 := Ext.below hx (Below.mono hb6 (by omega)); have HM6 := Lib.hid (OwnMat.push HM.out.len HTP.out HTV.out HO.out ho6 hg6 (by decide)); have HO6 := Lib.hid (HO.out.grownT HTV.out hg6 (by decide)); have HQ6 := Lib.hid (HQ.out.grown hg6 (row_ne_s (HTV.out.ne_s HQ.out (by decide)))); have h6s : q2 ≤ w6.heap.size := Nat.le_trans hqr hg6.size; clear ho6 hb6 hg6) | (go_at_call 26; (with_reducible refine (HCo.out _ _ _ HO6.out.ints hx6).mono ?_); rintro e w7 ⟨na', nc', rfl, ho7, hy7⟩; rw [I_len, compL_len] at ho7 ⊢; have HO7 := Lib.hid (ho7.mono h6s); have HM7 := Lib.hid (HM6.out.ext hy7); have HQ7 := Lib.hid (HQ6.out.ext hy7); have hx7 : Ext wf w7 := hx6.trans hy7; clear ho7 hy7))
      exact ⟨⟨k + 1, ma', mc', na', nc', by omega, by go_num, rfl, rfl, by rw [Hid, List.range_succ, List.map_append]; exact HM7.out, HO7.out, HQ7.out, hx7⟩, by simp [intOf]; omega⟩
    · obtain rfl : k = p := by omega
      obtain ⟨tvs, htv, htp⟩ := HM.out.rows
      obtain ⟨g, rfl⟩ := htv.some (by omega)
      have HTV := Lib.hid htv
      have HTP := Lib.hid htp
      have HRv := Lib.hid (reverse_rows g k mc tvs q2 wr htv (by omega) (by omega) (fun j hj => by obtain ⟨a', n', c', h, _⟩ := htp j hj; exact ⟨a', n', c', h⟩))
      clear htv htp
      go_upto_region 11 with (go_at_call 27; (with_reducible refine HRv.out.mono ?_); rintro e w7 ⟨rfl, hm7, ho7⟩; have HO7 := Lib.hid ho7; have HM7 := Lib.hid hm7; clear ho7 hm7)
      have hx7 : Ext wf w7 := HM7.out.to hx (by omega)
      have HMat := Lib.hid (show Mat w7 (some ⟨g, 0, none⟩) k mc (mapsL 10 dihO k) from by
        refine ⟨mapsL_len _ _ _, tvs.reverse, HO7.out.sl, fun j hj => ?_⟩
        obtain ⟨a', n', c', h1, h2⟩ := HTP.out (k - 1 - j) (by omega)
        have hvl : tvs.length = k := HTV.out.len
        refine ⟨a', n', c', ?_, ?_⟩
        · rw [gv_get (by rw [List.length_reverse]; omega), List.getElem_reverse, ← gv_get (by omega), hvl]; exact h1
        · have h3 := (HM7.out.own h2 (fun g1 g2 e1 e2 => own_ne_type HTV.out h2 (by decide) g1 g2 e1 e2)).ints
          rwa [mapsL_gl _ _ _ _ hj, ← show gl ((List.range k).map (pwL 10 dihO)) (k - 1 - j) = pwL 10 dihO (k - 1 - j) from by rw [gl_get (by simp; omega)]; simp])
      have hq0g : q0 ≠ g := by have := HTV.out.lt.1; omega
      have HQ7 := Lib.hid (show SAt w7 q0 34 #[.int .i64 0, .int .i64 0, .int .i64 0, .int .i64 0, .slice none 0 0, .slice none 0 0] from (HM7.out.block q0 HQ.out.lt (fun g' hg' => by injection hg' with hg'; subst hg'; exact fun h => hq0g h.symm)).trans HQ.out)
      have HGc := Lib.hid (fun a c W (h : Mat W a 10 c dihT) (h' : Ext w7 W) => impl_GroupChain dihT 10 0 0 (mapsL 10 dihO k) a c (some ⟨g, 0, none⟩) k mc W h (HMat.out.ext h') HOk.out)
      generalize hDD : grpCh dihT 10 0 0 (mapsL 10 dihO k) = DD at *
      clear hDD HMat HO7 HTP HTV HRv
      go_wp2_with (first | (go_at_call 28; (with_reducible refine (HDi.out _).mono ?_); rintro e w8 ⟨da, dc, rfl, hd8, hx8⟩; have HD8 := Lib.hid hd8; clear hd8) | (go_at_call 8; (with_reducible refine (HGc.out _ _ _ HD8.out hx8).mono ?_); rintro e w9 ⟨ca, cx, cc, cb, cy, cd, rfl, hch, hx9⟩; have HCh := Lib.hid hch; clear hch; have HQ9 := Lib.hid ((HQ7.out.ext hx8).ext hx9); have z0 := HQ9.out.cell 0 (by simp); have z1 := HQ9.out.cell 1 (by simp); have z2 := HQ9.out.cell 2 (by simp); have z3 := HQ9.out.cell 3 (by simp); have z4 := HQ9.out.cell 4 (by simp); have z5 := HQ9.out.cell 5 (by simp); have zf := (fun j => HQ9.out.frozen j); have zl := HQ9.out.lt; (try simp only [List.getElem_toArray, List.getElem_cons_succ, List.getElem_cons_zero] at z0 z1 z2 z3 z4 z5)))
      refine bodyPost_ret (v := .tuple #[.agg #[.int .i64 DD.base, .int .i64 DD.states, .int .i64 DD.start, .int .i64 DD.fin, .slice ca cx cc, .slice cb cy cd], .bool true]) ?_ rfl ?_
      · simp [results, Try.results10, go_sem, z0, z1, z2, z3, z4, z5]
      · have hq08 : q0 < w8.heap.size := (HQ7.out.ext hx8).lt
        refine ⟨ca, cx, cc, cb, cy, cd, rfl, fun V hV => HCh.out V (KeepB.trans ?_ (hV.mono (by have := hwf2.le; have := hx7.le; have := hx8.le; omega) (by simp))), ?_⟩
        · repeat (first | with_reducible exact KeepB.refl _ _ _ | (with_reducible refine KeepB.setB ?_ _ _ (Or.inl ?_); rotate_left; (focus (simp <;> omega))))
        · have hxw9 : Ext w w9 := ((hwf2.trans hx7).trans hx8).trans hx9
          repeat (first | with_reducible exact hxw9 | with_reducible refine Ext.setCell ?_ hq0w _)
end Go.Proofs.Ytohenfbgjjifbaa
