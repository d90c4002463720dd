/- Walks: the least antisymmetric order of a group, in the reference; the drawn group. -/
import Derived.Test.YtohenfbgjjifbaaGrR
import Derived.Test.YtohenfbgjjifbaaMark
namespace Go.Proofs.Ytohenfbgjjifbaa
set_option maxRecDepth 100000
open Go.RowKit

/-! ### s[:k] of a row of the call's own -/
theorem Own.preG {P : Program} {w : World} {B : Nat} {E : TypeId} {g n c : Nat} {vs : List Value} (h : Own w B E (Option.some ⟨g, 0, none⟩) n c vs) (T : TypeId) (ht : P.underlying T = Option.some (.slice E)) (he : P.cellsOf E = 1) (hel : P.elem T = E) (k : Nat) (hk : k ≤ n) :
    (∀ w' (K : IntKind), (Instr.sliceAt T (Value.slice (Option.some ⟨g, 0, none⟩) n c) none (Option.some (.int K k)) none).run P w' = .ok (Value.slice (Option.some ⟨g, 0, none⟩) k c) w') ∧ Own w B E (Option.some ⟨g, 0, none⟩) k c (vs.take k) := by
  obtain ⟨i, hi', hs⟩ := cellsOf_size he (by omega)
  have ht' : P.underlying T = Option.some (.slice (P.elem T)) := by rw [hel]; exact ht
  have hl := h.1
  rcases h.2 with ⟨h1, _⟩ | ⟨g', cap, cur, hv, h1, h2, h3, h4, h5, h6⟩
  · cases h1
  simp only [Value.slice.injEq, Option.some.injEq, true_and] at hv
  obtain ⟨hv, rfl⟩ := hv
  injection hv with hv
  subst hv
  refine ⟨fun w' K => ?_, ?_, .inr ⟨g, c, cur, rfl, h1, h2, by omega, h4, h5, ?_⟩⟩
  · rw [run_sliceAt_slice w' T _ _ _ _ ht', run_slice_h w' T _ n c ht' K k (by omega) (by omega)]
    simp [sizeOf, typeInfo, hel, hi', hs, Result.andThen, sliced, Addr.add_lit]
  · rw [List.length_take]; omega
  · rw [← h6, List.take_take]; congr 1; omega

/-! ### how far the search has come -/
def lval (B : Nat) : Nat → List Int → Nat
  | r, [] => B ^ r - 1
  | 0, _ :: _ => 0
  | r + 1, x :: xs => (x + 1).toNat * B ^ r + lval B r xs
theorem lval_lt {B : Nat} (hB : 1 ≤ B) : ∀ (r : Nat) (l : List Int), l.length ≤ r → (∀ x ∈ l, x + 1 < (B : Int)) → lval B r l < B ^ r
  | r, [], _, _ => by have := Nat.pow_pos (n := r) (show 0 < B by omega); simp only [lval]; omega
  | 0, _ :: _, h, _ => by simp at h
  | r + 1, x :: xs, h, hb => by
    have h1 := lval_lt hB r xs (by simpa using h) (fun y hy => hb y (by simp [hy]))
    have h2 := hb x (by simp)
    have h3 : (x + 1).toNat + 1 ≤ B := by omega
    have h4 := Nat.mul_le_mul_right (B ^ r) h3
    rw [Nat.succ_mul] at h4
    simp only [lval]
    rw [Nat.pow_succ, Nat.mul_comm (B ^ r) B]
    omega
theorem lval_app {B : Nat} {q q' : List Int} : ∀ (p : List Int) (r : Nat), lval B r q < lval B r q' → lval B (p.length + r) (p ++ q) < lval B (p.length + r) (p ++ q')
  | [], r, h => by simpa using h
  | x :: p, r, h => by
    have h1 := lval_app p r h
    rw [List.length_cons, show p.length + 1 + r = (p.length + r) + 1 by omega]
    simp only [List.cons_append, lval]
    omega
theorem lval_a {B r : Nat} {x : Int} (hB : 1 ≤ B) (hx : -1 ≤ x) : lval B (r + 1) [x] < lval B (r + 1) [x + 1] := by
  have h := Nat.pow_pos (n := r) (show 0 < B by omega)
  simp only [lval]
  rw [show (x + 1 + 1).toNat = (x + 1).toNat + 1 by omega, Nat.succ_mul]
  omega
theorem lval_b {B r : Nat} {x : Int} (hB : 1 ≤ B) (hx : -1 ≤ x) : lval B (r + 2) [x] < lval B (r + 2) [x + 1, -1] := by
  have h := Nat.pow_pos (n := r) (show 0 < B by omega)
  have h2 := Nat.pow_pos (n := r + 1) (show 0 < B by omega)
  simp only [lval]
  rw [show (x + 1 + 1).toNat = (x + 1).toNat + 1 by omega, Nat.succ_mul]
  omega
theorem lval_c {B r : Nat} {x : Int} (hB : 1 ≤ B) (hx : -1 ≤ x) (hx2 : x + 2 < (B : Int)) : lval B (r + 1) [x] < lval B (r + 1) [] := by
  have h := Nat.pow_pos (n := r) (show 0 < B by omega)
  have h3 : (x + 1).toNat + 2 ≤ B := by omega
  have h4 := Nat.mul_le_mul_right (B ^ r) h3
  rw [Nat.add_mul] at h4
  simp only [lval]
  rw [Nat.pow_succ, Nat.mul_comm (B ^ r) B]
  omega

/-! ### what fits -/
def FitL (T : List (List Int)) (O : List Int) (y : Nat) : Prop := ∀ x, x < y → gi O x ≠ gi O y ∧ tp T x (gq O y) ≠ tp T y (gq O x)
def RetFit (T : List (List Int)) (O : List Int) (y : Nat) (w : World) (e : Ending) (w' : World) : Prop := ∃ b : Bool, e = .returned (.bool b) ∧ (b = true → FitL T O y) ∧ Ext w w'
set_option maxHeartbeats 8000000 in
theorem spec_fits (T : List (List Int)) (n q y : Nat) (a : Option Addr) (c : Nat) (oa : Option Addr) (oc : Nat) (O : List Int) (w : World) (hv : Mat w a n c T) (hs : SqT T n) (ho : Ints w oa (y + 1) oc O) (hb : ∀ x ∈ O, 0 ≤ x ∧ x < (n : Int)) (hy : y + 1 ≤ n) (hn : n ≤ 10)
    (hq : ∀ w', Ext w w' → w'.cell? ⟨q, 0, none⟩ = some (.slice a n c)) :
    Calls Try.prog 44 #[.pointer (some ⟨q, 0, none⟩), .slice oa (y + 1) oc, .bool false] w (RetFit T O y w) := by
  have HV := Lib.hid hv
  have HS := Lib.hid hs
  have HO := Lib.hid ho
  have HLo := Lib.hid ho.len
  have HB := Lib.hid hb
  clear hv hs ho hb
  go_enter Try.func44, Try.ntmps44
  go_wp2_with fail
  go_loopw [8] (fun v8 wr => ∃ x : Nat, x ≤ y ∧ v8 = .int .i64 x ∧ Hid (∀ i, i < x → gi O i ≠ gi O y ∧ tp T i (gq O y) ≠ tp T y (gq O i)) ∧ Ext w wr) (fun v8 _ => y - (intOf v8).toNat)
  case atStart => exact ⟨0, Nat.zero_le _, rfl, (fun i hi => by omega), Ext.refl _⟩
  case round =>
    obtain ⟨x, hx', rfl, HF, hx⟩ := hrel
    by_cases hlt : x < y
    · have gp : ∀ w', Ext wr w' → w'.cell? ⟨q, 0, none⟩ = some (.slice a n c) := fun w' h => hq w' (hx.trans h)
      have bx := HB.out (gi O x) (gi_mem (by rw [HLo.out]; omega))
      have by' := HB.out (gi O y) (gi_mem (by rw [HLo.out]; omega))
      obtain ⟨s1, o1, ⟨f1, f2⟩⟩ := (HO.out.ext hx).one (P := Try.prog) 28 2 und_int64s cell_int64 (x : Int) (by omega) (by omega)
      obtain ⟨s2, o2, ⟨f3, f4⟩⟩ := (HO.out.ext hx).one (P := Try.prog) 28 2 und_int64s cell_int64 (y : Int) (by omega) (by omega)
      rw [Int.toNat_natCast] at f2 f4
      have ex : gi O x = (gq O x : Int) := by unfold gq; omega
      have ey : gi O y = (gq O y : Int) := by unfold gq; omega
      have hgx : gq O x < n := by omega
      have hgy : gq O y < n := by omega
      obtain ⟨s3, o3, a3, c3, s4, o4, ⟨f5, f6⟩, ⟨f7, f8⟩⟩ := sq_cell (HV.out.ext hx) HS.out (i := x) (j := gq O y) (by omega) hgy
      obtain ⟨s5, o5, a5, c5, s6, o6, ⟨f9, f10⟩, ⟨f11, f12⟩⟩ := sq_cell (HV.out.ext hx) HS.out (i := y) (j := gq O x) (by omega) hgx
      have HN := Lib.hid (show gq O x ≠ gq O y → tq T x (gq O y) ≠ tq T y (gq O x) → ∀ i, i < x + 1 → gi O i ≠ gi O y ∧ tp T i (gq O y) ≠ tp T y (gq O i) from fun h1 h2 i hi => by
        rcases Nat.lt_or_ge i x with h | h
        · exact HF.out i h
        · obtain rfl : i = x := by omega
          refine ⟨by omega, fun h3 => h2 ?_⟩
          have e1 := (HS.out.q (x := i) (y := gq O y) (by omega) hgy).1
          have e2 := (HS.out.q (x := y) (y := gq O i) (by omega) hgx).1
          omega)
      rw [ex] at f2
      rw [ey] at f4
      clear ex ey bx by'
      generalize tq T x (gq O y) = u1 at *
      generalize tq T y (gq O x) = u2 at *
      generalize gq O x = u3 at *
      generalize gq O y = u4 at *
      by_cases h1 : u3 = u4
      · have e1 : ((u3 : Int) == (u4 : Int)) = true := by simp [h1]
        clear h1
        go_wp2_with fail
        (refine wp_region_up (by kernel_rfl) (by kernel_rfl) (by kernel_rfl) ?_; (repeat (first | (refine mix_q rfl ?_; go_big_quiet_step (fail); refine wpQuiet_nil ?_; show wpMix _ _ _ _ _ _ _) | (refine mix_s rfl ?_; go_wp2_with (fail); first | refine ⟨up_of (by repeat (first | (with_reducible exact Ext.refl _) | (with_reducible refine Ext.drewN ?_ _) | (with_reducible refine Ext.drew ?_) | (with_reducible refine Ext.alloc ?_ _) | ((with_reducible refine Ext.setCell ?_ ?_ _); rotate_left; focus (first | (simp; done) | (simp; omega) | omega)) | assumption | (with_reducible refine Ext.trans ?_ (by assumption)))), ?_⟩ | refine ⟨rfl, rfl, up_of (by repeat (first | (with_reducible exact Ext.refl _) | (with_reducible refine Ext.drewN ?_ _) | (with_reducible refine Ext.drew ?_) | (with_reducible refine Ext.alloc ?_ _) | ((with_reducible refine Ext.setCell ?_ ?_ _); rotate_left; focus (first | (simp; done) | (simp; omega) | omega)) | assumption | (with_reducible refine Ext.trans ?_ (by assumption)))), ?_⟩))); refine mix_nil ?_)
        go_wp2_with fail
        go_ret
        exact ⟨false, rfl, (fun h => by cases h), (by repeat (first | (with_reducible exact Ext.refl _) | (with_reducible assumption) | (with_reducible refine Ext.drewN ?_ _) | (with_reducible refine Ext.drew ?_) | (with_reducible refine Ext.alloc ?_ _) | ((with_reducible refine Ext.setCell ?_ ?_ _); rotate_left; focus (first | (simp; done) | (simp; omega) | omega)) | (with_reducible refine Ext.trans ?_ (by with_reducible assumption))))⟩
      · have e1 : ((u3 : Int) == (u4 : Int)) = false := by simp; omega
        have HN1 := Lib.hid (HN.out h1)
        clear h1
        by_cases h2 : u1 = u2
        · have e2 : ((u1 : Int) == (u2 : Int)) = true := by simp [h2]
          clear h2
          go_wp2_with fail
          (refine wp_region_up (by kernel_rfl) (by kernel_rfl) (by kernel_rfl) ?_; (repeat (first | (refine mix_q rfl ?_; go_big_quiet_step (fail); refine wpQuiet_nil ?_; show wpMix _ _ _ _ _ _ _) | (refine mix_s rfl ?_; go_wp2_with (fail); first | refine ⟨up_of (by repeat (first | (with_reducible exact Ext.refl _) | (with_reducible refine Ext.drewN ?_ _) | (with_reducible refine Ext.drew ?_) | (with_reducible refine Ext.alloc ?_ _) | ((with_reducible refine Ext.setCell ?_ ?_ _); rotate_left; focus (first | (simp; done) | (simp; omega) | omega)) | assumption | (with_reducible refine Ext.trans ?_ (by assumption)))), ?_⟩ | refine ⟨rfl, rfl, up_of (by repeat (first | (with_reducible exact Ext.refl _) | (with_reducible refine Ext.drewN ?_ _) | (with_reducible refine Ext.drew ?_) | (with_reducible refine Ext.alloc ?_ _) | ((with_reducible refine Ext.setCell ?_ ?_ _); rotate_left; focus (first | (simp; done) | (simp; omega) | omega)) | assumption | (with_reducible refine Ext.trans ?_ (by assumption)))), ?_⟩))); refine mix_nil ?_)
          go_wp2_with fail
          (refine wp_region_from wr (by repeat (first | (with_reducible exact Ext.refl _) | (with_reducible refine Ext.drewN ?_ _) | (with_reducible refine Ext.drew ?_) | (with_reducible refine Ext.alloc ?_ _) | ((with_reducible refine Ext.setCell ?_ ?_ _); rotate_left; focus (first | (simp; done) | (simp; omega) | omega)) | assumption | (with_reducible refine Ext.trans ?_ (by assumption)))) (by kernel_rfl) (by kernel_rfl) (seqB_of (by kernel_rfl)) ?_; (repeat (first | (refine mix_q rfl ?_; go_big_quiet_step (fail); refine wpQuiet_nil ?_; show wpMix _ _ _ _ _ _ _) | (refine mix_s rfl ?_; go_wp2_with (fail); first | refine ⟨up_of (by repeat (first | (with_reducible exact Ext.refl _) | (with_reducible refine Ext.drewN ?_ _) | (with_reducible refine Ext.drew ?_) | (with_reducible refine Ext.alloc ?_ _) | ((with_reducible refine Ext.setCell ?_ ?_ _); rotate_left; focus (first | (simp; done) | (simp; omega) | omega)) | assumption | (with_reducible refine Ext.trans ?_ (by assumption)))), ?_⟩ | refine ⟨rfl, rfl, up_of (by repeat (first | (with_reducible exact Ext.refl _) | (with_reducible refine Ext.drewN ?_ _) | (with_reducible refine Ext.drew ?_) | (with_reducible refine Ext.alloc ?_ _) | ((with_reducible refine Ext.setCell ?_ ?_ _); rotate_left; focus (first | (simp; done) | (simp; omega) | omega)) | assumption | (with_reducible refine Ext.trans ?_ (by assumption)))), ?_⟩))); refine mix_nil ?_)
          go_wp2_with fail
          (refine wp_region_from wr (by repeat (first | (with_reducible exact Ext.refl _) | (with_reducible refine Ext.drewN ?_ _) | (with_reducible refine Ext.drew ?_) | (with_reducible refine Ext.alloc ?_ _) | ((with_reducible refine Ext.setCell ?_ ?_ _); rotate_left; focus (first | (simp; done) | (simp; omega) | omega)) | assumption | (with_reducible refine Ext.trans ?_ (by assumption)))) (by kernel_rfl) (by kernel_rfl) (seqB_of (by kernel_rfl)) ?_; (repeat (first | (refine mix_q rfl ?_; go_big_quiet_step (fail); refine wpQuiet_nil ?_; show wpMix _ _ _ _ _ _ _) | (refine mix_s rfl ?_; go_wp2_with (fail); first | refine ⟨up_of (by repeat (first | (with_reducible exact Ext.refl _) | (with_reducible refine Ext.drewN ?_ _) | (with_reducible refine Ext.drew ?_) | (with_reducible refine Ext.alloc ?_ _) | ((with_reducible refine Ext.setCell ?_ ?_ _); rotate_left; focus (first | (simp; done) | (simp; omega) | omega)) | assumption | (with_reducible refine Ext.trans ?_ (by assumption)))), ?_⟩ | refine ⟨rfl, rfl, up_of (by repeat (first | (with_reducible exact Ext.refl _) | (with_reducible refine Ext.drewN ?_ _) | (with_reducible refine Ext.drew ?_) | (with_reducible refine Ext.alloc ?_ _) | ((with_reducible refine Ext.setCell ?_ ?_ _); rotate_left; focus (first | (simp; done) | (simp; omega) | omega)) | assumption | (with_reducible refine Ext.trans ?_ (by assumption)))), ?_⟩))); refine mix_nil ?_)
          go_wp2_with fail
          go_ret
          exact ⟨false, rfl, (fun h => by cases h), (by repeat (first | (with_reducible exact Ext.refl _) | (with_reducible assumption) | (with_reducible refine Ext.drewN ?_ _) | (with_reducible refine Ext.drew ?_) | (with_reducible refine Ext.alloc ?_ _) | ((with_reducible refine Ext.setCell ?_ ?_ _); rotate_left; focus (first | (simp; done) | (simp; omega) | omega)) | (with_reducible refine Ext.trans ?_ (by with_reducible assumption))))⟩
        · have e2 : ((u1 : Int) == (u2 : Int)) = false := by simp; omega
          have HN2 := Lib.hid (HN1.out h2)
          clear h2
          go_wp2_with fail
          (refine wp_region_up (by kernel_rfl) (by kernel_rfl) (by kernel_rfl) ?_; (repeat (first | (refine mix_q rfl ?_; go_big_quiet_step (fail); refine wpQuiet_nil ?_; show wpMix _ _ _ _ _ _ _) | (refine mix_s rfl ?_; go_wp2_with (fail); first | refine ⟨up_of (by repeat (first | (with_reducible exact Ext.refl _) | (with_reducible refine Ext.drewN ?_ _) | (with_reducible refine Ext.drew ?_) | (with_reducible refine Ext.alloc ?_ _) | ((with_reducible refine Ext.setCell ?_ ?_ _); rotate_left; focus (first | (simp; done) | (simp; omega) | omega)) | assumption | (with_reducible refine Ext.trans ?_ (by assumption)))), ?_⟩ | refine ⟨rfl, rfl, up_of (by repeat (first | (with_reducible exact Ext.refl _) | (with_reducible refine Ext.drewN ?_ _) | (with_reducible refine Ext.drew ?_) | (with_reducible refine Ext.alloc ?_ _) | ((with_reducible refine Ext.setCell ?_ ?_ _); rotate_left; focus (first | (simp; done) | (simp; omega) | omega)) | assumption | (with_reducible refine Ext.trans ?_ (by assumption)))), ?_⟩))); refine mix_nil ?_)
          go_wp2_with fail
          (refine wp_region_from wr (by repeat (first | (with_reducible exact Ext.refl _) | (with_reducible refine Ext.drewN ?_ _) | (with_reducible refine Ext.drew ?_) | (with_reducible refine Ext.alloc ?_ _) | ((with_reducible refine Ext.setCell ?_ ?_ _); rotate_left; focus (first | (simp; done) | (simp; omega) | omega)) | assumption | (with_reducible refine Ext.trans ?_ (by assumption)))) (by kernel_rfl) (by kernel_rfl) (seqB_of (by kernel_rfl)) ?_; (repeat (first | (refine mix_q rfl ?_; go_big_quiet_step (fail); refine wpQuiet_nil ?_; show wpMix _ _ _ _ _ _ _) | (refine mix_s rfl ?_; go_wp2_with (fail); first | refine ⟨up_of (by repeat (first | (with_reducible exact Ext.refl _) | (with_reducible refine Ext.drewN ?_ _) | (with_reducible refine Ext.drew ?_) | (with_reducible refine Ext.alloc ?_ _) | ((with_reducible refine Ext.setCell ?_ ?_ _); rotate_left; focus (first | (simp; done) | (simp; omega) | omega)) | assumption | (with_reducible refine Ext.trans ?_ (by assumption)))), ?_⟩ | refine ⟨rfl, rfl, up_of (by repeat (first | (with_reducible exact Ext.refl _) | (with_reducible refine Ext.drewN ?_ _) | (with_reducible refine Ext.drew ?_) | (with_reducible refine Ext.alloc ?_ _) | ((with_reducible refine Ext.setCell ?_ ?_ _); rotate_left; focus (first | (simp; done) | (simp; omega) | omega)) | assumption | (with_reducible refine Ext.trans ?_ (by assumption)))), ?_⟩))); refine mix_nil ?_)
          go_wp2_with fail
          (refine wp_region_from wr (by repeat (first | (with_reducible exact Ext.refl _) | (with_reducible refine Ext.drewN ?_ _) | (with_reducible refine Ext.drew ?_) | (with_reducible refine Ext.alloc ?_ _) | ((with_reducible refine Ext.setCell ?_ ?_ _); rotate_left; focus (first | (simp; done) | (simp; omega) | omega)) | assumption | (with_reducible refine Ext.trans ?_ (by assumption)))) (by kernel_rfl) (by kernel_rfl) (seqB_of (by kernel_rfl)) ?_; (repeat (first | (refine mix_q rfl ?_; go_big_quiet_step (fail); refine wpQuiet_nil ?_; show wpMix _ _ _ _ _ _ _) | (refine mix_s rfl ?_; go_wp2_with (fail); first | refine ⟨up_of (by repeat (first | (with_reducible exact Ext.refl _) | (with_reducible refine Ext.drewN ?_ _) | (with_reducible refine Ext.drew ?_) | (with_reducible refine Ext.alloc ?_ _) | ((with_reducible refine Ext.setCell ?_ ?_ _); rotate_left; focus (first | (simp; done) | (simp; omega) | omega)) | assumption | (with_reducible refine Ext.trans ?_ (by assumption)))), ?_⟩ | refine ⟨rfl, rfl, up_of (by repeat (first | (with_reducible exact Ext.refl _) | (with_reducible refine Ext.drewN ?_ _) | (with_reducible refine Ext.drew ?_) | (with_reducible refine Ext.alloc ?_ _) | ((with_reducible refine Ext.setCell ?_ ?_ _); rotate_left; focus (first | (simp; done) | (simp; omega) | omega)) | assumption | (with_reducible refine Ext.trans ?_ (by assumption)))), ?_⟩))); refine mix_nil ?_)
          go_wp2_with fail
          exact ⟨⟨x + 1, by omega, by go_num, HN2.out, (by repeat (first | (with_reducible exact Ext.refl _) | (with_reducible assumption) | (with_reducible refine Ext.drewN ?_ _) | (with_reducible refine Ext.drew ?_) | (with_reducible refine Ext.alloc ?_ _) | ((with_reducible refine Ext.setCell ?_ ?_ _); rotate_left; focus (first | (simp; done) | (simp; omega) | omega)) | (with_reducible refine Ext.trans ?_ (by with_reducible assumption))))⟩, by simp [intOf]; omega⟩
    · obtain rfl : x = y := by omega
      go_wp2_with fail
      go_ret
      exact ⟨true, rfl, (fun _ => HF.out), hx⟩
end Go.Proofs.Ytohenfbgjjifbaa

/- Walks: the search for the least antisymmetric order, in the reference; the drawn group. -/
namespace Go.Proofs.Ytohenfbgjjifbaa
set_option maxRecDepth 100000
open Go.RowKit

def AllFit (T : List (List Int)) (O : List Int) (m : Nat) : Prop := ∀ y, y < m → FitL T O y
theorem fit_congr {T : List (List Int)} {O O' : List Int} {y : Nat} (h : FitL T O y) (he : ∀ i, i ≤ y → gi O i = gi O' i) : FitL T O' y := fun x hx => by
  have h1 := h x hx
  unfold gq at h1 ⊢
  rw [he x (by omega), he y (Nat.le_refl _)] at h1
  exact h1
theorem anti_of {T : List (List Int)} {n : Nat} {O : List Int} (hl : O.length = n) (hb : ∀ x ∈ O, 0 ≤ x ∧ x < (n : Int)) (h : AllFit T O n) : AntiT T n O := by
  have hbd : ∀ x, x < n → 0 ≤ gi O x ∧ gi O x < n := fun x hx => hb _ (gi_mem (by omega))
  have hi : ∀ x, x < n → ∀ y, y < n → gi O x = gi O y → x = y := fun x hx y hy he => by
    rcases Nat.lt_trichotomy x y with h1 | h1 | h1
    · exact absurd he (h y hy x h1).1
    · exact h1
    · exact absurd he.symm (h x hx y h1).1
  refine ⟨⟨hl, hbd, hi⟩, fun x hx y hy hne => ?_⟩
  rcases Nat.lt_or_ge x y with h1 | h1
  · exact (h y hy x h1).2
  · exact fun he => (h x hx y (by omega)).2 he.symm
def RetLeast (T : List (List Int)) (n : Nat) (w : World) (e : Ending) (w' : World) : Prop :=
  ∃ (oa : Option Addr) (m oc : Nat) (O : List Int) (b : Bool), e = .returned (.tuple #[.slice oa m oc, .bool b]) ∧ (b = true → m = n ∧ AntiT T n O ∧ Ints w' oa m oc O) ∧ Ext w w'
/-- the order so far: P is tried and fits, x is to be tried next -/
structure LI (T : List (List Int)) (n : Nat) (P : List Int) (x : Int) : Prop where
  pl : P.length + 1 ≤ n
  pb : ∀ z ∈ P, 0 ≤ z ∧ z < (n : Int)
  pf : AllFit T P P.length
  x0 : -1 ≤ x
  x1 : x < (n : Int)
theorem gi_app1 {P : List Int} {x : Int} {i : Nat} (h : i < P.length) : gi (P ++ [x]) i = gi P i := by simp [gi, List.getD_eq_getElem?_getD, List.getElem?_append_left h]
theorem gi_app2 {P : List Int} {x : Int} : gi (P ++ [x]) P.length = x := by simp [gi, List.getD_eq_getElem?_getD]
theorem set_app {P : List Int} {x y : Int} : (P ++ [x]).set P.length y = P ++ [y] := by
  rw [List.set_append_right _ _ (Nat.le_refl _), Nat.sub_self]; rfl
theorem allFit_snoc {T : List (List Int)} {P : List Int} {x : Int} (h : AllFit T P P.length) (hf : FitL T (P ++ [x]) P.length) : AllFit T (P ++ [x]) (P.length + 1) := fun y hy => by
  rcases Nat.lt_or_ge y P.length with h1 | h1
  · exact fit_congr (h y h1) fun i hi => (gi_app1 (by omega)).symm
  · obtain rfl : y = P.length := by omega
    exact hf
set_option maxHeartbeats 16000000 in
theorem spec_least (T : List (List Int)) (n e q : Nat) (a : Option Addr) (c : Nat) (w : World) (hv : Mat w a n c T) (hg : GrpT T n e) (hq : ∀ w', Ext w w' → w'.cell? ⟨q, 0, none⟩ = some (.slice a n c)) :
    Calls Try.prog 16 #[.pointer (some ⟨q, 0, none⟩), .bool false] w (RetLeast T n w) := by
  have n1 := hg.n1
  have n10 := hg.n10
  have HV := Lib.hid hv
  have HSq := Lib.hid hg.sq
  clear hv hg
  have q0 := hq w (Ext.refl _)
  go_enter Try.func16, Try.ntmps16
  go_wp2_with fail
  have HO0 := Lib.hid (show Own (w.alloc (.cells #[.int .i64 (-1)] 2)) w.heap.size 2 (some ⟨w.heap.size, 0, none⟩) 1 1 (I ([] ++ [-1])) from own_lit1 w _ _)
  have hx0 : Ext w (w.alloc (.cells #[.int .i64 (-1)] 2)) := (Ext.refl _).alloc _
  obtain ⟨b0, hb0⟩ : ∃ b, b = w.heap.size := ⟨_, rfl⟩
  have hbw : w.heap.size ≤ b0 := by omega
  rw [← hb0] at HO0 ⊢
  have HO1 := Lib.hid (show Own (w.alloc (.cells #[.int .i64 (-1)] 2)) w.heap.size 2 (some ⟨b0, 0, none⟩) 1 1 (I ([] ++ [-1])) from HO0.out.mono (by omega))
  clear HO0 hb0
  obtain ⟨M, hM⟩ : ∃ M, M = (n + 2) ^ n := ⟨_, rfl⟩
  have HM := Lib.hid hM
  have HLI0 := Lib.hid (show LI T n [] (-1) from ⟨by simpa using n1, (fun z hz => by cases hz), (fun y hy => by simp at hy), by omega, by omega⟩)
  clear hM
  go_loopg [7] (M - lval (n + 2) n ([] ++ [-1])) (fun gk v7 wr => (∃ (b oc : Nat), v7 = .slice (some ⟨b, 0, none⟩) 0 oc ∧ Ext w wr) ∨
    ∃ (L b oc : Nat) (P : List Int) (x : Int), v7 = .slice (some ⟨b, 0, none⟩) (L + 1) oc ∧ Hid (P.length = L) ∧ Hid (LI T n P x) ∧ Hid (gk = M - lval (n + 2) n (P ++ [x])) ∧ Hid (Own wr w.heap.size 2 (some ⟨b, 0, none⟩) (L + 1) oc (I (P ++ [x]))) ∧ Ext w wr)
  case atStart => exact .inr ⟨0, b0, 1, [], -1, rfl, rfl, HLI0.out, rfl, HO1.out, hx0⟩
  case round =>
    clear HO1 hx0 HLI0 q0
    rename World => wr
    rcases hrel with ⟨b, oc, rfl, hx⟩ | ⟨L, b, oc, P, x, rfl, HL, HI, HG, HO, hx⟩
    · go_wp2_with fail
      exact bodyPost_ret (v := .tuple #[.slice none 0 0, .bool false]) (by simp [results, Try.results16, go_sem]) rfl ⟨none, 0, 0, [], false, rfl, (fun h => by cases h), hx⟩
    · have hx0 := HI.out.x0
      have hx1 := HI.out.x1
      have hLn : L + 1 ≤ n := by rw [← HL.out]; exact HI.out.pl
      have hbw' := HO.out.lt.1
      have hbl := HO.out.lt.2
      obtain ⟨f1, f2, f4⟩ := own_oneJ HO.out (P := Try.prog) 28 und_int64s cell_int64 L (by omega) (x := (L : Int)) rfl
      rw [show gi (P ++ [x]) L = x from by rw [← HL.out]; exact gi_app2] at f2
      go_upto_region 6 with fail
      obtain ⟨z, hz⟩ : ∃ z : Nat, x + 1 = (z : Int) := Int.eq_ofNat_of_zero_le (by omega)
      have HZ := Lib.hid hz
      have hzn : z ≤ n := by omega
      obtain ⟨w1, hw1⟩ : ∃ W, W = wr.setCell ⟨b, L, none⟩ (.int .i64 (x + 1)) := ⟨_, rfl⟩
      have hxw1 : Ext w w1 := by rw [hw1]; exact Ext.setCell hx (by simp only; omega) _
      have h9 := HO.out.set L (.int .i64 (x + 1))
      rw [I_set, show (P ++ [x]).set L (x + 1) = P ++ [x + 1] from by rw [← HL.out]; exact set_app, ← hw1, hz] at h9
      have HO1 := Lib.hid h9
      rw [← hw1, hz]
      clear hw1 h9 f1 f2 f4 hz HO hx
      have hbl1 := HO1.out.lt.2
      obtain ⟨f1, f2, f4⟩ := own_oneJ HO1.out (P := Try.prog) 28 und_int64s cell_int64 L (by omega) (x := (L : Int)) rfl
      rw [show gi (P ++ [(z : Int)]) L = z from by rw [← HL.out]; exact gi_app2] at f2
      obtain ⟨R, hR⟩ : ∃ R, n = L + (R + 1) := ⟨n - L - 1, by omega⟩
      have HR := Lib.hid hR
      clear hR
      have HTop := Lib.hid (fun (O : List Int) (h1 : O.length ≤ n) (h2 : ∀ y ∈ O, y + 1 < ((n + 2 : Nat) : Int)) => show lval (n + 2) n O < M from by rw [HM.out]; exact lval_lt (by omega) n O h1 h2)
      have HStep := Lib.hid (fun (q' : List Int) (h : lval (n + 2) (R + 1) [x] < lval (n + 2) (R + 1) q') => show lval (n + 2) n (P ++ [x]) < lval (n + 2) n (P ++ q') from by
        have h1 := lval_app P (R + 1) h
        rw [HL.out, ← HR.out] at h1
        exact h1)
      by_cases hzn2 : z = n
      · have e1 : ((z : Int) == (n : Int)) = true := by simp [hzn2]
        obtain ⟨g1, ho2⟩ := HO1.out.preG (P := Try.prog) 28 und_int64s cell_int64 elem_int64s L (by omega)
        rw [show (I (P ++ [(z : Int)])).take L = I ((P ++ [(z : Int)]).take L) from by simp [I, List.map_take], show (P ++ [(z : Int)]).take L = P from by rw [← HL.out]; simp] at ho2
        have HO2 := Lib.hid ho2
        clear ho2
        have hc := HStep.out [] (lval_c (by omega) hx0 (by have := HZ.out; omega))
        rw [List.append_nil] at hc
        have ht := HTop.out P (by rw [HL.out]; omega) (fun y hy => by have := HI.out.pb y hy; omega)
        have HC := Lib.hid hc
        have HT := Lib.hid ht
        clear hc ht hzn2
        go_wp2_with fail
        go_roundg (M - lval (n + 2) n P)
        case measure => rw [HG.out]; have h1 := HC.out; have h2 := HT.out; omega
        case rel =>
          by_cases hL : L = 0
          · subst hL
            exact .inl ⟨b, oc, rfl, hxw1⟩
          · obtain ⟨K, rfl⟩ : ∃ K, L = K + 1 := ⟨L - 1, by omega⟩
            obtain ⟨P', y, rfl⟩ : ∃ P' y, P = P' ++ [y] := by
              have hne : P ≠ [] := fun h => by have := HL.out; rw [h] at this; simp at this
              exact ⟨P.dropLast, P.getLast hne, (List.dropLast_concat_getLast hne).symm⟩
            have hl' : P'.length = K := by have := HL.out; simp at this; exact this
            have hy := HI.out.pb y (by simp)
            refine .inr ⟨K, b, oc, P', y, rfl, hl', ⟨by have := HI.out.pl; simp at this; omega, fun z hz => HI.out.pb z (by simp [hz]), fun j hj => ?_, by omega, hy.2⟩, rfl, HO2.out, hxw1⟩
            exact fit_congr (HI.out.pf j (by simp; omega)) fun i hi => gi_app1 (by omega)
      · have e1 : ((z : Int) == (n : Int)) = false := by simp; omega
        have hbz : ∀ y ∈ P ++ [(z : Int)], 0 ≤ y ∧ y < (n : Int) := fun y hy => by
          rcases List.mem_append.1 hy with h | h
          · exact HI.out.pb y h
          · rw [List.mem_singleton.1 h]; omega
        have HBz := Lib.hid hbz
        have HFt := Lib.hid (spec_fits T n q L a c (some ⟨b, 0, none⟩) oc (P ++ [(z : Int)]) w1 (HV.out.ext hxw1) HSq.out HO1.out.ints hbz hLn n10 (fun w' h => hq w' (hxw1.trans h)))
        have ha := HStep.out [(z : Int)] (by rw [← HZ.out]; exact lval_a (by omega) hx0)
        have ht := HTop.out (P ++ [(z : Int)]) (by rw [List.length_append, HL.out]; exact hLn) (fun y hy => by have := hbz y hy; omega)
        have HA := Lib.hid ha
        have HT := Lib.hid ht
        clear ha ht hbz hzn2
        go_wp2_with fail
        refine HFt.out.mono ?_
        rintro e2 w2 ⟨bb, rfl, hfit, hx2⟩
        have hxw2 : Ext w w2 := hxw1.trans hx2
        have HO2 := Lib.hid (HO1.out.ext hx2)
        have HFit := Lib.hid hfit
        clear hfit
        cases bb
        · go_wp2_with fail
          go_roundg (M - lval (n + 2) n (P ++ [(z : Int)]))
          case measure => rw [HG.out]; have h1 := HA.out; have h2 := HT.out; omega
          case rel => exact .inr ⟨L, b, oc, P, z, rfl, HL.out, ⟨HI.out.pl, HI.out.pb, HI.out.pf, by omega, by have := HBz.out z (by simp); exact this.2⟩, rfl, HO2.out, hxw2⟩
        · have HAF := Lib.hid (show AllFit T (P ++ [(z : Int)]) (L + 1) from by
            have h1 := HFit.out rfl
            rw [← HL.out] at h1 ⊢
            exact allFit_snoc HI.out.pf h1)
          by_cases hLe : L + 1 = n
          · have e3 : ((L : Int) + 1 == (n : Int)) = true := by simp; omega
            have e4 : (((L + 1 : Nat) : Int) == (n : Int)) = true := by simp; omega
            have HA2 := Lib.hid (anti_of (T := T) (n := n) (O := P ++ [(z : Int)]) (by rw [List.length_append, HL.out]; exact hLe) HBz.out (by rw [← hLe]; exact HAF.out))
            have HLe := Lib.hid hLe
            clear hLe
            go_wp2_with fail
            exact bodyPost_ret (v := .tuple #[.slice (some ⟨b, 0, none⟩) (L + 1) oc, .bool true]) (by simp [results, Try.results16, go_sem]) rfl ⟨_, _, _, P ++ [(z : Int)], true, rfl, (fun _ => ⟨HLe.out, HA2.out, HO2.out.ints⟩), hxw2⟩
          · have e3 : ((L : Int) + 1 == (n : Int)) = false := by simp; omega
            have e4 : (((L + 1 : Nat) : Int) == (n : Int)) = false := by simp; omega
            obtain ⟨R', hR'⟩ : ∃ R', R = R' + 1 := ⟨R - 1, by have := HR.out; omega⟩
            have hb2 := HStep.out [(z : Int), -1] (by rw [hR', ← HZ.out]; exact lval_b (by omega) hx0)
            rw [show P ++ [(z : Int), -1] = (P ++ [(z : Int)]) ++ [-1] from by simp] at hb2
            have ht2 := HTop.out ((P ++ [(z : Int)]) ++ [-1]) (by rw [List.length_append, List.length_append, HL.out]; simp; omega) (fun y hy => by
              rcases List.mem_append.1 hy with h | h
              · have := HBz.out y h; omega
              · rw [List.mem_singleton.1 h]; omega)
            have HB2 := Lib.hid hb2
            have HT2 := Lib.hid ht2
            have hw2 := hxw2.le
            have hLn2 : L + 1 + 1 ≤ n := by omega
            clear hb2 ht2 hLe hR'
            go_wp2_with (at_builtin; refine law_append1 _ rfl _ _ 28 rfl 2 (.int .i64 0) 8 und_int64s info_int64 rfl w.heap.size (some ⟨b, 0, none⟩) (L + 1) oc _ _ rfl rfl rfl HO2.out hw2 (by omega) (by omega) ?_; intro rb rc w6 ho6 hb6 _; have hxo6 : Ext w w6 := Ext.below hxw2 hb6)
            obtain ⟨b6, rfl⟩ := Own.some ho6 (by omega)
            go_roundg (M - lval (n + 2) n ((P ++ [(z : Int)]) ++ [-1]))
            case measure => rw [HG.out]; have h1 := HB2.out; have h2 := HT2.out; omega
            case rel => exact .inr ⟨L + 1, b6, rc, P ++ [(z : Int)], -1, rfl, by rw [Hid, List.length_append, HL.out]; rfl, ⟨by rw [List.length_append, HL.out]; exact hLn2, HBz.out, by rw [List.length_append, HL.out]; exact HAF.out, by omega, by omega⟩, rfl, by rw [Hid, I_append]; exact ho6, hxo6⟩
end Go.Proofs.Ytohenfbgjjifbaa

/- Walks: the drawn group and its least antisymmetric order, in the reference. -/
namespace Go.Proofs.Ytohenfbgjjifbaa
set_option maxRecDepth 100000
open Go.RowKit

def RetLA (T : List (List Int)) (n : Nat) (w : World) (e : Ending) (w' : World) : Prop :=
  ∃ (oa : Option Addr) (m oc : Nat) (O : List Int) (b : Bool), e = .returned (.tuple #[.slice oa m oc, .bool b]) ∧ (b = true → m = n ∧ (∃ i, GrpT T n i) ∧ AntiT T n O ∧ Ints w' oa m oc O) ∧ Ext w w'
set_option maxHeartbeats 2000000 in
theorem spec_LeastAnti (T : List (List Int)) (n : Nat) (a : Option Addr) (c : Nat) (w : World) (hv : Mat w a n c T) (hs : SqT T n) (hn : n ≤ 10) : Calls Try.prog 6 #[.agg #[.slice a n c]] w (RetLA T n w) := by
  have HV := Lib.hid hv
  have HL1 := Lib.hid (show ∀ r ∈ T, r.length ≤ 1048576 from fun r hr => by
    obtain ⟨i, hi, rfl⟩ := List.mem_iff_getElem.1 hr
    have h1 := hs.len
    have := hs.row i (by omega)
    rw [gl_get hi] at this
    omega)
  clear hv hs
  go_enter Try.func6, Try.ntmps6
  go_wp2_with fail
  obtain ⟨q, hq⟩ : ∃ q, q = w.heap.size := ⟨_, rfl⟩
  obtain ⟨wb, hwb⟩ : ∃ W, W = w.alloc (.cells #[.slice a n c] 26) := ⟨_, rfl⟩
  have hxb : Ext w wb := by rw [hwb]; exact (by repeat (first | (with_reducible exact Ext.refl _) | (with_reducible refine Ext.drewN ?_ _) | (with_reducible refine Ext.drew ?_) | (with_reducible refine Ext.alloc ?_ _) | ((with_reducible refine Ext.setCell ?_ ?_ _); rotate_left; focus (first | (simp; done) | (simp; omega) | omega)) | assumption | (with_reducible refine Ext.trans ?_ (by assumption))))
  have HQ := Lib.hid (show SAt wb q 26 #[.slice a n c] from by rw [hwb, hq]; exact SAt.new' _ _ _ rfl)
  rw [← hwb, ← hq]
  clear hwb hq
  have k0 : ∀ w', Ext wb w' → w'.cell? ⟨q, 0, none⟩ = some (.slice a n c) := fun w' h => h.cell (HQ.out.cell 0 (by simp))
  have HI := Lib.hid (spec_is T n q a c wb (HV.out.ext hxb) (by omega) HL1.out k0)
  refine HI.out.mono ?_
  rintro e w1 ⟨b, rfl, hb, hx1⟩
  cases b
  · go_wp2_with fail
    exact bodyPost_ret (v := .tuple #[.slice none 0 0, .bool false]) (by simp [results, Try.results6, go_sem]) rfl ⟨none, 0, 0, [], false, rfl, (fun h => by cases h), hxb.trans hx1⟩
  · obtain ⟨i, hg⟩ := hb rfl
    have HG := Lib.hid hg
    have HLe := Lib.hid (spec_least T n i q a c w1 (HV.out.ext (hxb.trans hx1)) hg (fun w' h => k0 w' (hx1.trans h)))
    clear hg
    go_wp2_with fail
    refine HLe.out.mono ?_
    rintro e w2 ⟨oa, m, oc, O, bb, rfl, hO, hx2⟩
    have HO := Lib.hid hO
    clear hO
    go_wp2_with fail
    exact bodyPost_ret (v := .tuple #[.slice oa m oc, .bool bb]) (by simp [results, Try.results6, go_sem]) rfl ⟨oa, m, oc, O, bb, rfl, (fun h => ⟨(HO.out h).1, ⟨i, HG.out⟩, (HO.out h).2.1, (HO.out h).2.2⟩), (hxb.trans hx1).trans hx2⟩
def RetB10G (w : World) (e : Ending) (w' : World) : Prop :=
  ∃ (n : Nat) (a : Option Addr) (c : Nat) (T : List (List Int)), e = .returned (.agg #[.slice a n c]) ∧ n ≤ 10 ∧ SqT T n ∧ Mat w' a n c T ∧ Ext w w'
set_option maxHeartbeats 2000000 in
theorem spec_B10Group (a : Option Addr) (n0 c0 : Nat) (l : List UInt8) (w : World) (hv : Bytes w a n0 c0 l) (hn : n0 ≤ 4611686018427387904) : Calls Try.prog 5 #[.slice a n0 c0] w (RetB10G w) := by
  have HFr := Lib.hid (fun W (h : Ext w W) => from_b a n0 c0 l W (hv.ext h) hn)
  clear hv
  go_enter Try.func5, Try.ntmps5
  go_wp2_with fail
  obtain ⟨q, hq⟩ : ∃ q, q = w.heap.size := ⟨_, rfl⟩
  obtain ⟨wb, hwb⟩ : ∃ W, W = w.alloc (.cells #[.slice none 0 0] 26) := ⟨_, rfl⟩
  have hxb : Ext w wb := by rw [hwb]; exact (by repeat (first | (with_reducible exact Ext.refl _) | (with_reducible refine Ext.drewN ?_ _) | (with_reducible refine Ext.drew ?_) | (with_reducible refine Ext.alloc ?_ _) | ((with_reducible refine Ext.setCell ?_ ?_ _); rotate_left; focus (first | (simp; done) | (simp; omega) | omega)) | assumption | (with_reducible refine Ext.trans ?_ (by assumption))))
  have HQ := Lib.hid (show SAt wb q 26 #[.slice none 0 0] from by rw [hwb, hq]; exact SAt.new' _ _ _ rfl)
  have hwq : w.heap.size ≤ q := by omega
  rw [← hwb, ← hq]
  clear hwb hq
  refine (HFr.out _ hxb).mono ?_
  rintro e w1 ⟨rfl, hs1, hx1, hsz1⟩
  have HD := Lib.hid (spec_drawGrp wb.heap.size a n0 c0 l w1 hs1)
  have hle := hxb.le
  have hqb : q < wb.heap.size := HQ.out.lt
  have HQ1 := Lib.hid (HQ.out.ext hx1)
  clear hs1
  go_wp2_with fail
  refine HD.out.mono ?_
  rintro e w2 ⟨n, a2, c2, T, rfl, hg2, ht2⟩
  have HG2 := Lib.hid hg2
  have HQ2 := Lib.hid (HQ1.out.touchG ht2 (by omega))
  have hxw2 : Ext w w2 := Ext.touch (hxb.trans hx1) ht2 (by omega)
  have z0 := HQ2.out.cell 0 (by simp)
  have zf := HQ2.out.frozen 0
  have zl := HQ2.out.lt
  simp only [List.getElem_toArray, List.getElem_cons_zero] at z0
  clear hg2 ht2
  go_wp2_with fail
  refine bodyPost_ret (v := .agg #[.slice a2 n c2]) ?_ rfl ?_
  · simp [results, Try.results5, go_sem, z0]
  · exact ⟨n, a2, c2, T, rfl, HG2.out.n10, HG2.out.sq, (HG2.out.set (p := ⟨q, 0, none⟩) (.inl (by simp only; omega)) _).mat, ext_setG hxw2 hwq⟩
end Go.Proofs.Ytohenfbgjjifbaa
