/- Walks: the laws' helpers on slices of slices and on chains. -/
import Derived.Test.YtbcfbkhbangeoaaChW
import Derived.Test.YtbcfbkhbangeoaaStrs
import Derived.Test.YtbcfbkhbangeoaaMark
namespace Go.Proofs.Ytbcfbkhbangeoaa
set_option maxRecDepth 100000
open Go.RowKit

/-- how great lists and tables count -/
def szM (ll : List (List Int)) : Nat := ll.length + (ll.map List.length).sum
def szC (l : List (List (List Int))) : Nat := l.length + (l.map szM).sum
theorem sumN_step {α : Type} (f : α → Nat) (l : List α) (d : α) (k : Nat) (h : k < l.length) : ((l.take (k + 1)).map f).sum = ((l.take k).map f).sum + f (l.getD k d) := by
  rw [take_snoc l d k h]; simp
theorem sumN_le {α : Type} (f : α → Nat) : ∀ (l : List α) (k : Nat), ((l.take k).map f).sum ≤ (l.map f).sum
  | [], k => by simp
  | x :: xs, 0 => by simp
  | x :: xs, k + 1 => by have := sumN_le f xs k; simp only [List.take_succ_cons, List.map_cons, List.sum_cons]; omega
theorem sumN_mem {α : Type} (f : α → Nat) {l : List α} {x : α} (h : x ∈ l) : f x ≤ (l.map f).sum := by
  induction l with
  | nil => cases h
  | cons a l ih => rcases List.mem_cons.1 h with rfl | h
                   · simp only [List.map_cons, List.sum_cons]; omega
                   · have := ih h; simp only [List.map_cons, List.sum_cons]; omega
def BigM (ll : List (List Int)) : Prop := ∀ r ∈ ll, r.length ≤ 9223372036854775807
def BigC (l : List (List (List Int))) : Prop := ∀ t ∈ l, t.length ≤ 9223372036854775807 ∧ BigM t
theorem Own.setT {w : World} {B B' : Nat} {E E' : TypeId} {a : Option Addr} {g n c n' c' k : Nat} {vs vs' : List Value} (h : Own w B E a n c vs) (h' : Own w B' E' (Option.some ⟨g, 0, none⟩) n' c' vs') (u : Value) (hE : E ≠ E') :
    Own (w.setCell ⟨g, k, none⟩ u) B E a n c vs := h.other u fun g' hg' => own_ne_type h h' hE g' ⟨g, 0, none⟩ hg' rfl
theorem OwnMat.setT {w : World} {B B' : Nat} {E1 E0 E' : TypeId} {a : Option Addr} {g n c n' c' k : Nat} {ll : List (List Int)} {vs' : List Value} (h : OwnMat w B E1 E0 a n c ll) (h' : Own w B' E' (Option.some ⟨g, 0, none⟩) n' c' vs') (u : Value) (h1 : E1 ≠ E') (h0 : E0 ≠ E') :
    OwnMat (w.setCell ⟨g, k, none⟩ u) B E1 E0 a n c ll := ⟨h.len, let ⟨vs, g1, g2⟩ := h.rows; ⟨vs, g1.setT h' u h1, fun j hj => let ⟨a1, n1, c1, g3, g4⟩ := g2 j hj; ⟨a1, n1, c1, g3, g4.setT h' u h0⟩⟩⟩
theorem gv_set_ne {vs : List Value} {k j : Nat} {u : Value} (h : k ≠ j) : gv (vs.set k u) j = gv vs j := by
  simp [gv, List.getD_eq_getElem?_getD, List.getElem?_set_ne h]
theorem gv_set_eq {vs : List Value} {k : Nat} {u : Value} (h : k < vs.length) : gv (vs.set k u) k = u := by
  simp [gv, List.getD_eq_getElem?_getD, h]
theorem eqIntsR (a a' : Option Addr) (n c c' : Nat) (l : List Int) (w : World) (hv : Ints w a n c l) (hv' : Ints w a' n c' l) (hn : n ≤ 4611686018427387904) :
    Calls Try.prog 45 #[.slice a n c, .slice a' n c'] w (Ret (.bool true) w) := by
  have h := eqInts a a' n n c c' l l w hv hv' hn hn
  rw [show decide (l = l) = true by simp] at h
  exact h.mono fun _ _ h => h.ret
/-- a fresh slice of lists -/
def RetMat (ll : List (List Int)) (w : World) (e : Ending) (w' : World) : Prop := ∃ a c, e = .returned (.slice a ll.length c) ∧ OwnMat w' w.heap.size 23 2 a ll.length c ll ∧ Ext w w'
def RetCube (l : List (List (List Int))) (w : World) (e : Ending) (w' : World) : Prop := ∃ a c, e = .returned (.slice a l.length c) ∧ OwnCube w' w.heap.size 81 23 2 a l.length c l ∧ Ext w w'
set_option maxHeartbeats 1000000 in
theorem toSS (a : Option Addr) (n c : Nat) (ll : List (List Int)) (w : World) (hv : Mat w a n c ll) (hn : n ≤ 4194304) (hsm : (∀ r ∈ ll, r.length ≤ 4194304)) :
    Calls Try.prog 69 #[.slice a n c] w (RetMat ll w) := by
  have HV := Lib.hid hv
  have HL := Lib.hid hv.len
  have Hhsm := Lib.hid hsm; clear hsm
  clear hv
  go_enter Try.func69, Try.ntmps69
  go_wp2_with (at_make; refine law_make _ rfl _ _ 81 rfl 23 (.slice none 0 0) 24 und_rows info_row1 rfl _ _ n rfl rfl (by omega) (by unfold maxLen; omega) ?_; intro w1 hown hx hsz)
  obtain ⟨g, hg⟩ : ∃ g, g = w.heap.size := ⟨_, rfl⟩
  rw [← hg] at hown
  rw [← hg]
  have HG := Lib.hid hg
  have HOW := Lib.hid hown
  clear hg hown
  go_wp2
  go_loopw [4] (fun i wr => ∃ (k : Nat) (vs : List Value), k ≤ n ∧ i = .int .i64 k ∧ Own wr w.heap.size 23 (some ⟨g, 0, none⟩) n n vs ∧ (∀ j, j < k → ∃ a2 n2 c2, gv vs j = .slice a2 n2 c2 ∧ Own wr w.heap.size 2 a2 n2 c2 (I (gl ll j))) ∧ Ext w wr) (fun i _ => n - (intOf i).toNat)
  case atStart => exact ⟨0, _, Nat.zero_le _, rfl, HOW.out.mono (by rw [HG.out]; exact Nat.le_refl _), (fun j hj => by omega), hx⟩
  case round =>
    obtain ⟨k, vs, hk, rfl, ho, hps, hxr⟩ := hrel
    have HO := Lib.hid ho
    have hxq : Ext w wr := hxr
    have Hhps := Lib.hid hps; clear hps
    clear ho
    by_cases hlt : k < n
    · obtain ⟨b, off, a2, n2, c2, ⟨f1, f2⟩, hi2⟩ := HV.out.one (P := Try.prog) 81 23 und_rows cell_row1 (k : Int) (by omega) (by omega)
      rw [show (k : Int).toNat = k by omega] at hi2
      obtain ⟨hia', hcell', hfr⟩ := HO.out.at (P := Try.prog) 81 und_rows cell_row1 k hlt .i64
      have hgB := HO.out.lt
      obtain ⟨y, hyy⟩ : ∃ y, y = vs.getD k undef := ⟨_, rfl⟩
      rw [← hyy] at hcell'
      clear hyy
      have HL2 := Lib.hid hi2.len
      have HC := Lib.hid (toInts a2 n2 c2 (gl ll k) wr (hi2.ext hxr) (by rw [← HL2.out]; exact Hhsm.out _ (gl_mem (by rw [HL.out]; exact hlt))))
      have Hhi2 := Lib.hid hi2; clear hi2
      go_wp2_with fail
      refine HC.out.mono ?_
      rintro e w5 ⟨a5, c5, rfl, ho5, hx5⟩
      rw [I_len, HL2.out] at ho5 ⊢
      have hxw5 : Ext w w5 := hxr.trans hx5
      have HO5 := Lib.hid (HO.out.ext hx5)
      obtain ⟨hia5, hcell5, hfr5⟩ := HO5.out.at (P := Try.prog) 81 und_rows cell_row1 k hlt .i64
      obtain ⟨y5, hyy5⟩ : ∃ y, y = vs.getD k undef := ⟨_, rfl⟩
      rw [← hyy5] at hcell5
      have HN5 := Lib.hid (ho5.mono hxr.le)
      clear ho5 hcell' hfr hyy5
      go_wp2
      refine ⟨⟨k + 1, vs.set k (.slice a5 n2 c5), by omega, by go_num, HO5.out.set k _, (fun j hj => ?_), hxw5.setCell hgB.1 _⟩, by simp [intOf]; omega⟩
      by_cases e : k = j
      · subst e
        exact ⟨a5, n2, c5, gv_set_eq (by rw [HO.out.len]; exact hlt), HN5.out.setT (k := k) HO5.out (.slice a5 n2 c5) (by decide)⟩
      · obtain ⟨a1, n1, c1, h1, h2⟩ := Hhps.out j (by omega)
        have h2 := h2.ext hx5
        exact ⟨a1, n1, c1, (gv_set_ne e).trans h1, (h2.setT (k := k) HO5.out (.slice a5 n2 c5) (by decide))⟩
    · obtain rfl : k = n := by omega
      go_wp2
      go_ret
      exact ⟨_, _, by rw [HL.out]; rfl, by rw [HL.out]; exact ⟨HL.out, vs, HO.out, Hhps.out⟩, hxr⟩
set_option maxHeartbeats 1000000 in
theorem eqSS (a a' : Option Addr) (n c c' : Nat) (ll : List (List Int)) (w : World) (hv : Mat w a n c ll) (hv' : Mat w a' n c' ll) (hn : n ≤ 4194304) (hsm : (∀ r ∈ ll, r.length ≤ 4194304)) :
    Calls Try.prog 84 #[.slice a n c, .slice a' n c'] w (Ret (.bool true) w) := by
  have HV := Lib.hid hv
  have HV' := Lib.hid hv'
  have HL := Lib.hid hv.len
  have Hhsm := Lib.hid hsm; clear hsm
  clear hv hv'
  go_enter Try.func84, Try.ntmps84
  go_wp2
  go_loopw [5] (fun i wr => ∃ k : Nat, k ≤ n ∧ i = .int .i64 k ∧ Ext w wr) (fun i _ => n - (intOf i).toNat)
  case atStart => exact ⟨0, Nat.zero_le _, rfl, Ext.refl _⟩
  case round =>
    obtain ⟨k, hk, rfl, hx⟩ := hrel
    have hxr : Ext w wr := hx
    by_cases hlt : k < n
    · obtain ⟨b, off, a2, n2, c2, ⟨f1, f2⟩, hi2⟩ := HV.out.one (P := Try.prog) 81 23 und_rows cell_row1 (k : Int) (by omega) (by omega)
      obtain ⟨b', off', a3, n3, c3, ⟨f3, f4⟩, hi3⟩ := HV'.out.one (P := Try.prog) 81 23 und_rows cell_row1 (k : Int) (by omega) (by omega)
      rw [show (k : Int).toNat = k by omega] at hi2 hi3
      have e23 : n3 = n2 := by rw [← hi2.len, ← hi3.len]
      subst e23
      have HL2 := Lib.hid hi2.len
      have h9 : n3 ≤ 4194304 := by rw [← HL2.out]; exact Hhsm.out _ (gl_mem (by rw [HL.out]; exact hlt))
      have HI2 := Lib.hid hi2
      have HI3 := Lib.hid hi3
      clear hi2 hi3
      go_wp2
      (refine wp_region_from w (by repeat (first | (with_reducible exact Ext.refl _) | (with_reducible refine Ext.drewN ?_ _) | (with_reducible refine Ext.drew ?_) | (with_reducible refine Ext.alloc ?_ _) | ((with_reducible refine Ext.setCell ?_ ?_ _); rotate_left; focus (first | (simp; done) | (simp; omega) | omega)) | assumption | (with_reducible refine Ext.trans ?_ (by assumption)))) (by kernel_rfl) (by kernel_rfl) (by kernel_rfl) ?_; (repeat (first | (refine mix_q rfl ?_; go_big_quiet_step (fail); refine wpQuiet_nil ?_; show wpMix _ _ _ _ _ _ _) | (refine mix_s rfl ?_; go_wp2_with ((((with_reducible refine (eqIntsR a2 a3 n3 c2 c3 (gl ll k) _ (HI2.out.ext (by repeat (first | (with_reducible exact Ext.refl _) | (with_reducible refine Ext.drewN ?_ _) | (with_reducible refine Ext.drew ?_) | (with_reducible refine Ext.alloc ?_ _) | ((with_reducible refine Ext.setCell ?_ ?_ _); rotate_left; focus (first | (simp; done) | (simp; omega) | omega)) | assumption | (with_reducible refine Ext.trans ?_ (by assumption))))) (HI3.out.ext (by repeat (first | (with_reducible exact Ext.refl _) | (with_reducible refine Ext.drewN ?_ _) | (with_reducible refine Ext.drew ?_) | (with_reducible refine Ext.alloc ?_ _) | ((with_reducible refine Ext.setCell ?_ ?_ _); rotate_left; focus (first | (simp; done) | (simp; omega) | omega)) | assumption | (with_reducible refine Ext.trans ?_ (by assumption))))) (by omega)).mono ?_); rintro e w1 ⟨rfl, hy1⟩; have hxw1 : Ext w w1 := Ext.trans (by repeat (first | (with_reducible exact Ext.refl _) | (with_reducible refine Ext.drewN ?_ _) | (with_reducible refine Ext.drew ?_) | (with_reducible refine Ext.alloc ?_ _) | ((with_reducible refine Ext.setCell ?_ ?_ _); rotate_left; focus (first | (simp; done) | (simp; omega) | omega)) | assumption | (with_reducible refine Ext.trans ?_ (by assumption)))) hy1; have hz1 := hy1; clear hy1))); first | refine ⟨up_of (by repeat (first | (with_reducible exact Ext.refl _) | (with_reducible refine Ext.drewN ?_ _) | (with_reducible refine Ext.drew ?_) | (with_reducible refine Ext.alloc ?_ _) | ((with_reducible refine Ext.setCell ?_ ?_ _); rotate_left; focus (first | (simp; done) | (simp; omega) | omega)) | assumption | (with_reducible refine Ext.trans ?_ (by assumption)))), ?_⟩ | refine ⟨rfl, rfl, up_of (by repeat (first | (with_reducible exact Ext.refl _) | (with_reducible refine Ext.drewN ?_ _) | (with_reducible refine Ext.drew ?_) | (with_reducible refine Ext.alloc ?_ _) | ((with_reducible refine Ext.setCell ?_ ?_ _); rotate_left; focus (first | (simp; done) | (simp; omega) | omega)) | assumption | (with_reducible refine Ext.trans ?_ (by assumption)))), ?_⟩))); refine mix_nil ?_)
      go_wp2
      exact ⟨⟨k + 1, by omega, by go_num, (by repeat (first | (with_reducible exact Ext.refl _) | (with_reducible refine Ext.drewN ?_ _) | (with_reducible refine Ext.drew ?_) | (with_reducible refine Ext.alloc ?_ _) | ((with_reducible refine Ext.setCell ?_ ?_ _); rotate_left; focus (first | (simp; done) | (simp; omega) | omega)) | assumption | (with_reducible refine Ext.trans ?_ (by assumption))))⟩, by simp [intOf]; omega⟩
    · go_wp2
      go_ret
      exact ⟨rfl, hx⟩
set_option maxHeartbeats 1000000 in
theorem szSS (a : Option Addr) (n c : Nat) (ll : List (List Int)) (left : Int) (w : World) (hv : Mat w a n c ll) (hn : n ≤ 9223372036854775807) (hm : BigM ll) (h0 : 0 ≤ left) (h1 : left ≤ 1048576) :
    Calls Try.prog 61 #[.slice a n c, .int .i64 left] w (Ret (.int .i64 (leftOf left (szM ll))) w) := by
  have HL := Lib.hid hv.len
  have HV := Lib.hid hv
  have Hhm := Lib.hid hm; clear hm
  clear hv
  have HZ := Lib.hid (show szM ll = n + (ll.map List.length).sum by unfold szM; rw [HL.out])
  by_cases hs : left < n
  · have HF := Lib.hid (show leftOf left (szM ll) = -1 by unfold leftOf; rw [if_pos (by rw [HZ.out]; omega)])
    go_enter Try.func61, Try.ntmps61
    go_wp2
    go_ret
    exact ⟨ri HF.out.symm, Ext.refl _⟩
  · go_enter Try.func61, Try.ntmps61
    go_wp2
    go_loopw [1, 5] (fun v i wr => ∃ (k m : Nat), k ≤ n ∧ i = .int .i64 k ∧ v = .int .i64 (left - n - m) ∧ Hid (m = ((ll.take k).map List.length).sum) ∧ (n : Int) + m ≤ left ∧ Ext w wr) (fun _ i _ => n - (intOf i).toNat)
    case atStart => exact ⟨0, 0, Nat.zero_le _, rfl, by simp, rfl, by omega, Ext.refl _⟩
    case round =>
      obtain ⟨k, m, hk, rfl, rfl, HM2, hml, hx⟩ := hrel
      have hxr : Ext w wr := hx
      by_cases hlt : k < n
      · obtain ⟨b, off, a2, n2, c2, ⟨f1, f2⟩, hi2⟩ := HV.out.one (P := Try.prog) 81 23 und_rows cell_row1 (k : Int) (by omega) (by omega)
        rw [show (k : Int).toNat = k by omega] at hi2
        have HS := Lib.hid (sumN_step List.length ll [] k (by rw [HL.out]; exact hlt))
        have HLe := Lib.hid (sumN_le List.length ll (k + 1))
        have hm2 : n2 ≤ 9223372036854775807 := by rw [← hi2.len]; exact Hhm.out _ (gl_mem (by rw [HL.out]; exact hlt))
        have HE2 := Lib.hid (show (ll.getD k []).length = n2 from hi2.len)
        have HC := Lib.hid (szInts a2 n2 c2 (left - n - m) wr hm2 (by omega) (by omega))
        rw [show (if left - n - m < (n2 : Int) then -1 else left - n - m - (n2 : Int)) = leftOf (left - n - m) n2 from rfl] at HC
        clear hi2
        by_cases hs2 : left - n - m < n2
        · have HX := Lib.hid (show leftOf (left - n - m) (n2) = -1 by unfold leftOf; rw [if_pos hs2])
          have HF := Lib.hid (show leftOf left (szM ll) = -1 by
            unfold leftOf; rw [if_pos]
            have e1 := HS.out; have e2 := HLe.out; have e3 := HM2.out; have e4 := HZ.out; have e5 := HE2.out
            omega)
          rw [HX.out] at HC
          go_wp2_with (refine HC.out.mono ?_; rintro e w9 ⟨rfl, rfl⟩)
          go_ret
          exact ⟨ri HF.out.symm, (by repeat (first | (with_reducible exact Ext.refl _) | (with_reducible refine Ext.drewN ?_ _) | (with_reducible refine Ext.drew ?_) | (with_reducible refine Ext.alloc ?_ _) | ((with_reducible refine Ext.setCell ?_ ?_ _); rotate_left; focus (first | (simp; done) | (simp; omega) | omega)) | assumption | (with_reducible refine Ext.trans ?_ (by assumption))))⟩
        · have HX := Lib.hid (show leftOf (left - n - m) (n2) = left - n - ((m + n2 : Nat) : Int) by unfold leftOf; rw [if_neg hs2]; omega)
          rw [HX.out] at HC
          generalize n2 = z at *
          have HN := Lib.hid (show ((m + z : Nat) : Int) = (m : Int) + z by omega)
          rw [HN.out] at HC
          go_wp2_with (refine HC.out.mono ?_; rintro e w9 ⟨rfl, rfl⟩)
          exact ⟨⟨k + 1, m + z, by omega, by go_num, by rw [HN.out], by have e1 := HS.out; have e3 := HM2.out; have e5 := HE2.out; show _ = _; omega, by omega, (by repeat (first | (with_reducible exact Ext.refl _) | (with_reducible refine Ext.drewN ?_ _) | (with_reducible refine Ext.drew ?_) | (with_reducible refine Ext.alloc ?_ _) | ((with_reducible refine Ext.setCell ?_ ?_ _); rotate_left; focus (first | (simp; done) | (simp; omega) | omega)) | assumption | (with_reducible refine Ext.trans ?_ (by assumption))))⟩, by simp [intOf]; omega⟩
      · obtain rfl : k = n := by omega
        have HF := Lib.hid (show leftOf left (szM ll) = left - k - m by
          have e1 := HM2.out
          rw [take_full (by rw [HL.out]; exact Nat.le_refl _)] at e1
          have e4 := HZ.out
          unfold leftOf; rw [if_neg (by omega)]; omega)
        go_wp2
        go_ret
        exact ⟨ri HF.out.symm, hx⟩
set_option maxHeartbeats 1000000 in
theorem toSSS (a : Option Addr) (n c : Nat) (ll : List (List (List Int))) (w : World) (hv : Cube w a n c ll) (hn : n ≤ 4194304) (hsm : (∀ t ∈ ll, t.length ≤ 4194304 ∧ ∀ r ∈ t, r.length ≤ 4194304)) :
    Calls Try.prog 31 #[.slice a n c] w (RetCube ll w) := by
  have HV := Lib.hid hv
  have HL := Lib.hid hv.len
  have Hhsm := Lib.hid hsm; clear hsm
  clear hv
  go_enter Try.func31, Try.ntmps31
  go_wp2_with (at_make; refine law_make _ rfl _ _ 22 rfl 81 (.slice none 0 0) 24 und_tabs info_tab1 rfl _ _ n rfl rfl (by omega) (by unfold maxLen; omega) ?_; intro w1 hown hx hsz)
  obtain ⟨g, hg⟩ : ∃ g, g = w.heap.size := ⟨_, rfl⟩
  rw [← hg] at hown
  rw [← hg]
  have HG := Lib.hid hg
  have HOW := Lib.hid hown
  clear hg hown
  go_wp2
  go_loopw [4] (fun i wr => ∃ (k : Nat) (vs : List Value), k ≤ n ∧ i = .int .i64 k ∧ Own wr w.heap.size 81 (some ⟨g, 0, none⟩) n n vs ∧ (∀ j, j < k → ∃ a2 n2 c2, gv vs j = .slice a2 n2 c2 ∧ OwnMat wr w.heap.size 23 2 a2 n2 c2 (gm ll j)) ∧ Ext w wr) (fun i _ => n - (intOf i).toNat)
  case atStart => exact ⟨0, _, Nat.zero_le _, rfl, HOW.out.mono (by rw [HG.out]; exact Nat.le_refl _), (fun j hj => by omega), hx⟩
  case round =>
    obtain ⟨k, vs, hk, rfl, ho, hps, hxr⟩ := hrel
    have HO := Lib.hid ho
    have hxq : Ext w wr := hxr
    have Hhps := Lib.hid hps; clear hps
    clear ho
    by_cases hlt : k < n
    · obtain ⟨b, off, a2, n2, c2, ⟨f1, f2⟩, hi2⟩ := HV.out.one (P := Try.prog) 22 81 und_tabs cell_tab1 (k : Int) (by omega) (by omega)
      rw [show (k : Int).toNat = k by omega] at hi2
      obtain ⟨hia', hcell', hfr⟩ := HO.out.at (P := Try.prog) 22 und_tabs cell_tab1 k hlt .i64
      have hgB := HO.out.lt
      obtain ⟨y, hyy⟩ : ∃ y, y = vs.getD k undef := ⟨_, rfl⟩
      rw [← hyy] at hcell'
      clear hyy
      have HL2 := Lib.hid hi2.len
      have HC := Lib.hid (toSS a2 n2 c2 (gm ll k) wr (hi2.ext hxr) (by rw [← HL2.out]; exact (Hhsm.out _ (gm_mem (by rw [HL.out]; exact hlt))).1) (Hhsm.out _ (gm_mem (by rw [HL.out]; exact hlt))).2)
      have Hhi2 := Lib.hid hi2; clear hi2
      go_wp2_with fail
      refine HC.out.mono ?_
      rintro e w5 ⟨a5, c5, rfl, ho5, hx5⟩
      rw [HL2.out] at ho5 ⊢
      have hxw5 : Ext w w5 := hxr.trans hx5
      have HO5 := Lib.hid (HO.out.ext hx5)
      obtain ⟨hia5, hcell5, hfr5⟩ := HO5.out.at (P := Try.prog) 22 und_tabs cell_tab1 k hlt .i64
      obtain ⟨y5, hyy5⟩ : ∃ y, y = vs.getD k undef := ⟨_, rfl⟩
      rw [← hyy5] at hcell5
      have HN5 := Lib.hid (ho5.mono hxr.le)
      clear ho5 hcell' hfr hyy5
      go_wp2
      refine ⟨⟨k + 1, vs.set k (.slice a5 n2 c5), by omega, by go_num, HO5.out.set k _, (fun j hj => ?_), hxw5.setCell hgB.1 _⟩, by simp [intOf]; omega⟩
      by_cases e : k = j
      · subst e
        exact ⟨a5, n2, c5, gv_set_eq (by rw [HO.out.len]; exact hlt), HN5.out.setT (k := k) HO5.out (.slice a5 n2 c5) (by decide) (by decide)⟩
      · obtain ⟨a1, n1, c1, h1, h2⟩ := Hhps.out j (by omega)
        have h2 := h2.ext hx5
        exact ⟨a1, n1, c1, (gv_set_ne e).trans h1, (h2.setT (k := k) HO5.out (.slice a5 n2 c5) (by decide) (by decide))⟩
    · obtain rfl : k = n := by omega
      go_wp2
      go_ret
      exact ⟨_, _, by rw [HL.out]; rfl, by rw [HL.out]; exact ⟨HL.out, vs, HO.out, Hhps.out⟩, hxr⟩
set_option maxHeartbeats 1000000 in
theorem eqSSS (a a' : Option Addr) (n c c' : Nat) (ll : List (List (List Int))) (w : World) (hv : Cube w a n c ll) (hv' : Cube w a' n c' ll) (hn : n ≤ 4194304) (hsm : (∀ t ∈ ll, t.length ≤ 4194304 ∧ ∀ r ∈ t, r.length ≤ 4194304)) :
    Calls Try.prog 44 #[.slice a n c, .slice a' n c'] w (Ret (.bool true) w) := by
  have HV := Lib.hid hv
  have HV' := Lib.hid hv'
  have HL := Lib.hid hv.len
  have Hhsm := Lib.hid hsm; clear hsm
  clear hv hv'
  go_enter Try.func44, Try.ntmps44
  go_wp2
  go_loopw [5] (fun i wr => ∃ k : Nat, k ≤ n ∧ i = .int .i64 k ∧ Ext w wr) (fun i _ => n - (intOf i).toNat)
  case atStart => exact ⟨0, Nat.zero_le _, rfl, Ext.refl _⟩
  case round =>
    obtain ⟨k, hk, rfl, hx⟩ := hrel
    have hxr : Ext w wr := hx
    by_cases hlt : k < n
    · obtain ⟨b, off, a2, n2, c2, ⟨f1, f2⟩, hi2⟩ := HV.out.one (P := Try.prog) 22 81 und_tabs cell_tab1 (k : Int) (by omega) (by omega)
      obtain ⟨b', off', a3, n3, c3, ⟨f3, f4⟩, hi3⟩ := HV'.out.one (P := Try.prog) 22 81 und_tabs cell_tab1 (k : Int) (by omega) (by omega)
      rw [show (k : Int).toNat = k by omega] at hi2 hi3
      have e23 : n3 = n2 := by rw [← hi2.len, ← hi3.len]
      subst e23
      have HL2 := Lib.hid hi2.len
      have h9 : n3 ≤ 4194304 := by rw [← HL2.out]; exact (Hhsm.out _ (gm_mem (by rw [HL.out]; exact hlt))).1
      have Hsm2 := Lib.hid (Hhsm.out _ (gm_mem (by rw [HL.out]; exact hlt))).2
      have HI2 := Lib.hid hi2
      have HI3 := Lib.hid hi3
      clear hi2 hi3
      go_wp2
      (refine wp_region_from w (by repeat (first | (with_reducible exact Ext.refl _) | (with_reducible refine Ext.drewN ?_ _) | (with_reducible refine Ext.drew ?_) | (with_reducible refine Ext.alloc ?_ _) | ((with_reducible refine Ext.setCell ?_ ?_ _); rotate_left; focus (first | (simp; done) | (simp; omega) | omega)) | assumption | (with_reducible refine Ext.trans ?_ (by assumption)))) (by kernel_rfl) (by kernel_rfl) (by kernel_rfl) ?_; (repeat (first | (refine mix_q rfl ?_; go_big_quiet_step (fail); refine wpQuiet_nil ?_; show wpMix _ _ _ _ _ _ _) | (refine mix_s rfl ?_; go_wp2_with ((((with_reducible refine (eqSS a2 a3 n3 c2 c3 (gm ll k) _ (HI2.out.ext (by repeat (first | (with_reducible exact Ext.refl _) | (with_reducible refine Ext.drewN ?_ _) | (with_reducible refine Ext.drew ?_) | (with_reducible refine Ext.alloc ?_ _) | ((with_reducible refine Ext.setCell ?_ ?_ _); rotate_left; focus (first | (simp; done) | (simp; omega) | omega)) | assumption | (with_reducible refine Ext.trans ?_ (by assumption))))) (HI3.out.ext (by repeat (first | (with_reducible exact Ext.refl _) | (with_reducible refine Ext.drewN ?_ _) | (with_reducible refine Ext.drew ?_) | (with_reducible refine Ext.alloc ?_ _) | ((with_reducible refine Ext.setCell ?_ ?_ _); rotate_left; focus (first | (simp; done) | (simp; omega) | omega)) | assumption | (with_reducible refine Ext.trans ?_ (by assumption))))) (by omega) Hsm2.out).mono ?_); rintro e w1 ⟨rfl, hy1⟩; have hxw1 : Ext w w1 := Ext.trans (by repeat (first | (with_reducible exact Ext.refl _) | (with_reducible refine Ext.drewN ?_ _) | (with_reducible refine Ext.drew ?_) | (with_reducible refine Ext.alloc ?_ _) | ((with_reducible refine Ext.setCell ?_ ?_ _); rotate_left; focus (first | (simp; done) | (simp; omega) | omega)) | assumption | (with_reducible refine Ext.trans ?_ (by assumption)))) hy1; have hz1 := hy1; clear hy1))); first | refine ⟨up_of (by repeat (first | (with_reducible exact Ext.refl _) | (with_reducible refine Ext.drewN ?_ _) | (with_reducible refine Ext.drew ?_) | (with_reducible refine Ext.alloc ?_ _) | ((with_reducible refine Ext.setCell ?_ ?_ _); rotate_left; focus (first | (simp; done) | (simp; omega) | omega)) | assumption | (with_reducible refine Ext.trans ?_ (by assumption)))), ?_⟩ | refine ⟨rfl, rfl, up_of (by repeat (first | (with_reducible exact Ext.refl _) | (with_reducible refine Ext.drewN ?_ _) | (with_reducible refine Ext.drew ?_) | (with_reducible refine Ext.alloc ?_ _) | ((with_reducible refine Ext.setCell ?_ ?_ _); rotate_left; focus (first | (simp; done) | (simp; omega) | omega)) | assumption | (with_reducible refine Ext.trans ?_ (by assumption)))), ?_⟩))); refine mix_nil ?_)
      go_wp2
      exact ⟨⟨k + 1, by omega, by go_num, (by repeat (first | (with_reducible exact Ext.refl _) | (with_reducible refine Ext.drewN ?_ _) | (with_reducible refine Ext.drew ?_) | (with_reducible refine Ext.alloc ?_ _) | ((with_reducible refine Ext.setCell ?_ ?_ _); rotate_left; focus (first | (simp; done) | (simp; omega) | omega)) | assumption | (with_reducible refine Ext.trans ?_ (by assumption))))⟩, by simp [intOf]; omega⟩
    · go_wp2
      go_ret
      exact ⟨rfl, hx⟩
set_option maxHeartbeats 1000000 in
theorem szSSS (a : Option Addr) (n c : Nat) (ll : List (List (List Int))) (left : Int) (w : World) (hv : Cube w a n c ll) (hn : n ≤ 9223372036854775807) (hm : BigC ll) (h0 : 0 ≤ left) (h1 : left ≤ 1048576) :
    Calls Try.prog 23 #[.slice a n c, .int .i64 left] w (Ret (.int .i64 (leftOf left (szC ll))) w) := by
  have HL := Lib.hid hv.len
  have HV := Lib.hid hv
  have Hhm := Lib.hid hm; clear hm
  clear hv
  have HZ := Lib.hid (show szC ll = n + (ll.map szM).sum by unfold szC; rw [HL.out])
  by_cases hs : left < n
  · have HF := Lib.hid (show leftOf left (szC ll) = -1 by unfold leftOf; rw [if_pos (by rw [HZ.out]; omega)])
    go_enter Try.func23, Try.ntmps23
    go_wp2
    go_ret
    exact ⟨ri HF.out.symm, Ext.refl _⟩
  · go_enter Try.func23, Try.ntmps23
    go_wp2
    go_loopw [1, 5] (fun v i wr => ∃ (k m : Nat), k ≤ n ∧ i = .int .i64 k ∧ v = .int .i64 (left - n - m) ∧ Hid (m = ((ll.take k).map szM).sum) ∧ (n : Int) + m ≤ left ∧ Ext w wr) (fun _ i _ => n - (intOf i).toNat)
    case atStart => exact ⟨0, 0, Nat.zero_le _, rfl, by simp, rfl, by omega, Ext.refl _⟩
    case round =>
      obtain ⟨k, m, hk, rfl, rfl, HM2, hml, hx⟩ := hrel
      have hxr : Ext w wr := hx
      by_cases hlt : k < n
      · obtain ⟨b, off, a2, n2, c2, ⟨f1, f2⟩, hi2⟩ := HV.out.one (P := Try.prog) 22 81 und_tabs cell_tab1 (k : Int) (by omega) (by omega)
        rw [show (k : Int).toNat = k by omega] at hi2
        have HS := Lib.hid (sumN_step szM ll [] k (by rw [HL.out]; exact hlt))
        have HLe := Lib.hid (sumN_le szM ll (k + 1))
        have HE2 := Lib.hid (show szM (ll.getD k []) = szM (gm ll k) from rfl)
        have hb := Hhm.out _ (gm_mem (l := ll) (k := k) (by rw [HL.out]; exact hlt))
        have HC := Lib.hid (szSS a2 n2 c2 (gm ll k) (left - n - m) wr (hi2.ext hx) (by rw [← hi2.len]; exact hb.1) hb.2 (by omega) (by omega))
        clear hb
        clear hi2
        by_cases hs2 : left - n - m < szM (gm ll k)
        · have HX := Lib.hid (show leftOf (left - n - m) (szM (gm ll k)) = -1 by unfold leftOf; rw [if_pos hs2])
          have HF := Lib.hid (show leftOf left (szC ll) = -1 by
            unfold leftOf; rw [if_pos]
            have e1 := HS.out; have e2 := HLe.out; have e3 := HM2.out; have e4 := HZ.out; have e5 := HE2.out
            omega)
          rw [HX.out] at HC
          go_wp2_with (refine HC.out.mono ?_; rintro e w9 ⟨rfl, hy9⟩)
          go_ret
          exact ⟨ri HF.out.symm, (by repeat (first | (with_reducible exact Ext.refl _) | (with_reducible refine Ext.drewN ?_ _) | (with_reducible refine Ext.drew ?_) | (with_reducible refine Ext.alloc ?_ _) | ((with_reducible refine Ext.setCell ?_ ?_ _); rotate_left; focus (first | (simp; done) | (simp; omega) | omega)) | assumption | (with_reducible refine Ext.trans ?_ (by assumption))))⟩
        · have HX := Lib.hid (show leftOf (left - n - m) (szM (gm ll k)) = left - n - ((m + szM (gm ll k) : Nat) : Int) by unfold leftOf; rw [if_neg hs2]; omega)
          rw [HX.out] at HC
          generalize szM (gm ll k) = z at *
          have HN := Lib.hid (show ((m + z : Nat) : Int) = (m : Int) + z by omega)
          rw [HN.out] at HC
          go_wp2_with (refine HC.out.mono ?_; rintro e w9 ⟨rfl, hy9⟩)
          exact ⟨⟨k + 1, m + z, by omega, by go_num, by rw [HN.out], by have e1 := HS.out; have e3 := HM2.out; have e5 := HE2.out; show _ = _; omega, by omega, (by repeat (first | (with_reducible exact Ext.refl _) | (with_reducible refine Ext.drewN ?_ _) | (with_reducible refine Ext.drew ?_) | (with_reducible refine Ext.alloc ?_ _) | ((with_reducible refine Ext.setCell ?_ ?_ _); rotate_left; focus (first | (simp; done) | (simp; omega) | omega)) | assumption | (with_reducible refine Ext.trans ?_ (by assumption))))⟩, by simp [intOf]; omega⟩
      · obtain rfl : k = n := by omega
        have HF := Lib.hid (show leftOf left (szC ll) = left - k - m by
          have e1 := HM2.out
          rw [take_full (by rw [HL.out]; exact Nat.le_refl _)] at e1
          have e4 := HZ.out
          unfold leftOf; rw [if_neg (by omega)]; omega)
        go_wp2
        go_ret
        exact ⟨ri HF.out.symm, hx⟩
/-- a chain of the call's own -/
def RetChL (D : Ch) (w : World) (e : Ending) (w' : World) : Prop :=
  ∃ a c a' c', e = .returned (.agg #[.int .i64 D.base, .int .i64 D.states, .int .i64 D.start, .int .i64 D.fin, .slice a D.tabs.length c, .slice a' D.places.length c']) ∧ OwnCube w' w.heap.size 81 23 2 a D.tabs.length c D.tabs ∧ Own w' w.heap.size 2 a' D.places.length c' (I D.places) ∧ Ext w w'
theorem OwnCube.setBelow {w : World} {B : Nat} {E2 E1 E0 : TypeId} {a : Option Addr} {n c : Nat} {ll : List (List (List Int))} (h : OwnCube w B E2 E1 E0 a n c ll) {p : Addr} (hp : p.block < B) (u : Value) : OwnCube (w.setCell p u) B E2 E1 E0 a n c ll :=
  ⟨h.len, let ⟨vs, h1, h2⟩ := h.rows; ⟨vs, h1.setBelow hp u, fun k hk => let ⟨a1, n1, c1, g1, g2⟩ := h2 k hk
    ⟨a1, n1, c1, g1, g2.len, let ⟨vs', h3, h4⟩ := g2.rows; ⟨vs', h3.setBelow hp u, fun j hj => let ⟨a2, n2, c2, g3, g4⟩ := h4 j hj; ⟨a2, n2, c2, g3, g4.setBelow hp u⟩⟩⟩⟩⟩
set_option maxHeartbeats 1000000 in
theorem toCh (D : Ch) (a : Option Addr) (n c : Nat) (a' : Option Addr) (n' c' : Nat) (w : World) (hv : ChIn w D a n c a' n' c') :
    Calls Try.prog 7 #[.agg #[.int .i64 D.base, .int .i64 D.states, .int .i64 D.start, .int .i64 D.fin, .slice a n c, .slice a' n' c']] w (RetChL D w) := by
  have HL := Lib.hid hv.ts.len
  have HP := Lib.hid hv.ps.len
  have hn := hv.hn
  have hn' := hv.hn'
  have HV := Lib.hid hv
  clear hv
  go_enter Try.func7, Try.ntmps7
  go_wp2_with fail
  refine (toSSS a n c D.tabs _ (HV.out.ts.ext (by repeat (first | (with_reducible exact Ext.refl _) | (with_reducible refine Ext.drewN ?_ _) | (with_reducible refine Ext.drew ?_) | (with_reducible refine Ext.alloc ?_ _) | ((with_reducible refine Ext.setCell ?_ ?_ _); rotate_left; focus (first | (simp; done) | (simp; omega) | omega)) | assumption | (with_reducible refine Ext.trans ?_ (by assumption))))) (by omega) (fun t ht => ⟨by have := (HV.out.sm t ht).1; omega, fun r hr => by have := (HV.out.sm t ht).2 r hr; omega⟩)).mono ?_
  rintro e w1 ⟨a1, c1, rfl, ho1, hx1⟩
  rw [HL.out] at ho1 ⊢
  have hw1 : Ext w w1 := Ext.trans (by repeat (first | (with_reducible exact Ext.refl _) | (with_reducible refine Ext.drewN ?_ _) | (with_reducible refine Ext.drew ?_) | (with_reducible refine Ext.alloc ?_ _) | ((with_reducible refine Ext.setCell ?_ ?_ _); rotate_left; focus (first | (simp; done) | (simp; omega) | omega)) | assumption | (with_reducible refine Ext.trans ?_ (by assumption)))) hx1
  obtain ⟨hc, hf⟩ := bcell hx1
  have hz1 : w.heap.size + 3 ≤ w1.heap.size := by have := hx1.le; simp at this; omega
  have hz1a : w.heap.size + 1 + 1 < w1.heap.size := by omega
  have hz1b : w.heap.size + 1 < w1.heap.size := by omega
  have hz1c : w.heap.size < w1.heap.size := by omega
  have HO1 := Lib.hid (ho1.mono (B' := w.heap.size + 3) (by simp))
  have HX1 := Lib.hid hx1
  clear ho1 hx1
  go_wp2_with fail
  refine (toInts a' n' c' D.places _ (HV.out.ps.ext (by repeat (first | (with_reducible exact Ext.refl _) | (with_reducible refine Ext.drewN ?_ _) | (with_reducible refine Ext.drew ?_) | (with_reducible refine Ext.alloc ?_ _) | ((with_reducible refine Ext.setCell ?_ ?_ _); rotate_left; focus (first | (simp; done) | (simp; omega) | omega)) | assumption | (with_reducible refine Ext.trans ?_ (by assumption))))) (by omega)).mono ?_
  rintro e w2 ⟨a2, c2, rfl, ho2, hx2⟩
  rw [I_len, HP.out] at ho2 ⊢
  obtain ⟨hc2, hf2⟩ := bcell hx2
  have HO2 := Lib.hid (ho2.mono (B' := w.heap.size + 3) (by simp; omega))
  have HO1b := Lib.hid ((HO1.out.setBelow (p := ⟨w.heap.size + 2, 4, none⟩) (by simp) (.slice a1 n c1)).ext hx2)
  have hw2 : Ext w w2 := Ext.trans (by repeat (first | (with_reducible exact Ext.refl _) | (with_reducible refine Ext.drewN ?_ _) | (with_reducible refine Ext.drew ?_) | (with_reducible refine Ext.alloc ?_ _) | ((with_reducible refine Ext.setCell ?_ ?_ _); rotate_left; focus (first | (simp; done) | (simp; omega) | omega)) | assumption | (with_reducible refine Ext.trans ?_ (by assumption)))) hx2
  have hz2 : w1.heap.size ≤ w2.heap.size := by have := hx2.le; simpa using this
  have hz2a : w.heap.size + 1 + 1 < w2.heap.size := by omega
  have hz2b : w.heap.size + 1 < w2.heap.size := by omega
  have hz2c : w.heap.size < w2.heap.size := by omega
  have HX2 := Lib.hid hx2
  clear ho2
  go_wp2
  refine bodyPost_ret (v := .agg #[.int .i64 D.base, .int .i64 D.states, .int .i64 D.start, .int .i64 D.fin, .slice a1 n c1, .slice a2 n' c2]) ?_ rfl ?_
  · simp [results, Try.results7, go_sem, hc, hc2, hz1b]
  · refine ⟨a1, c1, a2, c2, ?_, ?_, ?_, (by repeat (first | (with_reducible exact Ext.refl _) | (with_reducible refine Ext.drewN ?_ _) | (with_reducible refine Ext.drew ?_) | (with_reducible refine Ext.alloc ?_ _) | ((with_reducible refine Ext.setCell ?_ ?_ _); rotate_left; focus (first | (simp; done) | (simp; omega) | omega)) | (with_reducible refine Ext.trans ?_ HX2.out) | (with_reducible refine Ext.trans ?_ HX1.out)))⟩
    · rw [HL.out, HP.out]
    · rw [HL.out]
      refine OwnCube.mono (B := w.heap.size + 3) ?_ (by omega)
      repeat (first | (with_reducible exact HO1b.out) | ((with_reducible refine OwnCube.setBelow ?_ ?_ _); rotate_left; focus (first | (simp; done) | (simp; omega) | omega)))
    · rw [HP.out]
      refine Own.mono (B := w.heap.size + 3) (by repeat (first | (with_reducible exact HO2.out) | ((with_reducible refine Own.setBelow ?_ ?_ _); rotate_left; focus (first | (simp; done) | (simp; omega) | omega)))) (by omega)
set_option maxHeartbeats 1000000 in
theorem eqCh (D : Ch) (a : Option Addr) (n c : Nat) (a' : Option Addr) (n' c' : Nat) (b : Option Addr) (d : Nat) (b' : Option Addr) (d' : Nat) (w : World) (hv : ChIn w D a n c a' n' c') (hv2 : ChIn w D b n d b' n' d') :
    Calls Try.prog 10 #[.agg #[.int .i64 D.base, .int .i64 D.states, .int .i64 D.start, .int .i64 D.fin, .slice a n c, .slice a' n' c'], .agg #[.int .i64 D.base, .int .i64 D.states, .int .i64 D.start, .int .i64 D.fin, .slice b n d, .slice b' n' d']] w (Ret (.bool true) w) := by
  have hn := hv.hn
  have hn' := hv.hn'
  have HS := Lib.hid (fun W h => eqSSS a b n c d D.tabs W (hv.ts.ext h) (hv2.ts.ext h) (by omega) (fun t ht => ⟨by have := (hv.sm t ht).1; omega, fun r hr => by have := (hv.sm t ht).2 r hr; omega⟩))
  have HI := Lib.hid (fun W h => eqIntsR a' b' n' c' d' D.places W (hv.ps.ext h) (hv2.ps.ext h) (by omega))
  clear hv hv2
  go_enter Try.func10, Try.ntmps10
  go_wp2_with fail
  refine (HS.out _ (by repeat (first | (with_reducible exact Ext.refl _) | (with_reducible refine Ext.drewN ?_ _) | (with_reducible refine Ext.drew ?_) | (with_reducible refine Ext.alloc ?_ _) | ((with_reducible refine Ext.setCell ?_ ?_ _); rotate_left; focus (first | (simp; done) | (simp; omega) | omega)) | assumption | (with_reducible refine Ext.trans ?_ (by assumption))))).mono ?_
  rintro e w1 ⟨rfl, hy1⟩
  have hw1 : Ext w w1 := Ext.trans (by repeat (first | (with_reducible exact Ext.refl _) | (with_reducible refine Ext.drewN ?_ _) | (with_reducible refine Ext.drew ?_) | (with_reducible refine Ext.alloc ?_ _) | ((with_reducible refine Ext.setCell ?_ ?_ _); rotate_left; focus (first | (simp; done) | (simp; omega) | omega)) | assumption | (with_reducible refine Ext.trans ?_ (by assumption)))) hy1
  obtain ⟨hc, hf⟩ := bcell hy1
  go_wp2_with fail
  refine (HI.out _ hw1).mono ?_
  rintro e w2 ⟨rfl, hy2⟩
  have hw2 : Ext w w2 := Ext.trans hw1 hy2
  go_wp2
  go_ret
  exact ⟨rfl, hw2⟩
def chSize (D : Ch) : Nat := szC D.tabs + D.places.length
/-- a chain that came in -/
structure RawCh (w : World) (D : Ch) (a : Option Addr) (n c : Nat) (a' : Option Addr) (n' c' : Nat) : Prop where
  ts : Cube w a n c D.tabs
  ps : Ints w a' n' c' D.places
  hn : n ≤ 9223372036854775807
  hn' : n' ≤ 9223372036854775807
  big : BigC D.tabs
theorem RawCh.ext {w w' : World} {D : Ch} {a : Option Addr} {n c : Nat} {a' : Option Addr} {n' c' : Nat} (h : RawCh w D a n c a' n' c') (hx : Ext w w') : RawCh w' D a n c a' n' c' := ⟨h.ts.ext hx, h.ps.ext hx, h.hn, h.hn', h.big⟩
theorem RawCh.inn {w : World} {D : Ch} {a : Option Addr} {n c : Nat} {a' : Option Addr} {n' c' : Nat} (h : RawCh w D a n c a' n' c') (hs : chSize D ≤ 1048576) : ChIn w D a n c a' n' c' := by
  have h1 := h.ts.len
  have h2 := h.ps.len
  unfold chSize szC at hs
  refine ⟨h.ts, h.ps, by omega, by omega, fun t ht => ?_⟩
  have h3 := sumN_mem szM ht
  have h4 : szM t = t.length + (t.map List.length).sum := rfl
  exact ⟨by omega, fun r hr => by have := sumN_mem List.length hr; omega⟩
set_option maxHeartbeats 1000000 in
theorem szCh (D : Ch) (a : Option Addr) (n c : Nat) (a' : Option Addr) (n' c' : Nat) (left : Int) (w : World) (hv : RawCh w D a n c a' n' c') (h0 : 0 ≤ left) (h1 : left ≤ 1048576) :
    Calls Try.prog 5 #[.agg #[.int .i64 D.base, .int .i64 D.states, .int .i64 D.start, .int .i64 D.fin, .slice a n c, .slice a' n' c'], .int .i64 left] w (Ret (.int .i64 (leftOf left (chSize D))) w) := by
  have HP := Lib.hid hv.ps.len
  have HS := Lib.hid (fun W h => szSSS a n c D.tabs left W (Cube.ext hv.ts h) hv.hn hv.big h0 h1)
  have HI := Lib.hid (fun l (hl : 0 ≤ l) (hl2 : l ≤ 1048576) W => szInts a' n' c' l W hv.hn' hl (by omega))
  have hbx : ∀ w', Ext (w.alloc (.cells #[.int .i64 D.base, .int .i64 D.states, .int .i64 D.start, .int .i64 D.fin, .slice a n c, .slice a' n' c'] 25)) w' → w'.cell? ⟨w.heap.size, 5, none⟩ = some (.slice a' n' c') := fun w' hx => hx.cell (by go_simp)
  clear hv
  have hlo : leftOf left (szC D.tabs) = -1 ∨ (0 ≤ leftOf left (szC D.tabs) ∧ leftOf left (szC D.tabs) ≤ 1048576) := by unfold leftOf; split <;> omega
  rcases hlo with hlo | ⟨hl1, hl2⟩
  · rw [hlo] at HS
    have HF := Lib.hid (show leftOf left (chSize D) = -1 by unfold leftOf at hlo ⊢; unfold chSize; split at hlo <;> rw [if_pos (by omega)])
    clear hlo
    go_enter Try.func5, Try.ntmps5
    go_wp2_with (refine (HS.out _ (by repeat (first | (with_reducible exact Ext.refl _) | (with_reducible refine Ext.drewN ?_ _) | (with_reducible refine Ext.drew ?_) | (with_reducible refine Ext.alloc ?_ _) | ((with_reducible refine Ext.setCell ?_ ?_ _); rotate_left; focus (first | (simp; done) | (simp; omega) | omega)) | assumption | (with_reducible refine Ext.trans ?_ (by assumption))))).mono ?_; rintro e w1 ⟨rfl, hy1⟩)
    go_ret
    exact ⟨ri HF.out.symm, (by repeat (first | (with_reducible exact Ext.refl _) | (with_reducible refine Ext.drewN ?_ _) | (with_reducible refine Ext.drew ?_) | (with_reducible refine Ext.alloc ?_ _) | ((with_reducible refine Ext.setCell ?_ ?_ _); rotate_left; focus (first | (simp; done) | (simp; omega) | omega)) | assumption | (with_reducible refine Ext.trans ?_ (by assumption))))⟩
  · have HE := Lib.hid (show leftOf (leftOf left (szC D.tabs)) n' = leftOf left (chSize D) by
      have e : leftOf left (szC D.tabs) = left - szC D.tabs := by unfold leftOf at hl1 ⊢; split at hl1 <;> first | omega | (rw [if_neg (by omega)])
      rw [e] at hl1 ⊢
      unfold leftOf chSize
      rw [HP.out]
      split <;> split <;> omega)
    have hlo2 : leftOf left (chSize D) = -1 ∨ 0 ≤ leftOf left (chSize D) := by unfold leftOf; split <;> omega
    generalize leftOf left (szC D.tabs) = l1 at *
    have HX := Lib.hid (HI.out l1 hl1 hl2)
    rw [show (if l1 < (n' : Int) then -1 else l1 - (n' : Int)) = leftOf l1 n' from rfl, HE.out] at HX
    generalize leftOf left (chSize D) = r at *
    go_enter Try.func5, Try.ntmps5
    go_wp2_with fail
    obtain ⟨wb, hwb⟩ : ∃ wb, wb = w.alloc (.cells #[.int .i64 D.base, .int .i64 D.states, .int .i64 D.start, .int .i64 D.fin, .slice a n c, .slice a' n' c'] 25) := ⟨_, rfl⟩
    have hxb : Ext w wb := by rw [hwb]; exact (by repeat (first | (with_reducible exact Ext.refl _) | (with_reducible refine Ext.drewN ?_ _) | (with_reducible refine Ext.drew ?_) | (with_reducible refine Ext.alloc ?_ _) | ((with_reducible refine Ext.setCell ?_ ?_ _); rotate_left; focus (first | (simp; done) | (simp; omega) | omega)) | assumption | (with_reducible refine Ext.trans ?_ (by assumption))))
    have hc5 := hbx
    rw [← hwb] at hc5 ⊢
    clear hwb hbx
    refine (HS.out _ hxb).mono ?_
    rintro e w1 ⟨rfl, hy1⟩
    have hx1 : Ext wb w1 := hy1
    go_wp2_with (refine (HX.out _).mono ?_; rintro e w2 ⟨rfl, rfl⟩)
    all_goals (go_ret; exact ⟨ri (by omega), hxb.trans hx1⟩)
/-- a fresh chain, as a further call wants it -/
def RetChI (D : Ch) (n m : Nat) (w : World) (e : Ending) (w' : World) : Prop :=
  ∃ a c a' c', e = .returned (.agg #[.int .i64 D.base, .int .i64 D.states, .int .i64 D.start, .int .i64 D.fin, .slice a n c, .slice a' m c']) ∧ ChIn w' D a n c a' m c' ∧ Ext w w'
theorem toChI (D : Ch) (a : Option Addr) (n c : Nat) (a' : Option Addr) (n' c' : Nat) (w : World) (hv : ChIn w D a n c a' n' c') :
    Calls Try.prog 7 #[.agg #[.int .i64 D.base, .int .i64 D.states, .int .i64 D.start, .int .i64 D.fin, .slice a n c, .slice a' n' c']] w (RetChI D n n' w) :=
  (toCh D a n c a' n' c' w hv).mono fun e w' ⟨a1, c1, a2, c2, h1, h2, h3, h4⟩ =>
    ⟨a1, c1, a2, c2, by rw [hv.ts.len, hv.ps.len] at h1; exact h1, ⟨by have := h2.cube; rwa [hv.ts.len] at this, by have := h3.ints; rwa [hv.ps.len] at this, hv.hn, hv.hn', hv.sm⟩, h4⟩
theorem leftOf_no {n : Nat} (h : ¬ n ≤ 1048576) : leftOf 1048576 n = -1 := by unfold leftOf; rw [if_pos (by omega)]
theorem leftOf_yes {n : Nat} (h : n ≤ 1048576) : leftOf 1048576 n = 1048576 - n := by unfold leftOf; rw [if_neg (by omega)]
end Go.Proofs.Ytbcfbkhbangeoaa
