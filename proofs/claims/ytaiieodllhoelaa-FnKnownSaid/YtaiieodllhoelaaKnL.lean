/- Walks: what the well known chains are made of, in the program. -/
import Derived.Test.YtaiieodllhoelaaWtE
namespace Go.Proofs.Ytaiieodllhoelaa
set_option maxRecDepth 100000
open Go.RowKit

/-- weights by their place from the last -/
def fromL (n : Nat) (F : Int → Int) : List Int := (List.range n).map fun (j : Nat) => F ((n : Int) - 1 - j)
theorem fromL_len (n : Nat) (F : Int → Int) : (fromL n F).length = n := by simp [fromL]
theorem fromL_step {n k : Nat} {F : Int → Int} (h : k < n) : (fromL n F).take (k + 1) = (fromL n F).take k ++ [F ((n : Int) - 1 - k)] := by
  rw [List.take_succ_eq_append_getElem (by rw [fromL_len]; exact h)]
  simp [fromL]
set_option maxHeartbeats 1000000 in
theorem impl_fromLast (n : Nat) (f : Nat) (F : Int → Int) (w : World) (hn : n ≤ 1048576)
    (he : ∀ args w', (callFunc f args).run Try.prog w' = .ok (.enter f args) w') (hf : ∀ i : Int, 0 ≤ i → i < n → ∀ w', Calls Try.prog f (#[.int .i64 i] ++ #[]) w' (Same (.int .i64 (F i)) w')) :
    Calls Try.prog 132 #[.int .i64 n, .func (.func f) #[] #[]] w (RetOwn 2 (I (fromL n F)) w) := by
  have Hhf := Lib.hid hf; clear hf
  go_enter Try.func132, Try.ntmps132
  go_wp2_with fail
  go_loopw [5, 6] (fun v5 v6 wr => ∃ (k : Nat) (ra : Option Addr) (rc : Nat), k ≤ n ∧ v6 = .int .i64 ((n : Int) - 1 - k) ∧ v5 = .slice ra k rc ∧ Hid (Own wr w.heap.size 2 ra k rc (I ((fromL n F).take k))) ∧ Ext w wr) (fun _ v6 _ => (intOf v6 + 1).toNat)
  case atStart => exact ⟨0, _, _, Nat.zero_le _, by simp, rfl, Own.lit0 _ _, (Ext.refl _).alloc _⟩
  case round =>
    obtain ⟨k, ra, rc, hk, rfl, rfl, HR, hx⟩ := hrel
    by_cases hlt : k < n
    · have HN := Lib.hid (fromL_step (F := F) hlt)
      have HC := Lib.hid (Hhf.out ((n : Int) - 1 - k) (by omega) (by omega))
      go_wp2_with (first | (at_builtin; refine law_append1 _ rfl _ _ 25 rfl 2 (.int .i64 0) 8 und_int64s info_int64 rfl w.heap.size ra k rc _ _ rfl rfl rfl HR.out hx.le (by omega) (by omega) ?_; intro ra' rc' w6 ho6 hb6 _; have hxo6 : Ext w w6 := Ext.below hx hb6) | (refine (HC.out wr).mono ?_; rintro e w' ⟨rfl, rfl⟩))
      exact ⟨⟨k + 1, ra', rc', by omega, by congr 1; omega, rfl, by rw [Hid, HN.out, I_append]; exact ho6, hxo6⟩, by simp [intOf]; omega⟩
    · obtain rfl : k = n := by omega
      go_wp2_with fail
      go_ret
      have h := HR.out
      rw [take_full (by rw [fromL_len]; exact Nat.le_refl _)] at h
      exact RetOwn.mk h (fromL_len _ _) hx
def knF1 (i : Int) : Int := 1 + i % 2 * 2
def knF2 (i : Int) : Int := i + 1
def knF3 (i : Int) : Int := 2 ^ i.toNat % 11
set_option maxHeartbeats 400000 in
theorem known1 (i : Int) (h0 : 0 ≤ i) (_h1 : i < 20) (w : World) : Calls Try.prog 133 (#[.int .i64 i] ++ #[]) w (Same (.int .i64 (knF1 i)) w) := by
  have h2 : 0 ≤ i.tmod 2 ∧ i.tmod 2 < 2 := ⟨Int.tmod_nonneg _ h0, Int.tmod_lt_of_pos _ (by omega)⟩
  have h3 : i.tmod 2 = i % 2 := Int.tmod_eq_emod_of_nonneg h0
  go_enter Try.func133, Try.ntmps133
  go_wp2
  go_ret
  exact ⟨ri (by unfold knF1; omega), rfl⟩
set_option maxHeartbeats 400000 in
theorem known2 (i : Int) (h0 : 0 ≤ i) (h1 : i < 20) (w : World) : Calls Try.prog 134 (#[.int .i64 i] ++ #[]) w (Same (.int .i64 (knF2 i)) w) := by
  go_enter Try.func134, Try.ntmps134
  go_wp2
  go_ret
  exact ⟨rfl, rfl⟩
set_option maxHeartbeats 400000 in
theorem known3 (i : Int) (h0 : 0 ≤ i) (h1 : i < 8) (w : World) : Calls Try.prog 135 (#[.int .i64 i] ++ #[]) w (Same (.int .i64 (knF3 i)) w) := by
  have h : i = 0 ∨ i = 1 ∨ i = 2 ∨ i = 3 ∨ i = 4 ∨ i = 5 ∨ i = 6 ∨ i = 7 := by omega
  rcases h with rfl | rfl | rfl | rfl | rfl | rfl | rfl | rfl
  all_goals
    go_enter Try.func135, Try.ntmps135
    go_wp2
    go_ret
    exact ⟨rfl, rfl⟩
def knB (k : Int) : Int := if k = 2 ∨ k = 3 then 11 else 10
set_option maxHeartbeats 400000 in
theorem impl_knownBase (k : Int) (h0 : 0 ≤ k) (h1 : k ≤ 4) (w : World) : Calls Try.prog 129 #[.int .i64 k] w (Same (.int .i64 (knB k)) w) := by
  have h : k = 0 ∨ k = 1 ∨ k = 2 ∨ k = 3 ∨ k = 4 := by omega
  rcases h with rfl | rfl | rfl | rfl | rfl
  all_goals
    go_enter Try.func129, Try.ntmps129
    go_wp2
    go_ret
    exact ⟨rfl, rfl⟩
end Go.Proofs.Ytaiieodllhoelaa

/- Walks: the well known chains that are made of weights, in the program. -/
namespace Go.Proofs.Ytaiieodllhoelaa
set_option maxRecDepth 100000
open Go.RowKit

def knF (k : Int) : Int → Int := if k = 1 then knF1 else if k = 2 then knF2 else knF3
def knW (k : Int) (n : Nat) : Wt := ⟨knB k, knB k, if k = 3 then 1 else 0, fromL n (knF k)⟩
/-- the kinds and places that a law draws -/
def KnOk (k : Int) (n : Nat) : Prop := (k = 1 ∧ 2 ≤ n ∧ n ≤ 6) ∨ (k = 2 ∧ n = 10) ∨ (k = 3 ∧ 2 ≤ n ∧ n ≤ 6)
theorem knW_valid {k : Int} {n : Nat} (h : KnOk k n) : validB (knW k n) = true := by
  rcases h with ⟨rfl, h1, h2⟩ | ⟨rfl, rfl⟩ | ⟨rfl, h1, h2⟩
  · have h : n = 2 ∨ n = 3 ∨ n = 4 ∨ n = 5 ∨ n = 6 := by omega
    rcases h with rfl | rfl | rfl | rfl | rfl <;> rfl
  · rfl
  · have h : n = 2 ∨ n = 3 ∨ n = 4 ∨ n = 5 ∨ n = 6 := by omega
    rcases h with rfl | rfl | rfl | rfl | rfl <;> rfl
theorem knW_pow {k : Int} {n : Nat} (h : KnOk k n) : knB k ^ n ≤ 1000000000000000 := by
  rcases h with ⟨rfl, h1, h2⟩ | ⟨rfl, rfl⟩ | ⟨rfl, h1, h2⟩
  · have h : n = 2 ∨ n = 3 ∨ n = 4 ∨ n = 5 ∨ n = 6 := by omega
    rcases h with rfl | rfl | rfl | rfl | rfl <;> decide
  · decide
  · have h : n = 2 ∨ n = 3 ∨ n = 4 ∨ n = 5 ∨ n = 6 := by omega
    rcases h with rfl | rfl | rfl | rfl | rfl <;> decide
theorem knIs {wz w2 : World} {p : Nat} {X : Wt} {v : Value} {ra : Option Addr} {n rc : Nat} (hp : SAt w2 p 72 #[.int .i64 X.base, .int .i64 X.modulus, .int .i64 X.target, v]) (hr : Own w2 wz.heap.size 2 ra n rc (I X.weights)) (hpz : p < wz.heap.size) :
    IsWt (w2.setCell ⟨p, 3, none⟩ (.slice ra n rc)) p X ra n rc := by
  have h := hp.set 3 (.slice ra n rc)
  refine ⟨?_, ?_, ?_, ?_, (hr.other _ fun g hg => ?_).ints⟩
  · have := h.cell 0 (by simp); simpa using this
  · have := h.cell 1 (by simp); simpa using this
  · have := h.cell 2 (by simp); simpa using this
  · have := h.cell 3 (by simp); simpa using this
  · have := (hr.blk g hg).1; simp only; omega
set_option maxHeartbeats 4000000 in
theorem impl_KnownW (k : Int) (n : Nat) (w : World) (hk : KnOk k n) : Calls Try.prog 62 #[.int .i64 k, .int .i64 n] w (RetChB (wtCh (knW k n)) w) := by
  have HVl := Lib.hid (knW_valid hk)
  have HPw := Lib.hid (fun W => impl_power (knB k) 1000000000000000 n W (by unfold knB; split <;> omega) (by unfold knB; split <;> omega) (by omega) (by omega) (by rcases hk with h | h | h <;> omega))
  rw [show decide (knB k ^ n ≤ 1000000000000000) = true from decide_eq_true (knW_pow hk)] at HPw
  have HC := Lib.hid (fun b a c W h => impl_wtChain b (knW k n) a n c W h (knW_valid hk))
  have HIn := Lib.hid (fun W => impl_in (n : Int) 1 20 W)
  rw [show inB (n : Int) 1 20 = true from inB_t.2 (by rcases hk with h | h | h <;> omega)] at HIn
  have HKb := Lib.hid (fun W => impl_knownBase k (by rcases hk with h | h | h <;> omega) (by rcases hk with h | h | h <;> omega) W)
  have hn20 : n ≤ 20 := by rcases hk with h | h | h <;> omega
  have HF1 := Lib.hid (fun W => impl_fromLast n 133 knF1 W (by omega) (fun _ _ => rfl) (fun i h0 h1 w' => known1 i h0 (by omega) w'))
  have HF2 := Lib.hid (fun W => impl_fromLast n 134 knF2 W (by omega) (fun _ _ => rfl) (fun i h0 h1 w' => known2 i h0 (by omega) w'))
  have HF3 := Lib.hid (fun (hn : n ≤ 8) W => impl_fromLast n 135 knF3 W (by omega) (fun _ _ => rfl) (fun i h0 h1 w' => known3 i h0 (by omega) w'))
  rcases hk with ⟨rfl, h1, h2⟩ | ⟨rfl, rfl⟩ | ⟨rfl, h1, h2⟩
  · have hB : knB 1 = 10 := rfl
    rw [hB] at HPw HKb
    go_enter Try.func62, Try.ntmps62
    go_wp2_with (first | ((with_reducible refine (HKb.out _).mono ?_); rintro e w1 ⟨rfl, rfl⟩) | ((with_reducible refine (HIn.out _).mono ?_); rintro e w1 ⟨rfl, rfl⟩) | ((with_reducible refine (HPw.out _).mono ?_); rintro e w1 ⟨rfl, rfl⟩))
    obtain ⟨g, hg⟩ : ∃ g, g = w.heap.size := ⟨_, rfl⟩
    obtain ⟨p, hp⟩ : ∃ p, p = w.heap.size + 1 := ⟨_, rfl⟩
    obtain ⟨wz, hwz⟩ : ∃ W, W = (w.alloc (.cells #[.int .i64 0, .int .i64 0, .int .i64 0, .int .i64 0, .slice none 0 0, .slice none 0 0] 27)).alloc (.cells #[.int .i64 10, .int .i64 10, .int .i64 0, .slice none 0 0] 72) := ⟨_, rfl⟩
    have hxz : Ext w wz := by rw [hwz]; exact (by repeat (first | (with_reducible exact Ext.refl _) | (with_reducible refine Ext.drewN ?_ _) | (with_reducible refine Ext.drew ?_) | (with_reducible refine Ext.alloc ?_ _) | ((with_reducible refine Ext.setCell ?_ ?_ _); rotate_left; focus (first | (simp; done) | (simp; omega) | omega)) | assumption | (with_reducible refine Ext.trans ?_ (by assumption))))
    have HZ := Lib.hid (show SAt wz g 27 #[.int .i64 0, .int .i64 0, .int .i64 0, .int .i64 0, .slice none 0 0, .slice none 0 0] from by rw [hwz, hg]; exact (SAt.new' w #[.int .i64 0, .int .i64 0, .int .i64 0, .int .i64 0, .slice none 0 0, .slice none 0 0] 27 rfl).alloc _)
    have HP := Lib.hid (show SAt wz p 72 #[.int .i64 10, .int .i64 10, .int .i64 0, .slice none 0 0] from by
      rw [hwz, hp]; exact SAt.new' _ _ _ (by simp))
    have hgw : w.heap.size ≤ g := by omega
    have hgp : g < p := by omega
    have hpz : p < wz.heap.size := HP.out.lt
    rw [← hwz, ← hp, ← hg]
    clear hwz hg hp
    go_wp2_with (first | ((with_reducible refine (HF1.out _).mono ?_); rintro e w2 ⟨ra, rc, rfl, ho2, hy2⟩; rw [I_len, fromL_len] at ho2 ⊢; have HR2 := Lib.hid ho2; have HP2 := Lib.hid (HP.out.ext hy2); have HZ2 := Lib.hid (HZ.out.ext hy2); have hx2 : Ext w w2 := hxz.trans hy2; have p0 := HP2.out.cell 0 (by simp); have p1 := HP2.out.cell 1 (by simp); have p2 := HP2.out.cell 2 (by simp); have p3 := HP2.out.cell 3 (by simp); have fp := fun j => HP2.out.frozen j; have hp2 := HP2.out.lt; have hg2 := HZ2.out.lt; (try simp only [List.getElem_toArray, List.getElem_cons_succ, List.getElem_cons_zero] at p0 p1 p2 p3); have HW3 := Lib.hid (knIs (X := knW 1 n) HP2.out HR2.out hpz); clear ho2) | ((with_reducible refine (HC.out p ra rc _ HW3.out).mono ?_); rintro e w8 ⟨a8, x8, d8, b8, y8, g8, rfl, hch, hy8⟩; have HX8 := Lib.hid hy8; have HCh := Lib.hid hch; have HZ8 := Lib.hid ((HZ2.out.other (.slice ra n rc) (p := ⟨p, 3, none⟩) (by simp; omega)).ext hy8); have z0 := HZ8.out.cell 0 (by simp); have z1 := HZ8.out.cell 1 (by simp); have z2 := HZ8.out.cell 2 (by simp); have z3 := HZ8.out.cell 3 (by simp); have z4 := HZ8.out.cell 4 (by simp); have z5 := HZ8.out.cell 5 (by simp); have fr := fun j => HZ8.out.frozen j; have hltz := HZ8.out.lt; (try simp only [List.getElem_toArray, List.getElem_cons_succ, List.getElem_cons_zero] at z0 z1 z2 z3 z4 z5); clear hch hy8))
    have hx8 : Ext w w8 := (hx2.setCell (p := ⟨p, 3, none⟩) (show w.heap.size ≤ p by omega) _).trans HX8.out
    have hz8 : (w2.setCell ⟨p, 3, none⟩ (.slice ra n rc)).heap.size = w2.heap.size := by simp
    generalize hDD : wtCh (knW 1 n) = DD at *
    refine bodyPost_ret (v := .tuple #[.agg #[.int .i64 DD.base, .int .i64 DD.states, .int .i64 DD.start, .int .i64 DD.fin, .slice a8 x8 d8, .slice b8 y8 g8], .bool true]) ?_ rfl ?_
    · simp [results, Try.results62, go_sem, z0, z1, z2, z3, z4, z5]
    · refine ⟨a8, x8, d8, b8, y8, g8, rfl, HCh.out _ ?_, ?_⟩
      · repeat (first | with_reducible exact KeepB.refl _ _ _ | (with_reducible refine KeepB.setB ?_ _ _ (Or.inl ?_); rotate_left; (focus (rw [hz8]; simp only; omega))))
      · repeat (first | with_reducible exact hx8 | with_reducible refine Ext.setCell ?_ hgw _)
  · have hB : knB 2 = 11 := rfl
    rw [hB] at HPw HKb
    rw [show ((10 : Nat) : Int) = 10 from rfl] at HPw HIn HF2
    go_enter Try.func62, Try.ntmps62
    go_wp2_with (first | ((with_reducible refine (HKb.out _).mono ?_); rintro e w1 ⟨rfl, rfl⟩) | ((with_reducible refine (HIn.out _).mono ?_); rintro e w1 ⟨rfl, rfl⟩) | ((with_reducible refine (HPw.out _).mono ?_); rintro e w1 ⟨rfl, rfl⟩))
    obtain ⟨g, hg⟩ : ∃ g, g = w.heap.size := ⟨_, rfl⟩
    obtain ⟨p, hp⟩ : ∃ p, p = w.heap.size + 1 := ⟨_, rfl⟩
    obtain ⟨wz, hwz⟩ : ∃ W, W = (w.alloc (.cells #[.int .i64 0, .int .i64 0, .int .i64 0, .int .i64 0, .slice none 0 0, .slice none 0 0] 27)).alloc (.cells #[.int .i64 11, .int .i64 11, .int .i64 0, .slice none 0 0] 72) := ⟨_, rfl⟩
    have hxz : Ext w wz := by rw [hwz]; exact (by repeat (first | (with_reducible exact Ext.refl _) | (with_reducible refine Ext.drewN ?_ _) | (with_reducible refine Ext.drew ?_) | (with_reducible refine Ext.alloc ?_ _) | ((with_reducible refine Ext.setCell ?_ ?_ _); rotate_left; focus (first | (simp; done) | (simp; omega) | omega)) | assumption | (with_reducible refine Ext.trans ?_ (by assumption))))
    have HZ := Lib.hid (show SAt wz g 27 #[.int .i64 0, .int .i64 0, .int .i64 0, .int .i64 0, .slice none 0 0, .slice none 0 0] from by rw [hwz, hg]; exact (SAt.new' w #[.int .i64 0, .int .i64 0, .int .i64 0, .int .i64 0, .slice none 0 0, .slice none 0 0] 27 rfl).alloc _)
    have HP := Lib.hid (show SAt wz p 72 #[.int .i64 11, .int .i64 11, .int .i64 0, .slice none 0 0] from by
      rw [hwz, hp]; exact SAt.new' _ _ _ (by simp))
    have hgw : w.heap.size ≤ g := by omega
    have hgp : g < p := by omega
    have hpz : p < wz.heap.size := HP.out.lt
    rw [← hwz, ← hp, ← hg]
    clear hwz hg hp
    go_wp2_with (first | ((with_reducible refine (HF2.out _).mono ?_); rintro e w2 ⟨ra, rc, rfl, ho2, hy2⟩; rw [I_len, fromL_len] at ho2 ⊢; have HR2 := Lib.hid ho2; have HP2 := Lib.hid (HP.out.ext hy2); have HZ2 := Lib.hid (HZ.out.ext hy2); have hx2 : Ext w w2 := hxz.trans hy2; have p0 := HP2.out.cell 0 (by simp); have p1 := HP2.out.cell 1 (by simp); have p2 := HP2.out.cell 2 (by simp); have p3 := HP2.out.cell 3 (by simp); have fp := fun j => HP2.out.frozen j; have hp2 := HP2.out.lt; have hg2 := HZ2.out.lt; (try simp only [List.getElem_toArray, List.getElem_cons_succ, List.getElem_cons_zero] at p0 p1 p2 p3); have HW3 := Lib.hid (knIs (X := knW 2 10) HP2.out HR2.out hpz); clear ho2) | ((with_reducible refine (HC.out p ra rc _ HW3.out).mono ?_); rintro e w8 ⟨a8, x8, d8, b8, y8, g8, rfl, hch, hy8⟩; have HX8 := Lib.hid hy8; have HCh := Lib.hid hch; have HZ8 := Lib.hid ((HZ2.out.other (.slice ra 10 rc) (p := ⟨p, 3, none⟩) (by simp; omega)).ext hy8); have z0 := HZ8.out.cell 0 (by simp); have z1 := HZ8.out.cell 1 (by simp); have z2 := HZ8.out.cell 2 (by simp); have z3 := HZ8.out.cell 3 (by simp); have z4 := HZ8.out.cell 4 (by simp); have z5 := HZ8.out.cell 5 (by simp); have fr := fun j => HZ8.out.frozen j; have hltz := HZ8.out.lt; (try simp only [List.getElem_toArray, List.getElem_cons_succ, List.getElem_cons_zero] at z0 z1 z2 z3 z4 z5); clear hch hy8))
    have hx8 : Ext w w8 := (hx2.setCell (p := ⟨p, 3, none⟩) (show w.heap.size ≤ p by omega) _).trans HX8.out
    have hz8 : (w2.setCell ⟨p, 3, none⟩ (.slice ra 10 rc)).heap.size = w2.heap.size := by simp
    generalize hDD : wtCh (knW 2 10) = DD at *
    refine bodyPost_ret (v := .tuple #[.agg #[.int .i64 DD.base, .int .i64 DD.states, .int .i64 DD.start, .int .i64 DD.fin, .slice a8 x8 d8, .slice b8 y8 g8], .bool true]) ?_ rfl ?_
    · simp [results, Try.results62, go_sem, z0, z1, z2, z3, z4, z5]
    · refine ⟨a8, x8, d8, b8, y8, g8, rfl, HCh.out _ ?_, ?_⟩
      · repeat (first | with_reducible exact KeepB.refl _ _ _ | (with_reducible refine KeepB.setB ?_ _ _ (Or.inl ?_); rotate_left; (focus (rw [hz8]; simp only; omega))))
      · repeat (first | with_reducible exact hx8 | with_reducible refine Ext.setCell ?_ hgw _)
  · have hB : knB 3 = 11 := rfl
    rw [hB] at HPw HKb
    go_enter Try.func62, Try.ntmps62
    go_wp2_with (first | ((with_reducible refine (HKb.out _).mono ?_); rintro e w1 ⟨rfl, rfl⟩) | ((with_reducible refine (HIn.out _).mono ?_); rintro e w1 ⟨rfl, rfl⟩) | ((with_reducible refine (HPw.out _).mono ?_); rintro e w1 ⟨rfl, rfl⟩))
    obtain ⟨g, hg⟩ : ∃ g, g = w.heap.size := ⟨_, rfl⟩
    obtain ⟨p, hp⟩ : ∃ p, p = w.heap.size + 1 := ⟨_, rfl⟩
    obtain ⟨wz, hwz⟩ : ∃ W, W = (w.alloc (.cells #[.int .i64 0, .int .i64 0, .int .i64 0, .int .i64 0, .slice none 0 0, .slice none 0 0] 27)).alloc (.cells #[.int .i64 11, .int .i64 11, .int .i64 1, .slice none 0 0] 72) := ⟨_, rfl⟩
    have hxz : Ext w wz := by rw [hwz]; exact (by repeat (first | (with_reducible exact Ext.refl _) | (with_reducible refine Ext.drewN ?_ _) | (with_reducible refine Ext.drew ?_) | (with_reducible refine Ext.alloc ?_ _) | ((with_reducible refine Ext.setCell ?_ ?_ _); rotate_left; focus (first | (simp; done) | (simp; omega) | omega)) | assumption | (with_reducible refine Ext.trans ?_ (by assumption))))
    have HZ := Lib.hid (show SAt wz g 27 #[.int .i64 0, .int .i64 0, .int .i64 0, .int .i64 0, .slice none 0 0, .slice none 0 0] from by rw [hwz, hg]; exact (SAt.new' w #[.int .i64 0, .int .i64 0, .int .i64 0, .int .i64 0, .slice none 0 0, .slice none 0 0] 27 rfl).alloc _)
    have HP := Lib.hid (show SAt wz p 72 #[.int .i64 11, .int .i64 11, .int .i64 1, .slice none 0 0] from by
      rw [hwz, hp]; exact SAt.new' _ _ _ (by simp))
    have hgw : w.heap.size ≤ g := by omega
    have hgp : g < p := by omega
    have hpz : p < wz.heap.size := HP.out.lt
    rw [← hwz, ← hp, ← hg]
    clear hwz hg hp
    go_wp2_with (first | ((with_reducible refine (HF3.out (by omega) _).mono ?_); rintro e w2 ⟨ra, rc, rfl, ho2, hy2⟩; rw [I_len, fromL_len] at ho2 ⊢; have HR2 := Lib.hid ho2; have HP2 := Lib.hid (HP.out.ext hy2); have HZ2 := Lib.hid (HZ.out.ext hy2); have hx2 : Ext w w2 := hxz.trans hy2; have p0 := HP2.out.cell 0 (by simp); have p1 := HP2.out.cell 1 (by simp); have p2 := HP2.out.cell 2 (by simp); have p3 := HP2.out.cell 3 (by simp); have fp := fun j => HP2.out.frozen j; have hp2 := HP2.out.lt; have hg2 := HZ2.out.lt; (try simp only [List.getElem_toArray, List.getElem_cons_succ, List.getElem_cons_zero] at p0 p1 p2 p3); have HW3 := Lib.hid (knIs (X := knW 3 n) HP2.out HR2.out hpz); clear ho2) | ((with_reducible refine (HC.out p ra rc _ HW3.out).mono ?_); rintro e w8 ⟨a8, x8, d8, b8, y8, g8, rfl, hch, hy8⟩; have HX8 := Lib.hid hy8; have HCh := Lib.hid hch; have HZ8 := Lib.hid ((HZ2.out.other (.slice ra n rc) (p := ⟨p, 3, none⟩) (by simp; omega)).ext hy8); have z0 := HZ8.out.cell 0 (by simp); have z1 := HZ8.out.cell 1 (by simp); have z2 := HZ8.out.cell 2 (by simp); have z3 := HZ8.out.cell 3 (by simp); have z4 := HZ8.out.cell 4 (by simp); have z5 := HZ8.out.cell 5 (by simp); have fr := fun j => HZ8.out.frozen j; have hltz := HZ8.out.lt; (try simp only [List.getElem_toArray, List.getElem_cons_succ, List.getElem_cons_zero] at z0 z1 z2 z3 z4 z5); clear hch hy8))
    have hx8 : Ext w w8 := (hx2.setCell (p := ⟨p, 3, none⟩) (show w.heap.size ≤ p by omega) _).trans HX8.out
    have hz8 : (w2.setCell ⟨p, 3, none⟩ (.slice ra n rc)).heap.size = w2.heap.size := by simp
    generalize hDD : wtCh (knW 3 n) = DD at *
    refine bodyPost_ret (v := .tuple #[.agg #[.int .i64 DD.base, .int .i64 DD.states, .int .i64 DD.start, .int .i64 DD.fin, .slice a8 x8 d8, .slice b8 y8 g8], .bool true]) ?_ rfl ?_
    · simp [results, Try.results62, go_sem, z0, z1, z2, z3, z4, z5]
    · refine ⟨a8, x8, d8, b8, y8, g8, rfl, HCh.out _ ?_, ?_⟩
      · repeat (first | with_reducible exact KeepB.refl _ _ _ | (with_reducible refine KeepB.setB ?_ _ _ (Or.inl ?_); rotate_left; (focus (rw [hz8]; simp only; omega))))
      · repeat (first | with_reducible exact hx8 | with_reducible refine Ext.setCell ?_ hgw _)
end Go.Proofs.Ytaiieodllhoelaa

/- Walks: the chain of the system with doubled digits, in the program. -/
namespace Go.Proofs.Ytaiieodllhoelaa
set_option maxRecDepth 100000
open Go.RowKit

def idL (n : Nat) : List Int := (List.range n).map fun (d : Nat) => (d : Int)
theorem idL_len (n : Nat) : (idL n).length = n := by simp [idL]
theorem idL_step {n k : Nat} (h : k < n) : (idL n).take (k + 1) = (idL n).take k ++ [(k : Int)] := by
  rw [List.take_succ_eq_append_getElem (by rw [idL_len]; exact h)]
  simp [idL]
def dblL : List Int := [0, 2, 4, 6, 8, 1, 3, 5, 7, 9]
def luhR (i : Int) : List Int := if i % 2 = 0 then idL 10 else dblL
def luhL (n : Nat) : List (List Int) := (List.range n).map fun (j : Nat) => luhR ((n : Int) - 1 - j)
theorem luhL_len (n : Nat) : (luhL n).length = n := by simp [luhL]
theorem luhL_step {n k : Nat} (h : k < n) : (luhL n).take (k + 1) = (luhL n).take k ++ [luhR ((n : Int) - 1 - k)] := by
  rw [List.take_succ_eq_append_getElem (by rw [luhL_len]; exact h)]
  simp [luhL]
theorem luhL_mem {n : Nat} {l : List Int} (h : l ∈ luhL n) : l = idL 10 ∨ l = dblL := by
  obtain ⟨j, _, rfl⟩ := List.mem_map.1 h
  unfold luhR; split
  · exact .inl rfl
  · exact .inr rfl
theorem luh_ok {n : Nat} (h0 : 1 ≤ n) (h1 : n ≤ 10) : AddOk 10 10 0 (luhL n) := by
  refine ⟨by omega, by omega, by omega, by omega, by omega, by omega, by rw [luhL_len]; omega, by rw [luhL_len]; omega, ?_, ?_, ?_⟩
  · rw [luhL_len]
    have h : n = 1 ∨ n = 2 ∨ n = 3 ∨ n = 4 ∨ n = 5 ∨ n = 6 ∨ n = 7 ∨ n = 8 ∨ n = 9 ∨ n = 10 := by omega
    rcases h with rfl | rfl | rfl | rfl | rfl | rfl | rfl | rfl | rfl | rfl <;> decide
  · intro l hl
    rcases luhL_mem hl with rfl | rfl <;> rfl
  · intro l hl x hx
    rcases luhL_mem hl with rfl | rfl
    · obtain ⟨d, hd, rfl⟩ := List.mem_map.1 hx
      have := List.mem_range.1 hd
      omega
    · simp only [dblL, List.mem_cons, List.not_mem_nil, or_false] at hx
      omega
set_option maxHeartbeats 1000000 in
theorem impl_sameOrder (n : Nat) (w : World) (hn : n ≤ 1048576) : Calls Try.prog 175 #[.int .i64 n] w (RetOwn 2 (I (idL n)) w) := by
  go_enter Try.func175, Try.ntmps175
  go_wp2_with fail
  go_loopw [3, 7] (fun v3 v7 wr => ∃ (k : Nat) (ra : Option Addr) (rc : Nat), k ≤ n ∧ v7 = .int .i64 k ∧ v3 = .slice ra k rc ∧ Hid (Own wr w.heap.size 2 ra k rc (I ((idL n).take k))) ∧ Ext w wr) (fun _ v7 _ => n - (intOf v7).toNat)
  case atStart => exact ⟨0, _, _, Nat.zero_le _, rfl, rfl, Own.lit0 _ _, (Ext.refl _).alloc _⟩
  case round =>
    obtain ⟨k, ra, rc, hk, rfl, rfl, HR, hx⟩ := hrel
    by_cases hlt : k < n
    · have HN := Lib.hid (idL_step hlt)
      go_wp2_with (at_builtin; refine law_append1 _ rfl _ _ 25 rfl 2 (.int .i64 0) 8 und_int64s info_int64 rfl w.heap.size ra k rc _ _ rfl rfl rfl HR.out hx.le (by omega) (by omega) ?_; intro ra' rc' w6 ho6 hb6 _; have hxo6 : Ext w w6 := Ext.below hx hb6)
      exact ⟨⟨k + 1, ra', rc', by omega, by go_num, rfl, by rw [Hid, HN.out, I_append]; exact ho6, hxo6⟩, by simp [intOf]; omega⟩
    · obtain rfl : k = n := by omega
      go_wp2_with fail
      go_ret
      have h := HR.out
      rw [take_full (by rw [idL_len]; exact Nat.le_refl _)] at h
      exact RetOwn.mk h (idL_len _) hx
set_option maxHeartbeats 4000000 in
theorem impl_luhn (n : Nat) (w : World) (h0 : 1 ≤ n) (h1 : n ≤ 10) : Calls Try.prog 130 #[.int .i64 n] w (RetChO (addCh 10 10 0 (luhL n)) w) := by
  have HAd := Lib.hid (fun la lc W (hm : Mat W la n lc (luhL n)) => impl_adding 10 10 0 la n lc (luhL n) W hm (luh_ok h0 h1))
  have HSo := Lib.hid (fun W => impl_sameOrder 10 W (by omega))
  rw [show ((10 : Nat) : Int) = 10 from rfl] at HSo
  go_enter Try.func130, Try.ntmps130
  go_wp2_with fail
  obtain ⟨g, hg⟩ : ∃ g, g = w.heap.size := ⟨_, rfl⟩
  obtain ⟨wz, hwz⟩ : ∃ W, W = (w.alloc (.cells #[.int .i64 0, .int .i64 0, .int .i64 0, .int .i64 0, .slice none 0 0, .slice none 0 0] 27)).alloc (.cells #[] 25) := ⟨_, rfl⟩
  have hxz : Ext w wz := by rw [hwz]; exact (by repeat (first | (with_reducible exact Ext.refl _) | (with_reducible refine Ext.drewN ?_ _) | (with_reducible refine Ext.drew ?_) | (with_reducible refine Ext.alloc ?_ _) | ((with_reducible refine Ext.setCell ?_ ?_ _); rotate_left; focus (first | (simp; done) | (simp; omega) | omega)) | assumption | (with_reducible refine Ext.trans ?_ (by assumption))))
  have HZ := Lib.hid (show SAt wz g 27 #[.int .i64 0, .int .i64 0, .int .i64 0, .int .i64 0, .slice none 0 0, .slice none 0 0] from by rw [hwz, hg]; exact (SAt.new' w #[.int .i64 0, .int .i64 0, .int .i64 0, .int .i64 0, .slice none 0 0, .slice none 0 0] 27 rfl).alloc _)
  have HM0 := Lib.hid (show OwnMat wz w.heap.size 25 2 (some ⟨g + 1, 0, none⟩) 0 0 [] from by
    rw [hwz, hg]
    have h := OwnMat.lit0 (w.alloc (.cells #[.int .i64 0, .int .i64 0, .int .i64 0, .int .i64 0, .slice none 0 0, .slice none 0 0] 27)) 25 2
    rw [show (w.alloc (.cells #[.int .i64 0, .int .i64 0, .int .i64 0, .int .i64 0, .slice none 0 0, .slice none 0 0] 27)).heap.size = w.heap.size + 1 by simp] at h
    exact h.mono (by omega))
  have hgw : w.heap.size ≤ g := by omega
  rw [← hwz, ← hg]
  clear hwz hg
  go_loopw [3, 4] (fun v3 v4 wr => ∃ (k : Nat) (ta : Option Addr) (tc : Nat), k ≤ n ∧ v4 = .int .i64 ((n : Int) - 1 - k) ∧ v3 = .slice ta k tc ∧ Hid (OwnMat wr w.heap.size 25 2 ta k tc ((luhL n).take k)) ∧ Hid (SAt wr g 27 #[.int .i64 0, .int .i64 0, .int .i64 0, .int .i64 0, .slice none 0 0, .slice none 0 0]) ∧ Ext w wr) (fun _ v4 _ => (intOf v4 + 1).toNat)
  case atStart => exact ⟨0, _, _, Nat.zero_le _, by simp, rfl, HM0.out, HZ.out, hxz⟩
  case round =>
    obtain ⟨k, ta, tc, hk, rfl, rfl, HT, HZr, hxw⟩ := hrel
    have hle : w.heap.size ≤ wr.heap.size := hxw.le
    by_cases hlt : k < n
    · have HN := Lib.hid (luhL_step hlt)
      obtain ⟨i, hi⟩ := Int.eq_ofNat_of_zero_le (show 0 ≤ (n : Int) - 1 - k by omega)
      have him : ((i : Nat) : Int).tmod 2 = (i : Int) % 2 := Int.tmod_eq_emod_of_nonneg (by omega)
      by_cases hev : (i : Int) % 2 = 0
      · have HRw := Lib.hid (show luhR ((n : Int) - 1 - k) = idL 10 by rw [hi, luhR, if_pos hev])
        have hev2 : ((i : Nat) : Int).tmod 2 = 0 := by rw [him, hev]
        have HI := Lib.hid hi
        have hi9 : i ≤ 10 := by omega
        rw [hi]
        clear hi
        go_wp2_with (first | ((with_reducible refine (HSo.out _).mono ?_); rintro e w6 ⟨ra, rc, rfl, ho6, hy6⟩; rw [I_len, idL_len] at ho6 ⊢; have HT6 := Lib.hid (HT.out.ext hy6); have HO6 := Lib.hid (ho6.mono hle); have HZ6 := Lib.hid (HZr.out.ext hy6); have hxw6 : Ext w w6 := hxw.trans hy6; obtain ⟨tvs, htv, htp⟩ := HT6.out.rows; have HTV := Lib.hid htv; have HTP := Lib.hid htp; clear htv htp ho6) | (at_builtin; refine law_append1 _ rfl _ _ 43 rfl 25 (.slice none 0 0) 24 und_rows info_row2 rfl w.heap.size ta k tc _ _ rfl rfl rfl HTV.out hxw6.le (by omega) (by omega) ?_; intro ta' tc' w7 ho7 hb7 hg7; have hx7 : Ext w w7 := Ext.below hxw6 hb7; have HZ7 := Lib.hid (HZ6.out.grown hg7 (row_ne_s (HTV.out.ne_s HZ6.out (by decide))))))
        have hi := HI.out
        exact ⟨⟨k + 1, ta', tc', by omega, by congr 1; omega, rfl, by rw [Hid, HN.out, HRw.out]; exact OwnMat.push HT6.out.len HTP.out HTV.out HO6.out ho7 hg7 (by decide), HZ7.out, hx7⟩, by simp [intOf] <;> omega⟩
      · have HRw := Lib.hid (show luhR ((n : Int) - 1 - k) = dblL by rw [hi, luhR, if_neg hev])
        have hev2 : ((i : Nat) : Int).tmod 2 = 1 := by rw [him]; omega
        have HI := Lib.hid hi
        have hi9 : i ≤ 10 := by omega
        rw [hi]
        clear hi
        have HT6 := Lib.hid (HT.out.ext ((Ext.refl wr).alloc (.cells #[.int .i64 0, .int .i64 2, .int .i64 4, .int .i64 6, .int .i64 8, .int .i64 1, .int .i64 3, .int .i64 5, .int .i64 7, .int .i64 9] 2)))
        have HO6 := Lib.hid (show Own (wr.alloc (.cells #[.int .i64 0, .int .i64 2, .int .i64 4, .int .i64 6, .int .i64 8, .int .i64 1, .int .i64 3, .int .i64 5, .int .i64 7, .int .i64 9] 2)) w.heap.size 2 (some ⟨wr.heap.size, 0, none⟩) 10 10 (I dblL) from
          Own.mono (World.ownsRow_lit (e := 2) (size := 1) wr #[.int .i64 0, .int .i64 2, .int .i64 4, .int .i64 6, .int .i64 8, .int .i64 1, .int .i64 3, .int .i64 5, .int .i64 7, .int .i64 9] 10 (Nat.le_refl _) (by decide) rfl) hle)
        have HZ6 := Lib.hid (HZr.out.ext ((Ext.refl wr).alloc (.cells #[.int .i64 0, .int .i64 2, .int .i64 4, .int .i64 6, .int .i64 8, .int .i64 1, .int .i64 3, .int .i64 5, .int .i64 7, .int .i64 9] 2)))
        have hxw6 : Ext w (wr.alloc (.cells #[.int .i64 0, .int .i64 2, .int .i64 4, .int .i64 6, .int .i64 8, .int .i64 1, .int .i64 3, .int .i64 5, .int .i64 7, .int .i64 9] 2)) := hxw.alloc _
        obtain ⟨tvs, htv, htp⟩ := HT6.out.rows
        have HTV := Lib.hid htv
        have HTP := Lib.hid htp
        clear htv htp
        go_wp2_with (at_builtin; refine law_append1 _ rfl _ _ 43 rfl 25 (.slice none 0 0) 24 und_rows info_row2 rfl w.heap.size ta k tc _ _ rfl rfl (by simp [Act.eval, go_sem]) HTV.out hxw6.le (by omega) (by omega) ?_; intro ta' tc' w7 ho7 hb7 hg7; have hx7 : Ext w w7 := Ext.below hxw6 hb7; have HZ7 := Lib.hid (HZ6.out.grown hg7 (row_ne_s (HTV.out.ne_s HZ6.out (by decide)))))
        have hi := HI.out
        exact ⟨⟨k + 1, ta', tc', by omega, by congr 1; omega, rfl, by rw [Hid, HN.out, HRw.out]; exact OwnMat.push HT6.out.len HTP.out HTV.out HO6.out ho7 hg7 (by decide), HZ7.out, hx7⟩, by simp [intOf] <;> omega⟩
    · obtain rfl : k = n := by omega
      have HTk := Lib.hid (show Mat wr ta k tc (luhL k) from by have h := HT.out.mat; rwa [take_full (by rw [luhL_len]; exact Nat.le_refl _)] at h)
      have HZw := Lib.hid HZr.out.lt
      have hgr := HZr.out.lt
      go_wp2_with ((with_reducible refine (HAd.out _ _ _ HTk.out).mono ?_); rintro e w8 ⟨a8, x8, d8, b8, y8, g8, rfl, hch, hy8⟩; have hx8 : Ext w w8 := Ext.trans hxw hy8; have HCh := Lib.hid hch; have HZ8 := Lib.hid (HZr.out.ext hy8); have z0 := HZ8.out.cell 0 (by simp); have z1 := HZ8.out.cell 1 (by simp); have z2 := HZ8.out.cell 2 (by simp); have z3 := HZ8.out.cell 3 (by simp); have z4 := HZ8.out.cell 4 (by simp); have z5 := HZ8.out.cell 5 (by simp); have fr := fun j => HZ8.out.frozen j; have hltz := HZ8.out.lt; (try simp only [List.getElem_toArray, List.getElem_cons_succ, List.getElem_cons_zero] at z0 z1 z2 z3 z4 z5); clear hch)
      generalize hDD : addCh 10 10 0 (luhL k) = DD at *
      refine bodyPost_ret (v := .agg #[.int .i64 DD.base, .int .i64 DD.states, .int .i64 DD.start, .int .i64 DD.fin, .slice a8 x8 d8, .slice b8 y8 g8]) ?_ rfl ?_
      · simp [results, Try.results130, go_sem, z0, z1, z2, z3, z4, z5]
      · refine ⟨a8, x8, d8, b8, y8, g8, rfl, fun V hV => HCh.out V (KeepB.trans ?_ (hV.mono ?_ ?_)), ?_⟩
        · repeat (first | with_reducible exact KeepB.refl _ _ _ | (with_reducible refine KeepB.setB ?_ _ _ (Or.inl ?_); rotate_left; (focus (simp <;> omega))))
        · omega
        · simp
        · repeat (first | with_reducible exact hx8 | with_reducible refine Ext.setCell ?_ hgw _)
end Go.Proofs.Ytaiieodllhoelaa
