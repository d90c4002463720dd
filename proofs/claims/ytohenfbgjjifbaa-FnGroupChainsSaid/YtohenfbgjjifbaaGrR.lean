/- Walks: the groups that the reference makes: cyclic, dihedral, products. -/
import Derived.Test.YtohenfbgjjifbaaGrB
import Derived.Test.YtohenfbgjjifbaaMod
import Derived.Test.YtohenfbgjjifbaaDrawD
import Derived.Deep.CutRange
import Derived.Deep.CutBlock
namespace Go.Proofs.Ytohenfbgjjifbaa
set_option maxRecDepth 100000
open Go.RowKit

def RowsB (n : Nat) (ll : List (List Int)) : Prop := ∀ r ∈ ll, r.length = n ∧ ∀ z ∈ r, 0 ≤ z ∧ z < (n : Int)
theorem RowsB.sq {n : Nat} {ll : List (List Int)} (h : RowsB n ll) (hl : ll.length = n) : SqT ll n :=
  ⟨hl, fun x hx => (h _ (gl_mem (by omega))).1, fun x hx y hy => (h _ (gl_mem (by omega))).2 _ (gi_mem (by rw [(h _ (gl_mem (by omega))).1]; exact hy))⟩
/-- a group whose blocks are of the call's own -/
def RetSq (n : Nat) (w : World) (e : Ending) (w' : World) : Prop :=
  ∃ a c T, e = .returned (.agg #[.slice a n c]) ∧ SqT T n ∧ OwnMat w' w.heap.size 28 2 a n c T ∧ Ext w w'
theorem ownMat_setG {W : World} {B : Nat} {E1 E0 : TypeId} {a : Option Addr} {n c : Nat} {ll : List (List Int)} (h : OwnMat W B E1 E0 a n c ll) {p : Addr} (hp : p.block < B) (u : Value) : OwnMat (W.setCell p u) B E1 E0 a n c ll :=
  h.keepB fun r h1 _ => Below.heap_setCell W p u r (by omega)
theorem ext_setG {w W : World} {p : Addr} {u : Value} (h : Ext w W) (hp : w.heap.size ≤ p.block) : Ext w (W.setCell p u) := h.setCell hp u
/-- half made: block q holds the table so far -/
structure GI (w : World) (B q1 q2 n k : Nat) (ga : Option Addr) (gc : Nat) (ll : List (List Int)) (W : World) : Prop where
  m : OwnMat W B 28 2 ga k gc ll
  r : RowsB n ll
  s : SAt W q2 26 #[.slice ga k gc]
  z : SAt W q1 26 #[.slice none 0 0]
  h : Ext w W
  b : B ≤ W.heap.size
theorem GI.ext {w W W' : World} {B q1 q2 n k : Nat} {ga : Option Addr} {gc : Nat} {ll : List (List Int)} (d : GI w B q1 q2 n k ga gc ll W) (hx : Ext W W') : GI w B q1 q2 n k ga gc ll W' :=
  ⟨d.m.ext hx, d.r, d.s.ext hx, d.z.ext hx, d.h.trans hx, Nat.le_trans d.b hx.le⟩
/-- one row more, and the store of the slice -/
theorem GI.push {w wr w8 : World} {B q1 q2 n k : Nat} {ga ra ga' : Option Addr} {gc rc gc' : Nat} {ll : List (List Int)} {r : List Int} {tvs : List Value} (d : GI w B q1 q2 n k ga gc ll wr)
    (hp : ∀ j, j < k → ∃ a' n' c', gv tvs j = .slice a' n' c' ∧ Own wr B 2 a' n' c' (I (gl ll j))) (hv : Own wr B 28 ga k gc tvs) (ho : Own wr B 2 ra n rc (I r)) (hl : r.length = n) (hb : ∀ z ∈ r, 0 ≤ z ∧ z < (n : Int))
    (ho8 : Own w8 B 28 ga' (k + 1) gc' (tvs ++ [.slice ra n rc])) (hb8 : Below B wr w8) (hg8 : wr.grownBy w8 (Value.slice ga k gc).ownBlock) (hw : w.heap.size ≤ q2) (h12 : q1 ≠ q2) (h2B : q2 < B) :
    GI w B q1 q2 n (k + 1) ga' gc' (ll ++ [r]) (w8.setCell ⟨q2, 0, none⟩ (.slice ga' (k + 1) gc')) := by
  have hm := OwnMat.push d.m.len hp hv ho ho8 hg8 (by decide)
  have hs := d.s.grown hg8 (row_ne_s (hv.ne_s d.s (by decide)))
  have hz := d.z.grown hg8 (row_ne_s (hv.ne_s d.z (by decide)))
  exact ⟨ownMat_setG hm (by simp only; omega) _, all_snoc d.r ⟨hl, hb⟩, hs.set 0 _, hz.other _ (by simp only; omega), ext_setG (Ext.below d.h (hb8.mono (by omega))) (by simp only; omega), by simpa [World.setCell] using Nat.le_trans d.b hg8.size⟩
set_option maxHeartbeats 4000000 in
theorem spec_cyclic (n : Nat) (w : World) (h1 : 1 ≤ n) (h10 : n ≤ 10) : Calls Try.prog 34 #[.int .i64 n] w (RetSq n w) := by
  go_enter Try.func34, Try.ntmps34
  go_wp2_with fail
  obtain ⟨q1, hq1⟩ : ∃ q, q = w.heap.size := ⟨_, rfl⟩
  obtain ⟨q2, hq2⟩ : ∃ q, q = q1 + 1 := ⟨_, rfl⟩
  obtain ⟨wz, hwz⟩ : ∃ W, W = (w.alloc (.cells #[.slice none 0 0] 26)).alloc (.cells #[.slice none 0 0] 26) := ⟨_, rfl⟩
  obtain ⟨B, hB⟩ : ∃ B, B = q2 + 1 := ⟨_, rfl⟩
  have HD0 := Lib.hid (show GI w B q1 q2 n 0 none 0 [] wz from ⟨OwnMat.nil0 _ _ _ _, (fun r hr => by cases hr), by rw [hwz, hq2, hq1]; exact SAt.new' _ _ _ (by simp), by rw [hwz, hq1]; exact (SAt.new' w #[.slice none 0 0] 26 rfl).alloc _, by rw [hwz]; exact (by repeat (first | (with_reducible exact Ext.refl _) | (with_reducible refine Ext.drewN ?_ _) | (with_reducible refine Ext.drew ?_) | (with_reducible refine Ext.alloc ?_ _) | ((with_reducible refine Ext.setCell ?_ ?_ _); rotate_left; focus (first | (simp; done) | (simp; omega) | omega)) | assumption | (with_reducible refine Ext.trans ?_ (by assumption)))), by rw [hwz, hB, hq2, hq1]; simp⟩)
  have hwq1 : w.heap.size ≤ q1 := by omega
  have h12 : q1 < q2 := by omega
  have h2B : q2 < B := by omega
  rw [← hwz, ← hq1, ← hq2]
  clear hwz hq1 hq2 hB
  go_loopw [4] (fun v4 wr => ∃ (k : Nat) (ga : Option Addr) (gc : Nat) (ll : List (List Int)), k ≤ n ∧ v4 = .int .i64 k ∧ Hid (GI w B q1 q2 n k ga gc ll wr)) (fun v4 _ => n - (intOf v4).toNat)
  case atStart => exact ⟨0, _, _, _, Nat.zero_le _, rfl, HD0.out⟩
  case round =>
    clear HD0
    obtain ⟨k, ga, gc, ll, hk, rfl, HD⟩ := hrel
    have hBr := HD.out.b
    by_cases hlt : k < n
    · obtain ⟨wo, hwo⟩ : ∃ W, W = wr := ⟨_, rfl⟩
      subst hwo
      go_wp2_with fail
      go_loopw [5, 6] (fun v5 v6 wr => ∃ (j : Nat) (ra : Option Addr) (rc : Nat) (r : List Int), j ≤ n ∧ v6 = .int .i64 j ∧ v5 = .slice ra j rc ∧ Hid (Own wr wo.heap.size 2 ra j rc (I r)) ∧ Hid (r.length = j) ∧ Hid (∀ z ∈ r, 0 ≤ z ∧ z < (n : Int)) ∧ Ext wo wr) (fun _ v6 _ => n - (intOf v6).toNat)
      case atStart => exact ⟨0, _, _, [], Nat.zero_le _, rfl, rfl, Own.lit0 _ _, rfl, (fun z hz => by cases hz), (Ext.refl _).alloc _⟩
      case round =>
        obtain ⟨j, ra, rc, r, hj, rfl, rfl, HO, HL, HZ, hx⟩ := hrel
        by_cases hlj : j < n
        · have hm : 0 ≤ ((k : Int) + (j : Int)) % (n : Int) ∧ ((k : Int) + (j : Int)) % (n : Int) < (n : Int) := ⟨Int.emod_nonneg _ (by omega), Int.emod_lt_of_pos _ (by omega)⟩
          go_wp2_with (at_builtin; refine law_append1 _ rfl _ _ 28 rfl 2 (.int .i64 0) 8 und_int64s info_int64 rfl wo.heap.size ra j rc _ _ rfl rfl rfl HO.out hx.le (by omega) (by omega) ?_; intro ra' rc' w6 ho6 hb6 _; have hxo6 : Ext wo w6 := Ext.below hx hb6)
          exact ⟨⟨j + 1, ra', rc', r ++ [((k : Int) + (j : Int)) % (n : Int)], by omega, by go_num, rfl, by rw [Hid, I_append]; exact ho6, by rw [Hid, List.length_append, HL.out]; rfl, by rw [Hid]; exact all_snoc HZ.out hm, hxo6⟩, by simp [intOf]; omega⟩
        · obtain rfl : j = n := by omega
          have HD4 := Lib.hid (HD.out.ext hx)
          have HO4 := Lib.hid (HO.out.mono hBr)
          obtain ⟨tvs, htv, htp⟩ := HD4.out.m.rows
          have HTV := Lib.hid htv
          have HTP := Lib.hid htp
          have hb4 := HD4.out.b
          have e2 := HD4.out.s.cell 0 (by simp)
          simp only [List.getElem_toArray, List.getElem_cons_zero] at e2
          clear htv htp
          go_wp2_with (at_builtin; refine law_append1 _ rfl _ _ 24 rfl 28 (.slice none 0 0) 24 und_rows info_row1 rfl B ga k gc _ _ rfl rfl rfl HTV.out hb4 (by omega) (by omega) ?_; intro ga' gc' w8 ho8 hb8 hg8; have HD8 := Lib.hid (GI.push HD4.out HTP.out HTV.out HO4.out HL.out HZ.out ho8 hb8 hg8 (by omega) (by omega) h2B); have HS8 := Lib.hid (HD4.out.s.grown hg8 (row_ne_s (HTV.out.ne_s HD4.out.s (by decide)))); have e8 := HS8.out.cell 0 (by simp); have fr := HS8.out.frozen 0; have hlt8 := HS8.out.lt; simp only [List.getElem_toArray, List.getElem_cons_zero] at e8; clear ho8 hb8 hg8)
          exact ⟨⟨k + 1, ga', gc', ll ++ [r], by omega, by go_num, HD8.out⟩, by simp [intOf]; omega⟩
    · obtain rfl : k = n := by omega
      have e2 := HD.out.s.cell 0 (by simp)
      have z0 := HD.out.z.cell 0 (by simp)
      have zf := HD.out.z.frozen 0
      have zl := HD.out.z.lt
      simp only [List.getElem_toArray, List.getElem_cons_zero] at e2 z0
      go_wp2_with fail
      refine bodyPost_ret (v := .agg #[.slice ga k gc]) ?_ rfl ?_
      · simp [results, Try.results34, go_sem, z0]
      · exact ⟨ga, gc, ll, rfl, HD.out.r.sq HD.out.m.len, (ownMat_setG HD.out.m (by simp only; omega) _).mono (by omega), ext_setG HD.out.h hwq1⟩
end Go.Proofs.Ytohenfbgjjifbaa

/- Walks: the groups that the reference draws. -/
namespace Go.Proofs.Ytohenfbgjjifbaa
set_option maxRecDepth 100000
open Go.RowKit

theorem row_snoc {w : World} {B : Nat} {E : TypeId} {a : Option Addr} {n c : Nat} {r : List Int} {v N : Int} (ho : Own w B E a n c (I r ++ [.int .i64 v])) (hz : ∀ z ∈ r, 0 ≤ z ∧ z < N) (hv : 0 ≤ v ∧ v < N) :
    Own w B E a n c (I (r ++ [v])) ∧ ∀ z ∈ r ++ [v], 0 ≤ z ∧ z < N := ⟨by rw [I_append]; exact ho, all_snoc hz hv⟩
set_option maxHeartbeats 8000000 in
theorem spec_dihedral (n N : Nat) (w : World) (h1 : 1 ≤ n) (h5 : n ≤ 5) (hN : N = 2 * n) : Calls Try.prog 36 #[.int .i64 n] w (RetSq N w) := by
  have HMd := Lib.hid (fun (x : Int) W (h : -9223372036854775807 ≤ x) (h2 : x ≤ 9223372036854775807) => spec_mod x (n : Int) W (by omega) (by omega) h h2)
  have hmd : ∀ x : Int, 0 ≤ x % (n : Int) ∧ x % (n : Int) < (n : Int) := fun x => ⟨Int.emod_nonneg _ (by omega), Int.emod_lt_of_pos _ (by omega)⟩
  have hN1 : 2 * n ≤ N := by omega
  have hN2 : N ≤ 2 * n := by omega
  clear hN
  go_enter Try.func36, Try.ntmps36
  go_wp2_with fail
  obtain ⟨q1, hq1⟩ : ∃ q, q = w.heap.size := ⟨_, rfl⟩
  obtain ⟨q2, hq2⟩ : ∃ q, q = q1 + 1 := ⟨_, rfl⟩
  obtain ⟨wz, hwz⟩ : ∃ W, W = (w.alloc (.cells #[.slice none 0 0] 26)).alloc (.cells #[.slice none 0 0] 26) := ⟨_, rfl⟩
  obtain ⟨B, hB⟩ : ∃ B, B = q2 + 1 := ⟨_, rfl⟩
  have HD0 := Lib.hid (show GI w B q1 q2 N 0 none 0 [] wz from ⟨OwnMat.nil0 _ _ _ _, (fun r hr => by cases hr), by rw [hwz, hq2, hq1]; exact SAt.new' _ _ _ (by simp), by rw [hwz, hq1]; exact (SAt.new' w #[.slice none 0 0] 26 rfl).alloc _, by rw [hwz]; exact (by repeat (first | (with_reducible exact Ext.refl _) | (with_reducible refine Ext.drewN ?_ _) | (with_reducible refine Ext.drew ?_) | (with_reducible refine Ext.alloc ?_ _) | ((with_reducible refine Ext.setCell ?_ ?_ _); rotate_left; focus (first | (simp; done) | (simp; omega) | omega)) | assumption | (with_reducible refine Ext.trans ?_ (by assumption)))), by rw [hwz, hB, hq2, hq1]; simp⟩)
  have hwq1 : w.heap.size ≤ q1 := by omega
  have h12 : q1 < q2 := by omega
  have h2B : q2 < B := by omega
  rw [← hwz, ← hq1, ← hq2]
  clear hwz hq1 hq2 hB
  go_loopw [4] (fun v4 wr => ∃ (k : Nat) (ga : Option Addr) (gc : Nat) (ll : List (List Int)), k ≤ N ∧ v4 = .int .i64 k ∧ Hid (GI w B q1 q2 N k ga gc ll wr)) (fun v4 _ => N - (intOf v4).toNat)
  case atStart => exact ⟨0, _, _, _, Nat.zero_le _, rfl, HD0.out⟩
  case round =>
    clear HD0
    obtain ⟨k, ga, gc, ll, hk, rfl, HD⟩ := hrel
    have hBr := HD.out.b
    by_cases hlt : k < N
    · obtain ⟨wo, hwo⟩ : ∃ W, W = wr := ⟨_, rfl⟩
      subst hwo
      have hkd : decide ((k : Int) < 2 * (n : Int)) = true := decide_eq_true (by omega)
      go_wp2_with fail
      (try rw [hkd])
      go_loopw [5, 6, 29, 46, 62] (fun v5 v6 _ _ _ wr => ∃ (j : Nat) (ra : Option Addr) (rc : Nat) (r : List Int), j ≤ N ∧ v6 = .int .i64 j ∧ v5 = .slice ra j rc ∧ Hid (Own wr wo.heap.size 2 ra j rc (I r)) ∧ Hid (r.length = j) ∧ Hid (∀ z ∈ r, 0 ≤ z ∧ z < (N : Int)) ∧ Ext wo wr) (fun _ v6 _ _ _ _ => N - (intOf v6).toNat)
      case atStart => exact ⟨0, _, _, [], Nat.zero_le _, rfl, rfl, Own.lit0 _ _, rfl, (fun z hz => by cases hz), (Ext.refl _).alloc _⟩
      case round =>
        obtain ⟨j, ra, rc, r, hj, rfl, rfl, HO, HL, HZ, hx⟩ := hrel
        by_cases hlj : j < N
        · have hb1 := hmd ((k : Int) + j)
          have hb2 := hmd ((k : Int) + j - n)
          have hb3 := hmd ((k : Int) - n - j)
          have hb4 := hmd ((k : Int) - j)
          by_cases h1 : k < n
          · by_cases h2 : j < n
            · go_wp2_with (first | (go_at_call 61; (with_reducible refine (HMd.out _ _ (by omega) (by omega)).mono ?_); rintro e w5 ⟨rfl, rfl⟩) | (at_builtin; refine law_append1 _ rfl _ _ 28 rfl 2 (.int .i64 0) 8 und_int64s info_int64 rfl wo.heap.size ra j rc _ _ rfl rfl rfl HO.out hx.le (by omega) (by omega) ?_; intro ra' rc' w6 ho6 hb6 _; have hxo6 : Ext wo w6 := Ext.below hx hb6))
              obtain ⟨h7, h8⟩ := row_snoc ho6 HZ.out (by first | (have := hmd ((k : Int) + j); omega) | (have := hmd ((k : Int) + j - n); omega) | (have := hmd ((k : Int) - n - j); omega) | (have := hmd ((k : Int) - j); omega))
              exact ⟨⟨j + 1, ra', rc', _, by omega, by go_num, rfl, h7, by rw [Hid, List.length_append, HL.out]; rfl, h8, hxo6⟩, by simp [intOf]; omega⟩
            · go_wp2_with (first | (go_at_call 61; (with_reducible refine (HMd.out _ _ (by omega) (by omega)).mono ?_); rintro e w5 ⟨rfl, rfl⟩) | (at_builtin; refine law_append1 _ rfl _ _ 28 rfl 2 (.int .i64 0) 8 und_int64s info_int64 rfl wo.heap.size ra j rc _ _ rfl rfl rfl HO.out hx.le (by omega) (by omega) ?_; intro ra' rc' w6 ho6 hb6 _; have hxo6 : Ext wo w6 := Ext.below hx hb6))
              obtain ⟨h7, h8⟩ := row_snoc ho6 HZ.out (by first | (have := hmd ((k : Int) + j); omega) | (have := hmd ((k : Int) + j - n); omega) | (have := hmd ((k : Int) - n - j); omega) | (have := hmd ((k : Int) - j); omega))
              exact ⟨⟨j + 1, ra', rc', _, by omega, by go_num, rfl, h7, by rw [Hid, List.length_append, HL.out]; rfl, h8, hxo6⟩, by simp [intOf]; omega⟩
          · by_cases h2 : j < n
            · go_wp2_with (first | (go_at_call 61; (with_reducible refine (HMd.out _ _ (by omega) (by omega)).mono ?_); rintro e w5 ⟨rfl, rfl⟩) | (at_builtin; refine law_append1 _ rfl _ _ 28 rfl 2 (.int .i64 0) 8 und_int64s info_int64 rfl wo.heap.size ra j rc _ _ rfl rfl rfl HO.out hx.le (by omega) (by omega) ?_; intro ra' rc' w6 ho6 hb6 _; have hxo6 : Ext wo w6 := Ext.below hx hb6))
              obtain ⟨h7, h8⟩ := row_snoc ho6 HZ.out (by first | (have := hmd ((k : Int) + j); omega) | (have := hmd ((k : Int) + j - n); omega) | (have := hmd ((k : Int) - n - j); omega) | (have := hmd ((k : Int) - j); omega))
              exact ⟨⟨j + 1, ra', rc', _, by omega, by go_num, rfl, h7, by rw [Hid, List.length_append, HL.out]; rfl, h8, hxo6⟩, by simp [intOf]; omega⟩
            · go_wp2_with (first | (go_at_call 61; (with_reducible refine (HMd.out _ _ (by omega) (by omega)).mono ?_); rintro e w5 ⟨rfl, rfl⟩) | (at_builtin; refine law_append1 _ rfl _ _ 28 rfl 2 (.int .i64 0) 8 und_int64s info_int64 rfl wo.heap.size ra j rc _ _ rfl rfl rfl HO.out hx.le (by omega) (by omega) ?_; intro ra' rc' w6 ho6 hb6 _; have hxo6 : Ext wo w6 := Ext.below hx hb6))
              obtain ⟨h7, h8⟩ := row_snoc ho6 HZ.out (by first | (have := hmd ((k : Int) + j); omega) | (have := hmd ((k : Int) + j - n); omega) | (have := hmd ((k : Int) - n - j); omega) | (have := hmd ((k : Int) - j); omega))
              exact ⟨⟨j + 1, ra', rc', _, by omega, by go_num, rfl, h7, by rw [Hid, List.length_append, HL.out]; rfl, h8, hxo6⟩, by simp [intOf]; omega⟩
        · obtain rfl : j = N := by omega
          have HD4 := Lib.hid (HD.out.ext hx)
          have HO4 := Lib.hid (HO.out.mono hBr)
          obtain ⟨tvs, htv, htp⟩ := HD4.out.m.rows
          have HTV := Lib.hid htv
          have HTP := Lib.hid htp
          have hb4 := HD4.out.b
          have e2 := HD4.out.s.cell 0 (by simp)
          simp only [List.getElem_toArray, List.getElem_cons_zero] at e2
          clear htv htp
          go_wp2_with (at_builtin; refine law_append1 _ rfl _ _ 24 rfl 28 (.slice none 0 0) 24 und_rows info_row1 rfl B ga k gc _ _ rfl rfl rfl HTV.out hb4 (by omega) (by omega) ?_; intro ga' gc' w8 ho8 hb8 hg8; have HD8 := Lib.hid (GI.push HD4.out HTP.out HTV.out HO4.out HL.out HZ.out ho8 hb8 hg8 (by omega) (by omega) h2B); have HS8 := Lib.hid (HD4.out.s.grown hg8 (row_ne_s (HTV.out.ne_s HD4.out.s (by decide)))); have e8 := HS8.out.cell 0 (by simp); have fr := HS8.out.frozen 0; have hlt8 := HS8.out.lt; simp only [List.getElem_toArray, List.getElem_cons_zero] at e8; clear ho8 hb8 hg8)
          exact ⟨⟨k + 1, ga', gc', ll ++ [r], by omega, by go_num, HD8.out⟩, by simp [intOf]; omega⟩
    · obtain rfl : k = N := by omega
      have e2 := HD.out.s.cell 0 (by simp)
      have z0 := HD.out.z.cell 0 (by simp)
      have zf := HD.out.z.frozen 0
      have zl := HD.out.z.lt
      simp only [List.getElem_toArray, List.getElem_cons_zero] at e2 z0
      go_wp2_with fail
      refine bodyPost_ret (v := .agg #[.slice ga k gc]) ?_ rfl ?_
      · simp [results, Try.results36, go_sem, z0]
      · exact ⟨ga, gc, ll, rfl, HD.out.r.sq HD.out.m.len, (ownMat_setG HD.out.m (by simp only; omega) _).mono (by omega), ext_setG HD.out.h hwq1⟩
end Go.Proofs.Ytohenfbgjjifbaa

/- Walks: the product of two groups, in the reference. -/
namespace Go.Proofs.Ytohenfbgjjifbaa
set_option maxRecDepth 100000
open Go.RowKit

theorem sqT_nil : SqT [] 0 := ⟨rfl, fun x hx => by omega, fun x hx => by omega⟩
/-- a table of the call's own, maybe an empty one -/
def RetPg (w : World) (e : Ending) (w' : World) : Prop :=
  ∃ (k : Nat) (a : Option Addr) (c : Nat) (T : List (List Int)) (b : Bool), e = .returned (.tuple #[.agg #[.slice a k c], .bool b]) ∧ k ≤ 10 ∧ SqT T k ∧ OwnMat w' w.heap.size 28 2 a k c T ∧ Ext w w'
theorem mul_lt2 {m t u n : Nat} (ht : t < n) (hu : u < m) : m * t + u < n * m := by
  have h1 : (t + 1) * m ≤ n * m := Nat.mul_le_mul_right _ ht
  rw [Nat.succ_mul, Nat.mul_comm t m] at h1
  omega
set_option maxHeartbeats 8000000 in
theorem spec_product (n m : Nat) (T U : List (List Int)) (a : Option Addr) (c : Nat) (a' : Option Addr) (c' : Nat) (w : World) (hv : Mat w a n c T) (hs : SqT T n) (hv' : Mat w a' m c' U) (hs' : SqT U m) (hn : n ≤ 10) (hm : m ≤ 10) :
    Calls Try.prog 37 #[.agg #[.slice a n c], .agg #[.slice a' m c']] w (RetPg w) := by
  have HV := Lib.hid hv
  have HS := Lib.hid hs
  have HV' := Lib.hid hv'
  have HS' := Lib.hid hs'
  have HL1 := Lib.hid (show ∀ r ∈ T, r.length ≤ 1048576 from fun r hr => by
    obtain ⟨i, hi, rfl⟩ := List.mem_iff_getElem.1 hr
    have h1 := hs.len
    have := hs.row i (by omega)
    rw [gl_get hi] at this
    omega)
  have HL2 := Lib.hid (show ∀ r ∈ U, r.length ≤ 1048576 from fun r hr => by
    obtain ⟨i, hi, rfl⟩ := List.mem_iff_getElem.1 hr
    have h1 := hs'.len
    have := hs'.row i (by omega)
    rw [gl_get hi] at this
    omega)
  clear hv hs hv' hs'
  go_enter Try.func37, Try.ntmps37
  go_wp2_with fail
  obtain ⟨q0, hq0⟩ : ∃ q, q = w.heap.size := ⟨_, rfl⟩
  obtain ⟨p0, hp0⟩ : ∃ q, q = q0 + 1 := ⟨_, rfl⟩
  obtain ⟨q1, hq1⟩ : ∃ q, q = p0 + 1 := ⟨_, rfl⟩
  obtain ⟨wb, hwb⟩ : ∃ W, W = ((w.alloc (.cells #[.slice a n c] 26)).alloc (.cells #[.slice a' m c'] 26)).alloc (.cells #[.slice none 0 0] 26) := ⟨_, rfl⟩
  have hxb : Ext w wb := by rw [hwb]; exact (by repeat (first | (with_reducible exact Ext.refl _) | (with_reducible refine Ext.drewN ?_ _) | (with_reducible refine Ext.drew ?_) | (with_reducible refine Ext.alloc ?_ _) | ((with_reducible refine Ext.setCell ?_ ?_ _); rotate_left; focus (first | (simp; done) | (simp; omega) | omega)) | assumption | (with_reducible refine Ext.trans ?_ (by assumption))))
  have HQ0 := Lib.hid (show SAt wb q0 26 #[.slice a n c] from by rw [hwb, hq0]; exact ((SAt.new' w #[.slice a n c] 26 rfl).alloc _).alloc _)
  have HP0 := Lib.hid (show SAt wb p0 26 #[.slice a' m c'] from by rw [hwb, hp0, hq0]; exact (SAt.new' (w.alloc (.cells #[.slice a n c] 26)) #[.slice a' m c'] 26 (by simp)).alloc _)
  have HQ1 := Lib.hid (show SAt wb q1 26 #[.slice none 0 0] from by rw [hwb, hq1, hp0, hq0]; exact SAt.new' _ _ _ (by simp))
  have hwq1 : w.heap.size ≤ q1 := by omega
  rw [← hwb, ← hq0, ← hp0, ← hq1]
  clear hwb hq0 hp0 hq1
  have g0 : ∀ w', Ext wb w' → w'.cell? ⟨q0, 0, none⟩ = some (.slice a n c) := fun w' h => h.cell (HQ0.out.cell 0 (by simp))
  have k0 : ∀ w', Ext wb w' → w'.cell? ⟨p0, 0, none⟩ = some (.slice a' m c') := fun w' h => h.cell (HP0.out.cell 0 (by simp))
  have HI1 := Lib.hid (spec_is T n q0 a c wb (HV.out.ext hxb) (by omega) HL1.out g0)
  have HI2 := Lib.hid (fun W (h : Ext wb W) => spec_is U m p0 a' c' W (HV'.out.ext (hxb.trans h)) (by omega) HL2.out (fun w' h' => k0 w' (h.trans h')))
  refine HI1.out.mono ?_
  rintro e w1 ⟨b1, rfl, hb1, hx1⟩
  have h1lt : q1 < w1.heap.size := (HQ1.out.ext hx1).lt
  cases b1
  · have z0 := (HQ1.out.ext hx1).cell 0 (by simp)
    have zf := (HQ1.out.ext hx1).frozen 0
    simp only [List.getElem_toArray, List.getElem_cons_zero] at z0
    go_wp2_with fail
    refine bodyPost_ret (v := .tuple #[.agg #[.slice none 0 0], .bool false]) ?_ rfl ?_
    · simp [results, Try.results37, go_sem, z0]
    · exact ⟨0, none, 0, [], false, rfl, by omega, sqT_nil, OwnMat.nil0 _ _ _ _, ext_setG (hxb.trans hx1) hwq1⟩
  obtain ⟨e1, HG1⟩ := hb1 rfl
  go_wp2_with fail
  refine (HI2.out _ hx1).mono ?_
  rintro e w2 ⟨b2, rfl, hb2, hx2⟩
  have hxb2 : Ext wb w2 := hx1.trans hx2
  have h2lt : q1 < w2.heap.size := (HQ1.out.ext hxb2).lt
  have z0 := (HQ1.out.ext hxb2).cell 0 (by simp)
  have zf := (HQ1.out.ext hxb2).frozen 0
  simp only [List.getElem_toArray, List.getElem_cons_zero] at z0
  cases b2
  · go_wp2_with fail
    refine bodyPost_ret (v := .tuple #[.agg #[.slice none 0 0], .bool false]) ?_ rfl ?_
    · simp [results, Try.results37, go_sem, z0]
    · exact ⟨0, none, 0, [], false, rfl, by omega, sqT_nil, OwnMat.nil0 _ _ _ _, ext_setG (hxb.trans hxb2) hwq1⟩
  obtain ⟨e2, HG2⟩ := hb2 rfl
  have n1 := HG1.n1
  have m1 := HG2.n1
  obtain ⟨P, hP⟩ : ∃ P, P = n * m := ⟨_, rfl⟩
  have hPi : (n : Int) * (m : Int) = (P : Int) := by rw [hP]; simp
  have hP1 : P ≤ 100 := by have := Nat.mul_le_mul hn hm; omega
  have HP := Lib.hid hP
  have g2 := g0 w2 hxb2
  have k2 := k0 w2 hxb2
  clear hP HG1 HG2
  by_cases hP10 : P ≤ 10
  case neg =>
    go_wp2_with fail
    refine bodyPost_ret (v := .tuple #[.agg #[.slice none 0 0], .bool false]) ?_ rfl ?_
    · simp [results, Try.results37, go_sem, z0]
    · exact ⟨0, none, 0, [], false, rfl, by omega, sqT_nil, OwnMat.nil0 _ _ _ _, ext_setG (hxb.trans hxb2) hwq1⟩
  go_wp2_with fail
  obtain ⟨q2, hq2⟩ : ∃ q, q = w2.heap.size := ⟨_, rfl⟩
  obtain ⟨wz, hwz⟩ : ∃ W, W = w2.alloc (.cells #[.slice none 0 0] 26) := ⟨_, rfl⟩
  obtain ⟨B, hB⟩ : ∃ B, B = q2 + 1 := ⟨_, rfl⟩
  have hxz2 : Ext w2 wz := by rw [hwz]; exact (by repeat (first | (with_reducible exact Ext.refl _) | (with_reducible refine Ext.drewN ?_ _) | (with_reducible refine Ext.drew ?_) | (with_reducible refine Ext.alloc ?_ _) | ((with_reducible refine Ext.setCell ?_ ?_ _); rotate_left; focus (first | (simp; done) | (simp; omega) | omega)) | assumption | (with_reducible refine Ext.trans ?_ (by assumption))))
  have hxz : Ext wb wz := hxb2.trans hxz2
  have HD0 := Lib.hid (show GI w B q1 q2 P 0 none 0 [] wz from ⟨OwnMat.nil0 _ _ _ _, (fun r hr => by cases hr), by rw [hwz, hq2]; exact SAt.new' _ _ _ rfl, HQ1.out.ext hxz, hxb.trans hxz, by rw [hwz, hB, hq2]; simp⟩)
  have h12 : q1 < q2 := by omega
  have h2B : q2 < B := by omega
  have hq0z : Hid (SAt wz q0 26 #[.slice a n c]) := HQ0.out.ext hxz
  have hp0z : Hid (SAt wz p0 26 #[.slice a' m c']) := HP0.out.ext hxz
  have hq02 : q0 < q2 := by have := (HQ0.out.ext hxb2).lt; omega
  have hp02 : p0 < q2 := by have := (HP0.out.ext hxb2).lt; omega
  rw [← hwz, ← hq2]
  clear hwz hq2 hB z0 zf g2 k2 h2lt h1lt hxz hxz2 hxb2 hx2 hx1
  go_loopw [8] (fun v4 wr => ∃ (k : Nat) (ga : Option Addr) (gc : Nat) (ll : List (List Int)), k ≤ P ∧ v4 = .int .i64 k ∧ Hid (GI w B q1 q2 P k ga gc ll wr) ∧ Hid (SAt wr q0 26 #[.slice a n c]) ∧ Hid (SAt wr p0 26 #[.slice a' m c'])) (fun v4 _ => P - (intOf v4).toNat)
  case atStart => exact ⟨0, _, _, _, Nat.zero_le _, rfl, HD0.out, hq0z, hp0z⟩
  case round =>
    clear HD0 hq0z hp0z
    obtain ⟨k, ga, gc, ll, hk, rfl, HD, HQ, HPs⟩ := hrel
    have hBr := HD.out.b
    have cq := HQ.out.cell 0 (by simp)
    have cp := HPs.out.cell 0 (by simp)
    simp only [List.getElem_toArray, List.getElem_cons_zero] at cq cp
    by_cases hlt : k < P
    · obtain ⟨wo, hwo⟩ : ∃ W, W = wr := ⟨_, rfl⟩
      subst hwo
      have hwo : Ext w wo := HD.out.h
      have hkP : decide ((k : Int) < (P : Int)) = true := decide_eq_true (by omega)
      go_wp2_with fail
      (try rw [hkP])
      go_loopw [9, 10] (fun v5 v6 wr => ∃ (j : Nat) (ra : Option Addr) (rc : Nat) (r : List Int), j ≤ P ∧ v6 = .int .i64 j ∧ v5 = .slice ra j rc ∧ Hid (Own wr wo.heap.size 2 ra j rc (I r)) ∧ Hid (r.length = j) ∧ Hid (∀ z ∈ r, 0 ≤ z ∧ z < (P : Int)) ∧ Ext wo wr) (fun _ v6 _ => P - (intOf v6).toNat)
      case atStart => exact ⟨0, _, _, [], Nat.zero_le _, rfl, rfl, Own.lit0 _ _, rfl, (fun z hz => by cases hz), (Ext.refl _).alloc _⟩
      case round =>
        clear cq cp
        obtain ⟨j, ra, rc, r, hj, rfl, rfl, HO, HL, HZ, hx⟩ := hrel
        have gq : ∀ w', Ext wo w' → w'.cell? ⟨q0, 0, none⟩ = some (.slice a n c) := fun w' h => h.cell (HQ.out.cell 0 (by simp))
        have gp : ∀ w', Ext wo w' → w'.cell? ⟨p0, 0, none⟩ = some (.slice a' m c') := fun w' h => h.cell (HPs.out.cell 0 (by simp))
        have cq := gq wr hx
        have cp := gp wr hx
        by_cases hlj : j < P
        · have i1 : k / m < n := (Nat.div_lt_iff_lt_mul (by omega)).2 (by rw [← HP.out]; exact hlt)
          have i2 : j / m < n := (Nat.div_lt_iff_lt_mul (by omega)).2 (by rw [← HP.out]; exact hlj)
          have i3 : k % m < m := Nat.mod_lt _ (by omega)
          have i4 : j % m < m := Nat.mod_lt _ (by omega)
          obtain ⟨s1, o1, a1, c1, s2, o2, ⟨f1, f2⟩, ⟨f3, f4⟩⟩ := sq_cell (HV.out.ext hwo) HS.out i1 i2
          obtain ⟨s3, o3, a3, c3, s4, o4, ⟨f5, f6⟩, ⟨f7, f8⟩⟩ := sq_cell (HV'.out.ext hwo) HS'.out i3 i4
          have b1 := (HS.out.q i1 i2).2
          have b2 := (HS'.out.q i3 i4).2
          simp only [Int.natCast_ediv] at f1 f3
          simp only [Int.natCast_emod] at f5 f7
          have y1 : (0 : Int) ≤ (k : Int) / (m : Int) := Int.ediv_nonneg (by omega) (by omega)
          have y2 : (0 : Int) ≤ (j : Int) / (m : Int) := Int.ediv_nonneg (by omega) (by omega)
          have y3 : (0 : Int) ≤ (k : Int) % (m : Int) := Int.emod_nonneg _ (by omega)
          have y4 : (0 : Int) ≤ (j : Int) % (m : Int) := Int.emod_nonneg _ (by omega)
          generalize tq T (k / m) (j / m) = u1 at *
          generalize tq U (k % m) (j % m) = u2 at *
          have hm3 := mul_lt2 b1 b2
          rw [← HP.out] at hm3
          have hm4 : (0 : Int) ≤ (m : Int) * (u1 : Int) := Int.mul_nonneg (by omega) (by omega)
          have hm5 : (m : Int) * (u1 : Int) + (u2 : Int) < (P : Int) := by have h := Int.ofNat_lt.2 hm3; push_cast at h; omega
          clear hm3
          go_wp2_with fail
          (refine wp_region_from wo (by repeat (first | (with_reducible exact Ext.refl _) | (with_reducible refine Ext.drewN ?_ _) | (with_reducible refine Ext.drew ?_) | (with_reducible refine Ext.alloc ?_ _) | ((with_reducible refine Ext.setCell ?_ ?_ _); rotate_left; focus (first | (simp; done) | (simp; omega) | omega)) | assumption | (with_reducible refine Ext.trans ?_ (by assumption)))) (by kernel_rfl) (by kernel_rfl) (by kernel_rfl) ?_; (repeat (first | (refine mix_q rfl ?_; go_big_quiet_step (fail); refine wpQuiet_nil ?_; show wpMix _ _ _ _ _ _ _) | (refine mix_s rfl ?_; go_wp2_with ((at_builtin; refine law_append1 wr.drew rfl _ _ 28 rfl 2 (.int .i64 0) 8 und_int64s info_int64 rfl wo.heap.size ra j rc _ _ rfl rfl (by simp [Act.eval, go_sem]) HO.out.drew (hx.drew).le (by omega) (by omega) ?_; intro ra' rc' w6 ho6 hb6 _; have hxo6 : Ext wo w6 := Ext.below hx.drew hb6; clear hb6)); first | refine ⟨up_of (by repeat (first | (with_reducible exact Ext.refl _) | (with_reducible refine Ext.drewN ?_ _) | (with_reducible refine Ext.drew ?_) | (with_reducible refine Ext.alloc ?_ _) | ((with_reducible refine Ext.setCell ?_ ?_ _); rotate_left; focus (first | (simp; done) | (simp; omega) | omega)) | assumption | (with_reducible refine Ext.trans ?_ (by assumption)))), ?_⟩ | refine ⟨rfl, rfl, up_of (by repeat (first | (with_reducible exact Ext.refl _) | (with_reducible refine Ext.drewN ?_ _) | (with_reducible refine Ext.drew ?_) | (with_reducible refine Ext.alloc ?_ _) | ((with_reducible refine Ext.setCell ?_ ?_ _); rotate_left; focus (first | (simp; done) | (simp; omega) | omega)) | assumption | (with_reducible refine Ext.trans ?_ (by assumption)))), ?_⟩))); refine mix_nil ?_)
          go_wp2_with fail
          obtain ⟨h7, h8⟩ := row_snoc ho6 HZ.out (by omega)
          exact ⟨⟨j + 1, ra', rc', _, by omega, by go_num, rfl, h7, by rw [Hid, List.length_append, HL.out]; rfl, h8, hxo6⟩, by simp [intOf]; omega⟩
        · obtain rfl : j = P := by omega
          have HD4 := Lib.hid (HD.out.ext hx)
          have HQ4 := Lib.hid (HQ.out.ext hx)
          have HP4 := Lib.hid (HPs.out.ext hx)
          have HO4 := Lib.hid (HO.out.mono hBr)
          obtain ⟨tvs, htv, htp⟩ := HD4.out.m.rows
          have HTV := Lib.hid htv
          have HTP := Lib.hid htp
          have hb4 := HD4.out.b
          have e2 := HD4.out.s.cell 0 (by simp)
          simp only [List.getElem_toArray, List.getElem_cons_zero] at e2
          clear htv htp
          go_wp2_with (at_builtin; refine law_append1 _ rfl _ _ 24 rfl 28 (.slice none 0 0) 24 und_rows info_row1 rfl B ga k gc _ _ rfl rfl rfl HTV.out hb4 (by omega) (by omega) ?_; intro ga' gc' w8 ho8 hb8 hg8; have HD8 := Lib.hid (GI.push HD4.out HTP.out HTV.out HO4.out HL.out HZ.out ho8 hb8 hg8 (by omega) (by omega) h2B); have HS8 := Lib.hid (HD4.out.s.grown hg8 (row_ne_s (HTV.out.ne_s HD4.out.s (by decide)))); have HQ8 := Lib.hid (HQ4.out.grown hg8 (row_ne_s (HTV.out.ne_s HQ4.out (by decide)))); have HP8 := Lib.hid (HP4.out.grown hg8 (row_ne_s (HTV.out.ne_s HP4.out (by decide)))); have e8 := HS8.out.cell 0 (by simp); have fr := HS8.out.frozen 0; have hlt8 := HS8.out.lt; simp only [List.getElem_toArray, List.getElem_cons_zero] at e8; clear ho8 hb8 hg8)
          exact ⟨⟨k + 1, ga', gc', ll ++ [r], by omega, by go_num, HD8.out, HQ8.out.other _ (by simp only; omega), HP8.out.other _ (by simp only; omega)⟩, by simp [intOf]; omega⟩
    · obtain rfl : k = P := by omega
      have e2 := HD.out.s.cell 0 (by simp)
      have z0 := HD.out.z.cell 0 (by simp)
      have zf := HD.out.z.frozen 0
      have zl := HD.out.z.lt
      simp only [List.getElem_toArray, List.getElem_cons_zero] at e2 z0
      go_wp2_with fail
      refine bodyPost_ret (v := .tuple #[.agg #[.slice ga k gc], .bool true]) ?_ rfl ?_
      · simp [results, Try.results37, go_sem, z0]
      · exact ⟨k, ga, gc, ll, true, rfl, hP10, HD.out.r.sq HD.out.m.len, (ownMat_setG HD.out.m (by simp only; omega) _).mono (by omega), ext_setG HD.out.h hwq1⟩
end Go.Proofs.Ytohenfbgjjifbaa

/- Walks: the group that a law draws, in the reference. -/
namespace Go.Proofs.Ytohenfbgjjifbaa
set_option maxRecDepth 100000
open Go.RowKit

/-- numbers below n, in a row of the call's own -/
def RetOrd (g : Nat) (a : Option Addr) (n0 c : Nat) (l : List UInt8) (k : Int) (n : Nat) (w : World) (e : Ending) (w' : World) : Prop :=
  ∃ (ad : Option Addr) (cc : Nat) (f : List Int) (k' : Int), e = .returned (.slice ad n cc) ∧ Own w' w.heap.size 2 ad n cc (I f) ∧ f.length = n ∧ (∀ x ∈ f, 0 ≤ x ∧ x < (n : Int)) ∧ SrcB w' g a n0 c l k' ∧ k ≤ k' ∧ k' ≤ k + 2 * n ∧ Touch g w w'
theorem set_bd {f : List Int} {N v : Int} {i : Nat} (h : ∀ x ∈ f, 0 ≤ x ∧ x < N) (hv : 0 ≤ v ∧ v < N) : ∀ x ∈ f.set i v, 0 ≤ x ∧ x < N := fun x hx => by
  rcases List.mem_or_eq_of_mem_set hx with h1 | h1
  · exact h x h1
  · rw [h1]; exact hv
set_option maxHeartbeats 4000000 in
theorem spec_drawOrder (g : Nat) (a : Option Addr) (n0 c : Nat) (l : List UInt8) (k : Int) (n : Nat) (w : World) (h : SrcB w g a n0 c l k) (hk : 0 ≤ k) (hk2 : k ≤ 900000000) (hn : n ≤ 10) :
    Calls Try.prog 39 #[.pointer (some ⟨g, 0, none⟩), .int .i64 n] w (RetOrd g a n0 c l k n w) := by
  have hgw := h.g
  have HS0 := Lib.hid h
  clear h
  go_enter Try.func39, Try.ntmps39
  go_wp2_with fail
  go_loopw [5, 6] (fun v5 v6 wr => ∃ (j : Nat) (ra : Option Addr) (rc : Nat) (r : List Int), j ≤ n ∧ v6 = .int .i64 j ∧ v5 = .slice ra j rc ∧ Hid (Own wr w.heap.size 2 ra j rc (I r)) ∧ Hid (r.length = j) ∧ Hid (∀ z ∈ r, 0 ≤ z ∧ z < (n : Int)) ∧ Ext w wr) (fun _ v6 _ => n - (intOf v6).toNat)
  case atStart => exact ⟨0, _, _, [], Nat.zero_le _, rfl, rfl, Own.lit0 _ _, rfl, (fun z hz => by cases hz), (Ext.refl _).alloc _⟩
  case round =>
    obtain ⟨j, ra, rc, r, hj, rfl, rfl, HO, HL, HZ, hx⟩ := hrel
    by_cases hlj : j < n
    · go_wp2_with (at_builtin; refine law_append1 _ rfl _ _ 28 rfl 2 (.int .i64 0) 8 und_int64s info_int64 rfl w.heap.size ra j rc _ _ rfl rfl rfl HO.out hx.le (by omega) (by omega) ?_; intro ra' rc' w6 ho6 hb6 _; have hxo6 : Ext w w6 := Ext.below hx hb6)
      obtain ⟨h7, h8⟩ := row_snoc ho6 HZ.out (by omega)
      exact ⟨⟨j + 1, ra', rc', _, by omega, by go_num, rfl, h7, by rw [Hid, List.length_append, HL.out]; rfl, h8, hxo6⟩, by simp [intOf]; omega⟩
    · obtain rfl : j = n := by omega
      have HSr := Lib.hid (HS0.out.ext hx)
      have htr : Hid (Touch g w wr) := (Touch.refl g w).ext hx
      clear hx
      go_wp2_with fail
      go_loopw [7, 8, 9] (fun v7 _ _ wr => ∃ (z : Int) (f : List Int) (kk : Int), v7 = .int .i64 z ∧ -1 ≤ z ∧ z < (j : Int) ∧ Hid (Own wr w.heap.size 2 ra j rc (I f)) ∧ Hid (f.length = j) ∧ Hid (∀ z ∈ f, 0 ≤ z ∧ z < (j : Int)) ∧ Hid (SrcB wr g a n0 c l kk) ∧ k ≤ kk ∧ kk + 2 * z + 2 ≤ k + 2 * j ∧ Hid (Touch g w wr)) (fun v7 _ _ _ => (intOf v7).toNat)
      case atStart => exact ⟨(j : Int) - 1, r, k, rfl, by omega, by omega, HO.out, HL.out, HZ.out, HSr.out, by omega, by omega, htr.out⟩
      case round =>
        clear HO HL HZ HSr htr
        obtain ⟨z, f, kk, rfl, hz0, hz1, HO, HL, HZ, HS, hk3, hk4, HT⟩ := hrel
        by_cases hlz : 0 < z
        · obtain ⟨i, rfl⟩ := Int.eq_ofNat_of_zero_le (show 0 ≤ z by omega)
          have HP := Lib.hid (pick_b g a n0 c l kk ((i : Int) + 1) wr HS.out (by omega) (by omega) (by omega))
          go_wp2_with fail
          refine HP.out.mono ?_
          rintro e w3 ⟨x, k3, rfl, hx0, hx1, hs3, hk5, hk6, ht3⟩
          obtain ⟨y, rfl⟩ := Int.eq_ofNat_of_zero_le hx0
          have hyj : y < j := by omega
          have hij : i < j := by omega
          have HO3 := Lib.hid (HO.out.touchNe ht3 hgw)
          have HT3 := Lib.hid (HT.out.trans ht3)
          have HS3 := Lib.hid hs3
          obtain ⟨b, rfl⟩ := Own.some HO3.out (by omega)
          have hbw := HO3.out.lt.1
          have hbl := HO3.out.lt.2
          obtain ⟨f1, f2, f4⟩ := own_oneJ HO3.out (P := Try.prog) 28 und_int64s cell_int64 i hij (x := (i : Int)) rfl
          obtain ⟨f5, f6, f7⟩ := own_oneJ HO3.out (P := Try.prog) 28 und_int64s cell_int64 y hyj (x := (y : Int)) rfl
          have v1 := HZ.out _ (gi_mem (l := f) (k := i) (by rw [HL.out]; exact hij))
          have v2 := HZ.out _ (gi_mem (l := f) (k := y) (by rw [HL.out]; exact hyj))
          clear hs3 ht3 hx1
          have H1 := Lib.hid v1
          have H2 := Lib.hid v2
          clear v1 v2
          generalize gi f i = u1 at *
          generalize gi f y = u2 at *
          go_upto_region 12 with fail
          have h9 := HO3.out.set i (.int .i64 u2)
          rw [I_set] at h9
          have HO4 := Lib.hid h9
          clear h9
          obtain ⟨w4, hw4⟩ : ∃ W, W = w3.setCell ⟨b, i, none⟩ (.int .i64 u2) := ⟨_, rfl⟩
          have hbe : Below w.heap.size w3 w4 := by rw [hw4]; exact Below.setCell (Below.refl _ w3) (p := ⟨b, i, none⟩) hbw _
          have HS4 := Lib.hid (HS3.out.below hbe hgw)
          have HT4 := Lib.hid (HT3.out.below hbe (Nat.le_refl _))
          rw [← hw4] at HO4 ⊢
          have HL4 := Lib.hid (show (f.set i u2).length = j by rw [List.length_set]; exact HL.out)
          have HZ4 := Lib.hid (set_bd (i := i) HZ.out H2.out)
          have hbl4 := HO4.out.lt.2
          clear hw4 f1 f2 f4 f5 f6 f7 hbe HO3 HS3 HT3 HL HZ
          generalize f.set i u2 = f' at *
          obtain ⟨f5, f6, f7⟩ := own_oneJ HO4.out (P := Try.prog) 28 und_int64s cell_int64 y hyj (x := (y : Int)) rfl
          go_wp2_with fail
          obtain ⟨w5, hw5⟩ : ∃ W, W = w4.setCell ⟨b, y, none⟩ (.int .i64 u1) := ⟨_, rfl⟩
          have hbe : Below w.heap.size w4 w5 := by rw [hw5]; exact Below.setCell (Below.refl _ w4) (p := ⟨b, y, none⟩) hbw _
          have h9 := HO4.out.set y (.int .i64 u1)
          rw [I_set] at h9
          rw [← hw5] at h9 ⊢
          exact ⟨⟨(i : Int) - 1, f'.set y u1, k3, by go_num, by omega, by omega, h9, by rw [Hid, List.length_set]; exact HL4.out, set_bd HZ4.out H1.out, HS4.out.below hbe hgw, by omega, by omega, HT4.out.below hbe (Nat.le_refl _)⟩, by simp [intOf]; omega⟩
        · go_wp2_with fail
          go_ret
          exact ⟨ra, rc, f, kk, rfl, HO.out, HL.out, HZ.out, HS.out, hk3, by omega, HT.out⟩
end Go.Proofs.Ytohenfbgjjifbaa

/- Walks: the group that a law draws, in the reference: the switch and the renumbering. -/
namespace Go.Proofs.Ytohenfbgjjifbaa
set_option maxRecDepth 100000
open Go.RowKit

def RetInvO (n : Nat) (w : World) (e : Ending) (w' : World) : Prop :=
  ∃ (ad : Option Addr) (cc : Nat) (f : List Int), e = .returned (.slice ad n cc) ∧ Own w' w.heap.size 2 ad n cc (I f) ∧ f.length = n ∧ (∀ x ∈ f, 0 ≤ x ∧ x < (n : Int)) ∧ Ext w w'
set_option maxHeartbeats 4000000 in
theorem spec_inverse (n c : Nat) (a : Option Addr) (F : List Int) (w : World) (hf : Ints w a n c F) (hb : ∀ x ∈ F, 0 ≤ x ∧ x < (n : Int)) (hn : n ≤ 10) : Calls Try.prog 40 #[.slice a n c] w (RetInvO n w) := by
  have HL0 := Lib.hid hf.len
  have HF := Lib.hid hf
  have HB := Lib.hid hb
  clear hf hb
  go_enter Try.func40, Try.ntmps40
  go_wp2_with (at_make; refine law_make _ rfl _ _ 28 rfl 2 (.int .i64 0) 8 und_int64s info_int64 rfl _ _ n rfl rfl (by omega) (by unfold maxLen; omega) ?_; intro w1 hown hx1 hsz)
  have HO1 := Lib.hid (show Own w1 w.heap.size 2 (some ⟨w.heap.size, 0, none⟩) n n (I (List.replicate n 0)) from by rw [I_replicate]; exact hown)
  obtain ⟨b, hb⟩ : ∃ b, b = w.heap.size := ⟨_, rfl⟩
  have hbw : w.heap.size ≤ b := by omega
  rw [← hb] at HO1 ⊢
  have HO1' := Lib.hid (show Own w1 w.heap.size 2 (some ⟨b, 0, none⟩) n n (I (List.replicate n 0)) from HO1.out.mono (by omega))
  clear hown hsz hb HO1
  go_wp2_with fail
  go_loopw [4] (fun v4 wr => ∃ (k : Nat) (f : List Int), k ≤ n ∧ v4 = .int .i64 k ∧ Hid (Own wr w.heap.size 2 (some ⟨b, 0, none⟩) n n (I f)) ∧ Hid (f.length = n) ∧ Hid (∀ x ∈ f, 0 ≤ x ∧ (x < (n : Int) ∨ n = 0)) ∧ Ext w wr) (fun v4 _ => n - (intOf v4).toNat)
  case atStart => exact ⟨0, List.replicate n 0, Nat.zero_le _, rfl, HO1'.out, by simp [Hid], (fun x hx => by have := List.eq_of_mem_replicate hx; omega), hx1⟩
  case round =>
    clear HO1' hx1
    obtain ⟨k, f, hk, rfl, HO, HL, HZ, hx⟩ := hrel
    by_cases hlt : k < n
    · have hbd := HB.out (gi F k) (gi_mem (by rw [HL0.out]; exact hlt))
      obtain ⟨y, hy⟩ := Int.eq_ofNat_of_zero_le hbd.1
      obtain ⟨b1, o1, f1, f2⟩ := HF.out.one (P := Try.prog) 28 2 und_int64s cell_int64 (k : Int) (by omega) (by omega)
      rw [Int.toNat_natCast, hy] at f2
      have hyn : y < n := by omega
      have f20 := f2 wr hx
      obtain ⟨f5, f6, f7⟩ := own_oneJ HO.out (P := Try.prog) 28 und_int64s cell_int64 y hyn (x := (y : Int)) rfl
      have hbl := HO.out.lt.2
      clear hbd hy
      go_wp2_with fail
      have h9 := HO.out.set y (.int .i64 (k : Int))
      rw [I_set] at h9
      exact ⟨⟨k + 1, f.set y k, by omega, by go_num, h9, by rw [Hid, List.length_set]; exact HL.out, (fun x hx => by
        rcases List.mem_or_eq_of_mem_set hx with h1 | h1
        · exact HZ.out x h1
        · subst h1; omega), Ext.setCell hx hbw _⟩, by simp [intOf]; omega⟩
    · obtain rfl : k = n := by omega
      have HZ2 := Lib.hid (show ∀ x ∈ f, 0 ≤ x ∧ x < (k : Int) from fun x hx => by
        have h1 := HZ.out x hx
        have h2 := List.length_pos_of_mem hx
        rw [HL.out] at h2
        omega)
      go_wp2_with fail
      go_ret
      exact ⟨_, _, f, rfl, HO.out, HL.out, HZ2.out, hx⟩
/-- a group's table that lies between two blocks -/
structure GrIn (w : World) (lo hi : Nat) (a : Option Addr) (n c : Nat) (T : List (List Int)) : Prop where
  hh : hi ≤ w.heap.size
  n10 : n ≤ 10
  sq : SqT T n
  m : ∀ V, KeepB lo hi w V → Mat V a n c T
theorem GrIn.mat {w : World} {lo hi : Nat} {a : Option Addr} {n c : Nat} {T : List (List Int)} (h : GrIn w lo hi a n c T) : Mat w a n c T := h.m w (KeepB.refl _ _ _)
theorem GrIn.ext {w w' : World} {lo hi : Nat} {a : Option Addr} {n c : Nat} {T : List (List Int)} (h : GrIn w lo hi a n c T) (hx : Ext w w') : GrIn w' lo hi a n c T :=
  ⟨Nat.le_trans h.hh hx.le, h.n10, h.sq, fun V hV => h.m V ((KeepB.ext hx h.hh).trans hV)⟩
theorem GrIn.touch {w w' : World} {lo hi g : Nat} {a : Option Addr} {n c : Nat} {T : List (List Int)} (h : GrIn w lo hi a n c T) (ht : Touch g w w') (hg : g < lo) : GrIn w' lo hi a n c T :=
  ⟨Nat.le_trans h.hh ht.size, h.n10, h.sq, fun V hV => h.m V ((ht.keepB hg h.hh).trans hV)⟩
theorem GrIn.set {w : World} {lo hi : Nat} {a : Option Addr} {n c : Nat} {T : List (List Int)} (h : GrIn w lo hi a n c T) {p : Addr} (hp : p.block < lo ∨ hi ≤ p.block) (u : Value) : GrIn (w.setCell p u) lo hi a n c T :=
  ⟨by simpa [World.setCell] using h.hh, h.n10, h.sq, fun V hV => h.m V (KeepB.trans (fun r h1 h2 => Below.heap_setCell w p u r (by omega)) hV)⟩
theorem GrIn.of {w w' : World} {a : Option Addr} {n c : Nat} {T : List (List Int)} (hm : OwnMat w' w.heap.size 28 2 a n c T) (hs : SqT T n) (h10 : n ≤ 10) : GrIn w' w.heap.size w'.heap.size a n c T :=
  ⟨Nat.le_refl _, h10, hs, fun _ hV => (OwnMat.keepB hm hV).mat⟩
theorem GrIn.mono {w : World} {lo hi lo' hi' : Nat} {a : Option Addr} {n c : Nat} {T : List (List Int)} (h : GrIn w lo hi a n c T) (h1 : lo' ≤ lo) (h2 : hi ≤ hi') (h3 : hi' ≤ w.heap.size) : GrIn w lo' hi' a n c T :=
  ⟨h3, h.n10, h.sq, fun V hV => h.m V (fun x a1 a2 => hV x (by omega) (by omega))⟩
/-- a group, drawn -/
def RetDrG (g : Nat) (w : World) (e : Ending) (w' : World) : Prop :=
  ∃ (n : Nat) (a : Option Addr) (c : Nat) (T : List (List Int)), e = .returned (.agg #[.slice a n c]) ∧ GrIn w' w.heap.size w'.heap.size a n c T ∧ Touch g w w'
/-- where the switch ends: box q3 holds the group -/
def SwG (g q1 q3 : Nat) (b : Option Addr) (n0 c0 : Nat) (l : List UInt8) (w wx : World) : Prop :=
  ∃ (lo hi n : Nat) (a : Option Addr) (c : Nat) (T : List (List Int)) (k : Int), q1 < lo ∧ GrIn wx lo hi a n c T ∧ SAt wx q3 26 #[.slice a n c] ∧ SAt wx q1 26 #[.slice none 0 0] ∧ SrcB wx g b n0 c0 l k ∧ 0 ≤ k ∧ k ≤ 100 ∧ Touch g w wx
theorem SAt.touchG {w w' : World} {g q : Nat} {T : TypeId} {cs : Array Value} (h : SAt w q T cs) (ht : Touch g w w') (hne : q ≠ g) : SAt w' q T cs := (ht.block q h.lt hne).trans h
theorem touch_setG {g : Nat} {w W : World} (h : Touch g w W) {p : Addr} (hp : w.heap.size ≤ p.block) (u : Value) : Touch g w (W.setCell p u) := h.below (Below.setCell (Below.refl _ W) hp u) (Nat.le_refl _)
set_option maxHeartbeats 16000000 in
theorem spec_drawGrp (g : Nat) (b : Option Addr) (n0 c0 : Nat) (l : List UInt8) (w : World) (h : SrcB w g b n0 c0 l 0) :
    Calls Try.prog 14 #[.pointer (some ⟨g, 0, none⟩)] w (RetDrG g w) := by
  have hgw := h.g
  have HS0 := Lib.hid h
  clear h
  go_enter Try.func14, Try.ntmps14
  go_wp2_with fail
  obtain ⟨q1, hq1⟩ : ∃ q, q = w.heap.size := ⟨_, rfl⟩
  obtain ⟨wa, hwa⟩ : ∃ W, W = w.alloc (.cells #[.slice none 0 0] 26) := ⟨_, rfl⟩
  have hxa : Ext w wa := by rw [hwa]; exact (by repeat (first | (with_reducible exact Ext.refl _) | (with_reducible refine Ext.drewN ?_ _) | (with_reducible refine Ext.drew ?_) | (with_reducible refine Ext.alloc ?_ _) | ((with_reducible refine Ext.setCell ?_ ?_ _); rotate_left; focus (first | (simp; done) | (simp; omega) | omega)) | assumption | (with_reducible refine Ext.trans ?_ (by assumption))))
  have HQa := Lib.hid (show SAt wa q1 26 #[.slice none 0 0] from by rw [hwa, hq1]; exact SAt.new' _ _ _ rfl)
  have hwq1 : w.heap.size ≤ q1 := by omega
  have hgq1 : g < q1 := by omega
  rw [← hwa, ← hq1]
  clear hwa hq1
  have HSa := Lib.hid (HS0.out.ext hxa)
  have HPa := Lib.hid (pick_b g b n0 c0 l 0 10 wa HSa.out (by omega) (by omega) (by omega))
  refine HPa.out.mono ?_
  rintro e w1 ⟨x, k1, rfl, hx0, hx1, hs1, hk1, hk1', ht1⟩
  obtain ⟨x, rfl⟩ := Int.eq_ofNat_of_zero_le hx0
  have hgwa : g < wa.heap.size := HSa.out.g
  have HT1 := Lib.hid (show Touch g w w1 from ((Touch.refl g w).ext hxa).trans ht1)
  have HQ1 := Lib.hid (HQa.out.touchG ht1 (by omega))
  have HS1 := Lib.hid hs1
  obtain ⟨x', hx'⟩ : ∃ y : Nat, (1 : Int) + (x : Int) = (y : Int) := ⟨x + 1, by omega⟩
  have hx10 : 1 ≤ x' ∧ x' ≤ 10 := by omega
  have HCy := Lib.hid (spec_cyclic x' w1 (by omega) (by omega))
  clear hs1 ht1 hx1 HQa HSa HPa hxa
  go_wp2_with fail
  clear hx' hx0
  refine HCy.out.mono ?_
  rintro e w2 ⟨a2, c2, T2, rfl, hsq2, hm2, hx2⟩
  have hsz2 := hx2.le
  obtain ⟨q3, hq3⟩ : ∃ q, q = w2.heap.size := ⟨_, rfl⟩
  obtain ⟨w3, hw3⟩ : ∃ W, W = w2.alloc (.cells #[.slice a2 x' c2] 26) := ⟨_, rfl⟩
  have hx23 : Ext w2 w3 := by rw [hw3]; exact (by repeat (first | (with_reducible exact Ext.refl _) | (with_reducible refine Ext.drewN ?_ _) | (with_reducible refine Ext.drew ?_) | (with_reducible refine Ext.alloc ?_ _) | ((with_reducible refine Ext.setCell ?_ ?_ _); rotate_left; focus (first | (simp; done) | (simp; omega) | omega)) | assumption | (with_reducible refine Ext.trans ?_ (by assumption))))
  have HG3 := Lib.hid ((GrIn.of hm2 hsq2 (by omega)).ext hx23)
  have HQ33 := Lib.hid (show SAt w3 q3 26 #[.slice a2 x' c2] from by rw [hw3, hq3]; exact SAt.new' _ _ _ rfl)
  have HQ13 := Lib.hid (HQ1.out.ext (hx2.trans hx23))
  have HS3 := Lib.hid (HS1.out.ext (hx2.trans hx23))
  have HT3 := Lib.hid (HT1.out.ext (hx2.trans hx23))
  have hq3l := HQ33.out.lt
  clear hm2 hsq2
  go_upto_region 2 with fail
  rw [← hw3, ← hq3]
  have hfin : ∀ (lo hi n : Nat) (a : Option Addr) (c : Nat) (T : List (List Int)) (k : Int) (V : World), q1 < lo → GrIn V lo hi a n c T → SAt V q3 26 #[.slice a n c] → SAt V q1 26 #[.slice none 0 0] → SrcB V g b n0 c0 l k → 0 ≤ k → k ≤ 100 → Touch g w V → SwG g q1 q3 b n0 c0 l w V := fun lo hi n a c T k V h1 h2 h3 h4 h5 h6 h7 h8 => ⟨lo, hi, n, a, c, T, k, h1, h2, h3, h4, h5, h6, h7, h8⟩
  have HPk := Lib.hid (pick_b g b n0 c0 l k1 4 w3 HS3.out (by omega) (by omega) (by omega))
  have hw1q : q1 < w1.heap.size := HQ1.out.lt
  have hgw3 : g < w3.heap.size := HS3.out.g
  have hgq3 : g < q3 := by have := HS1.out.g; omega
  have hq1q3 : q1 < q3 := by omega
  have hwq3 : w.heap.size ≤ q3 := by omega
  clear hw3 hq3 hx23
  go_upto_block 0 with (go_at_call 35; (with_reducible refine HPk.out.mono ?_); rintro e w4 ⟨kd, k4, rfl, hkd0, hkd1, hs4, hk4, hk4', ht4⟩; have HS4 := Lib.hid hs4; have HT4 := Lib.hid (HT3.out.trans ht4); have HQ14 := Lib.hid (HQ13.out.touchG ht4 (by omega)); have HQ34 := Lib.hid (HQ33.out.touchG ht4 (by omega)); have HG4 := Lib.hid (HG3.out.touch ht4 (by omega)); have hz4 := ht4.size; clear hs4 ht4)
  go_cut [] from 23 to 57 (fun wx => SwG g q1 q3 b n0 c0 l w wx)
  case first =>
    clear HG3 HQ33 HQ13 HS3 HT3 HPk HT1 HS1 HQ1 HCy
    have f3 := HQ34.out.frozen 0
    have l3 := HQ34.out.lt
    have e3 := HQ34.out.cell 0 (by simp)
    simp only [List.getElem_toArray, List.getElem_cons_zero] at e3
    by_cases h0 : kd = 0
    · subst h0
      have HP := Lib.hid (pick_b g b n0 c0 l k4 5 w4 HS4.out (by omega) (by omega) (by omega))
      go_wp2_with fail
      refine HP.out.mono ?_
      rintro e w5 ⟨y, k5, rfl, hy0, hy1, hs5, hk5, hk5', ht5⟩
      obtain ⟨y', hy'⟩ : ∃ z : Nat, (1 : Int) + y = (z : Int) := Int.eq_ofNat_of_zero_le (by omega)
      have hyb : 1 ≤ y' ∧ y' ≤ 5 := by omega
      have HDi := Lib.hid (spec_dihedral y' (2 * y') w5 (by omega) (by omega) rfl)
      have HS5 := Lib.hid hs5
      have HT5 := Lib.hid (HT4.out.trans ht5)
      have HQ15 := Lib.hid (HQ14.out.touchG ht5 (by omega))
      have HQ35 := Lib.hid (HQ34.out.touchG ht5 (by omega))
      have hz5 := ht5.size
      clear hs5 ht5 hy1
      go_wp2_with fail
      clear hy' hy0
      refine HDi.out.mono ?_
      rintro e w6 ⟨a6, c6, T6, rfl, hsq6, hm6, hx6⟩
      have HG6 := Lib.hid (GrIn.of hm6 hsq6 (by omega))
      have HQ36 := Lib.hid (HQ35.out.ext hx6)
      have HQ16 := Lib.hid (HQ15.out.ext hx6)
      have HS6 := Lib.hid (HS5.out.ext hx6)
      have HT6 := Lib.hid (HT5.out.ext hx6)
      have f6 := HQ36.out.frozen 0
      have l6 := HQ36.out.lt
      have e6 := HQ36.out.cell 0 (by simp)
      simp only [List.getElem_toArray, List.getElem_cons_zero] at e6
      clear hm6 hsq6
      go_wp2_with fail
      go_meet
      exact hfin _ _ _ _ _ _ k5 _ (by omega) (HG6.out.set (.inl (by simp only; omega)) _) (HQ36.out.set 0 _) (HQ16.out.other _ (by simp only; omega)) (HS6.out.below (Below.setCell (B := w.heap.size) (Below.refl _ _) (p := ⟨q3, 0, none⟩) hwq3 _) hgw) (by omega) (by omega) (touch_setG HT6.out (by simp only; omega) _)
    by_cases h1 : kd = 1
    · subst h1
      have HC5 := Lib.hid (spec_cyclic 2 w4 (by omega) (by omega))
      rw [show ((2 : Nat) : Int) = 2 from rfl] at HC5
      go_wp2_with fail
      refine HC5.out.mono ?_
      rintro e w5 ⟨a5, c5, T5, rfl, hsq5, hm5, hx5⟩
      have hz5 := hx5.le
      have HG5 := Lib.hid (GrIn.of hm5 hsq5 (by omega))
      obtain ⟨q4, hq4⟩ : ∃ q, q = w5.heap.size := ⟨_, rfl⟩
      obtain ⟨w6, hw6⟩ : ∃ W, W = w5.alloc (.cells #[.slice a5 2 c5] 26) := ⟨_, rfl⟩
      have hx56 : Ext w5 w6 := by rw [hw6]; exact (by repeat (first | (with_reducible exact Ext.refl _) | (with_reducible refine Ext.drewN ?_ _) | (with_reducible refine Ext.drew ?_) | (with_reducible refine Ext.alloc ?_ _) | ((with_reducible refine Ext.setCell ?_ ?_ _); rotate_left; focus (first | (simp; done) | (simp; omega) | omega)) | assumption | (with_reducible refine Ext.trans ?_ (by assumption))))
      have HB6 := Lib.hid (show SAt w6 q4 26 #[.slice a5 2 c5] from by rw [hw6, hq4]; exact SAt.new' _ _ _ rfl)
      have hgtq4 : w4.heap.size ≤ q4 := by omega
      have HG6 := Lib.hid (HG5.out.ext hx56)
      have HS6 := Lib.hid (HS4.out.ext (hx5.trans hx56))
      have HT6 := Lib.hid (HT4.out.ext (hx5.trans hx56))
      have HQ16 := Lib.hid (HQ14.out.ext (hx5.trans hx56))
      have HQ36 := Lib.hid (HQ34.out.ext (hx5.trans hx56))
      have HP := Lib.hid (pick_b g b n0 c0 l k4 5 w6 HS6.out (by omega) (by omega) (by omega))
      have hz6 := hx56.le
      go_upto_region 7 with fail
      rw [← hw6, ← hq4]
      clear hw6 hq4 hm5 hsq5
      go_wp2_with fail
      refine HP.out.mono ?_
      rintro e w7 ⟨y, k7, rfl, hy0, hy1, hs7, hk7, hk7', ht7⟩
      obtain ⟨y', hy'⟩ : ∃ z : Nat, (1 : Int) + y = (z : Int) := Int.eq_ofNat_of_zero_le (by omega)
      have hyb : 1 ≤ y' ∧ y' ≤ 5 := by omega
      have HC7 := Lib.hid (spec_cyclic y' w7 (by omega) (by omega))
      have HS7 := Lib.hid hs7
      have HT7 := Lib.hid (HT6.out.trans ht7)
      have HQ17 := Lib.hid (HQ16.out.touchG ht7 (by omega))
      have HQ37 := Lib.hid (HQ36.out.touchG ht7 (by omega))
      have HB7 := Lib.hid (HB6.out.touchG ht7 (by omega))
      have HG7 := Lib.hid (HG6.out.touch ht7 (by omega))
      have hz7 := ht7.size
      clear hs7 ht7 hy1
      go_wp2_with fail
      clear hy' hy0
      refine HC7.out.mono ?_
      rintro e w8 ⟨a8, c8, T8, rfl, hsq8, hm8, hx8⟩
      have hz8 := hx8.le
      have HG8 := Lib.hid (GrIn.of hm8 hsq8 (by omega))
      obtain ⟨q5, hq5⟩ : ∃ q, q = w8.heap.size := ⟨_, rfl⟩
      obtain ⟨w10, hw10⟩ : ∃ W, W = w8.alloc (.cells #[.slice a8 y' c8] 26) := ⟨_, rfl⟩
      have hx810 : Ext w8 w10 := by rw [hw10]; exact (by repeat (first | (with_reducible exact Ext.refl _) | (with_reducible refine Ext.drewN ?_ _) | (with_reducible refine Ext.drew ?_) | (with_reducible refine Ext.alloc ?_ _) | ((with_reducible refine Ext.setCell ?_ ?_ _); rotate_left; focus (first | (simp; done) | (simp; omega) | omega)) | assumption | (with_reducible refine Ext.trans ?_ (by assumption))))
      have HB10 := Lib.hid (show SAt w10 q5 26 #[.slice a8 y' c8] from by rw [hw10, hq5]; exact SAt.new' _ _ _ rfl)
      have hgtq5 : w4.heap.size ≤ q5 := by omega
      have HG10 := Lib.hid (HG8.out.ext hx810)
      have HGa := Lib.hid ((HG7.out.ext hx8).ext hx810)
      have HS10 := Lib.hid (HS7.out.ext (hx8.trans hx810))
      have HT10 := Lib.hid (HT7.out.ext (hx8.trans hx810))
      have HQ110 := Lib.hid (HQ17.out.ext (hx8.trans hx810))
      have HQ310 := Lib.hid (HQ37.out.ext (hx8.trans hx810))
      have HBa := Lib.hid (HB7.out.ext (hx8.trans hx810))
      have ea := HBa.out.cell 0 (by simp)
      have eb := HB10.out.cell 0 (by simp)
      simp only [List.getElem_toArray, List.getElem_cons_zero] at ea eb
      have HPr := Lib.hid (spec_product 2 y' T5 T8 a5 c5 a8 c8 w10 HGa.out.mat HGa.out.sq HG10.out.mat HG10.out.sq (by omega) (by omega))
      have hz10 := hx810.le
      go_upto_region 8 with fail
      rw [← hw10, ← hq5]
      clear hw10 hq5 hm8 hsq8
      go_wp2_with fail
      refine HPr.out.mono ?_
      rintro e w9 ⟨n9, a9, c9, T9, b9, rfl, hn9, hsq9, hm9, hx9⟩
      have HG9 := Lib.hid (GrIn.of hm9 hsq9 hn9)
      have HQ39 := Lib.hid (HQ310.out.ext hx9)
      have HQ19 := Lib.hid (HQ110.out.ext hx9)
      have HS9 := Lib.hid (HS10.out.ext hx9)
      have HT9 := Lib.hid (HT10.out.ext hx9)
      clear hm9 hsq9
      have f9 := HQ39.out.frozen 0
      have l9 := HQ39.out.lt
      have e9 := HQ39.out.cell 0 (by simp)
      simp only [List.getElem_toArray, List.getElem_cons_zero] at e9
      go_wp2_with fail
      go_meet
      exact hfin _ _ _ _ _ _ k7 _ (by omega) (HG9.out.set (.inl (by simp only; omega)) _) (HQ39.out.set 0 _) (HQ19.out.other _ (by simp only; omega)) (HS9.out.below (Below.setCell (B := w.heap.size) (Below.refl _ _) (p := ⟨q3, 0, none⟩) hwq3 _) hgw) (by omega) (by omega) (touch_setG HT9.out (by simp only; omega) _)
    by_cases h2 : kd = 2
    · subst h2
      have HC5 := Lib.hid (fun W => spec_cyclic 2 W (by omega) (by omega))
      rw [show ((2 : Nat) : Int) = 2 from rfl] at HC5
      go_wp2_with fail
      refine (HC5.out _).mono ?_
      rintro e w5 ⟨a5, c5, T5, rfl, hsq5, hm5, hx5⟩
      have hz5 := hx5.le
      have HG5 := Lib.hid (GrIn.of hm5 hsq5 (by omega))
      obtain ⟨q4, hq4⟩ : ∃ q, q = w5.heap.size := ⟨_, rfl⟩
      obtain ⟨w6, hw6⟩ : ∃ W, W = w5.alloc (.cells #[.slice a5 2 c5] 26) := ⟨_, rfl⟩
      have hx56 : Ext w5 w6 := by rw [hw6]; exact (by repeat (first | (with_reducible exact Ext.refl _) | (with_reducible refine Ext.drewN ?_ _) | (with_reducible refine Ext.drew ?_) | (with_reducible refine Ext.alloc ?_ _) | ((with_reducible refine Ext.setCell ?_ ?_ _); rotate_left; focus (first | (simp; done) | (simp; omega) | omega)) | assumption | (with_reducible refine Ext.trans ?_ (by assumption))))
      have HB6 := Lib.hid (show SAt w6 q4 26 #[.slice a5 2 c5] from by rw [hw6, hq4]; exact SAt.new' _ _ _ rfl)
      have hgtq4 : w4.heap.size ≤ q4 := by omega
      have HG6 := Lib.hid (HG5.out.ext hx56)
      have HS6 := Lib.hid (HS4.out.ext (hx5.trans hx56))
      have HT6 := Lib.hid (HT4.out.ext (hx5.trans hx56))
      have HQ16 := Lib.hid (HQ14.out.ext (hx5.trans hx56))
      have HQ36 := Lib.hid (HQ34.out.ext (hx5.trans hx56))
      have hz6 := hx56.le
      go_upto_region 11 with fail
      rw [← hw6, ← hq4]
      clear hw6 hq4 hm5 hsq5
      go_wp2_with fail
      refine (HC5.out _).mono ?_
      rintro e w8 ⟨a8, c8, T8, rfl, hsq8, hm8, hx8⟩
      have hz8 := hx8.le
      have HG8 := Lib.hid (GrIn.of hm8 hsq8 (by omega))
      obtain ⟨q5, hq5⟩ : ∃ q, q = w8.heap.size := ⟨_, rfl⟩
      obtain ⟨w10, hw10⟩ : ∃ W, W = w8.alloc (.cells #[.slice a8 2 c8] 26) := ⟨_, rfl⟩
      have hx810 : Ext w8 w10 := by rw [hw10]; exact (by repeat (first | (with_reducible exact Ext.refl _) | (with_reducible refine Ext.drewN ?_ _) | (with_reducible refine Ext.drew ?_) | (with_reducible refine Ext.alloc ?_ _) | ((with_reducible refine Ext.setCell ?_ ?_ _); rotate_left; focus (first | (simp; done) | (simp; omega) | omega)) | assumption | (with_reducible refine Ext.trans ?_ (by assumption))))
      have HB10 := Lib.hid (show SAt w10 q5 26 #[.slice a8 2 c8] from by rw [hw10, hq5]; exact SAt.new' _ _ _ rfl)
      have hgtq5 : w4.heap.size ≤ q5 := by omega
      have HG10 := Lib.hid (HG8.out.ext hx810)
      have HGa := Lib.hid ((HG6.out.ext hx8).ext hx810)
      have HS10 := Lib.hid (HS6.out.ext (hx8.trans hx810))
      have HT10 := Lib.hid (HT6.out.ext (hx8.trans hx810))
      have HQ110 := Lib.hid (HQ16.out.ext (hx8.trans hx810))
      have HQ310 := Lib.hid (HQ36.out.ext (hx8.trans hx810))
      have HBa := Lib.hid (HB6.out.ext (hx8.trans hx810))
      have ea := HBa.out.cell 0 (by simp)
      have eb := HB10.out.cell 0 (by simp)
      simp only [List.getElem_toArray, List.getElem_cons_zero] at ea eb
      have HPr := Lib.hid (spec_product 2 2 T5 T8 a5 c5 a8 c8 w10 HGa.out.mat HGa.out.sq HG10.out.mat HG10.out.sq (by omega) (by omega))
      have hz10 := hx810.le
      go_upto_region 12 with fail
      rw [← hw10, ← hq5]
      clear hw10 hq5 hm8 hsq8
      go_wp2_with fail
      refine HPr.out.mono ?_
      rintro e w11 ⟨n11, a11, c11, T11, b11, rfl, hn11, hsq11, hm11, hx11⟩
      have hz11 := hx11.le
      have HG11 := Lib.hid (GrIn.of hm11 hsq11 hn11)
      obtain ⟨q6, hq6⟩ : ∃ q, q = w11.heap.size := ⟨_, rfl⟩
      obtain ⟨w12, hw12⟩ : ∃ W, W = w11.alloc (.cells #[.slice a11 n11 c11] 26) := ⟨_, rfl⟩
      have hx1112 : Ext w11 w12 := by rw [hw12]; exact (by repeat (first | (with_reducible exact Ext.refl _) | (with_reducible refine Ext.drewN ?_ _) | (with_reducible refine Ext.drew ?_) | (with_reducible refine Ext.alloc ?_ _) | ((with_reducible refine Ext.setCell ?_ ?_ _); rotate_left; focus (first | (simp; done) | (simp; omega) | omega)) | assumption | (with_reducible refine Ext.trans ?_ (by assumption))))
      have HB12 := Lib.hid (show SAt w12 q6 26 #[.slice a11 n11 c11] from by rw [hw12, hq6]; exact SAt.new' _ _ _ rfl)
      have hgtq6 : w4.heap.size ≤ q6 := by omega
      have HG12 := Lib.hid (HG11.out.ext hx1112)
      have HGb := Lib.hid ((HGa.out.ext hx11).ext hx1112)
      have HS12 := Lib.hid (HS10.out.ext (hx11.trans hx1112))
      have HT12 := Lib.hid (HT10.out.ext (hx11.trans hx1112))
      have HQ112 := Lib.hid (HQ110.out.ext (hx11.trans hx1112))
      have HQ312 := Lib.hid (HQ310.out.ext (hx11.trans hx1112))
      have HBb := Lib.hid (HBa.out.ext (hx11.trans hx1112))
      have ec := HBb.out.cell 0 (by simp)
      have ed := HB12.out.cell 0 (by simp)
      simp only [List.getElem_toArray, List.getElem_cons_zero] at ec ed
      have HPs := Lib.hid (spec_product n11 2 T11 T5 a11 c11 a5 c5 w12 HG12.out.mat HG12.out.sq HGb.out.mat HGb.out.sq hn11 (by omega))
      have hz12 := hx1112.le
      go_upto_region 13 with fail
      rw [← hw12, ← hq6]
      clear hw12 hq6 hm11 hsq11
      go_wp2_with fail
      refine HPs.out.mono ?_
      rintro e w9 ⟨n9, a9, c9, T9, b9, rfl, hn9, hsq9, hm9, hx9⟩
      have HG9 := Lib.hid (GrIn.of hm9 hsq9 hn9)
      have HQ39 := Lib.hid (HQ312.out.ext hx9)
      have HQ19 := Lib.hid (HQ112.out.ext hx9)
      have HS9 := Lib.hid (HS12.out.ext hx9)
      have HT9 := Lib.hid (HT12.out.ext hx9)
      clear hm9 hsq9
      have f9 := HQ39.out.frozen 0
      have l9 := HQ39.out.lt
      have e9 := HQ39.out.cell 0 (by simp)
      simp only [List.getElem_toArray, List.getElem_cons_zero] at e9
      go_wp2_with fail
      go_meet
      exact hfin _ _ _ _ _ _ k4 _ (by omega) (HG9.out.set (.inl (by simp only; omega)) _) (HQ39.out.set 0 _) (HQ19.out.other _ (by simp only; omega)) (HS9.out.below (Below.setCell (B := w.heap.size) (Below.refl _ _) (p := ⟨q3, 0, none⟩) hwq3 _) hgw) (by omega) (by omega) (touch_setG HT9.out (by simp only; omega) _)
    · have h0d : decide (kd = 0) = false := decide_eq_false h0
      have h1d : decide (kd = 1) = false := decide_eq_false h1
      have h2d : decide (kd = 2) = false := decide_eq_false h2
      go_wp2_with fail
      go_meet
      exact hfin _ _ _ _ _ _ k4 _ (by omega) HG4.out HQ34.out HQ14.out HS4.out (by omega) (by omega) HT4.out
  case rest =>
    clear HQ33 HQ13 HG3 HS3 HT3 HPk HT1 HS1 HQ1 HCy hfin hx2 hsz2 hq3l hgw3
    obtain ⟨lo, hi, n, a, c, T, k, hq1lo, hG, hQ3, hQ1, hS, hk0, hk100, hT⟩ := hcut
    generalize wc = w1' at *
    have HG := Lib.hid hG
    have HQ3 := Lib.hid hQ3
    have HQ1 := Lib.hid hQ1
    have HS := Lib.hid hS
    have HT := Lib.hid hT
    have n10 := hG.n10
    have hghi := hS.g
    clear hG hQ3 hQ1 hS hT
    have HOn := Lib.hid (one_b g b n0 c0 l k 2 w1' HS.out (by omega) (by omega) (by omega))
    go_wp2_with fail
    refine HOn.out.mono ?_
    rintro e w2' ⟨x, k2, rfl, hs2, hk2, hk2', ht2⟩
    have HG2 := Lib.hid (HG.out.touch ht2 (by omega))
    have HQ32 := Lib.hid (HQ3.out.touchG ht2 (by omega))
    have HQ12 := Lib.hid (HQ1.out.touchG ht2 (by omega))
    have HS2 := Lib.hid hs2
    have HT2 := Lib.hid (HT.out.trans ht2)
    clear hs2 ht2 HG HQ3 HQ1 HS HT HOn
    have z0 := HQ12.out.cell 0 (by simp)
    have zf := HQ12.out.frozen 0
    have zl := HQ12.out.lt
    have e3 := HQ32.out.cell 0 (by simp)
    simp only [List.getElem_toArray, List.getElem_cons_zero] at e3 z0
    have hgq1l : g < q1 := hgq1
    have hhi := HG2.out.hh
    cases x
    · have HDo := Lib.hid (spec_drawOrder g b n0 c0 l k2 n w2' HS2.out (by omega) (by omega) n10)
      go_upto_region 17 with fail
      go_wp2_with fail
      refine HDo.out.mono ?_
      rintro e w3' ⟨fa, fc, F, k3, rfl, ho3, hfl, hfb, hs3, hk3, hk3', ht3⟩
      have HG3 := Lib.hid (HG2.out.touch ht3 (by omega))
      have HQ33 := Lib.hid (HQ32.out.touchG ht3 (by omega))
      have HQ13 := Lib.hid (HQ12.out.touchG ht3 (by omega))
      have HT3 := Lib.hid (HT2.out.trans ht3)
      have HF3 := Lib.hid ho3.ints
      have HFb := Lib.hid hfb
      have HFl := Lib.hid hfl
      clear ho3 hfl hfb hs3 ht3 HG2 HQ32 HQ12 HS2 HT2 HDo z0 zf zl e3
      have HIv := Lib.hid (spec_inverse n fc fa F w3' HF3.out HFb.out n10)
      go_wp2_with fail
      refine HIv.out.mono ?_
      rintro e w4' ⟨ba, bc, K, rfl, ho4, hkl, hkb, hx4⟩
      have HK4 := Lib.hid ho4.ints
      have HKb := Lib.hid hkb
      have HKl := Lib.hid hkl
      have HF4 := Lib.hid (HF3.out.ext hx4)
      have HG4 := Lib.hid (HG3.out.ext hx4)
      have HQ34 := Lib.hid (HQ33.out.ext hx4)
      have HQ14 := Lib.hid (HQ13.out.ext hx4)
      have HT4 := Lib.hid (HT3.out.ext hx4)
      clear ho4 hkl hkb HG3 HQ33 HQ13 HT3 HF3 HIv
      obtain ⟨q2, hq2⟩ : ∃ q, q = w4'.heap.size := ⟨_, rfl⟩
      obtain ⟨wz, hwz⟩ : ∃ W, W = w4'.alloc (.cells #[.slice none 0 0] 26) := ⟨_, rfl⟩
      obtain ⟨B, hB⟩ : ∃ B, B = q2 + 1 := ⟨_, rfl⟩
      have hxz4 : Ext w4' wz := by rw [hwz]; exact (by repeat (first | (with_reducible exact Ext.refl _) | (with_reducible refine Ext.drewN ?_ _) | (with_reducible refine Ext.drew ?_) | (with_reducible refine Ext.alloc ?_ _) | ((with_reducible refine Ext.setCell ?_ ?_ _); rotate_left; focus (first | (simp; done) | (simp; omega) | omega)) | assumption | (with_reducible refine Ext.trans ?_ (by assumption))))
      have HD0 := Lib.hid (show GI w4' B q1 q2 n 0 none 0 [] wz from ⟨OwnMat.nil0 _ _ _ _, (fun r hr => by cases hr), by rw [hwz, hq2]; exact SAt.new' _ _ _ rfl, HQ14.out.ext hxz4, hxz4, by rw [hwz, hB, hq2]; simp⟩)
      have h12 : q1 < q2 := by have := HQ14.out.lt; omega
      have h2B : q2 < B := by omega
      have hwq2 : w4'.heap.size ≤ q2 := by omega
      have HQ3z := Lib.hid (HQ34.out.ext hxz4)
      have hq3q2 : q3 < q2 := by have := HQ34.out.lt; omega
      go_upto_region 20 with fail
      rw [← hwz, ← hq2]
      clear hwz hq2 hB hxz4
      go_wp2_with fail
      go_loopw [14] (fun v4 wr => ∃ (k : Nat) (ga : Option Addr) (gc : Nat) (ll : List (List Int)), k ≤ n ∧ v4 = .int .i64 k ∧ Hid (GI w4' B q1 q2 n k ga gc ll wr) ∧ Hid (SAt wr q3 26 #[.slice a n c])) (fun v4 _ => n - (intOf v4).toNat)
      case atStart => exact ⟨0, _, _, _, Nat.zero_le _, rfl, HD0.out, HQ3z.out⟩
      case round =>
        clear HD0 HQ3z
        obtain ⟨x, ga, gc, ll, hk, rfl, HD, HQ⟩ := hrel
        have hBr := HD.out.b
        have hx4r : Ext w4' wr := HD.out.h
        by_cases hlt : x < n
        · obtain ⟨wo, hwo⟩ : ∃ W, W = wr := ⟨_, rfl⟩
          subst hwo
          go_wp2_with fail
          go_loopw [15, 16] (fun v5 v6 wr => ∃ (j : Nat) (ra : Option Addr) (rc : Nat) (r : List Int), j ≤ n ∧ v6 = .int .i64 j ∧ v5 = .slice ra j rc ∧ Hid (Own wr wo.heap.size 2 ra j rc (I r)) ∧ Hid (r.length = j) ∧ Hid (∀ z ∈ r, 0 ≤ z ∧ z < (n : Int)) ∧ Ext wo wr) (fun _ v6 _ => n - (intOf v6).toNat)
          case atStart => exact ⟨0, _, _, [], Nat.zero_le _, rfl, rfl, Own.lit0 _ _, rfl, (fun z hz => by cases hz), (Ext.refl _).alloc _⟩
          case round =>
            obtain ⟨j, ra, rc, r, hj, rfl, rfl, HO, HL, HZ, hx⟩ := hrel
            have gq : ∀ w', Ext wo w' → w'.cell? ⟨q3, 0, none⟩ = some (.slice a n c) := fun w' h => h.cell (HQ.out.cell 0 (by simp))
            by_cases hlj : j < n
            · have v1 := HKb.out (gi K x) (gi_mem (by rw [HKl.out]; exact hlt))
              have v2 := HKb.out (gi K j) (gi_mem (by rw [HKl.out]; exact hlj))
              obtain ⟨s1, o1, ⟨f1, f2⟩⟩ := (HK4.out.ext hx4r).one (P := Try.prog) 28 2 und_int64s cell_int64 (x : Int) (by omega) (by omega)
              obtain ⟨s2, o2, ⟨f3, f4⟩⟩ := (HK4.out.ext hx4r).one (P := Try.prog) 28 2 und_int64s cell_int64 (j : Int) (by omega) (by omega)
              rw [Int.toNat_natCast] at f2 f4
              obtain ⟨y1, e1⟩ := Int.eq_ofNat_of_zero_le v1.1
              obtain ⟨y2, e2⟩ := Int.eq_ofNat_of_zero_le v2.1
              rw [e1] at f2 v1
              rw [e2] at f4 v2
              have hy1 : y1 < n := by omega
              have hy2 : y2 < n := by omega
              obtain ⟨s3, o3, a3, c3, s4, o4, ⟨f5, f6⟩, ⟨f7, f8⟩⟩ := sq_cell (HG4.out.ext hx4r).mat HG4.out.sq hy1 hy2
              have hu := (HG4.out.sq.q hy1 hy2).2
              have v3 := HFb.out (gi F (tq T y1 y2)) (gi_mem (by rw [HFl.out]; exact hu))
              obtain ⟨s5, o5, ⟨f9, f10⟩⟩ := (HF4.out.ext hx4r).one (P := Try.prog) 28 2 und_int64s cell_int64 ((tq T y1 y2 : Nat) : Int) (by omega) (by omega)
              rw [Int.toNat_natCast] at f10
              clear v1 v2 e1 e2
              generalize tq T y1 y2 = u1 at *
              generalize gi F u1 = u2 at *
              go_wp2_with fail
              (refine wp_region_from wo (by repeat (first | (with_reducible exact Ext.refl _) | (with_reducible refine Ext.drewN ?_ _) | (with_reducible refine Ext.drew ?_) | (with_reducible refine Ext.alloc ?_ _) | ((with_reducible refine Ext.setCell ?_ ?_ _); rotate_left; focus (first | (simp; done) | (simp; omega) | omega)) | assumption | (with_reducible refine Ext.trans ?_ (by assumption)))) (by kernel_rfl) (by kernel_rfl) (by kernel_rfl) ?_; (repeat (first | (refine mix_q rfl ?_; go_big_quiet_step (fail); refine wpQuiet_nil ?_; show wpMix _ _ _ _ _ _ _) | (refine mix_s rfl ?_; go_wp2_with ((at_builtin; refine law_append1 wr.drew rfl _ _ 28 rfl 2 (.int .i64 0) 8 und_int64s info_int64 rfl wo.heap.size ra j rc _ _ rfl rfl (by simp [Act.eval, go_sem]) HO.out.drew (hx.drew).le (by omega) (by omega) ?_; intro ra' rc' w6 ho6 hb6 _; have hxo6 : Ext wo w6 := Ext.below hx.drew hb6; clear hb6)); first | refine ⟨up_of (by repeat (first | (with_reducible exact Ext.refl _) | (with_reducible refine Ext.drewN ?_ _) | (with_reducible refine Ext.drew ?_) | (with_reducible refine Ext.alloc ?_ _) | ((with_reducible refine Ext.setCell ?_ ?_ _); rotate_left; focus (first | (simp; done) | (simp; omega) | omega)) | assumption | (with_reducible refine Ext.trans ?_ (by assumption)))), ?_⟩ | refine ⟨rfl, rfl, up_of (by repeat (first | (with_reducible exact Ext.refl _) | (with_reducible refine Ext.drewN ?_ _) | (with_reducible refine Ext.drew ?_) | (with_reducible refine Ext.alloc ?_ _) | ((with_reducible refine Ext.setCell ?_ ?_ _); rotate_left; focus (first | (simp; done) | (simp; omega) | omega)) | assumption | (with_reducible refine Ext.trans ?_ (by assumption)))), ?_⟩))); refine mix_nil ?_)
              go_wp2_with fail
              obtain ⟨h7, h8⟩ := row_snoc ho6 HZ.out v3
              exact ⟨⟨j + 1, ra', rc', _, by omega, by go_num, rfl, h7, by rw [Hid, List.length_append, HL.out]; rfl, h8, hxo6⟩, by simp [intOf]; omega⟩
            · obtain rfl : j = n := by omega
              have HD4 := Lib.hid (HD.out.ext hx)
              have HQ4 := Lib.hid (HQ.out.ext hx)
              have HO4 := Lib.hid (HO.out.mono hBr)
              obtain ⟨tvs, htv, htp⟩ := HD4.out.m.rows
              have HTV := Lib.hid htv
              have HTP := Lib.hid htp
              have hb4 := HD4.out.b
              have e2 := HD4.out.s.cell 0 (by simp)
              simp only [List.getElem_toArray, List.getElem_cons_zero] at e2
              clear htv htp gq
              go_wp2_with (at_builtin; refine law_append1 _ rfl _ _ 24 rfl 28 (.slice none 0 0) 24 und_rows info_row1 rfl B ga x gc _ _ rfl rfl rfl HTV.out hb4 (by omega) (by omega) ?_; intro ga' gc' w8 ho8 hb8 hg8; have HD8 := Lib.hid (GI.push HD4.out HTP.out HTV.out HO4.out HL.out HZ.out ho8 hb8 hg8 (by omega) (by omega) h2B); have HS8 := Lib.hid (HD4.out.s.grown hg8 (row_ne_s (HTV.out.ne_s HD4.out.s (by decide)))); have HQ8 := Lib.hid (HQ4.out.grown hg8 (row_ne_s (HTV.out.ne_s HQ4.out (by decide)))); have e8 := HS8.out.cell 0 (by simp); have fr := HS8.out.frozen 0; have hlt8 := HS8.out.lt; simp only [List.getElem_toArray, List.getElem_cons_zero] at e8; clear ho8 hb8 hg8)
              exact ⟨⟨x + 1, ga', gc', ll ++ [r], by omega, by go_num, HD8.out, HQ8.out.other _ (by simp only; omega)⟩, by simp [intOf]; omega⟩
        · obtain rfl : x = n := by omega
          have e2 := HD.out.s.cell 0 (by simp)
          have z0 := HD.out.z.cell 0 (by simp)
          have zf := HD.out.z.frozen 0
          have zl := HD.out.z.lt
          simp only [List.getElem_toArray, List.getElem_cons_zero] at e2 z0
          go_wp2_with fail
          refine bodyPost_ret (v := .agg #[.slice ga x gc]) ?_ rfl ?_
          · simp [results, Try.results14, go_sem, z0]
          · have hm := ownMat_setG HD.out.m (p := ⟨q1, 0, none⟩) (by simp only; omega) (.slice ga x gc)
            exact ⟨x, ga, gc, ll, rfl, ⟨Nat.le_refl _, n10, HD.out.r.sq HD.out.m.len, fun V hV => (OwnMat.keepB hm (hV.mono (by have := HT4.out.size; omega) (Nat.le_refl _))).mat⟩, touch_setG (HT4.out.ext hx4r) hwq1 _⟩
    · go_wp2_with fail
      refine bodyPost_ret (v := .agg #[.slice a n c]) ?_ rfl ?_
      · simp [results, Try.results14, go_sem, z0]
      · exact ⟨n, a, c, T, rfl, (HG2.out.set (p := ⟨q1, 0, none⟩) (.inl hq1lo) _).mono (by omega) (by simpa [World.setCell] using hhi) (Nat.le_refl _), touch_setG HT2.out hwq1 _⟩
end Go.Proofs.Ytohenfbgjjifbaa
