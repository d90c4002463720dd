/- Walks: how many patterns there are, the pattern with a rank, a pattern that is chosen. -/
import Derived.Test.YtnmkckghfckgbaaCntP
import Derived.Test.YtnmkckghfckgbaaMix3
import Derived.Test.YtnmkckghfckgbaaBcS
import Derived.Test.YtnmkckghfckgbaaDraw
namespace Go.Proofs.Ytnmkckghfckgbaa
set_option maxRecDepth 100000
open Go.RowKit

/-- an element of an own row: its place, its value, and that it may be written, in this world and behind it -/
structure OneI (P : Program) (T : TypeId) (w : World) (g n c : Nat) (l : List Int) (x : Int) (k : Nat) : Prop where
  run : ∀ (K : IntKind) (w' : World), (Instr.indexAt T (.slice (some ⟨g, 0, none⟩) n c) (.int K x)).run P w' = .ok (.pointer (some ⟨g, k, none⟩)) w'
  cell : ∀ w', Ext w w' → w'.cell? ⟨g, k, none⟩ = some (.int .i64 (Go.Proofs.Ytnmkckghfckgbaa.gi l k))
  fr : ∀ w', Ext w w' → w'.frozen? ⟨g, k, none⟩ = false
theorem Own.oneI {P : Program} {w : World} {B : Nat} {E : TypeId} {g n c : Nat} {l : List Int} (h : Own w B E (some ⟨g, 0, none⟩) n c (I l)) (T : TypeId) (ht : P.underlying T = some (.slice E)) (he : P.cellsOf E = 1)
    (k : Nat) (hk : k < n) {x : Int} (hx : x = (k : Int)) : OneI P T w g n c l x k := by
  subst hx
  obtain ⟨h1, h2, h3⟩ := h.at (P := P) T ht he k hk .i64
  have hl := h.len
  rw [I_len] at hl
  refine ⟨fun K w' => (h.at (P := P) T ht he k hk K).1 w', fun w' hx => hx.cell ?_, fun w' hx => ?_⟩
  · rw [h2, I_getD _ _ (by rw [hl]; exact hk)]; rfl
  · exact (Below.frozen hx (p := ⟨g, k, none⟩) h.lt.2).trans h3
set_option maxHeartbeats 4000000 in
theorem spec_count (e m : Nat) (w : World) (he : e ≤ 6) (hm : m ≤ 11) : Calls Try.prog 124 #[.int .i64 e, .int .i64 m, .int .i64 4] w (Ret (.int .i64 (cnt e m)) w) := by
  go_enter Try.func124, Try.ntmps124
  go_wp2_with (at_make; refine law_make _ rfl _ _ 36 rfl 2 (.int .i64 0) 8 und_int64s info_int64 rfl _ _ (m + 1) rfl rfl (by omega) (by unfold maxLen; omega) ?_; intro w1 hown hx hsz; obtain ⟨hia0, hce0, hfr0⟩ := Own.oneI (l := List.replicate (m + 1) 0) (by rw [I_replicate]; exact hown) (P := Try.prog) 36 und_int64s cell_int64 0 (by omega) (x := 0) rfl; have hx1 : Ext w1 w1 := Ext.refl _)
  have HO := Lib.hid (show Own (w1.setCell ⟨w.heap.size, 0, none⟩ (.int .i64 1)) w.heap.size 2 (some ⟨w.heap.size, 0, none⟩) (m + 1) (m + 1) (I (cWays m 0)) from by rw [cWays, ← I_set, I_replicate]; exact hown.set 0 _)
  have hxs : Ext w (w1.setCell ⟨w.heap.size, 0, none⟩ (.int .i64 1)) := Ext.setCell hx (Nat.le_refl _) _
  clear hown hsz hia0 hce0 hfr0
  go_loopw [7, 8, 9, 10, 11] (fun v i _ _ _ wr => ∃ (k b : Nat), k ≤ e ∧ i = .int .i64 k ∧ v = .slice (some ⟨b, 0, none⟩) (m + 1) (m + 1) ∧ Hid (Own wr w.heap.size 2 (some ⟨b, 0, none⟩) (m + 1) (m + 1) (I (cWays m k))) ∧ Ext w wr) (fun _ i _ _ _ _ => e - (intOf i).toNat)
  case atStart => exact ⟨0, _, Nat.zero_le _, rfl, rfl, HO, hxs⟩
  case round =>
    clear HO hxs hx hx1
    obtain ⟨k, b, hk, rfl, rfl, HO, hxr⟩ := hrel
    by_cases hlt : k < e
    · obtain ⟨wo, hwo⟩ : ∃ wo, wo = wr := ⟨_, rfl⟩
      rw [← hwo] at HO hxr ⊢
      clear hwo
      go_wp2_with (at_make; refine law_make _ rfl _ _ 36 rfl 2 (.int .i64 0) 8 und_int64s info_int64 rfl _ _ (m + 1) rfl rfl (by omega) (by unfold maxLen; omega) ?_; intro w2 hown2 hx2 hsz2)
      obtain ⟨g, hg⟩ : ∃ g, g = wo.heap.size := ⟨_, rfl⟩
      rw [← hg] at hown2 ⊢
      have hgw : w.heap.size ≤ g := by rw [hg]; exact hxr.le
      have hgo : wo.heap.size ≤ g := by omega
      have HO2 := Lib.hid (show Own w2 wo.heap.size 2 (some ⟨g, 0, none⟩) (m + 1) (m + 1) (I (cOut (cWays m k) m 0)) from by rw [cOut, I_replicate, hg]; rw [hg] at hown2; exact hown2)
      have HWB := Lib.hid (cWays_bd hm k)
      have hp48 := pow48 (e := k) (by omega)
      clear hown2 hsz2 hg
      go_loopw [10, 11] (fun s _ wr => ∃ (j : Nat), j ≤ m + 1 ∧ s = .int .i64 j ∧ Hid (Own wr wo.heap.size 2 (some ⟨g, 0, none⟩) (m + 1) (m + 1) (I (cOut (cWays m k) m j))) ∧ Ext wo wr) (fun s _ _ => m + 1 - (intOf s).toNat)
      case atStart => exact ⟨0, Nat.zero_le _, rfl, HO2, hx2⟩
      case round =>
        clear HO2 hx2
        obtain ⟨j, hj, rfl, HO3, hx3⟩ := hrel
        by_cases hlj : j < m + 1
        · have hjm : j ≤ m := by omega
          go_wp2
          go_loopw [11] (fun u wr => ∃ (t : Nat), t + 1 ≤ 5 ∧ t ≤ min 4 (m - j) ∧ u = .int .i64 ((t + 1 : Nat) : Int) ∧ Hid (Own wr wo.heap.size 2 (some ⟨g, 0, none⟩) (m + 1) (m + 1) (I (cIn (gi (cWays m k) j) j t (cOut (cWays m k) m j)))) ∧ Ext wo wr) (fun u _ => 5 - (intOf u).toNat)
          case atStart => exact ⟨0, by omega, Nat.zero_le _, rfl, HO3, hx3⟩
          case round =>
            clear HO3 hx3
            obtain ⟨t, ht5, ht, rfl, HO4, hx4⟩ := hrel
            have hxq : Ext wo wr := hx4
            by_cases hlu : t < min 4 (m - j)
            · have hb1 : 0 ≤ gi (cIn (gi (cWays m k) j) j t (cOut (cWays m k) m j)) (j + (t + 1)) ∧ gi (cIn (gi (cWays m k) j) j t (cOut (cWays m k) m j)) (j + (t + 1)) ≤ (48 : Int) ^ k * (4 * (j : Int)) + (48 : Int) ^ k * (t : Int) := cIn_bd (cOut_bd HWB.out (Int.pow_nonneg (by omega)) j) (HWB.out j).1 (HWB.out j).2 j t (j + (t + 1))
              have hb2 : 0 ≤ gi (cWays m k) j ∧ gi (cWays m k) j ≤ 12230590464 := ⟨(HWB.out j).1, Int.le_trans (HWB.out j).2 hp48⟩
              have hj11 : (j : Int) ≤ 11 := by omega
              have hb3 : (48 : Int) ^ k * (4 * (j : Int)) ≤ 12230590464 * (4 * 11) := Int.mul_le_mul hp48 (by omega) (by omega) (by omega)
              have hb4 : (48 : Int) ^ k * (t : Int) ≤ 12230590464 * 4 := Int.mul_le_mul hp48 (by omega) (by omega) (by omega)
              have h41 : t + 1 ≤ 4 := by omega
              have h42 : j + (t + 1) ≤ m := by omega
              obtain ⟨f1, f2, f3⟩ := HO4.out.oneI (P := Try.prog) 36 und_int64s cell_int64 (j + (t + 1)) (by omega) (x := (j : Int) + ((t : Int) + 1)) (by omega)
              obtain ⟨e1, e2, _⟩ := HO.out.oneI (P := Try.prog) 36 und_int64s cell_int64 j (by omega) (x := (j : Int)) rfl
              generalize hcc : (48 : Int) ^ k * (4 * (j : Int)) = c1 at *
              generalize hcd : (48 : Int) ^ k * (t : Int) = c2 at *
              have HN := Lib.hid (show cIn (gi (cWays m k) j) j (t + 1) (cOut (cWays m k) m j) = (cIn (gi (cWays m k) j) j t (cOut (cWays m k) m j)).set (j + (t + 1)) (gi (cIn (gi (cWays m k) j) j t (cOut (cWays m k) m j)) (j + (t + 1)) + gi (cWays m k) j) from rfl)
              have hgl := HO4.out.lt.2
              clear hcc hcd hp48
              obtain ⟨x1, hx1e⟩ : ∃ x1, x1 = gi (cIn (gi (cWays m k) j) j t (cOut (cWays m k) m j)) (j + (t + 1)) := ⟨_, rfl⟩
              rw [← hx1e] at f2 hb1 HN
              clear hx1e
              go_wp2
              (refine wp_region_upl 12 wr (by repeat (first | (with_reducible exact Ext.refl _) | (with_reducible refine Ext.drewN ?_ _) | (with_reducible refine Ext.drew ?_) | (with_reducible refine Ext.alloc ?_ _) | ((with_reducible refine Ext.setCell ?_ ?_ _); rotate_left; focus (first | (simp; done) | (simp; omega) | omega)) | assumption | (with_reducible refine Ext.trans ?_ (by assumption)))) rfl (by kernel_rfl) (by kernel_rfl) (seqB_of (by kernel_rfl)) (lastB_of (by kernel_rfl)) ?_; simp only [List.take_succ_cons, List.take_zero, List.drop_succ_cons, List.drop_zero]; (repeat (first | (refine mix_q rfl ?_; go_big_quiet_step (fail); refine wpQuiet_nil ?_; show wpMix _ _ _ _ _ _ _) | (refine mix_s rfl ?_; go_wp2_with (fail); first | refine ⟨up_of (by repeat (first | (with_reducible exact Ext.refl _) | (with_reducible refine Ext.drewN ?_ _) | (with_reducible refine Ext.drew ?_) | (with_reducible refine Ext.alloc ?_ _) | ((with_reducible refine Ext.setCell ?_ ?_ _); rotate_left; focus (first | (simp; done) | (simp; omega) | omega)) | assumption | (with_reducible refine Ext.trans ?_ (by assumption)))), ?_⟩ | refine ⟨rfl, rfl, up_of (by repeat (first | (with_reducible exact Ext.refl _) | (with_reducible refine Ext.drewN ?_ _) | (with_reducible refine Ext.drew ?_) | (with_reducible refine Ext.alloc ?_ _) | ((with_reducible refine Ext.setCell ?_ ?_ _); rotate_left; focus (first | (simp; done) | (simp; omega) | omega)) | assumption | (with_reducible refine Ext.trans ?_ (by assumption)))), ?_⟩))); refine mix_nil ?_)
              go_wp2
              refine ⟨⟨t + 1, by omega, by omega, by go_num, ?_, (Ext.setCell hxq hgo _).drew⟩, by simp [intOf]; omega⟩
              have h9 := HO4.out.set (j + (t + 1)) (.int .i64 (x1 + gi (cWays m k) j))
              rw [I_set, ← HN.out] at h9
              exact h9
            · obtain rfl : t = min 4 (m - j) := by omega
              have HO5 := Lib.hid (show Own wr wo.heap.size 2 (some ⟨g, 0, none⟩) (m + 1) (m + 1) (I (cOut (cWays m k) m (j + 1))) from HO4.out)
              clear HO4
              obtain ⟨t, htt⟩ : ∃ t, t = min 4 (m - j) := ⟨_, rfl⟩
              rw [← htt] at hlu ht ht5 ⊢
              by_cases h4 : t + 1 ≤ 4
              · have h5 : ¬ (j + (t + 1) ≤ m) := by omega
                clear htt hlu
                go_wp2
                exact ⟨⟨j + 1, by omega, by go_num, HO5, hx4⟩, by simp [intOf]; omega⟩
              · clear htt hlu
                go_wp2
                exact ⟨⟨j + 1, by omega, by go_num, HO5, hx4⟩, by simp [intOf]; omega⟩
        · obtain rfl : j = m + 1 := by omega
          go_wp2
          exact ⟨⟨k + 1, g, by omega, by go_num, rfl, by rw [Hid]; exact HO3.out.mono hxr.le, hxr.trans hx3⟩, by simp [intOf]; omega⟩
    · obtain rfl : k = e := by omega
      obtain ⟨f1, f2, f3⟩ := HO.out.oneI (P := Try.prog) 36 und_int64s cell_int64 m (by omega) (x := (m : Int)) rfl
      have hxx : Ext wr wr := Ext.refl _
      have HN := Lib.hid (show gi (cWays m k) m = cnt k m from rfl)
      go_wp2
      go_ret
      exact ⟨ri HN.out, hxr⟩
/-- a pattern -/
def RetPat (E M : Nat) (w : World) (e : Ending) (w' : World) : Prop := ∃ s, e = .returned (.string s) ∧ PatOk E M s ∧ Ext w w'
set_option maxHeartbeats 4000000 in
theorem spec_at (E M : Nat) (rank : Int) (w : World) (h : Half E M [] E M rank) : Calls Try.prog 125 #[.int .i64 E, .int .i64 M, .int .i64 4, .int .i64 rank] w (RetPat E M w) := by
  have HH := Lib.hid h
  have hE6 := h.i6
  clear h
  go_enter Try.func125, Try.ntmps125
  go_wp2_with fail
  go_loopw [1, 3, 9, 10, 11] (fun mv rv ov iv _ wr => ∃ (ds : List Int) (i m n : Nat) (z r : Int) (ad : Option Addr) (c : Nat), mv = .int .i64 m ∧ rv = .int .i64 r ∧ ov = .slice ad n c ∧ iv = .int .i64 z ∧ z + 1 = (i : Int) ∧ n + i = E ∧ Hid (ds.length = n) ∧ Hid (Half E M ds i m r) ∧ Hid (Own wr w.heap.size 5 ad n c (U (ds.map fun d => 48 + d))) ∧ Ext w wr) (fun _ _ _ iv _ _ => (intOf iv + 1).toNat)
  case atStart => exact ⟨[], E, M, 0, (E : Int) - 1, rank, _, _, rfl, rfl, rfl, rfl, by omega, by omega, rfl, HH, Own.lit0 w _, (Ext.refl w).alloc _⟩
  case round =>
    obtain ⟨ds, i, m, n, z, r, ad, c, rfl, rfl, rfl, rfl, hz, hn, HL, HF, HO, hx⟩ := hrel
    by_cases hlt : 0 < i
    · obtain ⟨i, rfl⟩ : ∃ j, i = j + 1 := ⟨i - 1, by omega⟩
      obtain rfl : z = (i : Int) := by omega
      have hz0 : 0 ≤ (i : Int) := by omega
      have hm11 := HF.out.m11
      have hi6 := HF.out.i6
      obtain ⟨wo, hwo⟩ : ∃ wo, wo = wr := ⟨_, rfl⟩
      rw [← hwo] at HO hx ⊢
      clear hwo hz
      go_wp2
      go_loopw [3, 11] (fun rv uv wr => ∃ (u : Nat) (r : Int), rv = .int .i64 r ∧ uv = .int .i64 u ∧ Hid (Try1 i m u r) ∧ Ext wo wr) (fun _ uv _ => m - (intOf uv).toNat)
      case atStart => exact ⟨1, r, rfl, rfl, HF.out.start, Ext.refl _⟩
      case round =>
        obtain ⟨u, r, rfl, rfl, HT, hx2⟩ := hrel
        have hxo : Ext wo wr := hx2
        have hu := HT.out.wm
        have hu1 := HT.out.w1
        have hu4 := HT.out.w4
        have hr0 := HT.out.r0
        have hrb := HT.out.rb
        by_cases hum : u < m
        · have HC := Lib.hid (fun W => show Calls Try.prog 124 #[.int .i64 i, .int .i64 ((m : Int) - (u : Int)), .int .i64 4] W (Ret (.int .i64 (cnt i (m - u))) W) from by rw [show (m : Int) - (u : Int) = ((m - u : Nat) : Int) by omega]; exact spec_count i (m - u) W (by omega) (by omega))
          obtain ⟨hcb0, hcb1⟩ : 0 ≤ cnt i (m - u) ∧ cnt i (m - u) ≤ 100000 := cnt_bd ⟨i, by omega⟩ ⟨m - u, by omega⟩
          by_cases hr : cnt i (m - u) ≤ r
          · have HN := Lib.hid (HT.out.next hum hr (by omega) hm11)
            generalize cnt i (m - u) = cc at *
            go_wp2_with (go_at_call 124; refine (HC.out _).mono ?_; rintro e w1 ⟨rfl, hy⟩; have hxw1 : Ext wo w1 := Ext.trans (by repeat (first | (with_reducible exact Ext.refl _) | (with_reducible refine Ext.drewN ?_ _) | (with_reducible refine Ext.drew ?_) | (with_reducible refine Ext.alloc ?_ _) | ((with_reducible refine Ext.setCell ?_ ?_ _); rotate_left; focus (first | (simp; done) | (simp; omega) | omega)) | assumption | (with_reducible refine Ext.trans ?_ (by assumption)))) hy; clear hy)
            exact ⟨⟨u + 1, r - cc, rfl, by go_num, HN, (by repeat (first | (with_reducible exact Ext.refl _) | (with_reducible refine Ext.drewN ?_ _) | (with_reducible refine Ext.drew ?_) | (with_reducible refine Ext.alloc ?_ _) | ((with_reducible refine Ext.setCell ?_ ?_ _); rotate_left; focus (first | (simp; done) | (simp; omega) | omega)) | assumption | (with_reducible refine Ext.trans ?_ (by assumption))))⟩, by simp [intOf]; omega⟩
          · have HD := Lib.hid (Try1.done HF.out HT.out (.inr (by omega)))
            generalize cnt i (m - u) = cc at *
            go_wp2_with (first | (go_at_call 124; refine (HC.out _).mono ?_; rintro e w1 ⟨rfl, hy⟩; have hxw1 : Ext wo w1 := Ext.trans (by repeat (first | (with_reducible exact Ext.refl _) | (with_reducible refine Ext.drewN ?_ _) | (with_reducible refine Ext.drew ?_) | (with_reducible refine Ext.alloc ?_ _) | ((with_reducible refine Ext.setCell ?_ ?_ _); rotate_left; focus (first | (simp; done) | (simp; omega) | omega)) | assumption | (with_reducible refine Ext.trans ?_ (by assumption)))) hy; clear hy) | (at_builtin; refine law_append1 _ rfl _ _ 32 rfl 5 (.int .u8 0) 1 und_u8s info_u8 rfl w.heap.size ad n c _ _ rfl rfl rfl (HO.out.ext (by repeat (first | (with_reducible exact Ext.refl _) | (with_reducible refine Ext.drewN ?_ _) | (with_reducible refine Ext.drew ?_) | (with_reducible refine Ext.alloc ?_ _) | ((with_reducible refine Ext.setCell ?_ ?_ _); rotate_left; focus (first | (simp; done) | (simp; omega) | omega)) | assumption | (with_reducible refine Ext.trans ?_ (by assumption))))) (hx.trans (by repeat (first | (with_reducible exact Ext.refl _) | (with_reducible refine Ext.drewN ?_ _) | (with_reducible refine Ext.drew ?_) | (with_reducible refine Ext.alloc ?_ _) | ((with_reducible refine Ext.setCell ?_ ?_ _); rotate_left; focus (first | (simp; done) | (simp; omega) | omega)) | assumption | (with_reducible refine Ext.trans ?_ (by assumption))))).le (by omega) (by omega) ?_; intro ad' c' w3 ho3 hb3 _; have hx3 : Ext w w3 := Ext.below (hx.trans (by repeat (first | (with_reducible exact Ext.refl _) | (with_reducible refine Ext.drewN ?_ _) | (with_reducible refine Ext.drew ?_) | (with_reducible refine Ext.alloc ?_ _) | ((with_reducible refine Ext.setCell ?_ ?_ _); rotate_left; focus (first | (simp; done) | (simp; omega) | omega)) | assumption | (with_reducible refine Ext.trans ?_ (by assumption))))) hb3))
            exact ⟨⟨ds ++ [(u : Int)], i, m - u, n + 1, (i : Int) - 1, r, ad', c', by rw [show ((m - u : Nat) : Int) = (m : Int) - (u : Int) by omega], rfl, rfl, rfl, by omega, by omega, by rw [Hid, List.length_append, HL.out, List.length_singleton], HD, by rw [Hid, List.map_append, U, List.map_append]; exact ho3, (by repeat (first | (with_reducible exact Ext.refl _) | (with_reducible refine Ext.drewN ?_ _) | (with_reducible refine Ext.drew ?_) | (with_reducible refine Ext.alloc ?_ _) | ((with_reducible refine Ext.setCell ?_ ?_ _); rotate_left; focus (first | (simp; done) | (simp; omega) | omega)) | assumption | (with_reducible refine Ext.trans ?_ (by assumption))))⟩, by simp [intOf]⟩
        · obtain rfl : u = m := by omega
          have HD := Lib.hid (Try1.done HF.out HT.out (.inl rfl))
          go_wp2_with (at_builtin; refine law_append1 _ rfl _ _ 32 rfl 5 (.int .u8 0) 1 und_u8s info_u8 rfl w.heap.size ad n c _ _ rfl rfl rfl (HO.out.ext (by repeat (first | (with_reducible exact Ext.refl _) | (with_reducible refine Ext.drewN ?_ _) | (with_reducible refine Ext.drew ?_) | (with_reducible refine Ext.alloc ?_ _) | ((with_reducible refine Ext.setCell ?_ ?_ _); rotate_left; focus (first | (simp; done) | (simp; omega) | omega)) | assumption | (with_reducible refine Ext.trans ?_ (by assumption))))) (hx.trans (by repeat (first | (with_reducible exact Ext.refl _) | (with_reducible refine Ext.drewN ?_ _) | (with_reducible refine Ext.drew ?_) | (with_reducible refine Ext.alloc ?_ _) | ((with_reducible refine Ext.setCell ?_ ?_ _); rotate_left; focus (first | (simp; done) | (simp; omega) | omega)) | assumption | (with_reducible refine Ext.trans ?_ (by assumption))))).le (by omega) (by omega) ?_; intro ad' c' w3 ho3 hb3 _; have hx3 : Ext w w3 := Ext.below (hx.trans (by repeat (first | (with_reducible exact Ext.refl _) | (with_reducible refine Ext.drewN ?_ _) | (with_reducible refine Ext.drew ?_) | (with_reducible refine Ext.alloc ?_ _) | ((with_reducible refine Ext.setCell ?_ ?_ _); rotate_left; focus (first | (simp; done) | (simp; omega) | omega)) | assumption | (with_reducible refine Ext.trans ?_ (by assumption))))) hb3)
          exact ⟨⟨ds ++ [(u : Int)], i, u - u, n + 1, (i : Int) - 1, r, ad', c', by simp, rfl, rfl, rfl, by omega, by omega, by rw [Hid, List.length_append, HL.out, List.length_singleton], HD, by rw [Hid, List.map_append, U, List.map_append]; exact ho3, (by repeat (first | (with_reducible exact Ext.refl _) | (with_reducible refine Ext.drewN ?_ _) | (with_reducible refine Ext.drew ?_) | (with_reducible refine Ext.alloc ?_ _) | ((with_reducible refine Ext.setCell ?_ ?_ _); rotate_left; focus (first | (simp; done) | (simp; omega) | omega)) | assumption | (with_reducible refine Ext.trans ?_ (by assumption))))⟩, by simp [intOf]⟩
    · obtain rfl : i = 0 := by omega
      have hz0 : z < 0 := by omega
      have HR := Lib.hid (run_bytes_text wr _ ad n c _ HO.out)
      have hr := HR.out
      clear hz
      go_wp2
      go_ret
      exact ⟨_, rfl, HF.out.pat, hx⟩
/-- a pattern, chosen -/
def RetDrawPat (g : Nat) (a : Option Addr) (n c : Nat) (l : List UInt8) (k : Int) (E M : Nat) (w : World) (e : Ending) (w' : World) : Prop :=
  ∃ s k', e = .returned (.string s) ∧ PatOk E M s ∧ SrcB w' g a n c l k' ∧ k ≤ k' ∧ k' ≤ k + 2 ∧ Touch g w w'
set_option maxHeartbeats 1000000 in
theorem spec_drawPat (g : Nat) (a : Option Addr) (n c : Nat) (l : List UInt8) (k : Int) (E M : Nat) (w : World) (h : SrcB w g a n c l k) (hk : 0 ≤ k) (hk2 : k ≤ 999000000) (hE : 2 ≤ E) (hE2 : E ≤ 6) (hM : E + 1 ≤ M) (hM2 : M ≤ E + 5) :
    Calls Try.prog 97 #[.pointer (some ⟨g, 0, none⟩), .int .i64 E, .int .i64 M] w (RetDrawPat g a n c l k E M w) := by
  have HS := Lib.hid h
  have HC := Lib.hid (spec_count E M w (by omega) (by omega))
  obtain ⟨hcb0, hcb1⟩ : 0 ≤ cnt E M ∧ cnt E M ≤ 100000 := cnt_bd ⟨E, by omega⟩ ⟨M, by omega⟩
  have hc1 : 1 ≤ cnt E M := by
    have := cnt_some ⟨E - 2, by omega⟩ ⟨M - E - 1, by omega⟩
    simp only at this
    rwa [show E - 2 + 2 = E by omega, show E + 1 + (M - E - 1) = M by omega] at this
  have HHalf := Lib.hid (fun (x : Int) (h0 : 0 ≤ x) (h1 : x < cnt E M) => (⟨by simp, by simp, fun d hd => (by cases hd), by omega, by omega, h0, h1⟩ : Half E M [] E M x))
  generalize cnt E M = N at *
  clear h
  go_enter Try.func97, Try.ntmps97
  go_wp2_with fail
  refine HC.out.mono ?_
  rintro e w1 ⟨rfl, hx1⟩
  have HP := Lib.hid (pick_b g a n c l k N w1 (HS.out.ext hx1) (by omega) (by omega) (by omega))
  go_wp2_with fail
  refine HP.out.mono ?_
  rintro e w2 ⟨x, k2, rfl, hx0, hx1', hs2, hk2, hk2', ht2⟩
  have HA := Lib.hid (spec_at E M x w2 (HHalf.out x hx0 (by omega)))
  have HT := Lib.hid ((Touch.refl g w).ext hx1 |>.trans ht2)
  have HS2 := Lib.hid hs2
  clear hs2 ht2
  go_wp2_with fail
  refine HA.out.mono ?_
  rintro e w3 ⟨s, rfl, hp, hx3⟩
  go_wp2
  go_ret
  exact ⟨s, k2, rfl, hp, HS2.out.ext hx3, by omega, by omega, HT.out.ext hx3⟩
set_option maxHeartbeats 1000000 in
theorem spec_has (a : Option Addr) (n c : Nat) (l : List ByteArray) (s : ByteArray) (w : World) (h : Strs w a n c l) (hn : n ≤ 1048576) :
    Calls Try.prog 98 #[.slice a n c, .string s] w (Ret (.bool (l.any fun x => s.toList == x.toList)) w) := by
  have HL := Lib.hid h.len
  obtain ⟨b, off, hix, hcell⟩ := h.ix (P := Try.prog) 22 9 und_strings cell_string
  clear h
  go_enter Try.func98, Try.ntmps98
  go_wp2_with fail
  go_loopw [5] (fun ii wr => ∃ i : Nat, i ≤ n ∧ ii = .int .i64 i ∧ Hid (NoneIn (fun x => s.toList == x.toList) (l.take i)) ∧ Ext w wr) (fun ii _ => n - (intOf ii).toNat)
  case atStart => exact ⟨0, Nat.zero_le _, rfl, Lib.hid (by simp [NoneIn]), (by repeat (first | (with_reducible exact Ext.refl _) | (with_reducible refine Ext.drewN ?_ _) | (with_reducible refine Ext.drew ?_) | (with_reducible refine Ext.alloc ?_ _) | ((with_reducible refine Ext.setCell ?_ ?_ _); rotate_left; focus (first | (simp; done) | (simp; omega) | omega)) | assumption | (with_reducible refine Ext.trans ?_ (by assumption))))⟩
  case round =>
    obtain ⟨i, hi, rfl, HNo, hx⟩ := hrel
    have hxr : Ext w wr := hx
    by_cases hlt : i < n
    · have hin : i < l.length := by rw [HL.out]; exact hlt
      have HN1 := Lib.hid (fun h => NoneIn.stepS (p := fun x => s.toList == x.toList) hin h HNo.out)
      have HN2 := Lib.hid (fun (h : (s.toList == (gs l i).toList) = true) => show l.any (fun x => s.toList == x.toList) = true from List.any_eq_true.2 ⟨gs l i, gs_mem hin, h⟩)
      clear hin
      cases heq : ((gs l i).toList == s.toList)
      · have HX := Lib.hid (HN1.out (by rw [BEq.comm]; exact heq))
        go_wp2
        exact ⟨⟨i + 1, by omega, by go_num, HX.out, (by repeat (first | (with_reducible exact Ext.refl _) | (with_reducible refine Ext.drewN ?_ _) | (with_reducible refine Ext.drew ?_) | (with_reducible refine Ext.alloc ?_ _) | ((with_reducible refine Ext.setCell ?_ ?_ _); rotate_left; focus (first | (simp; done) | (simp; omega) | omega)) | assumption | (with_reducible refine Ext.trans ?_ (by assumption))))⟩, by simp [intOf]; omega⟩
      · have HX := Lib.hid (HN2.out (by rw [BEq.comm]; exact heq))
        go_wp2
        go_ret
        exact ⟨rb HX.out.symm, (by repeat (first | (with_reducible exact Ext.refl _) | (with_reducible refine Ext.drewN ?_ _) | (with_reducible refine Ext.drew ?_) | (with_reducible refine Ext.alloc ?_ _) | ((with_reducible refine Ext.setCell ?_ ?_ _); rotate_left; focus (first | (simp; done) | (simp; omega) | omega)) | assumption | (with_reducible refine Ext.trans ?_ (by assumption))))⟩
    · go_wp2
      go_ret
      refine ⟨rb (Bool.eq_false_iff.2 fun h => ?_).symm, (by repeat (first | (with_reducible exact Ext.refl _) | (with_reducible refine Ext.drewN ?_ _) | (with_reducible refine Ext.drew ?_) | (with_reducible refine Ext.alloc ?_ _) | ((with_reducible refine Ext.setCell ?_ ?_ _); rotate_left; focus (first | (simp; done) | (simp; omega) | omega)) | assumption | (with_reducible refine Ext.trans ?_ (by assumption))))⟩
      have h1 := HNo.out
      rw [take_full (by rw [HL.out]; omega)] at h1
      obtain ⟨x, hx1, hx2⟩ := List.any_eq_true.1 h
      have := h1 x hx1
      simp only at this hx2
      rw [this] at hx2
      cases hx2
/-- one of some texts, chosen -/
def RetText (g : Nat) (a : Option Addr) (n c : Nat) (l : List UInt8) (k : Int) (ts : List ByteArray) (w : World) (e : Ending) (w' : World) : Prop :=
  ∃ s k', e = .returned (.string s) ∧ s ∈ ts ∧ SrcB w' g a n c l k' ∧ k ≤ k' ∧ k' ≤ k + 2 ∧ Touch g w w'
set_option maxHeartbeats 1000000 in
theorem src_text (g : Nat) (a : Option Addr) (n c : Nat) (l : List UInt8) (k : Int) (ad : Option Addr) (m d : Nat) (ts : List ByteArray) (w : World) (h : SrcB w g a n c l k) (hk : 0 ≤ k) (hk2 : k ≤ 999000000) (ht : Strs w ad m d ts) (hm : 1 ≤ m) (hm2 : m ≤ 1000) (hne : ∀ x, ad = some x → x.block ≠ g) :
    Calls Try.prog 99 #[.pointer (some ⟨g, 0, none⟩), .slice ad m d] w (RetText g a n c l k ts w) := by
  have HL := Lib.hid ht.len
  have HP := Lib.hid (pick_b g a n c l k (m : Int) w h hk (by omega) (by omega))
  have HC := Lib.hid (fun w' (htt : Touch g w w') => show Strs w' ad m d ts from by
    refine ⟨Sl.len ht, Sl.cap ht, fun h0 => ?_⟩
    obtain ⟨b1, off, ha, hc⟩ := Sl.cells ht h0
    exact ⟨b1, off, ha, fun k hk => (World.cell?_of_block (w := w) (htt.block b1 (World.block_lt_of_cell? w _ (hc k hk)) (hne _ ha))).trans (hc k hk)⟩)
  clear h ht hne
  go_enter Try.func99, Try.ntmps99
  go_wp2_with fail
  refine HP.out.mono ?_
  rintro e w1 ⟨x, k1, rfl, hx0, hx1, hs, hk1, hk2, htt⟩
  obtain ⟨i, rfl⟩ := Int.eq_ofNat_of_zero_le hx0
  have him : i < m := by omega
  obtain ⟨b, off, hix, hcell⟩ := (HC.out w1 htt).ix (P := Try.prog) 22 9 und_strings cell_string
  have hxx : Ext w1 w1 := Ext.refl _
  have HS := Lib.hid hs
  have HT := Lib.hid htt
  clear hs htt
  go_wp2
  go_ret
  exact ⟨_, k1, rfl, gs_mem (by rw [HL.out]; exact him), HS.out, hk1, hk2, HT.out⟩
end Go.Proofs.Ytnmkckghfckgbaa
