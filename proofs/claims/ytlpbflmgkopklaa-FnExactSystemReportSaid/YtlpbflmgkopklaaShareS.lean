/- Walks: shares of places, in the reference. -/
import Derived.Test.YtlpbflmgkopklaaShare
import Derived.Deep.RegionWith
namespace Go.Proofs.Ytlpbflmgkopklaa
set_option maxRecDepth 100000
open Go.RowKit

/-- the shares as the reference adds them: kinds below k whole -/
def sharesTo (W : Wt) (costs : List Int) (k : Nat) : List Int := (List.range W.weights.length).map fun p => S k (termF W costs p)
/-- .. and of kind k the places below i -/
def sharesAt (W : Wt) (costs : List Int) (k i : Nat) : List Int := (List.range W.weights.length).map fun p => S (if p < i then k + 1 else k) (termF W costs p)
def sharesF (W : Wt) (costs : List Int) : List Int := (List.range W.weights.length).map (shareF W costs)
theorem sharesAt_zero (W : Wt) (costs : List Int) (k : Nat) : sharesAt W costs k 0 = sharesTo W costs k := by simp [sharesAt, sharesTo]
theorem sharesAt_full {W : Wt} {costs : List Int} {k i : Nat} (h : ∀ p, i ≤ p → p < W.weights.length → termF W costs p k = 0) : sharesAt W costs k i = sharesTo W costs (k + 1) := by
  unfold sharesAt sharesTo
  refine List.map_congr_left fun p hp => ?_
  simp only [List.mem_range] at hp
  split
  · rfl
  · simp only [S]; rw [h p (by omega) hp]; omega
theorem sharesAt_len (W : Wt) (costs : List Int) (k i : Nat) : (sharesAt W costs k i).length = W.weights.length := by simp [sharesAt]
theorem sharesAt_get {W : Wt} {costs : List Int} {k i p : Nat} (hp : p < W.weights.length) : (sharesAt W costs k i).getD p 0 = S (if p < i then k + 1 else k) (termF W costs p) := by
  simp [sharesAt, List.getD_eq_getElem?_getD, hp]
theorem sharesAt_step {W : Wt} {costs : List Int} {k i : Nat} (hi : i < W.weights.length) : (sharesAt W costs k i).set i ((sharesAt W costs k i).getD i 0 + termF W costs i k) = sharesAt W costs k (i + 1) := by
  rw [sharesAt_get hi, if_neg (by omega)]
  apply List.ext_getElem
  · simp [sharesAt]
  · intro p h1 h2
    rw [List.getElem_set]
    simp only [sharesAt, List.length_map, List.length_range] at h2
    split
    · rename_i h; subst h; simp [sharesAt, S]
    · rename_i h
      simp only [sharesAt, List.getElem_map, List.getElem_range]
      by_cases hp : p < i
      · rw [if_pos hp, if_pos (by omega)]
      · rw [if_neg hp, if_neg (by omega)]

theorem places_in {k base : Int} {n i : Nat} (h : (i : Int) < placesF k base n) : kindB k base = true ∧ i + elen k ≤ n := by
  unfold placesF at h
  split at h
  · rename_i hk; exact ⟨hk, by omega⟩
  · omega
theorem places_out {k base : Int} {n i : Nat} (h : ¬ (i : Int) < placesF k base n) (p : Nat) (hp : i ≤ p) : ¬ (kindB k base = true ∧ p + elen k ≤ n) := by
  rintro ⟨h1, h2⟩
  unfold placesF at h
  rw [if_pos h1] at h
  omega

set_option maxHeartbeats 2000000 in
theorem spec_shares (b : Nat) (W : Wt) (a a' : Option Addr) (n c c' : Nat) (costs : List Int) (w : World) (h : IsWt w b W a n c) (hc : Ints w a' 6 c' costs) (hcb : Costs costs) (hg : Good W) :
    Calls Try.prog 96 #[.pointer (some ⟨b, 0, none⟩), .slice a' 6 c'] w (RetOwn 2 (I (sharesF W costs)) w) := by
  have HB := Lib.hid h
  have HG := Lib.hid hg
  have HC := Lib.hid hc
  have HCB := Lib.hid hcb
  have HTB := Lib.hid (fun p k hk => termF_bd hg hcb p k hk)
  have h20 : n ≤ 20 := by have := hg.l20; rw [h.ws.len] at this; exact this
  have HL := Lib.hid h.ws.len
  obtain ⟨c0, c1, c2, c3, hw⟩ := h
  clear hw hc hcb hg
  go_enter Try.func96, Try.ntmps96
  go_wp2_with (at_make; refine law_make _ rfl _ _ 22 rfl 2 (.int .i64 0) 8 und_int64s info_int64 rfl _ _ n rfl rfl (by omega) (by unfold maxLen; omega) ?_; intro w1 hown hx hsz)
  obtain ⟨g, hg⟩ : ∃ g, g = w.heap.size := ⟨_, rfl⟩
  rw [← hg] at hown
  rw [← hg]
  have HO1 := Lib.hid (hown.mono (B' := w.heap.size) (by omega))
  clear hg hown
  go_wp2
  go_loopw [6, 7, 8] (fun kk _ _ wr => ∃ (k : Nat), k ≤ 6 ∧ kk = .int .i64 k ∧ Hid (Own wr w.heap.size 2 (some ⟨g, 0, none⟩) n n (I (sharesTo W costs k))) ∧ Ext w wr) (fun kk _ _ _ => 6 - (intOf kk).toNat)
  case atStart =>
    refine ⟨0, by omega, rfl, ?_, hx⟩
    have e : sharesTo W costs 0 = List.replicate n 0 := by
      unfold sharesTo; rw [HL.out]; apply List.ext_getElem <;> simp [S]
    rw [Hid, e, I_replicate]; exact HO1.out
  case round =>
    obtain ⟨k, hk, rfl, HO, hxr⟩ := hrel
    clear HO1 hx hsz
    by_cases hlt : k < 6
    · have HBr := Lib.hid (HB.out.ext hxr)
      obtain ⟨d0, d1, d2, d3, _⟩ := HBr.out
      have HP := Lib.hid (spec_places b W a n c k wr HBr.out (by omega))
      obtain ⟨np, hnp⟩ : ∃ np, np = placesF k W.base n := ⟨_, rfl⟩
      rw [← hnp] at HP
      have HNP := Lib.hid hnp
      have hnpb : np ≤ n := by rw [hnp]; unfold placesF; have := elen_bd k; split <;> omega
      clear hnp
      go_wp2_with (refine HP.out.mono ?_; rintro e w' ⟨rfl, rfl⟩)
      go_loopw [8] (fun ii wr => ∃ (i : Nat), (i : Int) ≤ max np 0 ∧ ii = .int .i64 i ∧ Hid (Own wr w.heap.size 2 (some ⟨g, 0, none⟩) n n (I (sharesAt W costs k i))) ∧ Ext w wr) (fun ii _ => n - (intOf ii).toNat)
      case atStart => exact ⟨0, by omega, rfl, by rw [Hid, sharesAt_zero]; exact HO.out, hxr⟩
      case round =>
        rename_i wr2
        obtain ⟨i, hi, rfl, HO2, hxr2⟩ := hrel
        obtain ⟨b1, off1, hia1, k1⟩ := (HC.out.ext hxr2).at 22 2 und_int64s cell_int64 k hlt .i64
        have hxb := HCB.out.at k hlt
        obtain ⟨x, hxx⟩ : ∃ x, x = costs.getD k 0 := ⟨_, rfl⟩
        rw [← hxx] at k1 hxb
        have HX := Lib.hid hxx
        clear HO hxx d0 d1 d2 d3
        by_cases hin : (i : Int) < np
        · by_cases hx0 : 0 < x
          · obtain ⟨hkb, hpl⟩ := places_in (HNP.out ▸ hin)
            have hel := elen_bd k
            obtain ⟨hia2, hcell2, hfr2⟩ := HO2.out.at 22 und_int64s cell_int64 i (by omega) .i64
            rw [I_getD _ _ (by rw [sharesAt_len, HL.out]; omega)] at hcell2
            have HN := Lib.hid (sharesAt_step (W := W) (costs := costs) (k := k) (i := i) (by rw [HL.out]; omega))
            have htb := HTB.out i k hlt
            have hyb : 0 ≤ (sharesAt W costs k i).getD i 0 ∧ (sharesAt W costs k i).getD i 0 ≤ 15552000 := by
              rw [sharesAt_get (by rw [HL.out]; omega), if_neg (by omega)]
              have := S_bd (n := k) (f := termF W costs i) (c := 2592000) fun j hj => HTB.out i j (by omega)
              omega
            have HT0 := Lib.hid (show termF W costs i k = x * unseenF W k i by rw [termF, if_pos ⟨hkb, by rw [HL.out]; exact hpl⟩, ← HX.out])
            have hub := unseenF_bd W k i HG.out.b36
            rw [HT0.out] at htb HN
            have HU := Lib.hid (fun (w : World) h => spec_unseen b W a n c k i w h (by omega) (by omega) hpl h20 HG.out.small HG.out.m2 HG.out.m36 HG.out.b2 HG.out.b36)
            generalize (sharesAt W costs k i).getD i 0 = y at *
            generalize unseenF W k i = u at *
            have HB2 := Lib.hid (HB.out.ext hxr2)
            have hgb : w.heap.size ≤ g := HO2.out.lt.1
            clear hkb hpl hel HT0
            go_wp2
            go_region_with (go_at_call 83; refine (HU.out _ (HB2.out.ext (by repeat (first | (with_reducible exact Ext.refl _) | (with_reducible refine Ext.drewN ?_ _) | (with_reducible refine Ext.drew ?_) | (with_reducible refine Ext.alloc ?_ _) | ((with_reducible refine Ext.setCell ?_ ?_ _); rotate_left; focus (first | (simp; done) | (simp; omega) | omega)))))).mono ?_; rintro e w' ⟨rfl, rfl⟩)
            all_goals
              go_wp2
              refine ⟨⟨i + 1, by omega, by go_num, ?_, (by repeat (first | (with_reducible exact Ext.refl _) | (with_reducible refine Ext.drewN ?_ _) | (with_reducible refine Ext.drew ?_) | (with_reducible refine Ext.alloc ?_ _) | ((with_reducible refine Ext.setCell ?_ ?_ _); rotate_left; focus (first | (simp; done) | (simp; omega) | omega)) | (with_reducible refine Ext.trans ?_ hxr2)))⟩, by simp [intOf]; omega⟩
              rw [Hid, ← HN.out, ← I_set]
              first | exact HO2.out.set i _ | exact (HO2.out.set i _).drew
          · have HS := Lib.hid (sharesAt_full (W := W) (costs := costs) (k := k) (i := i) fun p hp _ => by unfold termF; rw [← HX.out, show x = 0 by omega]; simp)
            have ho := HO2.out
            rw [HS.out] at ho
            have HO3 := Lib.hid ho
            clear HO2 ho HS
            go_wp2
            exact ⟨⟨k + 1, by omega, by go_num, HO3.out, hxr2⟩, by simp [intOf]; omega⟩
        · have HS := Lib.hid (sharesAt_full (W := W) (costs := costs) (k := k) (i := i) fun p hp _ => by rw [termF, if_neg]; rw [HL.out]; exact places_out (HNP.out ▸ hin) p hp)
          have ho := HO2.out
          rw [HS.out] at ho
          have HO3 := Lib.hid ho
          clear HO2 ho HS
          go_wp2
          exact ⟨⟨k + 1, by omega, by go_num, HO3.out, hxr2⟩, by simp [intOf]; omega⟩
    · go_wp2
      go_ret
      have := HO.out
      rw [show k = 6 by omega] at this
      exact RetOwn.mk this (by simp [sharesF]; exact HL.out) hxr

set_option maxHeartbeats 1000000 in
theorem spec_score (b : Nat) (W : Wt) (a a' : Option Addr) (n c c' : Nat) (costs : List Int) (w : World) (h : IsWt w b W a n c) (hc : Ints w a' 6 c' costs) (hcb : Costs costs) (hg : Good W) :
    Calls Try.prog 86 #[.pointer (some ⟨b, 0, none⟩), .slice a' 6 c'] w (Ret (.int .i64 (scoreF W costs)) w) := by
  have HSh := Lib.hid (spec_shares b W a a' n c c' costs w h hc hcb hg)
  have HG := Lib.hid hg
  have HCB := Lib.hid hcb
  have hl : (sharesF W costs).length = n := by simp [sharesF]; exact h.ws.len
  have HL := Lib.hid hl
  have HL0 := Lib.hid h.ws.len
  have h20 : n ≤ 20 := by have := hg.l20; rw [h.ws.len] at this; exact this
  clear hl h hc hcb hg
  go_enter Try.func86, Try.ntmps86
  go_wp2_with (refine HSh.out.mono ?_; rintro e w1 ⟨a1, c1, rfl, ho1, hx1⟩)
  rw [I_len, HL.out] at ho1 ⊢
  have HO1 := Lib.hid ho1.ints
  clear ho1
  go_wp2
  go_loop [5, 7] (fun o i => ∃ (k : Nat) (z : Int), k ≤ n ∧ i = .int .i64 k ∧ o = .int .i64 z ∧ 0 ≤ z ∧ z ≤ 15552000 * k ∧ Hid (z = S k (shareF W costs))) (fun _ i => n - (intOf i).toNat)
  case atStart => exact ⟨0, 0, Nat.zero_le _, rfl, rfl, by omega, by omega, rfl⟩
  case round =>
    obtain ⟨k, z, hk, rfl, rfl, hz1, hz2, HZ⟩ := hrel
    by_cases hlt : k < n
    · have HN := Lib.hid (show S (k + 1) (shareF W costs) = z + shareF W costs k by rw [HZ.out]; rfl)
      have hub := shareF_bd HG.out HCB.out k
      obtain ⟨b1, off1, hia1, k1⟩ := HO1.out.at 22 2 und_int64s cell_int64 k hlt .i64
      rw [show (sharesF W costs).getD k 0 = shareF W costs k by simp [sharesF, List.getD_eq_getElem?_getD, show k < W.weights.length by rw [HL0.out]; exact hlt]] at k1
      clear HZ
      generalize shareF W costs k = y at *
      go_wp2
      exact ⟨⟨k + 1, _, by omega, by go_num, rfl, by omega, by omega, by rw [Hid, HN.out]⟩, by simp [intOf]; omega⟩
    · go_wp2
      go_ret
      exact ⟨ri (by rw [HZ.out, show k = n by omega, scoreF, HL0.out]), hx1⟩

end Go.Proofs.Ytlpbflmgkopklaa
