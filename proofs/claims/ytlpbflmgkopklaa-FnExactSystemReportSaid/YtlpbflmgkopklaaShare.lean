/- Walks: shares of places, the score of a weighting. -/
import Derived.Test.YtlpbflmgkopklaaUns
import Derived.Test.YtlpbflmgkopklaaUnsS
import Derived.Test.YtlpbflmgkopklaaCosts
namespace Go.Proofs.Ytlpbflmgkopklaa
set_option maxRecDepth 100000
open Go.RowKit

/-- what is used of a valid weighting -/
structure Good (W : Wt) : Prop where
  l1 : 1 ≤ W.weights.length
  l20 : W.weights.length ≤ 20
  small : Small W.weights
  m2 : 2 ≤ W.modulus
  m36 : W.modulus ≤ 36
  b2 : 2 ≤ W.base
  b36 : W.base ≤ 36
theorem validB_good {W : Wt} (h : validB W = true) : Good W :=
  ⟨(validB_len h).1, (validB_len h).2, validB_small h, (validB_mod h).1, (validB_mod h).2, (validB_base h).1, (validB_base h).2⟩

/-- six numbers from 0 to 1000 -/
structure Costs (l : List Int) : Prop where
  len : l.length = 6
  bd : ∀ x ∈ l, 0 ≤ x ∧ x ≤ 1000
theorem costsB_costs {l : List Int} (h : costsB l = true) : Costs l := by
  unfold costsB belowB at h
  simp only [Bool.and_eq_true, decide_eq_true_eq, List.all_eq_true] at h
  exact ⟨h.1, fun x hx => by have := inB_t.1 (h.2 x hx); omega⟩
theorem Costs.at {l : List Int} (h : Costs l) (k : Nat) (hk : k < 6) : 0 ≤ l.getD k 0 ∧ l.getD k 0 ≤ 1000 := h.bd _ (getD_mem l 0 k (by rw [h.len]; exact hk))

def termF (W : Wt) (costs : List Int) (p k : Nat) : Int :=
  if kindB k W.base = true ∧ p + elen k ≤ W.weights.length then costs.getD k 0 * unseenF W k p else 0
def shareF (W : Wt) (costs : List Int) (p : Nat) : Int := S 6 (termF W costs p)
def scoreF (W : Wt) (costs : List Int) : Int := S W.weights.length (shareF W costs)
theorem termF_bd {W : Wt} {costs : List Int} (hg : Good W) (hc : Costs costs) (p k : Nat) (hk : k < 6) : 0 ≤ termF W costs p k ∧ termF W costs p k ≤ 2592000 := by
  unfold termF
  split
  · have h1 := hc.at k hk
    have h2 := unseenF_bd W k p hg.b36
    exact mul_bd h1.1 h1.2 h2.1 h2.2
  · omega
theorem shareF_bd {W : Wt} {costs : List Int} (hg : Good W) (hc : Costs costs) (p : Nat) : 0 ≤ shareF W costs p ∧ shareF W costs p ≤ 15552000 := by
  have := S_bd (n := 6) (f := termF W costs p) (c := 2592000) fun i hi => termF_bd hg hc p i hi
  unfold shareF; omega

set_option maxHeartbeats 1000000 in
theorem impl_share (b : Nat) (W : Wt) (a a' : Option Addr) (n c c' : Nat) (costs : List Int) (p : Nat) (w : World) (h : IsWt w b W a n c) (hc : Ints w a' 6 c' costs) (hcb : Costs costs) (hg : Good W) (_hp : p < n) :
    Calls Try.prog 98 #[.pointer (some ⟨b, 0, none⟩), .slice a' 6 c', .int .i64 p] w (Qt (.int .i64 (shareF W costs p)) w) := by
  have HB := Lib.hid h
  have HG := Lib.hid hg
  have HC := Lib.hid hc
  have HCB := Lib.hid hcb
  have HTB := Lib.hid (fun k hk => termF_bd hg hcb p k hk)
  obtain ⟨c0, c1, c2, c3, hw⟩ := h
  have HL := Lib.hid hw.len
  have h20 : n ≤ 20 := by have := hg.l20; rw [hw.len] at this; exact this
  clear hw hc hcb hg
  go_enter Try.func98, Try.ntmps98
  go_wp2
  go_loopw [7, 8, 9, 10, 13] (fun o _ _ _ i wr => ∃ (k : Nat) (z : Int), k ≤ 6 ∧ i = .int .i64 k ∧ o = .int .i64 z ∧ 0 ≤ z ∧ z ≤ 2592000 * k ∧ Hid (z = S k (termF W costs p)) ∧ ∃ m, wr = w.drewN m) (fun _ _ _ _ i _ => 6 - (intOf i).toNat)
  case atStart => exact ⟨0, 0, Nat.zero_le _, rfl, rfl, by omega, by omega, rfl, 0, rfl⟩
  case round =>
    obtain ⟨k, z, hk, rfl, rfl, hz1, hz2, HZ, m, rfl⟩ := hrel
    by_cases hlt : k < 6
    · obtain ⟨b1, off1, hia1, k1⟩ := HC.out.at 22 2 und_int64s cell_int64 k hlt .i64
      have HN := Lib.hid (show S (k + 1) (termF W costs p) = z + termF W costs p k by rw [HZ.out]; rfl)
      have htb := HTB.out k hlt
      have hel := elen_bd k
      have HK := Lib.hid (impl_kind k W.base)
      have HE := Lib.hid (impl_last n k)
      clear HZ
      cases hkb : kindB k W.base
      · have HT0 := Lib.hid (show termF W costs p k = 0 by rw [termF, if_neg (by rw [hkb]; simp)])
        rw [hkb] at HK
        clear hkb
        go_wp2_with (go_at_call 59; refine (HK.out _).mono ?_; rintro e w' ⟨rfl, rfl⟩)
        exact ⟨⟨k + 1, z, by omega, by go_num, rfl, by omega, by omega, by rw [Hid, HN.out, HT0.out]; omega, m, rfl⟩, by simp [intOf]; omega⟩
      · rw [hkb] at HK
        by_cases hpl : p + elen k ≤ n
        · have HT0 := Lib.hid (show termF W costs p k = costs.getD k 0 * unseenF W k p by rw [termF, if_pos ⟨hkb, by rw [HL.out]; exact hpl⟩])
          have HU := Lib.hid (fun (w : World) h => impl_unseen b W a n c k p w h (by omega) (by omega) hpl h20 HG.out.small HG.out.m2 HG.out.m36 HG.out.b2 HG.out.b36)
          have hub := unseenF_bd W k p HG.out.b36
          have hcb := HCB.out.at k hlt
          rw [HT0.out] at htb HN
          clear hkb HT0
          generalize costs.getD k 0 = x at *
          generalize unseenF W k p = y at *
          generalize elen k = e at *
          go_wp2_with (first | (go_at_call 59; refine (HK.out _).mono ?_; rintro e w' ⟨rfl, rfl⟩) | (go_at_call 80; refine (HE.out _ (by omega) (by omega)).mono ?_; rintro e w' ⟨rfl, rfl⟩) | (go_at_call 81; refine (HU.out _ (HB.out.ext ((Ext.refl _).drewN _))).mono ?_; rintro e w' ⟨rfl, m2, rfl⟩))
          exact ⟨⟨k + 1, _, by omega, by go_num, rfl, by omega, by omega, by rw [Hid, HN.out], (by first | exact ⟨_, rfl⟩ | exact ⟨_, World.drewN_drewN _ _ _⟩)⟩, by simp [intOf]; omega⟩
        · have HT0 := Lib.hid (show termF W costs p k = 0 by rw [termF, if_neg (by rw [HL.out]; simp; omega)])
          clear hkb
          generalize elen k = e at *
          go_wp2_with (first | (go_at_call 59; refine (HK.out _).mono ?_; rintro e w' ⟨rfl, rfl⟩) | (go_at_call 80; refine (HE.out _ (by omega) (by omega)).mono ?_; rintro e w' ⟨rfl, rfl⟩))
          exact ⟨⟨k + 1, z, by omega, by go_num, rfl, by omega, by omega, by rw [Hid, HN.out, HT0.out]; omega, m, rfl⟩, by simp [intOf]; omega⟩
    · go_wp2
      go_ret
      exact ⟨ri (by rw [HZ.out, show k = 6 by omega]; rfl), _, rfl⟩

set_option maxHeartbeats 1000000 in
theorem impl_score (b : Nat) (W : Wt) (a a' : Option Addr) (n c c' : Nat) (costs : List Int) (w : World) (h : IsWt w b W a n c) (hc : Ints w a' 6 c' costs) (hcb : Costs costs) (hg : Good W) :
    Calls Try.prog 89 #[.pointer (some ⟨b, 0, none⟩), .slice a' 6 c'] w (Qt (.int .i64 (scoreF W costs)) w) := by
  have HB := Lib.hid h
  have HG := Lib.hid hg
  have HC := Lib.hid hc
  have HCB := Lib.hid hcb
  obtain ⟨c0, c1, c2, c3, hw⟩ := h
  have HL := Lib.hid hw.len
  have h20 : n ≤ 20 := by have := hg.l20; rw [hw.len] at this; exact this
  clear hw hc hcb hg
  go_enter Try.func89, Try.ntmps89
  go_wp2
  go_loopw [5, 6, 12] (fun o _ i wr => ∃ (k : Nat) (z : Int), k ≤ n ∧ i = .int .i64 k ∧ o = .int .i64 z ∧ 0 ≤ z ∧ z ≤ 15552000 * k ∧ Hid (z = S k (shareF W costs)) ∧ ∃ m, wr = w.drewN m) (fun _ _ i _ => n - (intOf i).toNat)
  case atStart => exact ⟨0, 0, Nat.zero_le _, rfl, rfl, by omega, by omega, rfl, 0, rfl⟩
  case round =>
    obtain ⟨k, z, hk, rfl, rfl, hz1, hz2, HZ, m, rfl⟩ := hrel
    by_cases hlt : k < n
    · have HN := Lib.hid (show S (k + 1) (shareF W costs) = z + shareF W costs k by rw [HZ.out]; rfl)
      have hub := shareF_bd HG.out HCB.out k
      have HU := Lib.hid (fun (w : World) h h' => impl_share b W a a' n c c' costs k w h h' HCB.out HG.out hlt)
      clear HZ
      generalize shareF W costs k = y at *
      go_wp2_with (go_at_call 98; refine (HU.out _ (HB.out.ext ((Ext.refl _).drewN _)) (HC.out.ext ((Ext.refl _).drewN _))).mono ?_; rintro e w' ⟨rfl, m2, rfl⟩)
      exact ⟨⟨k + 1, _, by omega, by go_num, rfl, by omega, by omega, by rw [Hid, HN.out], (by first | exact ⟨_, rfl⟩ | exact ⟨_, World.drewN_drewN _ _ _⟩)⟩, by simp [intOf]; omega⟩
    · go_wp2
      go_ret
      exact ⟨ri (by rw [HZ.out, show k = n by omega, scoreF, HL.out]), _, rfl⟩

def scoreRes (W : Wt) (costs : List Int) : Int := if validB W && costsB costs then scoreF W costs else 0
def scoreOk (W : Wt) (costs : List Int) : Bool := validB W && costsB costs
theorem score_no1 {W : Wt} {costs : List Int} (h : validB W = false) : scoreRes W costs = 0 ∧ scoreOk W costs = false := by simp [scoreRes, scoreOk, h]
theorem score_no2 {W : Wt} {costs : List Int} (h : costsB costs = false) : scoreRes W costs = 0 ∧ scoreOk W costs = false := by simp [scoreRes, scoreOk, h]
theorem score_yes {W : Wt} {costs : List Int} (h : validB W = true) (h2 : costsB costs = true) : scoreRes W costs = scoreF W costs ∧ scoreOk W costs = true := by simp [scoreRes, scoreOk, h, h2]

end Go.Proofs.Ytlpbflmgkopklaa
