/- Plain, walks: which weights leave nothing unseen; kinds of errors that rise. -/
import Derived.Test.YtlpbflmgkopklaaSBest2
import Derived.Test.YtlpbflmgkopklaaMath2
import Derived.Test.YtlpbflmgkopklaaMix2
namespace Go.Proofs.Ytlpbflmgkopklaa
set_option maxRecDepth 100000
open Go.RowKit

/-- how many pairs are unseen at all places -/
def allF (W : Wt) (k : Int) : Int := S (W.weights.length + 1 - elen k) (unseenF W k)
theorem allF_bd {W : Wt} {k : Int} (hb : W.base ≤ 36) (hl : W.weights.length ≤ 20) : 0 ≤ allF W k ∧ allF W k ≤ 2592 * 21 := by
  have h := S_bd (n := W.weights.length + 1 - elen k) (f := unseenF W k) (c := 2592) fun i _ => unseenF_bd W k i hb
  unfold allF
  omega
def fineB (W : Wt) (kinds : List Int) : Bool := kinds.all fun k => decide (allF W k = 0)
theorem fine_any {W : Wt} (hb : W.base ≤ 36) (hl : W.weights.length ≤ 20) (kinds : List Int) : (!(kinds.any fun k => decide (0 < allF W k))) = fineB W kinds := by
  unfold fineB
  rw [List.all_eq_not_any_not]
  congr 2
  funext k
  have := allF_bd (k := k) hb hl
  rw [← decide_not]
  congr 1
  apply propext
  omega
theorem all_zero {W : Wt} {k : Int} (h : ∀ i, i < W.weights.length + 1 - elen k → unseenF W k i = 0) : allF W k = 0 := by
  unfold allF
  generalize W.weights.length + 1 - elen k = n at *
  induction n with
  | zero => rfl
  | succ n ih => rw [S, ih fun i hi => h i (by omega), h n (by omega)]; rfl
theorem all_pos {W : Wt} {k : Int} (hb : W.base ≤ 36) {i : Nat} (hi : i < W.weights.length + 1 - elen k) (h : 0 < unseenF W k i) : ¬ allF W k = 0 := by
  have := S_one (n := W.weights.length + 1 - elen k) (f := unseenF W k) (fun i _ => (unseenF_bd W k i hb).1) hi
  unfold allF
  omega
/-- no list among the first t leaves nothing unseen -/
def NoneT (base : Int) (m np : Nat) (kinds : List Int) (t : Nat) : Prop := ∀ i, i < t → fineB ⟨base, m, 0, tupAt m np i⟩ kinds = false
theorem NoneT.step {base : Int} {m np : Nat} {kinds : List Int} {t : Nat} (h : NoneT base m np kinds t) (hf : fineB ⟨base, m, 0, tupAt m np t⟩ kinds = false) : NoneT base m np kinds (t + 1) := fun i hi => by
  rcases Nat.lt_or_ge i t with e | e
  · exact h i e
  · obtain rfl : i = t := by omega
    exact hf
/-- the first list that leaves nothing unseen -/
def leastT (base : Int) (m np : Nat) (kinds : List Int) : Option (List Int) := ((List.range (m ^ np)).find? fun t => fineB ⟨base, m, 0, tupAt m np t⟩ kinds).map (tupAt m np)
theorem least_none {base : Int} {m np : Nat} {kinds : List Int} (h : NoneT base m np kinds (m ^ np)) : leastT base m np kinds = none := by
  unfold leastT
  rw [List.find?_eq_none.2]
  · rfl
  · intro t ht
    rw [h t (List.mem_range.1 ht)]; simp
theorem least_some {base : Int} {m np : Nat} {kinds : List Int} {t : Nat} (ht : t < m ^ np) (h : NoneT base m np kinds t) (hf : fineB ⟨base, m, 0, tupAt m np t⟩ kinds = true) : leastT base m np kinds = some (tupAt m np t) := by
  unfold leastT
  have e : (List.range (m ^ np)).find? (fun t => fineB ⟨base, m, 0, tupAt m np t⟩ kinds) = some t := by
    rw [List.find?_eq_some_iff_getElem]
    exact ⟨hf, t, by simpa using ht, by simp, fun j hj => by simp only [List.getElem_range]; rw [h j hj]; rfl⟩
  rw [e]
  rfl
theorem leastT_len {base : Int} {m np : Nat} {kinds : List Int} {l : List Int} (h : leastT base m np kinds = some l) : l.length = np := by
  unfold leastT at h
  cases hf : (List.range (m ^ np)).find? fun t => fineB ⟨base, m, 0, tupAt m np t⟩ kinds with
  | none => rw [hf] at h; cases h
  | some t => rw [hf] at h; cases h; exact tupAt_len m np t
/-- the least modulus from m on, with its first weights -/
def lmF (base : Int) (np : Nat) (kinds : List Int) : Nat → Nat → Option (Nat × List Int)
  | 0, _ => none
  | f + 1, m => if searchB base m np then match leastT base m np kinds with
      | some l => some (m, l)
      | none => lmF base np kinds f (m + 1)
    else none
/-- kinds of errors that a base has, each greater than the one before -/
def kindsB (kinds : List Int) (base : Int) : Bool := (List.range kinds.length).all fun i => kindB (gi kinds i) base && (decide (i = 0) || decide (gi kinds (i - 1) < gi kinds i))
theorem kindB_most (k base : Int) : kindB k base = inB k 0 (if base < 10 then 4 else 5) := by
  unfold kindB
  split
  · rename_i h
    have : decide (10 ≤ base) = false := decide_eq_false (by omega)
    rw [this, Bool.or_false, Bool.eq_iff_iff]
    simp only [Bool.and_eq_true, decide_eq_true_eq, inB_t]
    omega
  · rename_i h
    have : decide (10 ≤ base) = true := decide_eq_true (by omega)
    rw [this]; simp
theorem kindsB_all {kinds : List Int} {base : Int} (h : kindsB kinds base = true) : ∀ k ∈ kinds, kindB k base = true := fun k hk => by
  obtain ⟨i, hi, rfl⟩ := List.mem_iff_getElem.1 hk
  unfold kindsB at h
  rw [List.all_eq_true] at h
  have := h i (List.mem_range.2 hi)
  simp only [Bool.and_eq_true] at this
  rw [← gi_get hi]
  exact this.1
def lmOk (base places : Int) (kinds : List Int) : Bool := manyB base places && kindsB kinds base
def lmO (base places : Int) (kinds : List Int) : Option (Nat × List Int) := if lmOk base places kinds then lmF base places.toNat kinds 40 2 else none
def lmZ (base places : Int) (kinds : List Int) : Int := match lmO base places kinds with | some (m, _) => m | none => 0
def lmL (base places : Int) (kinds : List Int) : List Int := match lmO base places kinds with | some (_, l) => l | none => []
def lmB (base places : Int) (kinds : List Int) : Bool := (lmO base places kinds).isSome
theorem lmF_len {base : Int} {np : Nat} {kinds : List Int} : ∀ (f m : Nat) {r : Nat × List Int}, lmF base np kinds f m = some r → r.2.length = np ∧ m ≤ r.1 ∧ searchB base r.1 np = true ∧ leastT base r.1 np kinds = some r.2 ∧ ∀ m', m ≤ m' → m' < r.1 → leastT base m' np kinds = none
  | 0, m, r, h => by cases h
  | f + 1, m, r, h => by
    rw [lmF] at h
    split at h
    · rename_i hs
      split at h
      · rename_i l hl
        cases h
        exact ⟨leastT_len hl, Nat.le_refl _, hs, hl, fun m' h1 h2 => by simp only at h2; omega⟩
      · rename_i hl
        obtain ⟨h1, h2, h3, h4, h5⟩ := lmF_len f (m + 1) h
        refine ⟨h1, by omega, h3, h4, fun m' g1 g2 => ?_⟩
        by_cases e : m' = m
        · subst e; exact hl
        · exact h5 m' (by omega) g2
    · cases h
theorem lmL_len (base places : Int) (kinds : List Int) : (lmL base places kinds).length ≤ 1048576 := by
  unfold lmL lmO
  split
  · rename_i m l h
    split at h
    · rename_i hk
      have h1 := (lmF_len _ _ h).1
      unfold lmOk manyB at hk
      simp only [Bool.and_eq_true] at hk
      have := inB_t.1 hk.1.2.1
      simp only at h1
      omega
    · cases h
  · simp
set_option maxHeartbeats 1000000 in
theorem impl_unseenAll (b : Nat) (W : Wt) (a : Option Addr) (n c : Nat) (k : Int) (w : World) (h : IsWt w b W a n c) (hg : Good W) (hk : 0 ≤ k ∧ k ≤ 5) :
    Calls Try.prog 55 #[.pointer (some ⟨b, 0, none⟩), .int .i64 k] w (Qt (.int .i64 (allF W k)) w) := by
  have hn : W.weights.length = n := h.ws.len
  have h20 : n ≤ 20 := by have := hg.l20; omega
  have hc3 := h.c3
  have HU := Lib.hid (fun (j : Nat) (hj : j + elen k ≤ n) W' (hx : Ext w W') => impl_unseen b W a n c k j W' (h.ext hx) hk.1 hk.2 hj h20 hg.small hg.m2 hg.m36 hg.b2 hg.b36)
  have HLp := Lib.hid (fun W' => impl_last n k W' (by omega) (by omega))
  have HB := Lib.hid (fun (j : Nat) => unseenF_bd W k j hg.b36)
  have hel := elen_bd k
  obtain ⟨J, hJ⟩ : ∃ J, J = n + 1 - elen k := ⟨_, rfl⟩
  have HA := Lib.hid (show allF W k = S J (unseenF W k) by rw [allF, hn, hJ])
  clear h hg hn
  generalize elen k = el at *
  go_enter Try.func55, Try.ntmps55
  go_wp2_with fail
  go_loopw [5, 6] (fun s5 s6 wr => ∃ (j : Nat) (z : Int), j ≤ J ∧ s6 = .int .i64 j ∧ s5 = .int .i64 z ∧ 0 ≤ z ∧ z ≤ 2592 * j ∧ Hid (z = S j (unseenF W k)) ∧ ∃ q, wr = w.drewN q) (fun _ s6 _ => J - (intOf s6).toNat)
  case atStart => exact ⟨0, 0, Nat.zero_le _, rfl, rfl, by omega, by omega, rfl, 0, rfl⟩
  case round =>
    obtain ⟨j, z, hj, rfl, rfl, hz1, hz2, HZ, q, rfl⟩ := hrel
    by_cases hlt : j < J
    · have HUj := Lib.hid (HU.out j (by omega))
      have hub := HB.out j
      have HN := Lib.hid (show S (j + 1) (unseenF W k) = z + unseenF W k j by rw [HZ.out]; rfl)
      clear HZ
      generalize unseenF W k j = y at *
      go_wp2_with (first | ((with_reducible refine (HLp.out _).mono ?_); rintro e w' ⟨rfl, rfl⟩) | ((with_reducible refine (HUj.out _ ((Ext.refl _).drewN _)).mono ?_); rintro e w' ⟨rfl, q2, rfl⟩))
      exact ⟨⟨j + 1, z + y, by omega, by go_num, rfl, by omega, by omega, by rw [Hid, HN.out], (by first | exact ⟨_, rfl⟩ | exact ⟨_, World.drewN_drewN _ _ _⟩)⟩, by simp [intOf]; omega⟩
    · obtain rfl : j = J := by omega
      go_wp2_with ((with_reducible refine (HLp.out _).mono ?_); rintro e w' ⟨rfl, rfl⟩)
      go_ret
      exact ⟨ri (by rw [HA.out, HZ.out]), _, rfl⟩
set_option maxHeartbeats 1000000 in
theorem spec_catches (b : Nat) (W : Wt) (a : Option Addr) (n c : Nat) (k : Int) (w : World) (h : IsWt w b W a n c) (hg : Good W) (hkb : kindB k W.base = true) :
    Calls Try.prog 58 #[.pointer (some ⟨b, 0, none⟩), .int .i64 k] w (Same (.bool (decide (allF W k = 0))) w) := by
  have hn : W.weights.length = n := h.ws.len
  have h20 : n ≤ 20 := by have := hg.l20; omega
  have hk : 0 ≤ k ∧ k ≤ 5 := by unfold kindB at hkb; simp only [Bool.and_eq_true] at hkb; exact inB_t.1 hkb.1
  have HU := Lib.hid (fun (j : Nat) (hj : j + elen k ≤ n) => spec_unseen b W a n c k j w h hk.1 hk.2 hj h20 hg.small hg.m2 hg.m36 hg.b2 hg.b36)
  have HP := Lib.hid (spec_places b W a n c k w h (by omega))
  have hel := elen_bd k
  obtain ⟨J, hJ⟩ : ∃ J, J = n + 1 - elen k := ⟨_, rfl⟩
  have hpl : placesF k W.base n = J := by rw [placesF, if_pos hkb, hJ]; omega
  rw [hpl] at HP
  have HZ := Lib.hid (fun (hz : ∀ i, i < J → unseenF W k i = 0) => all_zero (W := W) (k := k) (by rw [hn, ← hJ]; exact hz))
  have HPos := Lib.hid (fun (i : Nat) (hi : i < J) (hz : 0 < unseenF W k i) => all_pos (W := W) (k := k) hg.b36 (i := i) (by rw [hn, ← hJ]; exact hi) hz)
  have HB := Lib.hid (fun (j : Nat) => unseenF_bd W k j hg.b36)
  clear h hg hkb hpl hn
  generalize elen k = el at *
  go_enter Try.func58, Try.ntmps58
  go_wp2_with ((with_reducible refine HP.out.mono ?_); rintro e w' ⟨rfl, rfl⟩)
  go_loop [6] (fun s6 => ∃ (j : Nat), j ≤ J ∧ s6 = .int .i64 j ∧ Hid (∀ i, i < j → unseenF W k i = 0)) (fun s6 => J - (intOf s6).toNat)
  case atStart => exact ⟨0, Nat.zero_le _, rfl, Lib.hid (fun i hi => by omega)⟩
  case round =>
    obtain ⟨j, hj, rfl, HI⟩ := hrel
    by_cases hlt : j < J
    · have HUj := Lib.hid (HU.out j (by omega))
      have hub := HB.out j
      have HPj := Lib.hid (HPos.out j hlt)
      obtain ⟨y, hy⟩ : ∃ y, y = unseenF W k j := ⟨_, rfl⟩
      have HY := Lib.hid hy
      rw [← hy] at HUj HPj hub
      clear hy
      by_cases hp : 0 < y
      · have HR := Lib.hid (HPj.out hp)
        go_wp2_with ((with_reducible refine HUj.out.mono ?_); rintro e w' ⟨rfl, rfl⟩)
        go_ret
        exact ⟨rb (decide_eq_false HR.out).symm, rfl⟩
      · have h0 : y = 0 := by omega
        have HN := Lib.hid (show ∀ i, i < j + 1 → unseenF W k i = 0 from fun i hi => by
          rcases Nat.lt_or_ge i j with e | e
          · exact HI.out i e
          · obtain rfl : i = j := by omega
            rw [← HY.out]; exact h0)
        clear h0
        go_wp2_with ((with_reducible refine HUj.out.mono ?_); rintro e w' ⟨rfl, rfl⟩)
        exact ⟨⟨j + 1, by omega, by go_num, HN⟩, by simp [intOf]; omega⟩
    · obtain rfl : j = J := by omega
      have HR := Lib.hid (HZ.out HI.out)
      go_wp2_with fail
      go_ret
      exact ⟨rb (by rw [HR.out]; simp), rfl⟩
set_option maxHeartbeats 1000000 in
theorem impl_kindsOk (a : Option Addr) (n c : Nat) (l : List Int) (base : Int) (w : World) (hv : Ints w a n c l) (hn : n ≤ 1048576) :
    Calls Try.prog 50 #[.slice a n c, .int .i64 base] w (Same (.bool (kindsB l base)) w) := by
  have HL := Lib.hid hv.len
  have HV := Lib.hid hv
  obtain ⟨b, off, hix, hcell⟩ := hv.ix (P := Try.prog) 22 2 und_int64s cell_int64
  have hcw : ∀ k, k < n → w.cell? ⟨b, off + k, none⟩ = some (.int .i64 (gi l k)) := fun k hk => hcell k w hk (Ext.refl w)
  obtain ⟨y, hy⟩ : ∃ y, y = kindsB l base := ⟨_, rfl⟩
  rw [← hy]
  have HNo := Lib.hid (fun k (hk : k < n) (h : (kindB (gi l k) base && (decide (k = 0) || decide (gi l (k - 1) < gi l k))) = false) => show y = false by
    rw [hy]; unfold kindsB; rw [HL.out]; exact List.all_eq_false.2 ⟨k, List.mem_range.2 hk, by rw [h]; simp⟩)
  have HYes := Lib.hid (fun (h : ∀ k, k < n → (kindB (gi l k) base && (decide (k = 0) || decide (gi l (k - 1) < gi l k))) = true) => show y = true by
    rw [hy]; unfold kindsB; rw [HL.out]; exact List.all_eq_true.2 fun k hk => h k (List.mem_range.1 hk))
  clear hv hcell hy
  go_enter Try.func50, Try.ntmps50
  go_wp2_with fail
  go_loop [5, 6, 9] (fun _ _ i => ∃ k : Nat, k ≤ n ∧ i = .int .i64 k ∧ Hid (∀ j, j < k → (kindB (gi l j) base && (decide (j = 0) || decide (gi l (j - 1) < gi l j))) = true)) (fun _ _ i => n - (intOf i).toNat)
  case atStart => exact ⟨0, Nat.zero_le _, rfl, Lib.hid (fun j hj => by omega)⟩
  case round =>
    obtain ⟨k, hk, rfl, HI⟩ := hrel
    by_cases hlt : k < n
    · have HK := Lib.hid (fun W => impl_kind (gi l k) base W)
      have hck := hcw k hlt
      have HS := Lib.hid (fun (h : (kindB (gi l k) base && (decide (k = 0) || decide (gi l (k - 1) < gi l k))) = true) => show ∀ j, j < k + 1 → (kindB (gi l j) base && (decide (j = 0) || decide (gi l (j - 1) < gi l j))) = true from fun j hj => by
        rcases Nat.lt_or_ge j k with e | e
        · exact HI.out j e
        · obtain rfl : j = k := by omega
          exact h)
      have HNk := Lib.hid (HNo.out k hlt)
      cases hkb : kindB (gi l k) base
      · rw [hkb] at HK HNk
        have HR := Lib.hid (HNk.out rfl)
        clear hkb hcw
        go_wp2_with ((with_reducible refine (HK.out _).mono ?_); rintro e w' ⟨rfl, rfl⟩)
        go_ret
        exact ⟨rb HR.out.symm, rfl⟩
      rw [hkb, Bool.true_and] at HNk HS
      rw [hkb] at HK
      clear hkb
      rcases Nat.eq_zero_or_pos k with hk0 | hk0
      · have HX := Lib.hid (HS.out (by simp [hk0]))
        have hk0' : ¬ 0 < k := by omega
        clear hk0 hcw
        go_wp2_with ((with_reducible refine (HK.out _).mono ?_); rintro e w' ⟨rfl, rfl⟩)
        exact ⟨⟨k + 1, by omega, by go_num, HX⟩, by simp [intOf]; omega⟩
      · have hck1 := hcw (k - 1) (by omega)
        have hz : decide (k = 0) = false := decide_eq_false (by omega)
        rw [hz, Bool.false_or] at HNk HS
        obtain ⟨b1, o1, x1, x2⟩ := HV.out.one (P := Try.prog) 22 2 und_int64s cell_int64 ((k : Int) - 1) (by omega) (by omega)
        rw [show ((k : Int) - 1).toNat = k - 1 by omega] at x2
        have x3 := x2 w (Ext.refl w)
        clear hz hcw x2
        by_cases hlt2 : gi l (k - 1) < gi l k
        · have HX := Lib.hid (HS.out (by simpa using hlt2))
          generalize gi l (k - 1) = z at *
          go_wp2_with ((with_reducible refine (HK.out _).mono ?_); rintro e w' ⟨rfl, rfl⟩)
          exact ⟨⟨k + 1, by omega, by go_num, HX⟩, by simp [intOf]; omega⟩
        · have HX := Lib.hid (HNk.out (by simpa using hlt2))
          generalize gi l (k - 1) = z at *
          go_wp2_with ((with_reducible refine (HK.out _).mono ?_); rintro e w' ⟨rfl, rfl⟩)
          go_ret
          exact ⟨rb HX.out.symm, rfl⟩
    · obtain rfl : k = n := by omega
      have HX := Lib.hid (HYes.out HI.out)
      go_wp2_with fail
      go_ret
      exact ⟨rb HX.out.symm, rfl⟩
end Go.Proofs.Ytlpbflmgkopklaa
