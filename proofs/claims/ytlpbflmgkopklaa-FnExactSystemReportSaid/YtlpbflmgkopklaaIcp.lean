/- Plain, walks: whether a place is a check place. -/
import Derived.Test.YtlpbflmgkopklaaLLm
namespace Go.Proofs.Ytlpbflmgkopklaa
set_option maxRecDepth 100000
open Go.RowKit

/-- bools as values -/
def Bl (l : List Bool) : List Value := l.map .bool
def gb (l : List Bool) (k : Nat) : Bool := l.getD k false
theorem Bl_getD (l : List Bool) (k : Nat) (h : k < l.length) : (Bl l).getD k undef = .bool (gb l k) := by
  simp [Bl, gb, List.getD_eq_getElem?_getD, h]
theorem Bl_set (l : List Bool) (k : Nat) (x : Bool) : (Bl l).set k (.bool x) = Bl (l.set k x) := by simp [Bl, List.map_set]
theorem Bl_rep (n : Nat) : Bl (List.replicate n false) = List.replicate n (.bool false) := by simp [Bl]
theorem gb_set {l : List Bool} {k j : Nat} (hk : k < l.length) : gb (l.set k true) j = true ↔ gb l j = true ∨ j = k := by
  unfold gb
  simp only [List.getD_eq_getElem?_getD, List.getElem?_set]
  by_cases h : k = j
  · subst h; simp [hk]
  · simp [h]; intro e; exact absurd e.symm h
theorem gb_rep (n j : Nat) : gb (List.replicate n false) j = false := by
  unfold gb
  rw [List.getD_eq_getElem?_getD, List.getElem?_replicate]
  split <;> rfl
theorem gb_lt {l : List Bool} {j : Nat} (h : gb l j = true) : j < l.length := by
  rcases Nat.lt_or_ge j l.length with h1 | h1
  · exact h1
  · unfold gb at h; rw [List.getD_eq_getElem?_getD, List.getElem?_eq_none h1] at h; cases h
/-- what the first k places but p reach -/
def rch (bs : Nat) (m : Int) (l : List Int) (p : Nat) : Nat → Int → Prop
  | 0, r => r = 0
  | k + 1, r => if k = p then rch bs m l p k r else ∃ a, rch bs m l p k a ∧ ∃ d : Nat, d < bs ∧ r = (a + gi l k * d) % m
theorem rch_bd {bs p : Nat} {m : Int} {l : List Int} (hm : 0 < m) : ∀ {k : Nat} {r : Int}, rch bs m l p k r → 0 ≤ r ∧ r < m
  | 0, r, h => by have h : r = 0 := h; omega
  | k + 1, r, h => by
    rw [rch] at h
    split at h
    · exact rch_bd hm h
    · obtain ⟨a, _, d, _, rfl⟩ := h
      exact ⟨Int.emod_nonneg _ (by omega), Int.emod_lt_of_pos _ hm⟩
/-- how many symbols bring the sum to the target -/
def cntD (m t x r : Int) (n : Nat) : Int := S n fun d => if (r + x * d) % m = t then 1 else 0
theorem cntD_bd (m t x r : Int) (n : Nat) : 0 ≤ cntD m t x r n ∧ cntD m t x r n ≤ n := by
  have := S_bd (n := n) (f := fun d => if (r + x * (d : Int)) % m = t then (1 : Int) else 0) (c := 1) fun i _ => by split <;> omega
  unfold cntD; omega
def oneSym (bs : Nat) (m t : Int) (l : List Int) (p : Nat) : Prop := ∀ r, rch bs m l p l.length r → cntD m t (gi l p) r bs = 1
open Classical in
noncomputable def icpB (W : Wt) (place : Int) : Bool := validB W && (inB place 0 ((W.weights.length : Int) - 1) && decide (oneSym W.base.toNat W.modulus W.target W.weights place.toNat))
/-- what the first r residues and d symbols of the next one reach -/
def hitN (b : List Bool) (x : Int) (m bs r d j : Nat) : Prop := ∃ a e : Nat, gb b a = true ∧ (j : Int) = ((a : Int) + x * e) % m ∧ (a < r ∧ e < bs ∨ a = r ∧ e < d)
theorem hitN_zero {b : List Bool} {x : Int} {m bs j : Nat} : ¬ hitN b x m bs 0 0 j := by rintro ⟨a, e, _, _, h | h⟩ <;> omega
theorem hitN_step {b : List Bool} {x : Int} {m bs r d j : Nat} (hb : gb b r = true) : hitN b x m bs r (d + 1) j ↔ hitN b x m bs r d j ∨ (j : Int) = ((r : Int) + x * d) % m := by
  constructor
  · rintro ⟨a, e, h1, h2, h | ⟨rfl, h⟩⟩
    · exact .inl ⟨a, e, h1, h2, .inl h⟩
    · rcases Nat.lt_or_ge e d with he | he
      · exact .inl ⟨a, e, h1, h2, .inr ⟨rfl, he⟩⟩
      · obtain rfl : e = d := by omega
        exact .inr h2
  · rintro (⟨a, e, h1, h2, h | ⟨rfl, h⟩⟩ | h)
    · exact ⟨a, e, h1, h2, .inl h⟩
    · exact ⟨a, e, h1, h2, .inr ⟨rfl, by omega⟩⟩
    · exact ⟨r, d, hb, h, .inr ⟨rfl, by omega⟩⟩
theorem hitN_next {b : List Bool} {x : Int} {m bs r j : Nat} : hitN b x m bs (r + 1) 0 j ↔ hitN b x m bs r bs j := by
  constructor
  · rintro ⟨a, e, h1, h2, ⟨h, he⟩ | h⟩
    · rcases Nat.lt_or_ge a r with ha | ha
      · exact ⟨a, e, h1, h2, .inl ⟨ha, he⟩⟩
      · exact ⟨a, e, h1, h2, .inr ⟨by omega, he⟩⟩
    · omega
  · rintro ⟨a, e, h1, h2, ⟨h, he⟩ | ⟨rfl, h⟩⟩
    · exact ⟨a, e, h1, h2, .inl ⟨by omega, he⟩⟩
    · exact ⟨a, e, h1, h2, .inl ⟨by omega, h⟩⟩
theorem hitN_skip {b : List Bool} {x : Int} {m bs r d j : Nat} (hb : gb b r = false) : hitN b x m bs (r + 1) 0 j ↔ hitN b x m bs r d j := by
  constructor
  · rintro ⟨a, e, h1, h2, ⟨h, he⟩ | h⟩
    · rcases Nat.lt_or_ge a r with ha | ha
      · exact ⟨a, e, h1, h2, .inl ⟨ha, he⟩⟩
      · obtain rfl : a = r := by omega
        rw [hb] at h1; cases h1
    · omega
  · rintro ⟨a, e, h1, h2, ⟨h, he⟩ | ⟨rfl, h⟩⟩
    · exact ⟨a, e, h1, h2, .inl ⟨by omega, he⟩⟩
    · rw [hb] at h1; cases h1
theorem hitN_rch {b : List Bool} {l : List Int} {m bs p k j : Nat} (hm : 0 < m) (hl : b.length = m) (hk : k ≠ p) (h : ∀ r : Nat, r < m → (gb b r = true ↔ rch bs m l p k r)) : hitN b (gi l k) m bs m 0 j ↔ rch bs m l p (k + 1) j := by
  rw [rch, if_neg hk]
  constructor
  · rintro ⟨a, e, h1, h2, ⟨h3, he⟩ | h3⟩
    · exact ⟨a, (h a h3).1 h1, e, he, h2⟩
    · omega
  · rintro ⟨a, h1, d, hd, h2⟩
    obtain ⟨h3, h4⟩ := rch_bd (by omega) h1
    obtain ⟨a, rfl⟩ := Int.eq_ofNat_of_zero_le h3
    exact ⟨a, d, (h a (by omega)).2 h1, h2, .inl ⟨by omega, hd⟩⟩
theorem und_bools : Try.prog.underlying 102 = some (.slice 4) := Try.underlying102
theorem cell_bool : Try.prog.cellsOf 4 = 1 := by kernel_rfl
theorem info_bool : (Try.prog.info? 4).map (fun i => (i.zero, i.size, i.bytes)) = some (some (.bool false), 1, 1) := by kernel_rfl
set_option maxHeartbeats 8000000 in
theorem impl_icp (W : Wt) (a : Option Addr) (n c : Nat) (place : Int) (w : World) (hw : Ints w a n c W.weights) :
    Calls Try.prog 75 #[.agg #[.int .i64 W.base, .int .i64 W.modulus, .int .i64 W.target, .slice a n c], .int .i64 place] w (Ret (.bool (icpB W place)) w) := by
  obtain ⟨base, modulus, target, l⟩ := W
  simp only at hw ⊢
  have HB := Lib.hid (isWt_box w base modulus target l a n c 34 hw)
  have HV := Lib.hid (fun W' (h : Ext w W') => impl_valid ⟨base, modulus, target, l⟩ a n c W' (hw.ext h))
  have HIn := Lib.hid (fun W' => impl_in place 0 ((n : Int) - 1) W')
  have HL := Lib.hid hw.len
  obtain ⟨ba, off, hix, hcell⟩ := hw.ix (P := Try.prog) 22 2 und_int64s cell_int64
  clear hw
  cases hv : validB ⟨base, modulus, target, l⟩
  · rw [hv] at HV
    have HO := Lib.hid (show icpB ⟨base, modulus, target, l⟩ place = false by rw [icpB, hv]; rfl)
    clear hv
    go_enter Try.func75, Try.ntmps75
    go_wp2_with ((with_reducible refine (HV.out _ (by repeat (first | (with_reducible exact Ext.refl _) | (with_reducible assumption) | (with_reducible refine Ext.drewN ?_ _) | (with_reducible refine Ext.drew ?_) | (with_reducible refine Ext.alloc ?_ _) | ((with_reducible refine Ext.setCell ?_ ?_ _); rotate_left; focus (first | (simp; done) | (simp; omega) | omega)) | (with_reducible refine Ext.trans ?_ (by with_reducible assumption))))).mono ?_); rintro e w1 ⟨rfl, hy⟩; have hx1 : Ext w w1 := Ext.trans (by repeat (first | (with_reducible exact Ext.refl _) | (with_reducible assumption) | (with_reducible refine Ext.drewN ?_ _) | (with_reducible refine Ext.drew ?_) | (with_reducible refine Ext.alloc ?_ _) | ((with_reducible refine Ext.setCell ?_ ?_ _); rotate_left; focus (first | (simp; done) | (simp; omega) | omega)) | (with_reducible refine Ext.trans ?_ (by with_reducible assumption)))) hy)
    go_ret
    exact ⟨rb HO.out.symm, hx1⟩
  rw [hv] at HV
  have hg := validB_good hv
  have ht := validB_target hv
  obtain ⟨wB, hwB⟩ : ∃ x, x = w.alloc (.cells #[.int .i64 base, .int .i64 modulus, .int .i64 target, .slice a n c] 34) := ⟨_, rfl⟩
  have hxB : Ext w wB := by rw [hwB]; exact (by repeat (first | (with_reducible exact Ext.refl _) | (with_reducible refine Ext.drewN ?_ _) | (with_reducible refine Ext.drew ?_) | (with_reducible refine Ext.alloc ?_ _) | ((with_reducible refine Ext.setCell ?_ ?_ _); rotate_left; focus (first | (simp; done) | (simp; omega) | omega)) | assumption | (with_reducible refine Ext.trans ?_ (by assumption))))
  have HWB := Lib.hid hwB
  rw [← hwB] at HB
  obtain ⟨c0, c1, c2, c3, _⟩ := HB.out
  simp only at c0 c1 c2 c3
  have hg1 := hg.l1
  have hg2 := hg.l20
  have hg3 := hg.small
  have hg4 := hg.m2
  have hg5 := hg.m36
  have hg6 := hg.b2
  have hg7 := hg.b36
  simp only at hg1 hg2 hg3 hg4 hg5 hg6 hg7 ht
  rw [HL.out] at hg1 hg2
  obtain ⟨m, rfl⟩ := Int.eq_ofNat_of_zero_le (show 0 ≤ modulus by omega)
  obtain ⟨bs, rfl⟩ := Int.eq_ofNat_of_zero_le (show 0 ≤ base by omega)
  have k0 : ∀ w', Ext wB w' → w'.cell? ⟨w.heap.size, 0, none⟩ = some (.int .i64 bs) := fun w' h => h.cell c0
  have k1 : ∀ w', Ext wB w' → w'.cell? ⟨w.heap.size, 1, none⟩ = some (.int .i64 m) := fun w' h => h.cell c1
  have k2 : ∀ w', Ext wB w' → w'.cell? ⟨w.heap.size, 2, none⟩ = some (.int .i64 target) := fun w' h => h.cell c2
  have k3 : ∀ w', Ext wB w' → w'.cell? ⟨w.heap.size, 3, none⟩ = some (.slice a n c) := fun w' h => h.cell c3
  have HSm := Lib.hid (fun k (hk : k < n) => hg3.at k (by rw [HL.out]; exact hk))
  cases hp : inB place 0 ((n : Int) - 1)
  · rw [hp] at HIn
    have HO := Lib.hid (show icpB ⟨bs, m, target, l⟩ place = false by rw [icpB, hv]; simp only [HL.out, hp]; rfl)
    clear hv hp hwB hg hg3
    go_enter Try.func75, Try.ntmps75
    go_wp2_with fail
    rw [← HWB.out]
    go_wp2_with (first | ((with_reducible refine (HV.out _ (by repeat (first | (with_reducible exact Ext.refl _) | (with_reducible assumption) | (with_reducible refine Ext.drewN ?_ _) | (with_reducible refine Ext.drew ?_) | (with_reducible refine Ext.alloc ?_ _) | ((with_reducible refine Ext.setCell ?_ ?_ _); rotate_left; focus (first | (simp; done) | (simp; omega) | omega)) | (with_reducible refine Ext.trans ?_ (by with_reducible assumption))))).mono ?_); rintro e w1 ⟨rfl, hy⟩; have hb1 : Ext wB w1 := hy; have hx1 : Ext w w1 := Ext.trans (by repeat (first | (with_reducible exact Ext.refl _) | (with_reducible assumption) | (with_reducible refine Ext.drewN ?_ _) | (with_reducible refine Ext.drew ?_) | (with_reducible refine Ext.alloc ?_ _) | ((with_reducible refine Ext.setCell ?_ ?_ _); rotate_left; focus (first | (simp; done) | (simp; omega) | omega)) | (with_reducible refine Ext.trans ?_ (by with_reducible assumption)))) hy; clear hy) | ((with_reducible refine (HIn.out _).mono ?_); rintro e w2 ⟨rfl, rfl⟩))
    go_ret
    exact ⟨rb HO.out.symm, hx1⟩
  rw [hp] at HIn
  obtain ⟨p1, p2⟩ := inB_t.1 hp
  obtain ⟨p, rfl⟩ := Int.eq_ofNat_of_zero_le (show 0 ≤ place by omega)
  have hpn : p < n := by omega
  have HT := Lib.hid (fun (h : oneSym bs m target l p) => show icpB ⟨bs, m, target, l⟩ p = true by rw [icpB, hv]; simp only [HL.out, hp, Int.toNat_natCast]; simp [h])
  have HF := Lib.hid (fun (h : ¬ oneSym bs m target l p) => show icpB ⟨bs, m, target, l⟩ p = false by rw [icpB, hv]; simp only [HL.out, hp, Int.toNat_natCast]; simp [h])
  have hm0 : 0 < m := by omega
  clear hv hp hwB hg hg3
  go_enter Try.func75, Try.ntmps75
  go_wp2_with fail
  rw [← HWB.out]
  go_wp2_with (first | ((with_reducible refine (HV.out _ (by repeat (first | (with_reducible exact Ext.refl _) | (with_reducible assumption) | (with_reducible refine Ext.drewN ?_ _) | (with_reducible refine Ext.drew ?_) | (with_reducible refine Ext.alloc ?_ _) | ((with_reducible refine Ext.setCell ?_ ?_ _); rotate_left; focus (first | (simp; done) | (simp; omega) | omega)) | (with_reducible refine Ext.trans ?_ (by with_reducible assumption))))).mono ?_); rintro e w1 ⟨rfl, hy⟩; have hb1 : Ext wB w1 := hy; have hx1 : Ext w w1 := Ext.trans (by repeat (first | (with_reducible exact Ext.refl _) | (with_reducible assumption) | (with_reducible refine Ext.drewN ?_ _) | (with_reducible refine Ext.drew ?_) | (with_reducible refine Ext.alloc ?_ _) | ((with_reducible refine Ext.setCell ?_ ?_ _); rotate_left; focus (first | (simp; done) | (simp; omega) | omega)) | (with_reducible refine Ext.trans ?_ (by with_reducible assumption)))) hy; clear hy) | ((with_reducible refine (HIn.out _).mono ?_); rintro e w2 ⟨rfl, rfl⟩) | (at_make; refine law_make _ rfl _ _ 102 rfl 4 (.bool false) 1 und_bools info_bool rfl _ _ m rfl rfl (by omega) (by unfold maxLen; omega) ?_; intro w3 hown hx3 hsz3; have hb3 : Ext wB w3 := hb1.trans hx3; have hxw3 : Ext w w3 := hx1.trans hx3; obtain ⟨hia, hca, hfa⟩ := hown.at 102 und_bools cell_bool 0 hm0 .i64; have HO3 := Lib.hid hown; clear hown))
  have HR0 := Lib.hid (show Own (w3.setCell ⟨w1.heap.size, 0, none⟩ (.bool true)) w1.heap.size 4 (some ⟨w1.heap.size, 0, none⟩) m m (Bl ((List.replicate m false).set 0 true)) by
    rw [← Bl_set, Bl_rep]
    exact HO3.out.set 0 _)
  have hb4 : Ext wB (w3.setCell ⟨w1.heap.size, 0, none⟩ (.bool true)) := hb3.setCell hb1.le _
  have hs4 : w1.heap.size < (w3.setCell ⟨w1.heap.size, 0, none⟩ (.bool true)).heap.size := HR0.out.lt.2
  have HL0 := Lib.hid (show ((List.replicate m false).set 0 true).length = m by simp)
  have HG0 := Lib.hid (show ∀ r : Nat, r < m → (gb ((List.replicate m false).set 0 true) r = true ↔ rch bs m l p 0 r) from fun r hr => by
    rw [gb_set (by simp; exact hm0), gb_rep]
    show (false = true ∨ r = 0) ↔ (r : Int) = 0
    simp)
  clear hia hca hfa hx3 hsz3 HO3 hb3 hxw3
  have HBL := Lib.hid hb1.le
  go_loopg [5, 6, 7, 8, 9, 10, 11, 36, 49] n (fun gk s5 _ _ _ _ _ _ s36 _ wr => ∃ (k : Nat) (b : List Bool) (gR : Nat), k ≤ n ∧ gk = n - k ∧ s36 = .int .i64 k ∧ s5 = .slice (some ⟨gR, 0, none⟩) m m ∧ Hid (b.length = m) ∧ Hid (∀ r : Nat, r < m → (gb b r = true ↔ rch bs m l p k r)) ∧ Hid (Own wr w1.heap.size 4 (some ⟨gR, 0, none⟩) m m (Bl b)) ∧ Ext wB wr ∧ w1.heap.size < wr.heap.size)
  case atStart => exact ⟨0, _, _, Nat.zero_le _, rfl, rfl, rfl, HL0, HG0, HR0, hb4, hs4⟩
  case round =>
    obtain ⟨k, b, gR, hk, rfl, rfl, rfl, HLb, HG, HR, hxr, hsr⟩ := hrel
    obtain ⟨wr0, rfl⟩ : ∃ x, x = wr := ⟨_, rfl⟩
    have hxwr : Ext w wr0 := hxB.trans hxr
    by_cases hkn : k < n
    · by_cases hkp : k = p
      · subst hkp
        have HG1 := Lib.hid (show ∀ r : Nat, r < m → (gb b r = true ↔ rch bs m l k (k + 1) r) from fun r hr => by rw [rch, if_pos rfl]; exact HG.out r hr)
        go_wp2_with fail
        go_roundg (n - (k + 1))
        case measure => omega
        case rel => exact ⟨k + 1, b, gR, hkn, rfl, by go_num, rfl, HLb, HG1, HR, hxr, hsr⟩
      · have hkpi : ((k : Int) == (p : Int)) = false := by simp; omega
        have hxk := HSm.out k hkn
        have hgk : gi l k = l.getD k 0 := rfl
        rw [← hgk] at hxk
        have HGn := Lib.hid (fun j => hitN_rch (b := b) (l := l) (j := j) hm0 HLb.out hkp HG.out)
        generalize hxg : gi l k = x at *
        clear hgk hkp
        go_wp2_with (at_make; refine law_make _ rfl _ _ 102 rfl 4 (.bool false) 1 und_bools info_bool rfl _ _ m rfl rfl (by omega) (by unfold maxLen; omega) ?_; intro w5 hown hx5 hsz5; have hb5 : Ext wB w5 := hxr.trans hx5; have hxw5 : Ext w w5 := hxwr.trans hx5; have HO5 := Lib.hid hown; clear hown hsz5)
        have HN0 := Lib.hid (show Own w5 wr0.heap.size 4 (some ⟨wr0.heap.size, 0, none⟩) m m (Bl (List.replicate m false)) by rw [Bl_rep]; exact HO5.out)
        have HZ0 := Lib.hid (show ∀ j : Nat, j < m → (gb (List.replicate m false) j = true ↔ hitN b x m bs 0 0 j) from fun j _ => by
          rw [gb_rep]
          exact ⟨(fun h => by cases h), fun h => (hitN_zero h).elim⟩)
        have HLr := Lib.hid (show (List.replicate m false).length = m by simp)
        go_loopg [9, 10, 11, 49] m (fun gk _ _ _ s49 wr => ∃ (r : Nat) (b' : List Bool), r ≤ m ∧ gk = m - r ∧ s49 = .int .i64 r ∧ Hid (b'.length = m) ∧ Hid (∀ j : Nat, j < m → (gb b' j = true ↔ hitN b x m bs r 0 j)) ∧ Hid (Own wr wr0.heap.size 4 (some ⟨wr0.heap.size, 0, none⟩) m m (Bl b')) ∧ Ext wr0 wr)
        case atStart => exact ⟨0, _, Nat.zero_le _, rfl, rfl, HLr, HZ0, HN0, hx5⟩
        case round =>
          obtain ⟨r, b', hr, rfl, rfl, HLb', HH, HN, hxn⟩ := hrel
          obtain ⟨wr1, rfl⟩ : ∃ x, x = wr := ⟨_, rfl⟩
          have hxw1 : Ext w wr1 := hxwr.trans hxn
          have hxb1 : Ext wB wr1 := hxr.trans hxn
          by_cases hrm : r < m
          · obtain ⟨hia, hca, _⟩ := (HR.out.ext hxn).at 102 und_bools cell_bool r hrm .i64
            rw [Bl_getD _ _ (by rw [HLb.out]; exact hrm)] at hca
            obtain ⟨y, hy⟩ : ∃ y, y = gb b r := ⟨_, rfl⟩
            rw [← hy] at hca
            have HY := Lib.hid hy.symm
            clear hy
            go_wp2_with fail
            go_loopw [11] (fun s11 wr => ∃ (d : Nat) (b2 : List Bool), d ≤ bs ∧ s11 = .int .i64 d ∧ Hid (b2.length = m) ∧ Hid (∀ j : Nat, j < m → (gb b2 j = true ↔ hitN b x m bs r d j)) ∧ Hid (Own wr wr0.heap.size 4 (some ⟨wr0.heap.size, 0, none⟩) m m (Bl b2)) ∧ Ext wr0 wr) (fun s11 _ => bs - (intOf s11).toNat)
            case atStart => exact ⟨0, b', Nat.zero_le _, rfl, HLb', HH, HN, hxn⟩
            case round =>
              obtain ⟨d, b2, hd, rfl, HL2, HH2, HN2, hxn2⟩ := hrel
              have hxw2 : Ext w wr := hxwr.trans hxn2
              have hxb2 : Ext wB wr := hxr.trans hxn2
              clear hia hca
              cases y
              · have HS := Lib.hid (fun j (hj : j < m) => (HH2.out j hj).trans (hitN_skip (d := d) HY.out).symm)
                go_wp2_with fail
                go_roundg (m - (r + 1))
                case measure => omega
                case rel => exact ⟨r + 1, b2, hrm, rfl, by go_num, HL2, HS, HN2, hxn2⟩
              · by_cases hdb : d < bs
                · have hxd := mul_bd (a := 36) (b := 36) hxk.1 hxk.2 (show (0 : Int) ≤ d by omega) (show (d : Int) ≤ 36 by omega)
                  obtain ⟨j, hj⟩ := Int.eq_ofNat_of_zero_le (Int.emod_nonneg ((r : Int) + x * d) (show (m : Int) ≠ 0 by omega))
                  have hjm : j < m := by have := Int.emod_lt_of_pos ((r : Int) + x * d) (show (0 : Int) < m by omega); omega
                  obtain ⟨hja, hjc, hjf⟩ := HN2.out.at 102 und_bools cell_bool j hjm .i64
                  have hjl := HN2.out.lt.2
                  have HS := Lib.hid (show ∀ i : Nat, i < m → (gb (b2.set j true) i = true ↔ hitN b x m bs r (d + 1) i) from fun i hi => by
                    rw [gb_set (by rw [HL2.out]; exact hjm), HH2.out i hi, hitN_step HY.out, hj]
                    constructor
                    · rintro (h | h)
                      · exact .inl h
                      · exact .inr (by rw [h])
                    · rintro (h | h)
                      · exact .inl h
                      · exact .inr (by omega))
                  have HL3 := Lib.hid (show (b2.set j true).length = m by rw [List.length_set]; exact HL2.out)
                  have HN3 := Lib.hid (show Own (wr.setCell ⟨wr0.heap.size, j, none⟩ (.bool true)) wr0.heap.size 4 (some ⟨wr0.heap.size, 0, none⟩) m m (Bl (b2.set j true)) by rw [← Bl_set]; exact HN2.out.set j _)
                  go_wp2_with fail
                  exact ⟨⟨d + 1, _, hdb, by go_num, HL3, HS, HN3, hxn2.setCell (Nat.le_refl _) _⟩, by simp [intOf]; omega⟩
                · obtain rfl : bs = d := by omega
                  have HS := Lib.hid (fun j (hj : j < m) => (HH2.out j hj).trans (hitN_next (b := b) (x := x) (m := m) (r := r) (bs := bs)).symm)
                  go_wp2_with fail
                  go_roundg (m - (r + 1))
                  case measure => omega
                  case rel => exact ⟨r + 1, b2, hrm, rfl, by go_num, HL2, HS, HN2, hxn2⟩
          · obtain rfl : m = r := by omega
            have HG1 := Lib.hid (fun j (hj : j < m) => (HH.out j hj).trans (HGn.out j))
            go_wp2_with fail
            go_roundg (n - (k + 1))
            case measure => omega
            case rel => exact ⟨k + 1, b', wr0.heap.size, hkn, rfl, by go_num, rfl, HLb', HG1, Lib.hid (HN.out.mono (Nat.le_of_lt hsr)), hxb1, Nat.lt_of_lt_of_le hsr hxn.le⟩
    · obtain rfl : n = k := by omega
      have hxp := HSm.out p hpn
      have hgp : gi l p = l.getD p 0 := rfl
      rw [← hgp] at hxp
      have HYes := Lib.hid (show (∀ r : Nat, r < m → gb b r = true → cntD m target (gi l p) r bs = 1) → icpB ⟨bs, m, target, l⟩ p = true from fun h => HT.out fun r hr => by
        rw [HL.out] at hr
        obtain ⟨h1, h2⟩ := rch_bd (by omega) hr
        obtain ⟨r, rfl⟩ := Int.eq_ofNat_of_zero_le h1
        exact h r (by omega) ((HG.out r (by omega)).2 hr))
      have HNo := Lib.hid (show ∀ r : Nat, r < m → gb b r = true → ¬ cntD m target (gi l p) r bs = 1 → icpB ⟨bs, m, target, l⟩ p = false from fun r hr h1 h2 => HF.out fun h => h2 (h r (by rw [HL.out]; exact (HG.out r hr).1 h1)))
      have HCb := Lib.hid (fun r d => cntD_bd m target (gi l p) r d)
      have HCs := Lib.hid (fun r (d : Nat) => show cntD m target (gi l p) r (d + 1) = cntD m target (gi l p) r d + (if (r + gi l p * d) % m = target then 1 else 0) from rfl)
      generalize hxg : gi l p = x at *
      clear hgp
      go_wp2_with fail
      go_loopg [12, 13, 14, 15, 78] m (fun gk _ _ _ _ s78 wr => ∃ r : Nat, r ≤ m ∧ gk = m - r ∧ s78 = .int .i64 r ∧ Hid (∀ i : Nat, i < r → gb b i = true → cntD m target x i bs = 1) ∧ Ext wr0 wr)
      case atStart => exact ⟨0, Nat.zero_le _, rfl, rfl, Lib.hid (fun i hi => by omega), Ext.refl _⟩
      case round =>
        obtain ⟨r, hr, rfl, rfl, HA, hxn⟩ := hrel
        obtain ⟨wr1, rfl⟩ : ∃ x, x = wr := ⟨_, rfl⟩
        have hxw1 : Ext w wr1 := hxwr.trans hxn
        have hxb1 : Ext wB wr1 := hxr.trans hxn
        by_cases hrm : r < m
        · obtain ⟨hia, hca, _⟩ := (HR.out.ext hxn).at 102 und_bools cell_bool r hrm .i64
          rw [Bl_getD _ _ (by rw [HLb.out]; exact hrm)] at hca
          obtain ⟨y, hy⟩ : ∃ y, y = gb b r := ⟨_, rfl⟩
          rw [← hy] at hca
          have HY := Lib.hid hy.symm
          clear hy
          go_wp2_with fail
          go_loopw [14, 15] (fun s14 s15 wr => ∃ (d : Nat) (z : Int), d ≤ bs ∧ s15 = .int .i64 d ∧ s14 = .int .i64 z ∧ Hid (z = cntD m target x r d) ∧ Ext wr0 wr) (fun _ s15 _ => bs - (intOf s15).toNat)
          case atStart => exact ⟨0, 0, Nat.zero_le _, rfl, rfl, rfl, hxn⟩
          case round =>
            obtain ⟨d, z, hd, rfl, rfl, HZ, hxn2⟩ := hrel
            have hxw2 : Ext w wr := hxwr.trans hxn2
            have hxb2 : Ext wB wr := hxr.trans hxn2
            have hzb := HCb.out r d
            rw [← HZ.out] at hzb
            clear hia hca
            cases y
            · have HA2 := Lib.hid (show ∀ i : Nat, i < r + 1 → gb b i = true → cntD m target x i bs = 1 from fun i hi h => by
                rcases Nat.lt_or_ge i r with h1 | h1
                · exact HA.out i h1 h
                · obtain rfl : i = r := by omega
                  rw [HY.out] at h; cases h)
              go_wp2_with fail
              go_roundg (m - (r + 1))
              case measure => omega
              case rel => exact ⟨r + 1, hrm, rfl, by go_num, HA2, hxn2⟩
            · by_cases hdb : d < bs
              · have hxd := mul_bd (a := 36) (b := 36) hxp.1 hxp.2 (show (0 : Int) ≤ d by omega) (show (d : Int) ≤ 36 by omega)
                have HCn := Lib.hid (HCs.out r d)
                rw [← HZ.out] at HCn
                by_cases hc : ((r : Int) + x * d) % m = target
                · have HC1 := Lib.hid (HCn.out.trans (by rw [if_pos hc]))
                  have hcb : (((r : Int) + x * d) % m == target) = true := by simpa using hc
                  clear hc
                  go_wp2
                  go_quiet (fail)
                  go_wp2
                  exact ⟨⟨d + 1, z + 1, hdb, by go_num, rfl, HC1.out.symm, (by repeat (first | (with_reducible exact Ext.refl _) | (with_reducible assumption) | (with_reducible refine Ext.drewN ?_ _) | (with_reducible refine Ext.drew ?_) | (with_reducible refine Ext.alloc ?_ _) | ((with_reducible refine Ext.setCell ?_ ?_ _); rotate_left; focus (first | (simp; done) | (simp; omega) | omega)) | (with_reducible refine Ext.trans ?_ (by with_reducible assumption))))⟩, by simp [intOf]; omega⟩
                · have HC1 := Lib.hid (HCn.out.trans (show _ = z by rw [if_neg hc, Int.add_zero]))
                  have hcb : (((r : Int) + x * d) % m == target) = false := by simpa using hc
                  clear hc
                  go_wp2
                  go_quiet (fail)
                  go_wp2
                  exact ⟨⟨d + 1, z, hdb, by go_num, rfl, HC1.out.symm, (by repeat (first | (with_reducible exact Ext.refl _) | (with_reducible assumption) | (with_reducible refine Ext.drewN ?_ _) | (with_reducible refine Ext.drew ?_) | (with_reducible refine Ext.alloc ?_ _) | ((with_reducible refine Ext.setCell ?_ ?_ _); rotate_left; focus (first | (simp; done) | (simp; omega) | omega)) | (with_reducible refine Ext.trans ?_ (by with_reducible assumption))))⟩, by simp [intOf]; omega⟩
              · obtain rfl : bs = d := by omega
                by_cases hz1 : z = 1
                · have HA2 := Lib.hid (show ∀ i : Nat, i < r + 1 → gb b i = true → cntD m target x i bs = 1 from fun i hi h => by
                    rcases Nat.lt_or_ge i r with h1 | h1
                    · exact HA.out i h1 h
                    · obtain rfl : i = r := by omega
                      rw [← HZ.out]; exact hz1)
                  subst hz1
                  go_wp2_with fail
                  go_roundg (m - (r + 1))
                  case measure => omega
                  case rel => exact ⟨r + 1, hrm, rfl, by go_num, HA2, hxn2⟩
                · have HRt := Lib.hid (HNo.out r hrm HY.out (by rw [← HZ.out]; exact hz1))
                  have hzb1 : (z != 1) = true := by simpa using hz1
                  clear hz1
                  go_wp2_with fail
                  go_ret
                  exact ⟨rb HRt.out.symm, hxw2⟩
        · obtain rfl : m = r := by omega
          have HRt := Lib.hid (HYes.out HA.out)
          go_wp2_with fail
          go_ret
          exact ⟨rb HRt.out.symm, hxw1⟩
end Go.Proofs.Ytlpbflmgkopklaa
