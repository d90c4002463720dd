/- Walks: how many beginnings lead to each state, in the program. -/
import Derived.Test.YtbcfbkhbangeoaaGreatBothG
namespace Go.Proofs.YtbcfbkhbangeoaaGreat
set_option maxRecDepth 100000
open Go.RowKit

/-! ### plain -/
def begD (D : Ch) (k : Nat) (v : Int) (x : Nat) : Nat → List Int → List Int
  | 0, l => l
  | d + 1, l => (begD D k v x d l).set (nextS D k x d).toNat (gi (begD D k v x d l) (nextS D k x d).toNat + v)
def begR (D : Ch) (k : Nat) (vs : List Int) (S : Nat) : Nat → List Int
  | 0 => List.replicate S 0
  | x + 1 => begD D k (gi vs x) x D.base.toNat (begR D k vs S x)
/-- the numbers of beginnings of k symbols, for all states -/
def begL (D : Ch) (S : Nat) : Nat → List Int
  | 0 => (List.replicate S 0).set D.start.toNat 1
  | k + 1 => begR D k (begL D S k) S S
theorem begD_len (D : Ch) (k : Nat) (v : Int) (x d : Nat) (l : List Int) : (begD D k v x d l).length = l.length := by
  induction d with
  | zero => rfl
  | succ d ih => simp [begD, ih]
theorem begR_len (D : Ch) (k : Nat) (vs : List Int) (S x : Nat) : (begR D k vs S x).length = S := by
  induction x with
  | zero => simp [begR]
  | succ x ih => rw [begR, begD_len, ih]
theorem begL_len (D : Ch) (S k : Nat) : (begL D S k).length = S := by
  cases k with
  | zero => simp [begL]
  | succ k => rw [begL, begR_len]
theorem gi_set2 (l : List Int) (i j : Nat) (u : Int) : gi (l.set i u) j = if i = j ∧ i < l.length then u else gi l j := by
  unfold gi
  rw [List.getD_eq_getElem?_getD, List.getElem?_set, List.getD_eq_getElem?_getD]
  by_cases h : i = j
  · subst h
    by_cases h2 : i < l.length
    · simp [h2]
    · simp [h2]
  · simp [h]
theorem sum_setG : ∀ (l : List Int) (y : Nat) (v : Int), y < l.length → (l.set y (gi l y + v)).sum = l.sum + v
  | [], y, v, h => by simp at h
  | x :: xs, 0, v, _ => by simp [gi]; omega
  | x :: xs, y + 1, v, h => by
    have := sum_setG xs y v (by simpa using h)
    simp only [gi, List.set_cons_succ, List.sum_cons, List.getD_cons_succ] at this ⊢
    omega
/-- no number is below 0 -/
def NN (l : List Int) : Prop := ∀ j, 0 ≤ gi l j
theorem NN.set {l : List Int} (h : NN l) (i : Nat) {u : Int} (hu : 0 ≤ u) : NN (l.set i u) := fun j => by
  rw [gi_set2]; split
  · exact hu
  · exact h j
theorem NN.le_sum : ∀ {l : List Int}, NN l → ∀ j, gi l j ≤ l.sum
  | [], _, j => by simp [gi]
  | x :: xs, h, j => by
    have hx : 0 ≤ x := h 0
    have hxs : NN xs := fun i => h (i + 1)
    have hs : 0 ≤ xs.sum := by
      have h0 := NN.le_sum hxs 0
      have := hxs 0
      omega
    cases j with
    | zero => rw [List.sum_cons]; show x ≤ _; omega
    | succ j => have := NN.le_sum hxs j; rw [List.sum_cons]; show gi xs j ≤ _; omega
theorem NN.take_sum {l : List Int} (h : NN l) : ∀ k, k ≤ l.length → 0 ≤ (l.take k).sum ∧ (l.take k).sum ≤ l.sum := by
  have hd : ∀ (l : List Int), NN l → 0 ≤ l.sum := fun l h => by have := NN.le_sum h 0; have := h 0; omega
  intro k hk
  have h1 : NN (l.take k) := fun j => by
    unfold gi
    rw [List.getD_eq_getElem?_getD, List.getElem?_take]
    split
    · have := h j; unfold gi at this; rwa [List.getD_eq_getElem?_getD] at this
    · simp
  have h2 : NN (l.drop k) := fun j => by
    have := h (k + j)
    unfold gi at this ⊢
    rw [List.getD_eq_getElem?_getD] at this ⊢
    rwa [List.getElem?_drop]
  have h3 : l.sum = (l.take k).sum + (l.drop k).sum := by conv => lhs; rw [← List.take_append_drop k l, List.sum_append]
  have := hd _ h1
  have := hd _ h2
  omega
section
variable {D : Ch} {n' S : Nat}
theorem begD_sum (hok : OkCh D) (hS : D.states = (S : Int)) {k x : Nat} (hk : k < D.places.length) (hx : x < S) {v : Int} (hv : 0 ≤ v) {l : List Int} (hl : l.length = S) (hn : NN l) : ∀ d : Nat, (d : Int) ≤ D.base → (begD D k v x d l).sum = l.sum + d * v ∧ NN (begD D k v x d l)
  | 0, _ => ⟨by simp [begD], hn⟩
  | d + 1, hd => by
    obtain ⟨h1, h2⟩ := begD_sum hok hS hk hx hv hl hn d (by omega)
    have hy := hok.next (p := (k : Int)) (x := (x : Int)) (d := (d : Int)) (by omega) (by omega) (by omega) (by omega) (by omega) (by omega)
    rw [begD, sum_setG _ _ _ (by rw [begD_len, hl]; omega), h1]
    refine ⟨by rw [Int.natCast_add, Int.add_mul]; simp; omega, h2.set _ (by have := h2 (nextS D k x d).toNat; omega)⟩
theorem begR_sum (hok : OkCh D) (hS : D.states = (S : Int)) {k : Nat} (hk : k < D.places.length) {vs : List Int} (hvl : vs.length = S) (hn : NN vs) : ∀ x, x ≤ S → (begR D k vs S x).sum = D.base * (vs.take x).sum ∧ NN (begR D k vs S x)
  | 0, _ => ⟨by
      have : ∀ n : Nat, (List.replicate n (0 : Int)).sum = 0 := fun n => by
        induction n with
        | zero => rfl
        | succ n ih => rw [List.replicate_succ, List.sum_cons, ih]; rfl
      simp [begR, this], fun j => by simp [begR, gi, List.getD_eq_getElem?_getD, List.getElem?_replicate]; split <;> simp⟩
  | x + 1, hx => by
    obtain ⟨h1, h2⟩ := begR_sum hok hS hk hvl hn x (by omega)
    have hb := hok.b2
    obtain ⟨h3, h4⟩ := begD_sum hok hS hk (x := x) (by omega) (hn x) (begR_len D k vs S x) h2 D.base.toNat (by omega)
    rw [begR]
    refine ⟨?_, h4⟩
    rw [h3, h1, take_gi (by omega), List.sum_append, Int.mul_add, Int.toNat_of_nonneg (by omega)]
    simp
theorem begL_sum (hok : OkCh D) (hS : D.states = (S : Int)) : ∀ k, k ≤ D.places.length → (begL D S k).sum = D.base ^ k ∧ NN (begL D S k)
  | 0, _ => by
    have h0 := hok.st0; have h1 := hok.st1
    have hr : ∀ n : Nat, (List.replicate n (0 : Int)).sum = 0 := fun n => by
      induction n with
      | zero => rfl
      | succ n ih => rw [List.replicate_succ, List.sum_cons, ih]; rfl
    have hz : NN (List.replicate S (0 : Int)) := fun j => by simp [gi, List.getD_eq_getElem?_getD, List.getElem?_replicate]; split <;> simp
    have hg : gi (List.replicate S (0 : Int)) D.start.toNat = 0 := by
      simp [gi, List.getD_eq_getElem?_getD, List.getElem?_replicate]; split <;> simp
    have h2 := sum_setG (List.replicate S (0 : Int)) D.start.toNat 1 (by simp; omega)
    rw [hg, hr] at h2
    exact ⟨by rw [begL]; simpa using h2, hz.set _ (by omega)⟩
  | k + 1, hk => by
    obtain ⟨h1, h2⟩ := begL_sum hok hS k (by omega)
    obtain ⟨h3, h4⟩ := begR_sum hok hS (k := k) (by omega) (begL_len D S k) h2 S (Nat.le_refl _)
    rw [begL]
    refine ⟨?_, h4⟩
    rw [h3, take_full (by rw [begL_len]; exact Nat.le_refl _), h1, Int.pow_succ, Int.mul_comm]
/-- which states beginnings lead to -/
theorem begL_in (hok : OkCh D) (hS : D.states = (S : Int)) (R : Nat → Int → Prop) (h0 : R 0 D.start) (hR : ∀ (k : Nat) (x d : Int), k < D.places.length → 0 ≤ x → x < S → R k x → 0 ≤ d → d < D.base → R (k + 1) (nextS D k x d)) :
    ∀ k, k ≤ D.places.length → ∀ s, s < S → gi (begL D S k) s ≠ 0 → R k s
  | 0, _, s, hs, hne => by
    rw [begL, gi_set2] at hne
    have e := hok.st0
    split at hne
    · rename_i h
      have : ((s : Nat) : Int) = D.start := by omega
      rw [this]; exact h0
    · simp [gi, List.getD_eq_getElem?_getD, List.getElem?_replicate] at hne
      split at hne <;> simp at hne
  | k + 1, hk, s, hs, hne => by
    have ih := begL_in hok hS R h0 hR k (by omega)
    have hb := hok.b2
    have hD : ∀ (x : Nat) (l : List Int) (d : Nat), x < S → (d : Int) ≤ D.base → (∀ t, t < S → gi l t ≠ 0 → R (k + 1) t) → ∀ t, t < S → gi (begD D k (gi (begL D S k) x) x d l) t ≠ 0 → R (k + 1) t := by
      intro x l d hx
      induction d with
      | zero => intro _ hl; exact hl
      | succ d ihd =>
        intro hd hl t ht hne2
        rw [begD, gi_set2] at hne2
        have hy := hok.next (p := (k : Int)) (x := (x : Int)) (d := (d : Int)) (by omega) (by omega) (by omega) (by omega) (by omega) (by omega)
        split at hne2
        · rename_i h
          by_cases hv : gi (begL D S k) x = 0
          · have hne3 : gi (begD D k (gi (begL D S k) x) x d l) (nextS D k x d).toNat ≠ 0 := by omega
            exact ihd (by omega) hl t ht (by rw [← h.1]; exact hne3)
          · have := hR k x d (by omega) (by omega) (by omega) (ih x hx hv) (by omega) (by omega)
            have e : nextS D k x d = (t : Int) := by omega
            rwa [e] at this
        · exact ihd (by omega) hl t ht hne2
    have hX : ∀ x, x ≤ S → ∀ t, t < S → gi (begR D k (begL D S k) S x) t ≠ 0 → R (k + 1) t := by
      intro x
      induction x with
      | zero =>
        intro _ t _ h
        simp [begR, gi, List.getD_eq_getElem?_getD, List.getElem?_replicate] at h
        split at h <;> simp at h
      | succ x ihx =>
        intro hx t ht h
        exact hD x _ D.base.toNat (by omega) (by omega) (ihx (by omega)) t ht h
    exact hX S (Nat.le_refl _) s hs hne
theorem beg_bd (hok : OkCh D) (hS : D.states = (S : Int)) {k x d : Nat} (hk : k < D.places.length) (hx : x < S) (hd : (d : Int) ≤ D.base) (j : Nat) :
    0 ≤ gi (begD D k (gi (begL D S k) x) x d (begR D k (begL D S k) S x)) j ∧ gi (begD D k (gi (begL D S k) x) x d (begR D k (begL D S k) S x)) j ≤ 1000000000000000 ∧ 0 ≤ gi (begL D S k) x ∧ gi (begL D S k) x ≤ 1000000000000000 := by
  obtain ⟨h1, h2⟩ := begL_sum hok hS k (by omega)
  have hl := begL_len D S k
  obtain ⟨h3, h4⟩ := begR_sum hok hS hk hl h2 x (by omega)
  obtain ⟨h5, h6⟩ := begD_sum hok hS hk hx (h2 x) (begR_len D k (begL D S k) S x) h4 d hd
  have hb := hok.b2
  have t1 := h2.take_sum (x + 1) (by omega)
  rw [take_gi (by omega), List.sum_append] at t1
  simp only [List.sum_cons, List.sum_nil] at t1
  have e1 : D.base * ((begL D S k).take x).sum + (d : Int) * gi (begL D S k) x ≤ D.base * (begL D S k).sum := by
    have g1 : (d : Int) * gi (begL D S k) x ≤ D.base * gi (begL D S k) x := Int.mul_le_mul_of_nonneg_right hd (h2 x)
    have g2 : D.base * (((begL D S k).take x).sum + gi (begL D S k) x) ≤ D.base * (begL D S k).sum := Int.mul_le_mul_of_nonneg_left (by omega) (by omega)
    rw [Int.mul_add] at g2
    omega
  have e2 : D.base * (begL D S k).sum = D.base ^ (k + 1) := by rw [h1, Int.pow_succ, Int.mul_comm]
  have e3 := pow_le_n hok (r := k + 1) (by omega)
  have e4 := pow_le_n hok (r := k) (by omega)
  have e5 := h6.le_sum j
  have e6 := h2.le_sum x
  exact ⟨h6 j, by omega, h2 x, by omega⟩
end

/-! ### the walk -/
/-- an element of an own row: its place, its value, and that it may be written, in this world and behind it -/
structure OneJ (P : Program) (T : TypeId) (w : World) (g n c : Nat) (l : List Int) (x : Int) (k : Nat) : Prop where
  run : ∀ (K : IntKind) (w' : World), (Instr.indexAt T (.slice (some ⟨g, 0, none⟩) n c) (.int K x)).run P w' = .ok (.pointer (some ⟨g, k, none⟩)) w'
  cell : ∀ w', Ext w w' → w'.cell? ⟨g, k, none⟩ = some (.int .i64 (Go.Proofs.YtbcfbkhbangeoaaGreat.gi l k))
  fr : ∀ w', Ext w w' → w'.frozen? ⟨g, k, none⟩ = false
theorem own_oneJ {P : Program} {w : World} {B : Nat} {E : TypeId} {g n c : Nat} {l : List Int} (h : Own w B E (some ⟨g, 0, none⟩) n c (I l)) (T : TypeId) (ht : P.underlying T = some (.slice E)) (he : P.cellsOf E = 1)
    (k : Nat) (hk : k < n) {x : Int} (hx : x = (k : Int)) : OneJ P T w g n c l x k := by
  subst hx
  obtain ⟨h1, h2, h3⟩ := h.at (P := P) T ht he k hk .i64
  have hl := h.len
  rw [I_len] at hl
  refine ⟨fun K w' => (h.at (P := P) T ht he k hk K).1 w', fun w' hx => hx.cell ?_, fun w' hx => ?_⟩
  · rw [h2, I_getD _ _ (by rw [hl]; exact hk)]; rfl
  · exact (Below.frozen hx (p := ⟨g, k, none⟩) h.lt.2).trans h3
set_option maxHeartbeats 8000000 in
theorem impl_begins (D : Ch) (q : Nat) (a : Option Addr) (n c : Nat) (a' : Option Addr) (n' c' : Nat) (p : Nat) (w : World) (hv : ChAt w q D a n c a' n' c') (hok : OkCh D) (hp : p ≤ n') :
    Calls Tryz.prog 107 #[.pointer (some ⟨q, 0, none⟩), .int .i64 p] w (RetOwn 2 (I (begL D D.states.toNat p)) w) := by
  have HP := Lib.hid hv.ps.len
  have HV := Lib.hid hv
  have HOK := Lib.hid hok
  obtain ⟨k0, k1, k2, k3, k4, k5, _, _⟩ := hv
  have p20 := hok.p20
  rw [HP.out] at p20
  have b2 := hok.b2
  have b36 := hok.b36
  have hS36 := hok.s36
  obtain ⟨S, hS⟩ := Int.eq_ofNat_of_zero_le (show 0 ≤ D.states by have := hok.s1; omega)
  obtain ⟨st, hst⟩ := Int.eq_ofNat_of_zero_le hok.st0
  obtain ⟨bs, hbs⟩ := Int.eq_ofNat_of_zero_le (show 0 ≤ D.base by omega)
  have hsS : st < S := by have := hok.st1; omega
  have HSt := Lib.hid (show D.states.toNat = S by omega)
  have HBs := Lib.hid (show D.base.toNat = bs by omega)
  have HSn := Lib.hid (show D.start.toNat = st by omega)
  simp only [hS] at k1
  simp only [hst] at k2
  simp only [hbs] at k0
  have hS36' : S ≤ 36 := by omega
  have hbs' : bs ≤ 36 := by omega
  have HNx := Lib.hid (fun (i x d : Nat) (hi : i < n') (hx : x < S) (hd : d < bs) => hok.next (p := i) (x := x) (d := d) (by omega) (by rw [HP.out]; omega) (by omega) (by omega) (by omega) (by omega))
  rw [HSt.out]
  have HhS := Lib.hid hS; clear hS; have Hhst := Lib.hid hst; clear hst; have Hhbs := Lib.hid hbs; clear hbs; have HhS36 := Lib.hid hS36; clear hS36
  clear hok
  go_enter Tryz.func107, Tryz.ntmps107
  go_wp2_with (at_make; refine law_make _ rfl _ _ 25 rfl 2 (.int .i64 0) 8 und_int64s info_int64 rfl _ _ S rfl rfl (by omega) (by unfold maxLen; omega) ?_; intro w1 hown hx hsz; obtain ⟨hia0, hce0, hfr0⟩ := own_oneJ (l := List.replicate S 0) (by rw [I_replicate]; exact hown) (P := Tryz.prog) 25 und_int64s cell_int64 st hsS (x := (st : Int)) rfl; have hx1 : Ext w1 w1 := Ext.refl _)
  have HO := Lib.hid (show Own (w1.setCell ⟨w.heap.size, st, none⟩ (.int .i64 1)) w.heap.size 2 (some ⟨w.heap.size, 0, none⟩) S S (I (begL D S 0)) from by rw [begL, HSn.out, ← I_set, I_replicate]; exact hown.set st _)
  have hxs : Ext w (w1.setCell ⟨w.heap.size, st, none⟩ (.int .i64 1)) := Ext.setCell hx (Nat.le_refl _) _
  clear hown hsz hia0 hce0 hfr0
  go_loopw [5, 23] (fun v5 v23 wr => ∃ (k b : Nat), k ≤ p ∧ v23 = .int .i64 k ∧ v5 = .slice (some ⟨b, 0, none⟩) S S ∧ Hid (Own wr w.heap.size 2 (some ⟨b, 0, none⟩) S S (I (begL D S k))) ∧ Ext w wr) (fun _ v23 _ => p - (intOf v23).toNat)
  case atStart => exact ⟨0, _, Nat.zero_le _, rfl, rfl, HO.out, hxs⟩
  case round =>
    clear HO hxs hx hx1
    obtain ⟨k, b, hk, rfl, rfl, HO, hxr⟩ := hrel
    by_cases hlt : k < p
    · obtain ⟨wo, hwo⟩ : ∃ wo, wo = wr := ⟨_, rfl⟩
      rw [← hwo] at HO hxr ⊢
      clear hwo
      have hkn : k < n' := by omega
      go_wp2_with (at_make; refine law_make _ rfl _ _ 25 rfl 2 (.int .i64 0) 8 und_int64s info_int64 rfl _ _ S rfl rfl (by omega) (by unfold maxLen; omega) ?_; intro w2 hown2 hx2 hsz2; have hxw2 : Ext w w2 := hxr.trans hx2)
      obtain ⟨g, hg⟩ : ∃ g, g = wo.heap.size := ⟨_, rfl⟩
      rw [← hg] at hown2 ⊢
      have hgo : wo.heap.size ≤ g := by omega
      have HO2 := Lib.hid (show Own w2 wo.heap.size 2 (some ⟨g, 0, none⟩) S S (I (begR D k (begL D S k) S 0)) from by rw [begR, I_replicate]; exact hown2.mono hgo)
      have HX2 := Lib.hid hx2
      clear hown2 hsz2 hg hx2
      go_loopw [33] (fun v33 wr => ∃ (x : Nat), x ≤ S ∧ v33 = .int .i64 x ∧ Hid (Own wr wo.heap.size 2 (some ⟨g, 0, none⟩) S S (I (begR D k (begL D S k) S x))) ∧ Ext wo wr) (fun v33 _ => S - (intOf v33).toNat)
      case atStart => exact ⟨0, Nat.zero_le _, rfl, HO2.out, HX2.out⟩
      case round =>
        clear HO2 HX2
        obtain ⟨x, hx, rfl, HO3, hx3⟩ := hrel
        have hxw3 : Ext w wr := hxr.trans hx3
        by_cases hlx : x < S
        · obtain ⟨e1, e2, _⟩ := own_oneJ HO.out (P := Tryz.prog) 25 und_int64s cell_int64 x hlx (x := (x : Int)) rfl
          go_wp2
          go_loopw [42] (fun v42 wr => ∃ (d : Nat), d ≤ bs ∧ v42 = .int .i64 d ∧ Hid (Own wr wo.heap.size 2 (some ⟨g, 0, none⟩) S S (I (begD D k (gi (begL D S k) x) x d (begR D k (begL D S k) S x)))) ∧ Ext wo wr) (fun v42 _ => bs - (intOf v42).toNat)
          case atStart => exact ⟨0, Nat.zero_le _, rfl, HO3.out, hx3⟩
          case round =>
            obtain ⟨d, hd, rfl, HO4, hx4⟩ := hrel
            have hxw4 : Ext w wr := hxr.trans hx4
            by_cases hld : d < bs
            · obtain ⟨y0, y1⟩ := HNx.out k x d hkn hlx hld
              obtain ⟨y, hy⟩ := Int.eq_ofNat_of_zero_le y0
              have hyS : y < S := by have := HhS.out; omega
              have HCN := Lib.hid (fun W (h : Ext w W) => impl_next D q a n c a' n' c' (k : Int) (x : Int) (d : Int) W (HV.out.ext h) HOK.out (by omega) (by have := HP.out; omega) (by omega) (by have := HhS.out; omega) (by omega) (by have := Hhbs.out; omega))
              rw [hy] at HCN
              have HB := Lib.hid (beg_bd HOK.out HhS.out (k := k) (x := x) (d := d) (by rw [HP.out]; exact hkn) hlx (by have := Hhbs.out; omega) y)
              obtain ⟨u1, u2, u3, u4⟩ := HB.out
              have HN := Lib.hid (show begD D k (gi (begL D S k) x) x (d + 1) (begR D k (begL D S k) S x) = (begD D k (gi (begL D S k) x) x d (begR D k (begL D S k) S x)).set y (gi (begD D k (gi (begL D S k) x) x d (begR D k (begL D S k) S x)) y + gi (begL D S k) x) from by rw [begD, hy, Int.toNat_natCast])
              obtain ⟨f1, f2, f3⟩ := own_oneJ HO4.out (P := Tryz.prog) 25 und_int64s cell_int64 y hyS (x := (y : Int)) rfl
              have hgl := HO4.out.lt.2
              obtain ⟨x1, hx1e⟩ : ∃ x1, x1 = gi (begD D k (gi (begL D S k) x) x d (begR D k (begL D S k) S x)) y := ⟨_, rfl⟩
              rw [← hx1e] at f2 u1 u2 HN
              clear y0 y1 hy hx1e
              go_wp2_with (go_at_call 71; (with_reducible refine (HCN.out _ (by repeat (first | (with_reducible exact Ext.refl _) | (with_reducible assumption) | (with_reducible refine Ext.drewN ?_ _) | (with_reducible refine Ext.drew ?_) | (with_reducible refine Ext.alloc ?_ _) | ((with_reducible refine Ext.setCell ?_ ?_ _); rotate_left; focus (first | (simp; done) | (simp; omega) | omega)) | (with_reducible refine Ext.trans ?_ (by with_reducible assumption))))).mono ?_); rintro e w6 ⟨rfl, hy6⟩; have hxr6 : Ext wr w6 := hy6; have hxo6 : Ext wo w6 := hx4.trans hy6; clear hy6)
              refine ⟨⟨d + 1, by omega, by go_num, ?_, Ext.setCell hxo6 hgo _⟩, by simp [intOf]; omega⟩
              have h9 := (HO4.out.ext hxr6).set y (.int .i64 (x1 + gi (begL D S k) x))
              rw [I_set, ← HN.out] at h9
              exact h9
            · obtain rfl : d = bs := by omega
              have HE := Lib.hid (show Own wr wo.heap.size 2 (some ⟨g, 0, none⟩) S S (I (begR D k (begL D S k) S (x + 1))) from by rw [begR, HBs.out]; exact HO4.out)
              go_wp2
              exact ⟨⟨x + 1, by omega, by go_num, HE.out, hx4⟩, by simp [intOf]; omega⟩
        · obtain rfl : x = S := by omega
          have HE := Lib.hid (show Own wr w.heap.size 2 (some ⟨g, 0, none⟩) x x (I (begL D x (k + 1))) from by rw [begL]; exact HO3.out.mono hxr.le)
          go_wp2
          exact ⟨⟨k + 1, g, by omega, by go_num, rfl, HE.out, hxw3⟩, by simp [intOf]; omega⟩
    · obtain rfl : k = p := by omega
      go_wp2
      go_ret
      exact RetOwn.mk HO.out (begL_len D S k) hxr
end Go.Proofs.YtbcfbkhbangeoaaGreat
