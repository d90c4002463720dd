/- Plain: the least distance of the words of a pair is the least number of symbols but 0 of a word; words three places apart are corrected. -/
import Derived.Test.YtaiieodllhoelaaCor
import Derived.Test.YtaiieodllhoelaaPair5
namespace Go.Proofs.Ytaiieodllhoelaa
set_option maxRecDepth 100000
open Go.RowKit

/-- at how many places two lists differ -/
def ham : List Int → List Int → Nat
  | a :: xs, b :: ys => ham xs ys + if a = b then 0 else 1
  | _, _ => 0
theorem ham_self : ∀ l : List Int, ham l l = 0
  | [] => rfl
  | a :: l => by simp [ham, ham_self l]
theorem ham_zero : ∀ {a b : List Int}, a.length = b.length → ham a b = 0 → a = b
  | [], [], _, _ => rfl
  | [], _ :: _, h, _ => by cases h
  | _ :: _, [], h, _ => by cases h
  | x :: a, y :: b, h, h0 => by
    simp only [ham] at h0
    split at h0
    · rename_i hxy
      rw [hxy, ham_zero (Nat.succ.inj h) (by omega)]
    · omega
theorem ham_set : ∀ (a : List Int) (i : Nat) (x : Int), ham (a.set i x) a ≤ 1
  | [], _, _ => by simp [ham]
  | y :: a, 0, x => by simp only [List.set_cons_zero, ham, ham_self]; split <;> omega
  | y :: a, i + 1, x => by simp only [List.set_cons_succ, ham]; have := ham_set a i x; simp; exact this
theorem ham_tri : ∀ (a b c : List Int), a.length = b.length → b.length = c.length → ham a c ≤ ham a b + ham b c
  | [], [], [], _, _ => Nat.zero_le _
  | x :: a, y :: b, z :: c, h1, h2 => by
    have h := ham_tri a b c (Nat.succ.inj h1) (Nat.succ.inj h2)
    simp only [ham]
    by_cases e1 : x = y <;> by_cases e2 : y = z <;> by_cases e3 : x = z <;> simp [e1, e2, e3] <;> first | omega | (exfalso; exact e3 (e1.trans e2)) | (subst e1; omega)
theorem ham_comm : ∀ (a b : List Int), ham a b = ham b a
  | [], [] => rfl
  | [], _ :: _ => rfl
  | _ :: _, [] => rfl
  | x :: a, y :: b => by simp only [ham, ham_comm a b, eq_comm]
section
variable {D : Ch}
theorem apF_iff (hb : 0 ≤ D.base) : ∀ (r : Nat) (x y : Int) (d : Nat), r ≤ D.places.length → (ApF D r x y d ↔ ∃ ds es : List Int, ds.length = r ∧ es.length = r ∧ DigC D ds ∧ DigC D es ∧
    runS D ((D.places.length - r : Nat) : Int) x ds = D.fin ∧ runS D ((D.places.length - r : Nat) : Int) y es = D.fin ∧ ham ds es = d)
  | 0, x, y, d, _ => by
    constructor
    · rintro ⟨h1, h2, h3⟩
      exact ⟨[], [], rfl, rfl, fun _ h => (by cases h), fun _ h => (by cases h), h1, h2, h3.symm⟩
    · rintro ⟨ds, es, h1, h2, _, _, h3, h4, h5⟩
      obtain rfl := List.eq_nil_of_length_eq_zero h1
      obtain rfl := List.eq_nil_of_length_eq_zero h2
      exact ⟨h3, h4, h5.symm⟩
  | r + 1, x, y, d, hr => by
    have hk : ((D.places.length - (r + 1) : Nat) : Int) + 1 = ((D.places.length - r : Nat) : Int) := by omega
    constructor
    · rintro ⟨a, b, ha, hb', d', h, rfl⟩
      obtain ⟨ds, es, h1, h2, h3, h4, h5, h6, h7⟩ := (apF_iff hb r _ _ d' (by omega)).1 h
      refine ⟨(a : Int) :: ds, (b : Int) :: es, by simp [h1], by simp [h2], ?_, ?_, ?_, ?_, ?_⟩
      · intro e he; rcases List.mem_cons.1 he with rfl | he; (exact ⟨by omega, ha⟩); (exact h3 e he)
      · intro e he; rcases List.mem_cons.1 he with rfl | he; (exact ⟨by omega, hb'⟩); (exact h4 e he)
      · show runS D (((D.places.length - (r + 1) : Nat) : Int) + 1) _ ds = _
        rw [hk]; exact h5
      · show runS D (((D.places.length - (r + 1) : Nat) : Int) + 1) _ es = _
        rw [hk]; exact h6
      · simp only [ham, h7]
        by_cases e : a = b <;> simp [e] <;> omega
    · rintro ⟨ds, es, h1, h2, h3, h4, h5, h6, h7⟩
      obtain ⟨a, ds, rfl⟩ : ∃ a l, ds = a :: l := by cases ds with | nil => cases h1 | cons a l => exact ⟨a, l, rfl⟩
      obtain ⟨b, es, rfl⟩ : ∃ a l, es = a :: l := by cases es with | nil => cases h2 | cons a l => exact ⟨a, l, rfl⟩
      have ha := h3 a (List.mem_cons_self ..)
      have hb' := h4 b (List.mem_cons_self ..)
      obtain ⟨a, rfl⟩ := Int.eq_ofNat_of_zero_le ha.1
      obtain ⟨b, rfl⟩ := Int.eq_ofNat_of_zero_le hb'.1
      have g5 : runS D (((D.places.length - (r + 1) : Nat) : Int) + 1) (nextS D ((D.places.length - (r + 1) : Nat) : Int) x a) ds = D.fin := h5
      have g6 : runS D (((D.places.length - (r + 1) : Nat) : Int) + 1) (nextS D ((D.places.length - (r + 1) : Nat) : Int) y b) es = D.fin := h6
      rw [hk] at g5 g6
      refine ⟨a, b, ha.2, hb'.2, ham ds es, (apF_iff hb r _ _ _ (by omega)).2 ⟨ds, es, Nat.succ.inj h1, Nat.succ.inj h2, fun e he => h3 e (List.mem_cons_of_mem _ he), fun e he => h4 e (List.mem_cons_of_mem _ he), g5, g6, rfl⟩, ?_⟩
      rw [← h7]
      simp only [ham]
      by_cases e : a = b <;> simp [e] <;> omega
theorem dfF_iff (hb : 0 ≤ D.base) : ∀ (r : Nat) (x : Int) (d : Nat), r ≤ D.places.length → (DfF D r x d ↔ ∃ ds es : List Int, ds.length = r ∧ es.length = r ∧ DigC D ds ∧ DigC D es ∧
    runS D ((D.places.length - r : Nat) : Int) x ds = D.fin ∧ runS D ((D.places.length - r : Nat) : Int) x es = D.fin ∧ ds ≠ es ∧ ham ds es = d)
  | 0, x, d, _ => by
    constructor
    · intro h; cases h
    · rintro ⟨ds, es, h1, h2, _, _, _, _, h3, _⟩
      exact absurd ((List.eq_nil_of_length_eq_zero h1).trans (List.eq_nil_of_length_eq_zero h2).symm) h3
  | r + 1, x, d, hr => by
    have hk : ((D.places.length - (r + 1) : Nat) : Int) + 1 = ((D.places.length - r : Nat) : Int) := by omega
    constructor
    · rintro ⟨a, ha, h | ⟨b, hb', hab, d', h, rfl⟩⟩
      · obtain ⟨ds, es, h1, h2, h3, h4, h5, h6, hn, h7⟩ := (dfF_iff hb r _ d (by omega)).1 h
        refine ⟨(a : Int) :: ds, (a : Int) :: es, by simp [h1], by simp [h2], ?_, ?_, ?_, ?_, by simpa using hn, by simp [ham, h7]⟩
        · intro e he; rcases List.mem_cons.1 he with rfl | he; (exact ⟨by omega, ha⟩); (exact h3 e he)
        · intro e he; rcases List.mem_cons.1 he with rfl | he; (exact ⟨by omega, ha⟩); (exact h4 e he)
        · show runS D (((D.places.length - (r + 1) : Nat) : Int) + 1) _ ds = _
          rw [hk]; exact h5
        · show runS D (((D.places.length - (r + 1) : Nat) : Int) + 1) _ es = _
          rw [hk]; exact h6
      · obtain ⟨ds, es, h1, h2, h3, h4, h5, h6, h7⟩ := (apF_iff hb r _ _ d' (by omega)).1 h
        refine ⟨(a : Int) :: ds, (b : Int) :: es, by simp [h1], by simp [h2], ?_, ?_, ?_, ?_, fun he => ?_, ?_⟩
        · intro e he; rcases List.mem_cons.1 he with rfl | he; (exact ⟨by omega, ha⟩); (exact h3 e he)
        · intro e he; rcases List.mem_cons.1 he with rfl | he; (exact ⟨by omega, hb'⟩); (exact h4 e he)
        · show runS D (((D.places.length - (r + 1) : Nat) : Int) + 1) _ ds = _
          rw [hk]; exact h5
        · show runS D (((D.places.length - (r + 1) : Nat) : Int) + 1) _ es = _
          rw [hk]; exact h6
        · have := (List.cons.inj he).1; omega
        · have : ¬ (a : Int) = (b : Int) := by omega
          simp only [ham, h7, if_neg this]
    · rintro ⟨ds, es, h1, h2, h3, h4, h5, h6, hn, h7⟩
      obtain ⟨a, ds, rfl⟩ : ∃ a l, ds = a :: l := by cases ds with | nil => cases h1 | cons a l => exact ⟨a, l, rfl⟩
      obtain ⟨b, es, rfl⟩ : ∃ a l, es = a :: l := by cases es with | nil => cases h2 | cons a l => exact ⟨a, l, rfl⟩
      have ha := h3 a (List.mem_cons_self ..)
      have hb' := h4 b (List.mem_cons_self ..)
      obtain ⟨a, rfl⟩ := Int.eq_ofNat_of_zero_le ha.1
      obtain ⟨b, rfl⟩ := Int.eq_ofNat_of_zero_le hb'.1
      have g5 : runS D (((D.places.length - (r + 1) : Nat) : Int) + 1) (nextS D ((D.places.length - (r + 1) : Nat) : Int) x a) ds = D.fin := h5
      have g6 : runS D (((D.places.length - (r + 1) : Nat) : Int) + 1) (nextS D ((D.places.length - (r + 1) : Nat) : Int) x b) es = D.fin := h6
      rw [hk] at g5 g6
      by_cases hab : a = b
      · subst hab
        exact ⟨a, ha.2, .inl ((dfF_iff hb r _ _ (by omega)).2 ⟨ds, es, Nat.succ.inj h1, Nat.succ.inj h2, fun e he => h3 e (List.mem_cons_of_mem _ he), fun e he => h4 e (List.mem_cons_of_mem _ he), g5, g6, fun he => hn (by rw [he]), by rw [← h7]; simp [ham]⟩)⟩
      · refine ⟨a, ha.2, .inr ⟨b, hb'.2, hab, ham ds es, (apF_iff hb r _ _ _ (by omega)).2 ⟨ds, es, Nat.succ.inj h1, Nat.succ.inj h2, fun e he => h3 e (List.mem_cons_of_mem _ he), fun e he => h4 e (List.mem_cons_of_mem _ he), g5, g6, rfl⟩, ?_⟩⟩
        rw [← h7]
        have : ¬ (a : Int) = (b : Int) := by omega
        simp only [ham, if_neg this]
end
/-- the distances of a pair are those of its words -/
theorem pairD_iff {b : Int} {l1 l2 : List Int} {m n : Nat} (h : pairB b l1 l2 = true) (hm : b = (m : Int)) (hn : l1.length = n) (d : Nat) :
    PairD b l1 l2 d ↔ ∃ ds es : List Int, ds.length = n ∧ es.length = n ∧ (∀ e ∈ ds, 0 ≤ e ∧ e < b) ∧ (∀ e ∈ es, 0 ≤ e ∧ e < b) ∧ ofP m l1 l2 ds n = true ∧ ofP m l1 l2 es n = true ∧ ds ≠ es ∧ ham ds es = d := by
  have hpl := pair_len h
  have hbs := pair_base h
  unfold PairD
  rw [dfF_iff (by rw [hbs]; omega) _ _ _ (Nat.le_refl _), hpl, hn, Nat.sub_self]
  constructor
  · rintro ⟨_, ds, es, h1, h2, h3, h4, h5, h6, h7⟩
    have h3' : ∀ e ∈ ds, 0 ≤ e ∧ e < b := fun e he => by have := h3 e he; rwa [hbs] at this
    have h4' : ∀ e ∈ es, 0 ≤ e ∧ e < b := fun e he => by have := h4 e he; rwa [hbs] at this
    exact ⟨ds, es, h1, h2, h3', h4', (pair_ofP h hm hn h3' h1).1 h5, (pair_ofP h hm hn h4' h2).1 h6, h7⟩
  · rintro ⟨ds, es, h1, h2, h3, h4, h5, h6, h7⟩
    exact ⟨h, ds, es, h1, h2, fun e he => by rw [hbs]; exact h3 e he, fun e he => by rw [hbs]; exact h4 e he, (pair_ofP h hm hn h3 h1).2 h5, (pair_ofP h hm hn h4 h2).2 h6, h7⟩
/-- the difference of two words -/
def difL (m : Int) (ds es : List Int) : List Int := (List.range ds.length).map fun k => (gi ds k - gi es k) % m
theorem difL_len (m : Int) (ds es : List Int) : (difL m ds es).length = ds.length := by simp [difL]
theorem difL_gi {m : Int} {ds es : List Int} {k : Nat} (h : k < ds.length) : gi (difL m ds es) k = (gi ds k - gi es k) % m := by
  rw [gi_get (by rw [difL_len]; exact h)]; simp [difL]
theorem difL_bd {m : Int} (hm : 0 < m) (ds es : List Int) : ∀ e ∈ difL m ds es, 0 ≤ e ∧ e < m := fun e he => by
  obtain ⟨k, _, rfl⟩ := List.mem_map.1 he
  exact ⟨Int.emod_nonneg _ (by omega), Int.emod_lt_of_pos _ hm⟩
theorem dt_dif {m : Int} {ds es l : List Int} : ∀ k, k ≤ ds.length → dt (difL m ds es) l k % m = (dt ds l k - dt es l k) % m
  | 0, _ => rfl
  | k + 1, hk => by
    have ih := dt_dif (m := m) (ds := ds) (es := es) (l := l) k (by omega)
    have e1 : dt (difL m ds es) l (k + 1) = dt (difL m ds es) l k + gi (difL m ds es) k * gi l k := rfl
    have e2 : dt ds l (k + 1) = dt ds l k + gi ds k * gi l k := rfl
    have e3 : dt es l (k + 1) = dt es l k + gi es k * gi l k := rfl
    rw [e1, e2, e3, difL_gi (by omega), Int.add_emod, ih, ← Int.add_emod, Int.add_emod, Int.mul_emod, Int.emod_emod_of_dvd _ (Int.dvd_refl m), ← Int.mul_emod, ← Int.add_emod, Int.sub_mul]
    congr 1
    omega
theorem ofP_dif {m n : Nat} {l1 l2 ds es : List Int} (h1 : ofP m l1 l2 ds n = true) (h2 : ofP m l1 l2 es n = true) (hl : ds.length = n) : ofP m l1 l2 (difL m ds es) n = true := by
  unfold ofP at *
  rw [Bool.and_eq_true, hit_of, hit_of] at *
  rw [dt_dif n (by omega), dt_dif n (by omega)]
  exact ⟨by rw [Int.sub_emod, h1.1, h2.1]; simp, by rw [Int.sub_emod, h1.2, h2.2]; simp⟩
theorem nz_ham : ∀ (n : Nat) (ds es fs : List Int), ds.length = n → es.length = n → fs.length = n → (∀ k, k < n → (gi fs k = 0 ↔ gi ds k = gi es k)) → nz fs n = (ham ds es : Int)
  | 0, ds, es, fs, h1, h2, _, _ => by
    obtain rfl := List.eq_nil_of_length_eq_zero h1
    obtain rfl := List.eq_nil_of_length_eq_zero h2
    rfl
  | n + 1, ds, es, fs, h1, h2, h3, h => by
    obtain ⟨a, ds, rfl⟩ : ∃ a l, ds = a :: l := by cases ds with | nil => cases h1 | cons a l => exact ⟨a, l, rfl⟩
    obtain ⟨b, es, rfl⟩ : ∃ a l, es = a :: l := by cases es with | nil => cases h2 | cons a l => exact ⟨a, l, rfl⟩
    obtain ⟨c, fs, rfl⟩ : ∃ a l, fs = a :: l := by cases fs with | nil => cases h3 | cons a l => exact ⟨a, l, rfl⟩
    have ih := nz_ham n ds es fs (Nat.succ.inj h1) (Nat.succ.inj h2) (Nat.succ.inj h3) (fun k hk => h (k + 1) (by omega))
    have h0 : c = 0 ↔ a = b := h 0 (by omega)
    unfold nz at ih ⊢
    rw [S_first]
    have e : S n (fun i => if gi (c :: fs) (i + 1) = 0 then (0 : Int) else 1) = S n (fun i => if gi fs i = 0 then 0 else 1) := rfl
    rw [e, ih]
    have e0 : gi (c :: fs) 0 = c := rfl
    simp only [e0, ham]
    by_cases hc : c = 0
    · rw [if_pos hc, if_pos (h0.1 hc)]; push_cast; omega
    · rw [if_neg hc, if_neg (fun e => hc (h0.2 e))]; push_cast; omega
theorem nz_dif {m : Int} {n : Nat} {ds es : List Int} (hd : ∀ e ∈ ds, 0 ≤ e ∧ e < m) (he : ∀ e ∈ es, 0 ≤ e ∧ e < m) (h1 : ds.length = n) (h2 : es.length = n) : nz (difL m ds es) n = (ham ds es : Int) := by
  refine nz_ham n ds es _ h1 h2 (by rw [difL_len]; exact h1) fun k hk => ?_
  rw [difL_gi (by omega)]
  have a := hd _ (gi_mem (l := ds) (k := k) (by omega))
  have b := he _ (gi_mem (l := es) (k := k) (by omega))
  generalize gi ds k = x at *
  generalize gi es k = y at *
  constructor
  · intro h
    have h3 := Int.emod_emod_of_dvd (x - y) (Int.dvd_refl m)
    have h4 : m ∣ x - y := Int.dvd_of_emod_eq_zero h
    obtain ⟨c, hc⟩ := h4
    have : c = 0 := by
      rcases Int.lt_trichotomy c 0 with hc0 | hc0 | hc0
      · have : m * c ≤ m * (-1) := Int.mul_le_mul_of_nonneg_left (by omega) (by omega)
        omega
      · exact hc0
      · have : m * 1 ≤ m * c := Int.mul_le_mul_of_nonneg_left (by omega) (by omega)
        omega
    subst this
    omega
  · rintro rfl; simp
/-- a word that has some symbols but 0 -/
theorem ofP_zero (m : Nat) (l1 l2 : List Int) (n : Nat) : ofP m l1 l2 (List.replicate n 0) n = true := by
  have h : ∀ l k, dt (List.replicate n 0) l k = 0 := fun l k => by
    induction k with
    | zero => rfl
    | succ k ih =>
      have e : dt (List.replicate n 0) l (k + 1) = dt (List.replicate n 0) l k + gi (List.replicate n 0) k * gi l k := rfl
      rw [e, ih]
      have : gi (List.replicate n (0 : Int)) k = 0 := by simp [gi, List.getD_eq_getElem?_getD, List.getElem?_replicate]; split <;> simp
      rw [this]; simp
  unfold ofP
  rw [Bool.and_eq_true, hit_of, hit_of, h, h]
  simp
/-- the numbers of symbols but 0 of the words -/
def WtN (m n : Nat) (l1 l2 : List Int) (d : Nat) : Prop := ∃ fs : List Int, fs.length = n ∧ (∀ e ∈ fs, 0 ≤ e ∧ e < (m : Int)) ∧ ofP m l1 l2 fs n = true ∧ nz fs n = (d : Int) ∧ 0 < d
theorem pairD_wt {b : Int} {l1 l2 : List Int} {m n : Nat} (h : pairB b l1 l2 = true) (hm : b = (m : Int)) (hn : l1.length = n) (d : Nat) : PairD b l1 l2 d ↔ WtN m n l1 l2 d := by
  have hb := (pair_sizes h).1
  rw [pairD_iff h hm hn]
  subst hm
  constructor
  · rintro ⟨ds, es, h1, h2, h3, h4, h5, h6, h7, h8⟩
    refine ⟨difL m ds es, by rw [difL_len]; exact h1, difL_bd (by omega) _ _, ofP_dif h5 h6 h1, by rw [nz_dif h3 h4 h1 h2, h8], ?_⟩
    rcases Nat.eq_zero_or_pos d with h0 | h0
    · subst h0; exact absurd (ham_zero (h1.trans h2.symm) h8) h7
    · exact h0
  · rintro ⟨fs, h1, h2, h3, h4, h5⟩
    have hz : ∀ k, k < n → gi (List.replicate n (0 : Int)) k = 0 := fun k hk => by simp [gi, List.getD_eq_getElem?_getD, hk]
    have hh : nz fs n = (ham fs (List.replicate n 0) : Int) := nz_ham n fs _ fs h1 (by simp) h1 fun k hk => by rw [hz k hk]
    refine ⟨fs, List.replicate n 0, h1, by simp, h2, fun e he => by obtain ⟨_, rfl⟩ := List.mem_replicate.1 he; omega, h3, ofP_zero m l1 l2 n, fun he => ?_, by omega⟩
    rw [h4, he, ham_self] at hh
    omega
/-- what apF tells -/
theorem apF_inv (m n : Nat) (l1 l2 : List Int) : ∀ t, (∀ t', t' < t → ofP m l1 l2 (tupAt m n t') n = true → 0 < nz (tupAt m n t') n → 0 < apF m n l1 l2 t ∧ apF m n l1 l2 t ≤ nz (tupAt m n t') n) ∧
    (0 < apF m n l1 l2 t → ∃ t', t' < t ∧ ofP m l1 l2 (tupAt m n t') n = true ∧ nz (tupAt m n t') n = apF m n l1 l2 t)
  | 0 => ⟨fun _ h => by omega, fun h => by simp [apF] at h⟩
  | t + 1 => by
    obtain ⟨h1, h2⟩ := apF_inv m n l1 l2 t
    have hb := apF_bd m n l1 l2 t
    rw [apF]
    split
    · rename_i hc
      simp only [Bool.and_eq_true, Bool.or_eq_true, decide_eq_true_eq] at hc
      obtain ⟨⟨c1, c2⟩, c3⟩ := hc
      refine ⟨fun t' ht' ho hz => ⟨c1, ?_⟩, fun _ => ⟨t, by omega, c2, rfl⟩⟩
      by_cases he : t' = t
      · subst he; exact Int.le_refl _
      · have := h1 t' (by omega) ho hz; omega
    · rename_i hc
      refine ⟨fun t' ht' ho hz => ?_, fun h0 => ?_⟩
      · by_cases he : t' = t
        · subst he
          have : ¬ (apF m n l1 l2 t' = 0 ∨ nz (tupAt m n t') n < apF m n l1 l2 t') := fun hx => hc (by simp only [Bool.and_eq_true, Bool.or_eq_true, decide_eq_true_eq]; exact ⟨⟨hz, ho⟩, hx⟩)
          omega
        · exact h1 t' (by omega) ho hz
      · obtain ⟨t', g1, g2, g3⟩ := h2 h0
        exact ⟨t', by omega, g2, g3⟩
theorem ap_least {m n : Nat} {l1 l2 : List Int} (hm : 0 < m) (h0 : 0 < apF m n l1 l2 (m ^ n)) : IsD (WtN m n l1 l2) (apF m n l1 l2 (m ^ n)) true := by
  obtain ⟨h1, h2⟩ := apF_inv m n l1 l2 (m ^ n)
  obtain ⟨t, ht, g1, g2⟩ := h2 h0
  obtain ⟨d, hd⟩ := Int.eq_ofNat_of_zero_le (show 0 ≤ apF m n l1 l2 (m ^ n) by omega)
  refine .inl ⟨rfl, d, ⟨tupAt m n t, tupAt_len _ _ _, tupAt_bd hm ht, g1, g2.trans hd, by omega⟩, hd, ?_⟩
  rintro d' ⟨fs, f1, f2, f3, f4, f5⟩
  obtain ⟨t', ht', he⟩ := tupAt_all hm f1 f2
  have := h1 t' ht' (by rw [he]; exact f3) (by rw [he, f4]; omega)
  rw [he, f4, hd] at this
  omega
/-- the best pair: what is known of it -/
theorem bpF_some {m np : Nat} (hm : 0 < m) : ∀ t, t ≤ m ^ (2 * np) → ∀ l, (bpF m np t).1 = some l → l.length = 2 * np ∧ (∀ e ∈ l, 0 ≤ e ∧ e < (m : Int)) ∧ (bpF m np t).2 = apF m np (l.take np) (l.drop np) (m ^ np) ∧ 0 < (bpF m np t).2
  | 0, _, l, h => by cases h
  | t + 1, ht, l, h => by
    have hb := bpF_bd m np t
    rw [bpF] at h ⊢
    split at h
    · rename_i hc
      cases h
      rw [if_pos hc]
      exact ⟨tupAt_len _ _ _, tupAt_bd hm (by omega), rfl, by simp only; omega⟩
    · rename_i hc
      rw [if_neg hc]
      exact bpF_some hm t (by omega) l h
end Go.Proofs.Ytaiieodllhoelaa

/- Plain: two sums with columns that are no multiples of one another: words lie three places apart, and one changed symbol is corrected; the best pair's distance. -/
namespace Go.Proofs.Ytaiieodllhoelaa
set_option maxRecDepth 100000
open Go.RowKit

def onesL (p : Nat) : List Int := List.replicate p 1
def idxL (p : Nat) : List Int := (List.range p).map fun (i : Nat) => (i : Int)
theorem ones_step (p : Nat) : onesL (p + 1) = onesL p ++ [1] := by unfold onesL; exact List.replicate_succ'
theorem idx_step (p : Nat) : idxL (p + 1) = idxL p ++ [(p : Int)] := by simp [idxL, List.range_succ]
theorem ones_len (p : Nat) : (onesL p).length = p := by simp [onesL]
theorem idx_len (p : Nat) : (idxL p).length = p := by simp [idxL]
theorem pr5_valid : ∀ p : Fin 4, pairB 5 (onesL (p.val + 2)) (idxL (p.val + 2)) = true := by decide +kernel
theorem pr5_three : ∀ p : Fin 4, ((List.range (5 ^ (p.val + 2))).all fun t => !ofP 5 (onesL (p.val + 2)) (idxL (p.val + 2)) (tupAt 5 (p.val + 2) t) (p.val + 2) || (decide (nz (tupAt 5 (p.val + 2) t) (p.val + 2) = 0) || decide (3 ≤ nz (tupAt 5 (p.val + 2) t) (p.val + 2)))) = true := by decide +kernel
section
variable {p : Nat}
theorem pr_valid (h2 : 2 ≤ p) (h5 : p ≤ 5) : pairB 5 (onesL p) (idxL p) = true := by
  have h := pr5_valid ⟨p - 2, by omega⟩
  rwa [show p - 2 + 2 = p by omega] at h
theorem pr_three (h2 : 2 ≤ p) (h5 : p ≤ 5) {d : Nat} (h : PairD 5 (onesL p) (idxL p) d) : 3 ≤ d := by
  obtain ⟨fs, f1, f2, f3, f4, f5⟩ := (pairD_wt (m := 5) (pr_valid h2 h5) rfl (ones_len p) d).1 h
  obtain ⟨t, ht, he⟩ := tupAt_all (by omega) f1 f2
  have h1 := pr5_three ⟨p - 2, by omega⟩
  simp only [show p - 2 + 2 = p by omega] at h1
  have h3 := List.all_eq_true.1 h1 t (List.mem_range.2 ht)
  rw [he, f3, f4] at h3
  simp only [Bool.not_true, Bool.false_or, Bool.or_eq_true, decide_eq_true_eq] at h3
  omega
end
/-- what the law wants of the first pair's distance -/
theorem pr_least {p : Nat} (h2 : 2 ≤ p) (h5 : p ≤ 5) (h : (leastD (PairD 5 (onesL p) (idxL p))).2 = true) : 3 ≤ (leastD (PairD 5 (onesL p) (idxL p))).1 := by
  obtain ⟨d, hd, he, _⟩ := leastD_true h
  have := pr_three h2 h5 hd
  omega
section
variable {b : Int} {l1 l2 ds : List Int} {m n : Nat}
theorem gi_setS (l : List Int) {i j : Nat} (x : Int) (h : i < l.length) : gi (l.set i x) j = if i = j then x else gi l j := by
  unfold gi
  rw [List.getD_eq_getElem?_getD, List.getElem?_set, List.getD_eq_getElem?_getD]
  split
  · simp
  · rfl
/-- a changed symbol is corrected -/
theorem cor_back (hp : pairB b l1 l2 = true) (hm : b = (m : Int)) (hn : l1.length = n) (hd : ∀ e ∈ ds, 0 ≤ e ∧ e < b) (hl : ds.length = n) (ho : ofP m l1 l2 ds n = true) (hk : (leastD (PairD b l1 l2)).2 = true) (h3 : 3 ≤ (leastD (PairD b l1 l2)).1)
    {i : Nat} {e : Int} (hi : i < n) (he0 : 0 ≤ e) (he1 : e < b) (hne : e ≠ gi ds i) : corV b l1 l2 (textOf (ds.set i e)) = (textOf ds, (i : Int), true) := by
  have hsz := pair_sizes hp
  obtain ⟨d0, hd0, hv0, hmin⟩ := leastD_true hk
  have hfar : ∀ es, es.length = n → (∀ x ∈ es, 0 ≤ x ∧ x < b) → ofP m l1 l2 es n = true → es ≠ ds → 3 ≤ ham es ds := fun es h1 h2 h3' h4 => by
    have := hmin _ ((pairD_iff hp hm hn _).2 ⟨es, ds, h1, hl, h2, hd, h3', ho, h4, rfl⟩)
    omega
  have hbent := digs_set hd i he0 he1
  have hbl : (ds.set i e).length = n := by rw [List.length_set]; exact hl
  have hnb : ds.set i e ≠ ds := fun h => hne (by
    have h1 := gi_setS ds (i := i) (j := i) e (by omega)
    rw [h, if_pos rfl] at h1
    exact h1.symm)
  have hof : ofP m l1 l2 (ds.set i e) n = false := by
    cases h : ofP m l1 l2 (ds.set i e) n
    · rfl
    · have h1 := hfar _ hbl hbent h hnb
      have h2 := ham_set ds i e
      omega
  have hb36 : b ≤ 36 := by omega
  have hd36 : Dig36 (ds.set i e) := fun x hx => by have := hbent x hx; omega
  have hdig : digC (textOf (ds.set i e)) = ds.set i e := digC_text hd36
  have hcw : coW b (textOf (ds.set i e)) n = true := by
    unfold coW
    rw [wordB_text (by omega) hbent (by omega), decide_eq_true (by rw [textOf_size]; exact hbl)]; rfl
  have hg := hd _ (gi_mem (l := ds) (k := i) (by omega))
  obtain ⟨d, hdd⟩ := Int.eq_ofNat_of_zero_le hg.1
  refine IsCor.eq ?_
  unfold IsCor
  rw [hdig, hn, hm, Int.toNat_natCast]
  have hback : (ds.set i e).set i (d : Int) = ds := by rw [List.set_set, ← hdd]; exact set_same ds (by omega)
  refine .inl ⟨⟨hm ▸ hp, ?_, ?_, ?_, ?_⟩, i, d, hi, by omega, ?_, ?_, by rw [hback]⟩
  · rw [hn, ← hm]; exact hcw
  · rw [hdig, hn, Int.toNat_natCast]; exact hof
  · rw [← hm]; exact hk
  · rw [← hm]; exact h3
  · have key : ∀ i' d', i' < n → d' < m → HitC m n l1 l2 (ds.set i e) i' d' = true → i' = i ∧ d' = d := fun i' d' hi' hd' hh => by
      have hx : (ds.set i e).set i' (d' : Int) = ds := by
        by_cases hq : (ds.set i e).set i' (d' : Int) = ds
        · exact hq
        · exfalso
          have h1 := hfar _ (by rw [List.length_set]; exact hbl) (digs_set hbent i' (by omega) (by omega)) hh hq
          have h2 := ham_tri ((ds.set i e).set i' (d' : Int)) (ds.set i e) ds (by simp) (by simp)
          have h3 := ham_set (ds.set i e) i' (d' : Int)
          have h4 := ham_set ds i e
          omega
      by_cases hii : i' = i
      · subst hii
        refine ⟨rfl, ?_⟩
        have h1 := gi_setS (ds.set i' e) (i := i') (j := i') (d' : Int) (by omega)
        rw [hx, if_pos rfl] at h1
        omega
      · exfalso
        have h1 := gi_setS (ds.set i e) (i := i') (j := i) (d' : Int) (by omega)
        rw [hx, if_neg hii, gi_setS ds e (by omega), if_pos rfl] at h1
        exact hne h1.symm
    refine ⟨fun i' d' h1 h2 => ?_, fun d' h1 => ?_⟩
    · cases h : HitC m n l1 l2 (ds.set i e) i' d'
      · rfl
      · have := (key i' d' (by omega) h2 h).1; omega
    · cases h : HitC m n l1 l2 (ds.set i e) i d'
      · rfl
      · have := (key i d' hi (by omega) h).2; omega
  · unfold HitC; rw [hback]; exact ho
/-- a word of the pair is not corrected -/
theorem cor_word (_hp : pairB b l1 l2 = true) (hm : b = (m : Int)) (hn : l1.length = n) (hd : ∀ e ∈ ds, 0 ≤ e ∧ e < b) (hb : b ≤ 36) (ho : ofP m l1 l2 ds n = true) : (corV b l1 l2 (textOf ds)).2.2 = false := by
  rw [IsCor.no (fun h => ?_)]
  have h2 := h.2.2.1
  rw [digC_text (fun x hx => by have := hd x hx; omega), hn, hm, Int.toNat_natCast, ho] at h2
  cases h2
theorem cor_unknown {s : ByteArray} (hk : (leastD (PairD b l1 l2)).2 = false) : (corV b l1 l2 s).2.2 = false := by
  rw [IsCor.no (fun h => ?_)]
  have h2 := h.2.2.2.1
  rw [hk] at h2
  cases h2
end
/-- the words of the pair's chain -/
theorem pair_wordsA {b : Int} {l1 l2 : List Int} {m n : Nat} (hp : pairB b l1 l2 = true) (hm : b = (m : Int)) (hn : l1.length = n) {r : Nat} (hr : r < (wordsA (pairCh b l1 l2)).length) :
    ((wordsA (pairCh b l1 l2)).getD r []).length = n ∧ (∀ e ∈ (wordsA (pairCh b l1 l2)).getD r [], 0 ≤ e ∧ e < b) ∧ ofP m l1 l2 ((wordsA (pairCh b l1 l2)).getD r []) n = true := by
  have hmem : (wordsA (pairCh b l1 l2)).getD r [] ∈ wordsA (pairCh b l1 l2) := by
    rw [List.getD_eq_getElem?_getD, List.getElem?_eq_getElem hr]; exact List.getElem_mem hr
  generalize (wordsA (pairCh b l1 l2)).getD r [] = ds at *
  unfold wordsA at hmem
  obtain ⟨h1, h2, h3⟩ := (mem_words (by rw [pair_base hp]; omega) _ _ _ _).1 hmem
  rw [pair_len hp, hn] at h1
  have h4 : ∀ e ∈ ds, 0 ≤ e ∧ e < b := fun e he => by have := h2 e he; rwa [pair_base hp] at this
  exact ⟨h1, h4, (pair_ofP hp hm hn h4 h1).1 h3⟩
theorem pair_words1 {b : Int} {l1 l2 : List Int} {m n : Nat} (hp : pairB b l1 l2 = true) (hm : b = (m : Int)) (hn : l1.length = n) : 1 ≤ (wordsA (pairCh b l1 l2)).length := by
  have hb := (pair_sizes hp).1
  have h4 : ∀ e ∈ List.replicate n (0 : Int), 0 ≤ e ∧ e < b := fun e he => by obtain ⟨_, rfl⟩ := List.mem_replicate.1 he; omega
  have hmem : List.replicate n 0 ∈ wordsA (pairCh b l1 l2) := by
    unfold wordsA
    exact (mem_words (by rw [pair_base hp]; omega) _ _ _ _).2 ⟨by rw [pair_len hp, hn]; simp, fun e he => by rw [pair_base hp]; exact h4 e he, (pair_ofP hp hm hn h4 (by simp)).2 (ofP_zero m l1 l2 n)⟩
  exact List.length_pos_of_mem hmem
/-- the best pair is as far apart as is told -/
theorem bp_valid : ∀ m : Fin 2, ∀ np : Fin 3, manyB ((m.val + 2 : Nat) : Int) ((np.val + 2 : Nat) : Int) = true := by decide +kernel
theorem bp_dist {m np : Nat} (hm : m = 2 ∨ m = 3) (hp : np = 2 ∨ np = 3 ∨ np = 4) (h : bpB (m : Int) (np : Int) = true) :
    pairB (m : Int) (bpL1 m np) (bpL2 m np) = true ∧ (leastD (PairD (m : Int) (bpL1 m np) (bpL2 m np))).1 = bpZ m np ∧ (leastD (PairD (m : Int) (bpL1 m np) (bpL2 m np))).2 = true := by
  unfold bpB at h
  cases hk : bpOk (m : Int) (np : Int)
  · rw [bpO_no hk] at h; cases h
  have ho : bpO (m : Int) (np : Int) = bpF m np (m ^ (2 * np)) := by unfold bpO; rw [if_pos hk, Int.toNat_natCast, Int.toNat_natCast]
  rw [ho] at h
  obtain ⟨l, hl⟩ := Option.isSome_iff_exists.1 h
  obtain ⟨g1, g2, g3, g4⟩ := bpF_some (by omega) _ (Nat.le_refl _) l hl
  have e1 : bpL1 (m : Int) (np : Int) = l.take np := by unfold bpL1; rw [ho, hl, Int.toNat_natCast]; rfl
  have e2 : bpL2 (m : Int) (np : Int) = l.drop np := by unfold bpL2; rw [ho, hl, Int.toNat_natCast]; rfl
  have e3 : bpZ (m : Int) (np : Int) = apF m np (l.take np) (l.drop np) (m ^ np) := by unfold bpZ; rw [ho, g3]
  have l1 : (l.take np).length = np := by rw [List.length_take]; omega
  have l2 : (l.drop np).length = np := by rw [List.length_drop]; omega
  have hv : ∀ xs : List Int, xs.length = np → (∀ e ∈ xs, e ∈ l) → validB (pW (m : Int) xs) = true := fun xs hx hs => by
    unfold validB pW
    have hmb : manyB (m : Int) np = true := by
      have h := bp_valid ⟨m - 2, by omega⟩ ⟨np - 2, by omega⟩
      simpa [show m - 2 + 2 = m by omega, show np - 2 + 2 = np by omega] using h
    simp only [hx, hmb, Bool.true_and]
    rw [inB_t.2 (show (2 : Int) ≤ (m : Int) ∧ (m : Int) ≤ 36 by omega), inB_t.2 (show (0 : Int) ≤ 0 ∧ (0 : Int) ≤ (m : Int) - 1 by omega)]
    simp only [Bool.true_and]
    unfold belowB
    rw [List.all_eq_true]
    intro x hx'
    have := g2 x (hs x hx')
    exact inB_t.2 (by omega)
  have hpb : pairB (m : Int) (l.take np) (l.drop np) = true := by
    unfold pairB
    rw [hv _ l1 (fun e he => List.mem_of_mem_take he), hv _ l2 (fun e he => List.mem_of_mem_drop he), decide_eq_true (by rw [l1, l2])]
    have : pbB (m : Int) = true := by rcases hm with rfl | rfl <;> rfl
    rw [this]; rfl
  rw [e1, e2, e3]
  have hD := isD_iff (fun d => (pairD_wt hpb rfl l1 d).symm) (ap_least (m := m) (n := np) (l1 := l.take np) (l2 := l.drop np) (by omega) (by rw [← g3]; exact g4))
  obtain ⟨h1, h2⟩ := hD.eq
  exact ⟨hpb, h1.symm, h2.symm⟩
end Go.Proofs.Ytaiieodllhoelaa
